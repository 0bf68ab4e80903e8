/- The contract of the reference's value: printed by gen_rvalue.py. -/
import Derived.Test.YtmiipfdndgjndaaDoorRC
import Derived.Test.YtmiipfdndgjndaaDoorN
namespace Go.Proofs.YtmiipfdndgjndaaDoor
open Go.RowKit Go.Lib
set_option maxHeartbeats 1000000
theorem Rr.far {W : World} {B : Nat} {s : ByteArray} {a r : Int} {st : Bool} (h : Rr W B s a st r) {q : Addr} (hq : B ≠ q.block) (v : Value) : Rr (W.setCell q v) B s a st r := (Below.heap_setCell W q v B hq).trans h
theorem Rr.set5 {W : World} {B H : Nat} {s : ByteArray} {a r : Int} {st : Bool} (h : Rr W B s a st r) (hB : B ≠ H) (y0 y1 y2 y3 y4 : Value) :
    Rr (((((W.setCell ⟨H, 0, none⟩ y0).setCell ⟨H, 1, none⟩ y1).setCell ⟨H, 2, none⟩ y2).setCell ⟨H, 3, none⟩ y3).setCell ⟨H, 4, none⟩ y4) B s a st r :=
  ((((h.far hB _).far hB _).far hB _).far hB _).far hB _
theorem Rr.but {W W' : World} {B H : Nat} {s : ByteArray} {a r : Int} {st : Bool} (h : Rr W B s a st r) (hB : B ≠ H) (hb : But H W W') : Rr W' B s a st r := (hb.block B h.lt hB).trans h
/-- What the reference's value leaves: the value, or a reader that is stuck or stands at a digit that is too many. -/
def RvPost (B : Nat) (s : ByteArray) (r : Except Nat (V × Nat × Nat)) (w : World) (e : Ending) (w' : World) : Prop :=
  (match r with
    | .ok (v, k', p') => (∃ cs : List Value, e = .returned (.agg cs.toArray) ∧ VIn w' (NewB w.heap.size w') v cs) ∧ Rr w' B s (k' : Int) false (512 - (p' : Int))
    | .error q => (∃ (xk xn : Int) (xs : ByteArray) (xA : Option Addr) (xm xc : Nat) (xr : Int), e = .returned (.agg #[.int .u8 xk, .int .i64 xn, .string xs, .slice xA xm xc, .int .i64 xr])) ∧ ∃ st rm, Rr w' B s (q : Int) st rm ∧ (st = false → q < s.size ∧ digitI (bAt s q) = true)) ∧ But B w w'
theorem neg_wrap (n : Nat) (hn : n ≤ 9223372036854775808) : wrap64 (-wrap64 (n : Int)) = -(n : Int) := by
  unfold wrap64
  omega
def RvOut (B : Nat) (s : ByteArray) (room : Int) (f : Nat → V) (res : Except Nat (Nat × Nat)) (w : World) (e : Ending) (w' : World) : Prop :=
  (match res with
    | .ok (n, k') => (∃ cs : List Value, e = .returned (.agg cs.toArray) ∧ VIn w' (NewB w.heap.size w') (f n) cs) ∧ Rr w' B s (k' : Int) false room
    | .error q => (∃ (xk xn : Int) (xs : ByteArray) (xA : Option Addr) (xm xc : Nat) (xr : Int), e = .returned (.agg #[.int .u8 xk, .int .i64 xn, .string xs, .slice xA xm xc, .int .i64 xr])) ∧ ∃ st rm, Rr w' B s (q : Int) st rm ∧ (st = false → q < s.size ∧ digitI (bAt s q) = true)) ∧ But B w w'
theorem Rr.room {W : World} {B : Nat} {s : ByteArray} {a r r' : Int} {st : Bool} (h : Rr W B s a st r) (e : r = r') : Rr W B s a st r' := e ▸ h
theorem count_behindP (B : Nat) (s : ByteArray) (k : Nat) (r : Int) (w : World) (hS : s.size ≤ 140737488351232) (h : Rr w B s k false r) (hks : k ≤ s.size) :
    Calls Tryd.prog 68 #[.pointer (some ⟨B, 0, none⟩), .int .u64 9223372036854775807, .int .i64 1] w (CountPost B s r (behindF s mostP k) w) :=
  count_behind B s k r mostP w hS h hks (by have := mostP_ge; omega) (by have := mostP_le; omega)
theorem count_behindN (B : Nat) (s : ByteArray) (k : Nat) (r : Int) (w : World) (hS : s.size ≤ 140737488351232) (h : Rr w B s k false r) (hks : k ≤ s.size) :
    Calls Tryd.prog 68 #[.pointer (some ⟨B, 0, none⟩), .int .u64 9223372036854775808, .int .i64 1] w (CountPost B s r (behindF s mostN k) w) :=
  count_behind B s k r mostN w hS h hks (by have := mostN_ge; omega) (by have := mostN_le; omega)
theorem count_plainP (B : Nat) (s : ByteArray) (k : Nat) (r : Int) (w : World) (hS : s.size ≤ 140737488351232) (h : Rr w B s k false r) (hk : k < s.size) (hd : digitI (bAt s k) = true) :
    Calls Tryd.prog 68 #[.pointer (some ⟨B, 0, none⟩), .int .u64 9223372036854775807, .int .i64 0] w (CountPost B s r (numLoop s mostP (s.size + 1) false 0 k) w) :=
  count_plain B s k r mostP w hS h hk hd (by have := mostP_ge; omega) (by have := mostP_le; omega)
set_option maxRecDepth 100000 in
theorem rval_full (B : Nat) (s : ByteArray) (k : Nat) (room dd : Int) (w : World) (h : Rr w B s k false room) (hr : room < 1) :
    Calls Tryd.prog 42 #[.pointer (some ⟨B, 0, none⟩), .int .i64 dd] w fun e w' => (∃ (xk xn : Int) (xs : ByteArray) (xA : Option Addr) (xm xc : Nat) (xr : Int), e = .returned (.agg #[.int .u8 xk, .int .i64 xn, .string xs, .slice xA xm xc, .int .i64 xr])) ∧ Rr w' B s (k : Int) true room ∧ But B w w' := by
  have hlt := h.lt
  have hA : Rr (w.alloc (.cells #[.int .u8 0, .int .i64 0, .string ⟨#[]⟩, .slice none 0 0, .int .i64 0] 26)) B s k false room := h.alloc _
  have c1 := hA.c1
  have c2 := hA.c2
  have c3 := hA.c3
  have f1 := hA.f 1
  have f2 := hA.f 2
  have f3 := hA.f 3
  have tr : decide (room < 1) = true := by simp; omega
  have hnx := fun W (hW : Rr W B s k false room) => rnext_any B s k room W hW
  generalize bAt s k = c at hnx
  have HN := Lib.hid hnx
  have HA := Lib.hid hA
  clear hnx hA
  go_enter Tryd.func42, Tryd.ntmps42
  go_wp2_with fail
  refine (HN.out _ (by exact HA.out)).mono ?_
  rintro e w' ⟨rfl, q1, rfl⟩
  go_wp2_with fail
  have h5 : (((w.alloc (.cells #[.int .u8 0, .int .i64 0, .string ⟨#[]⟩, .slice none 0 0, .int .i64 0] 26)).drewN q1).setCell ⟨B, 2, none⟩ (.bool true)).heap[w.heap.size]? = _ := (Below.heap_setCell _ _ _ _ (by show w.heap.size ≠ B; omega)).trans (heap_alloc_new w (.cells #[.int .u8 0, .int .i64 0, .string ⟨#[]⟩, .slice none 0 0, .int .i64 0] 26))
  have h6 := set5 h5 (.int .u8 0) (.int .i64 0) (.string ⟨#[]⟩) (.slice none 0 0) (.int .i64 0)
  have e0 := blk_cell h6 0
  have e1 := blk_cell h6 1
  have e2 := blk_cell h6 2
  have e3 := blk_cell h6 3
  have e4 := blk_cell h6 4
  refine bodyPost_ret (v := .agg #[.int .u8 0, .int .i64 0, .string ⟨#[]⟩, .slice none 0 0, .int .i64 0]) (by simp [results, Tryd.results42, go_sem, e0, e1, e2, e3, e4]) rfl ⟨⟨_, _, _, _, _, _, _, rfl⟩, ?_, ?_⟩
  · exact Rr.set5 (Rr.set2 (show Rr ((w.alloc (.cells #[.int .u8 0, .int .i64 0, .string ⟨#[]⟩, .slice none 0 0, .int .i64 0] 26)).drewN q1) B s (k : Int) false room from HA.out) true) (by omega) _ _ _ _ _
  · exact But.set5 ((((But.refl B w).alloc _).drewN q1).setCell 2 _) (Nat.le_refl _) _ _ _ _ _
set_option maxRecDepth 100000 in
theorem rval_none (B : Nat) (s : ByteArray) (k : Nat) (room dd : Int) (w : World) (hS : s.size ≤ 140737488351232) (h : Rr w B s k false room) (hr : 1 ≤ room) (hr2 : room ≤ 512) (hk : k < s.size) (hc : bAt s k = 95) :
    Calls Tryd.prog 42 #[.pointer (some ⟨B, 0, none⟩), .int .i64 dd] w fun e w' => (∃ cs : List Value, e = .returned (.agg cs.toArray) ∧ VIn w' (NewB w.heap.size w') .nothing cs) ∧ Rr w' B s ((k + 1 : Nat) : Int) false (room - 1) ∧ But B w w' := by
  have hlt := h.lt
  have hA : Rr (w.alloc (.cells #[.int .u8 0, .int .i64 0, .string ⟨#[]⟩, .slice none 0 0, .int .i64 0] 26)) B s k false room := h.alloc _
  have c1 := hA.c1
  have c2 := hA.c2
  have c3 := hA.c3
  have f1 := hA.f 1
  have f2 := hA.f 2
  have f3 := hA.f 3
  have tr : decide (room < 1) = false := by simp; omega
  have hnx := fun W (hW : Rr W B s k false room) => rnext_any B s k room W hW
  rw [hc] at hnx
  have HN := Lib.hid hnx
  have HA := Lib.hid hA
  clear hnx hA
  go_enter Tryd.func42, Tryd.ntmps42
  go_wp2_with fail
  refine (HN.out _ (by exact HA.out)).mono ?_
  rintro e w' ⟨rfl, q1, rfl⟩
  go_wp2_with fail
  have h5 : ((((w.alloc (.cells #[.int .u8 0, .int .i64 0, .string ⟨#[]⟩, .slice none 0 0, .int .i64 0] 26)).drewN q1).setCell ⟨B, 3, none⟩ (.int .i64 (room - 1))).setCell ⟨B, 1, none⟩ (.int .i64 ((k : Int) + 1))).heap[w.heap.size]? = _ := ((Below.heap_setCell _ _ _ _ (by show w.heap.size ≠ B; omega)).trans ((Below.heap_setCell _ _ _ _ (by show w.heap.size ≠ B; omega)).trans (heap_alloc_new w (.cells #[.int .u8 0, .int .i64 0, .string ⟨#[]⟩, .slice none 0 0, .int .i64 0] 26))))
  have h6 := set5 h5 (.int .u8 0) (.int .i64 0) (.string ⟨#[]⟩) (.slice none 0 0) (.int .i64 0)
  have e0 := blk_cell h6 0
  have e1 := blk_cell h6 1
  have e2 := blk_cell h6 2
  have e3 := blk_cell h6 3
  have e4 := blk_cell h6 4
  refine bodyPost_ret (v := .agg #[.int .u8 0, .int .i64 0, .string ⟨#[]⟩, .slice none 0 0, .int .i64 0]) (by simp [results, Tryd.results42, go_sem, e0, e1, e2, e3, e4]) rfl ⟨⟨_, rfl, VIn.plain _ _ 0 0 ⟨#[]⟩ 0 (by decide)⟩, ?_, ?_⟩
  · exact Rr.set5 (Rr.at (Rr.set1 (Rr.set3 (show Rr ((w.alloc (.cells #[.int .u8 0, .int .i64 0, .string ⟨#[]⟩, .slice none 0 0, .int .i64 0] 26)).drewN q1) B s (k : Int) false room from HA.out) (room - 1)) ((k : Int) + 1)) (by omega : (k : Int) + 1 = ((k + 1 : Nat) : Int))) (by omega) _ _ _ _ _
  · exact But.set5 (((((But.refl B w).alloc _).drewN q1).setCell 3 _).setCell 1 _) (Nat.le_refl _) _ _ _ _ _
set_option maxRecDepth 100000 in
theorem rval_ref (B : Nat) (s : ByteArray) (k : Nat) (room dd : Int) (w : World) (hS : s.size ≤ 140737488351232) (h : Rr w B s k false room) (hr : 1 ≤ room) (hr2 : room ≤ 512) (hk : k < s.size) (hc : bAt s k = 35) (res : Except Nat (Nat × Nat)) (hcnt : ∀ W, Rr W B s ((k + 1 : Nat) : Int) false (room - 1) → Calls Tryd.prog 68 #[.pointer (some ⟨B, 0, none⟩), .int .u64 9223372036854775807, .int .i64 1] W (CountPost B s (room - 1) res W)) (hbd : ∀ n k', res = .ok (n, k') → n ≤ 9223372036854775807) :
    Calls Tryd.prog 42 #[.pointer (some ⟨B, 0, none⟩), .int .i64 dd] w (RvOut B s (room - 1) (fun n => .refer (n : Int)) res w) := by
  have hlt := h.lt
  have hA : Rr (w.alloc (.cells #[.int .u8 0, .int .i64 0, .string ⟨#[]⟩, .slice none 0 0, .int .i64 0] 26)) B s k false room := h.alloc _
  have c1 := hA.c1
  have c2 := hA.c2
  have c3 := hA.c3
  have f1 := hA.f 1
  have f2 := hA.f 2
  have f3 := hA.f 3
  have tr : decide (room < 1) = false := by simp; omega
  have hnx := fun W (hW : Rr W B s k false room) => rnext_any B s k room W hW
  rw [hc] at hnx
  have HN := Lib.hid hnx
  have HA := Lib.hid hA
  clear hnx hA
  have HM := Lib.hid hcnt
  clear hcnt
  cases res with
  | error q =>
    go_enter Tryd.func42, Tryd.ntmps42
    go_wp2_with fail
    refine (HN.out _ (by exact HA.out)).mono ?_
    rintro e w' ⟨rfl, q1, rfl⟩
    go_wp2_with fail
    refine (HM.out _ (by exact (Rr.at (Rr.set1 (Rr.set3 (show Rr ((w.alloc (.cells #[.int .u8 0, .int .i64 0, .string ⟨#[]⟩, .slice none 0 0, .int .i64 0] 26)).drewN q1) B s (k : Int) false room from HA.out) (room - 1)) ((k : Int) + 1)) (by omega : (k : Int) + 1 = ((k + 1 : Nat) : Int))))).mono ?_
    have h5 : ((((w.alloc (.cells #[.int .u8 0, .int .i64 0, .string ⟨#[]⟩, .slice none 0 0, .int .i64 0] 26)).drewN q1).setCell ⟨B, 3, none⟩ (.int .i64 (room - 1))).setCell ⟨B, 1, none⟩ (.int .i64 ((k : Int) + 1))).heap[w.heap.size]? = _ := ((Below.heap_setCell _ _ _ _ (by show w.heap.size ≠ B; omega)).trans ((Below.heap_setCell _ _ _ _ (by show w.heap.size ≠ B; omega)).trans (heap_alloc_new w (.cells #[.int .u8 0, .int .i64 0, .string ⟨#[]⟩, .slice none 0 0, .int .i64 0] 26))))
    have H5 := Lib.hid h5
    clear h5
    rintro e w2 ⟨⟨⟨n, rfl⟩, st, hrd2, hdg⟩, hb2⟩
    have Hdg := Lib.hid hdg
    clear hdg
    have h5 := (hb2.block w.heap.size (by simp [World.setCell]) (by omega)).trans H5.out
    have z0 := blk_cell h5 0
    have z1 := blk_cell h5 1
    have z2 := blk_cell h5 2
    have z3 := blk_cell h5 3
    have z4 := blk_cell h5 4
    have zf : ∀ i, w2.frozen? ⟨w.heap.size, i, none⟩ = false := fun i => by simp [World.frozen?, h5]
    have zf0 := zf 0
    have zf1 := zf 1
    have zf2 := zf 2
    have zf3 := zf 3
    have zf4 := zf 4
    have H5b := Lib.hid h5
    have HR2 := Lib.hid hrd2
    have Hb2 := Lib.hid hb2
    clear h5 hrd2 hb2 zf
    go_wp2_with fail
    have h5 := H5b.out
    have h6 := set5 h5 (.int .u8 4) (.int .i64 0) (.string ⟨#[]⟩) (.slice none 0 0) (.int .i64 (wrap64 n))
    have e0 := blk_cell h6 0
    have e1 := blk_cell h6 1
    have e2 := blk_cell h6 2
    have e3 := blk_cell h6 3
    have e4 := blk_cell h6 4
    refine bodyPost_ret (v := .agg #[.int .u8 4, .int .i64 0, .string ⟨#[]⟩, .slice none 0 0, .int .i64 (wrap64 n)]) (by simp [results, Tryd.results42, go_sem, e0, e1, e2, e3, e4]) rfl ⟨⟨⟨_, _, _, _, _, _, _, rfl⟩, st, room - 1, ?_, Hdg.out⟩, ?_⟩
    · exact Rr.set5 HR2.out (by omega) _ _ _ _ _
    · exact But.set5 ((((((But.refl B w).alloc _).drewN q1).setCell 3 _).setCell 1 _).trans Hb2.out) (Nat.le_refl _) _ _ _ _ _
  | ok rr =>
    obtain ⟨n, k'⟩ := rr
    have hn := hbd n k' rfl
    go_enter Tryd.func42, Tryd.ntmps42
    go_wp2_with fail
    refine (HN.out _ (by exact HA.out)).mono ?_
    rintro e w' ⟨rfl, q1, rfl⟩
    go_wp2_with fail
    refine (HM.out _ (by exact (Rr.at (Rr.set1 (Rr.set3 (show Rr ((w.alloc (.cells #[.int .u8 0, .int .i64 0, .string ⟨#[]⟩, .slice none 0 0, .int .i64 0] 26)).drewN q1) B s (k : Int) false room from HA.out) (room - 1)) ((k : Int) + 1)) (by omega : (k : Int) + 1 = ((k + 1 : Nat) : Int))))).mono ?_
    have h5 : ((((w.alloc (.cells #[.int .u8 0, .int .i64 0, .string ⟨#[]⟩, .slice none 0 0, .int .i64 0] 26)).drewN q1).setCell ⟨B, 3, none⟩ (.int .i64 (room - 1))).setCell ⟨B, 1, none⟩ (.int .i64 ((k : Int) + 1))).heap[w.heap.size]? = _ := ((Below.heap_setCell _ _ _ _ (by show w.heap.size ≠ B; omega)).trans ((Below.heap_setCell _ _ _ _ (by show w.heap.size ≠ B; omega)).trans (heap_alloc_new w (.cells #[.int .u8 0, .int .i64 0, .string ⟨#[]⟩, .slice none 0 0, .int .i64 0] 26))))
    have H5 := Lib.hid h5
    clear h5
    rintro e w2 ⟨⟨rfl, hrd2⟩, hb2⟩
    have h5 := (hb2.block w.heap.size (by simp [World.setCell]) (by omega)).trans H5.out
    have z0 := blk_cell h5 0
    have z1 := blk_cell h5 1
    have z2 := blk_cell h5 2
    have z3 := blk_cell h5 3
    have z4 := blk_cell h5 4
    have zf : ∀ i, w2.frozen? ⟨w.heap.size, i, none⟩ = false := fun i => by simp [World.frozen?, h5]
    have zf0 := zf 0
    have zf1 := zf 1
    have zf2 := zf 2
    have zf3 := zf 3
    have zf4 := zf 4
    have H5b := Lib.hid h5
    have HR2 := Lib.hid hrd2
    have Hb2 := Lib.hid hb2
    clear h5 hrd2 hb2 zf
    go_wp2_with fail
    have h5 := H5b.out
    have h6 := set5 h5 (.int .u8 4) (.int .i64 0) (.string ⟨#[]⟩) (.slice none 0 0) (.int .i64 (n : Int))
    have e0 := blk_cell h6 0
    have e1 := blk_cell h6 1
    have e2 := blk_cell h6 2
    have e3 := blk_cell h6 3
    have e4 := blk_cell h6 4
    refine bodyPost_ret (v := .agg #[.int .u8 4, .int .i64 0, .string ⟨#[]⟩, .slice none 0 0, .int .i64 (n : Int)]) (by simp [results, Tryd.results42, go_sem, e0, e1, e2, e3, e4]) rfl ⟨⟨⟨_, rfl, VIn.plain _ _ 4 0 ⟨#[]⟩ (n : Int) (by decide)⟩, ?_⟩, ?_⟩
    · exact Rr.set5 HR2.out (by omega) _ _ _ _ _
    · exact But.set5 ((((((But.refl B w).alloc _).drewN q1).setCell 3 _).setCell 1 _).trans Hb2.out) (Nat.le_refl _) _ _ _ _ _
set_option maxRecDepth 100000 in
theorem rval_neg (B : Nat) (s : ByteArray) (k : Nat) (room dd : Int) (w : World) (hS : s.size ≤ 140737488351232) (h : Rr w B s k false room) (hr : 1 ≤ room) (hr2 : room ≤ 512) (hk : k < s.size) (hc : bAt s k = 45) (res : Except Nat (Nat × Nat)) (hcnt : ∀ W, Rr W B s ((k + 1 : Nat) : Int) false (room - 1) → Calls Tryd.prog 68 #[.pointer (some ⟨B, 0, none⟩), .int .u64 9223372036854775808, .int .i64 1] W (CountPost B s (room - 1) res W)) (hbd : ∀ n k', res = .ok (n, k') → n ≤ 9223372036854775808) :
    Calls Tryd.prog 42 #[.pointer (some ⟨B, 0, none⟩), .int .i64 dd] w (RvOut B s (room - 1) (fun n => .number (-(n : Int))) res w) := by
  have hlt := h.lt
  have hA : Rr (w.alloc (.cells #[.int .u8 0, .int .i64 0, .string ⟨#[]⟩, .slice none 0 0, .int .i64 0] 26)) B s k false room := h.alloc _
  have c1 := hA.c1
  have c2 := hA.c2
  have c3 := hA.c3
  have f1 := hA.f 1
  have f2 := hA.f 2
  have f3 := hA.f 3
  have tr : decide (room < 1) = false := by simp; omega
  have hnx := fun W (hW : Rr W B s k false room) => rnext_any B s k room W hW
  rw [hc] at hnx
  have HN := Lib.hid hnx
  have HA := Lib.hid hA
  clear hnx hA
  have HM := Lib.hid hcnt
  clear hcnt
  cases res with
  | error q =>
    go_enter Tryd.func42, Tryd.ntmps42
    go_wp2_with fail
    refine (HN.out _ (by exact HA.out)).mono ?_
    rintro e w' ⟨rfl, q1, rfl⟩
    go_wp2_with fail
    refine (HM.out _ (by exact (Rr.at (Rr.set1 (Rr.set3 (show Rr ((w.alloc (.cells #[.int .u8 0, .int .i64 0, .string ⟨#[]⟩, .slice none 0 0, .int .i64 0] 26)).drewN q1) B s (k : Int) false room from HA.out) (room - 1)) ((k : Int) + 1)) (by omega : (k : Int) + 1 = ((k + 1 : Nat) : Int))))).mono ?_
    have h5 : ((((w.alloc (.cells #[.int .u8 0, .int .i64 0, .string ⟨#[]⟩, .slice none 0 0, .int .i64 0] 26)).drewN q1).setCell ⟨B, 3, none⟩ (.int .i64 (room - 1))).setCell ⟨B, 1, none⟩ (.int .i64 ((k : Int) + 1))).heap[w.heap.size]? = _ := ((Below.heap_setCell _ _ _ _ (by show w.heap.size ≠ B; omega)).trans ((Below.heap_setCell _ _ _ _ (by show w.heap.size ≠ B; omega)).trans (heap_alloc_new w (.cells #[.int .u8 0, .int .i64 0, .string ⟨#[]⟩, .slice none 0 0, .int .i64 0] 26))))
    have H5 := Lib.hid h5
    clear h5
    rintro e w2 ⟨⟨⟨n, rfl⟩, st, hrd2, hdg⟩, hb2⟩
    have Hdg := Lib.hid hdg
    clear hdg
    have h5 := (hb2.block w.heap.size (by simp [World.setCell]) (by omega)).trans H5.out
    have z0 := blk_cell h5 0
    have z1 := blk_cell h5 1
    have z2 := blk_cell h5 2
    have z3 := blk_cell h5 3
    have z4 := blk_cell h5 4
    have zf : ∀ i, w2.frozen? ⟨w.heap.size, i, none⟩ = false := fun i => by simp [World.frozen?, h5]
    have zf0 := zf 0
    have zf1 := zf 1
    have zf2 := zf 2
    have zf3 := zf 3
    have zf4 := zf 4
    have H5b := Lib.hid h5
    have HR2 := Lib.hid hrd2
    have Hb2 := Lib.hid hb2
    clear h5 hrd2 hb2 zf
    go_wp2_with fail
    have h5 := H5b.out
    have h6 := set5 h5 (.int .u8 1) (.int .i64 (wrap64 (-(wrap64 n)))) (.string ⟨#[]⟩) (.slice none 0 0) (.int .i64 0)
    have e0 := blk_cell h6 0
    have e1 := blk_cell h6 1
    have e2 := blk_cell h6 2
    have e3 := blk_cell h6 3
    have e4 := blk_cell h6 4
    refine bodyPost_ret (v := .agg #[.int .u8 1, .int .i64 (wrap64 (-(wrap64 n))), .string ⟨#[]⟩, .slice none 0 0, .int .i64 0]) (by simp [results, Tryd.results42, go_sem, e0, e1, e2, e3, e4]) rfl ⟨⟨⟨_, _, _, _, _, _, _, rfl⟩, st, room - 1, ?_, Hdg.out⟩, ?_⟩
    · exact Rr.set5 HR2.out (by omega) _ _ _ _ _
    · exact But.set5 ((((((But.refl B w).alloc _).drewN q1).setCell 3 _).setCell 1 _).trans Hb2.out) (Nat.le_refl _) _ _ _ _ _
  | ok rr =>
    obtain ⟨n, k'⟩ := rr
    have hn := hbd n k' rfl
    go_enter Tryd.func42, Tryd.ntmps42
    go_wp2_with fail
    refine (HN.out _ (by exact HA.out)).mono ?_
    rintro e w' ⟨rfl, q1, rfl⟩
    go_wp2_with fail
    refine (HM.out _ (by exact (Rr.at (Rr.set1 (Rr.set3 (show Rr ((w.alloc (.cells #[.int .u8 0, .int .i64 0, .string ⟨#[]⟩, .slice none 0 0, .int .i64 0] 26)).drewN q1) B s (k : Int) false room from HA.out) (room - 1)) ((k : Int) + 1)) (by omega : (k : Int) + 1 = ((k + 1 : Nat) : Int))))).mono ?_
    have h5 : ((((w.alloc (.cells #[.int .u8 0, .int .i64 0, .string ⟨#[]⟩, .slice none 0 0, .int .i64 0] 26)).drewN q1).setCell ⟨B, 3, none⟩ (.int .i64 (room - 1))).setCell ⟨B, 1, none⟩ (.int .i64 ((k : Int) + 1))).heap[w.heap.size]? = _ := ((Below.heap_setCell _ _ _ _ (by show w.heap.size ≠ B; omega)).trans ((Below.heap_setCell _ _ _ _ (by show w.heap.size ≠ B; omega)).trans (heap_alloc_new w (.cells #[.int .u8 0, .int .i64 0, .string ⟨#[]⟩, .slice none 0 0, .int .i64 0] 26))))
    have H5 := Lib.hid h5
    clear h5
    rintro e w2 ⟨⟨rfl, hrd2⟩, hb2⟩
    have h5 := (hb2.block w.heap.size (by simp [World.setCell]) (by omega)).trans H5.out
    have z0 := blk_cell h5 0
    have z1 := blk_cell h5 1
    have z2 := blk_cell h5 2
    have z3 := blk_cell h5 3
    have z4 := blk_cell h5 4
    have zf : ∀ i, w2.frozen? ⟨w.heap.size, i, none⟩ = false := fun i => by simp [World.frozen?, h5]
    have zf0 := zf 0
    have zf1 := zf 1
    have zf2 := zf 2
    have zf3 := zf 3
    have zf4 := zf 4
    have H5b := Lib.hid h5
    have HR2 := Lib.hid hrd2
    have Hb2 := Lib.hid hb2
    clear h5 hrd2 hb2 zf
    go_wp2_with fail
    rw [neg_wrap n hn]
    have h5 := H5b.out
    have h6 := set5 h5 (.int .u8 1) (.int .i64 (-(n : Int))) (.string ⟨#[]⟩) (.slice none 0 0) (.int .i64 0)
    have e0 := blk_cell h6 0
    have e1 := blk_cell h6 1
    have e2 := blk_cell h6 2
    have e3 := blk_cell h6 3
    have e4 := blk_cell h6 4
    refine bodyPost_ret (v := .agg #[.int .u8 1, .int .i64 (-(n : Int)), .string ⟨#[]⟩, .slice none 0 0, .int .i64 0]) (by simp [results, Tryd.results42, go_sem, e0, e1, e2, e3, e4]) rfl ⟨⟨⟨_, rfl, VIn.plain _ _ 1 (-(n : Int)) ⟨#[]⟩ 0 (by decide)⟩, ?_⟩, ?_⟩
    · exact Rr.set5 HR2.out (by omega) _ _ _ _ _
    · exact But.set5 ((((((But.refl B w).alloc _).drewN q1).setCell 3 _).setCell 1 _).trans Hb2.out) (Nat.le_refl _) _ _ _ _ _
set_option maxRecDepth 100000 in
theorem rval_pos (B : Nat) (s : ByteArray) (k : Nat) (room dd : Int) (w : World) (_hS : s.size ≤ 140737488351232) (h : Rr w B s k false room) (hr : 1 ≤ room) (hr2 : room ≤ 512) (_hk : k < s.size) (hc : digitI (bAt s k) = true) (res : Except Nat (Nat × Nat)) (hcnt : ∀ W, Rr W B s (k : Int) false (room - 1) → Calls Tryd.prog 68 #[.pointer (some ⟨B, 0, none⟩), .int .u64 9223372036854775807, .int .i64 0] W (CountPost B s (room - 1) res W)) (hbd : ∀ n k', res = .ok (n, k') → n ≤ 9223372036854775807) :
    Calls Tryd.prog 42 #[.pointer (some ⟨B, 0, none⟩), .int .i64 dd] w (RvOut B s (room - 1) (fun n => .number (n : Int)) res w) := by
  have hlt := h.lt
  have hA : Rr (w.alloc (.cells #[.int .u8 0, .int .i64 0, .string ⟨#[]⟩, .slice none 0 0, .int .i64 0] 26)) B s k false room := h.alloc _
  have c1 := hA.c1
  have c2 := hA.c2
  have c3 := hA.c3
  have f1 := hA.f 1
  have f2 := hA.f 2
  have f3 := hA.f 3
  have tr : decide (room < 1) = false := by simp; omega
  have hnx := fun W (hW : Rr W B s k false room) => rnext_any B s k room W hW
  have hcd := (digitI_iff _).1 hc
  have t0 : (bAt s k == 95) = false := by simp; omega
  have t1 : (bAt s k == 35) = false := by simp; omega
  have t2 : (bAt s k == 45) = false := by simp; omega
  have t3 : decide (48 ≤ bAt s k) = true := by simp; omega
  have t4 : decide (bAt s k ≤ 57) = true := by simp; omega
  clear hc hcd
  generalize bAt s k = c at hnx t0 t1 t2 t3 t4
  have HN := Lib.hid hnx
  have HA := Lib.hid hA
  clear hnx hA
  have HM := Lib.hid hcnt
  clear hcnt
  cases res with
  | error q =>
    go_enter Tryd.func42, Tryd.ntmps42
    go_wp2_with fail
    refine (HN.out _ (by exact HA.out)).mono ?_
    rintro e w' ⟨rfl, q1, rfl⟩
    go_wp2_with fail
    refine (HM.out _ (by exact (Rr.set3 (show Rr ((w.alloc (.cells #[.int .u8 0, .int .i64 0, .string ⟨#[]⟩, .slice none 0 0, .int .i64 0] 26)).drewN q1) B s (k : Int) false room from HA.out) (room - 1)))).mono ?_
    have h5 : (((w.alloc (.cells #[.int .u8 0, .int .i64 0, .string ⟨#[]⟩, .slice none 0 0, .int .i64 0] 26)).drewN q1).setCell ⟨B, 3, none⟩ (.int .i64 (room - 1))).heap[w.heap.size]? = _ := ((Below.heap_setCell _ _ _ _ (by show w.heap.size ≠ B; omega)).trans (heap_alloc_new w (.cells #[.int .u8 0, .int .i64 0, .string ⟨#[]⟩, .slice none 0 0, .int .i64 0] 26)))
    have H5 := Lib.hid h5
    clear h5
    rintro e w2 ⟨⟨⟨n, rfl⟩, st, hrd2, hdg⟩, hb2⟩
    have Hdg := Lib.hid hdg
    clear hdg
    have h5 := (hb2.block w.heap.size (by simp [World.setCell]) (by omega)).trans H5.out
    have z0 := blk_cell h5 0
    have z1 := blk_cell h5 1
    have z2 := blk_cell h5 2
    have z3 := blk_cell h5 3
    have z4 := blk_cell h5 4
    have zf : ∀ i, w2.frozen? ⟨w.heap.size, i, none⟩ = false := fun i => by simp [World.frozen?, h5]
    have zf0 := zf 0
    have zf1 := zf 1
    have zf2 := zf 2
    have zf3 := zf 3
    have zf4 := zf 4
    have H5b := Lib.hid h5
    have HR2 := Lib.hid hrd2
    have Hb2 := Lib.hid hb2
    clear h5 hrd2 hb2 zf
    go_wp2_with fail
    have h5 := H5b.out
    have h6 := set5 h5 (.int .u8 1) (.int .i64 (wrap64 n)) (.string ⟨#[]⟩) (.slice none 0 0) (.int .i64 0)
    have e0 := blk_cell h6 0
    have e1 := blk_cell h6 1
    have e2 := blk_cell h6 2
    have e3 := blk_cell h6 3
    have e4 := blk_cell h6 4
    refine bodyPost_ret (v := .agg #[.int .u8 1, .int .i64 (wrap64 n), .string ⟨#[]⟩, .slice none 0 0, .int .i64 0]) (by simp [results, Tryd.results42, go_sem, e0, e1, e2, e3, e4]) rfl ⟨⟨⟨_, _, _, _, _, _, _, rfl⟩, st, room - 1, ?_, Hdg.out⟩, ?_⟩
    · exact Rr.set5 HR2.out (by omega) _ _ _ _ _
    · exact But.set5 (((((But.refl B w).alloc _).drewN q1).setCell 3 _).trans Hb2.out) (Nat.le_refl _) _ _ _ _ _
  | ok rr =>
    obtain ⟨n, k'⟩ := rr
    have hn := hbd n k' rfl
    go_enter Tryd.func42, Tryd.ntmps42
    go_wp2_with fail
    refine (HN.out _ (by exact HA.out)).mono ?_
    rintro e w' ⟨rfl, q1, rfl⟩
    go_wp2_with fail
    refine (HM.out _ (by exact (Rr.set3 (show Rr ((w.alloc (.cells #[.int .u8 0, .int .i64 0, .string ⟨#[]⟩, .slice none 0 0, .int .i64 0] 26)).drewN q1) B s (k : Int) false room from HA.out) (room - 1)))).mono ?_
    have h5 : (((w.alloc (.cells #[.int .u8 0, .int .i64 0, .string ⟨#[]⟩, .slice none 0 0, .int .i64 0] 26)).drewN q1).setCell ⟨B, 3, none⟩ (.int .i64 (room - 1))).heap[w.heap.size]? = _ := ((Below.heap_setCell _ _ _ _ (by show w.heap.size ≠ B; omega)).trans (heap_alloc_new w (.cells #[.int .u8 0, .int .i64 0, .string ⟨#[]⟩, .slice none 0 0, .int .i64 0] 26)))
    have H5 := Lib.hid h5
    clear h5
    rintro e w2 ⟨⟨rfl, hrd2⟩, hb2⟩
    have h5 := (hb2.block w.heap.size (by simp [World.setCell]) (by omega)).trans H5.out
    have z0 := blk_cell h5 0
    have z1 := blk_cell h5 1
    have z2 := blk_cell h5 2
    have z3 := blk_cell h5 3
    have z4 := blk_cell h5 4
    have zf : ∀ i, w2.frozen? ⟨w.heap.size, i, none⟩ = false := fun i => by simp [World.frozen?, h5]
    have zf0 := zf 0
    have zf1 := zf 1
    have zf2 := zf 2
    have zf3 := zf 3
    have zf4 := zf 4
    have H5b := Lib.hid h5
    have HR2 := Lib.hid hrd2
    have Hb2 := Lib.hid hb2
    clear h5 hrd2 hb2 zf
    go_wp2_with fail
    have h5 := H5b.out
    have h6 := set5 h5 (.int .u8 1) (.int .i64 (n : Int)) (.string ⟨#[]⟩) (.slice none 0 0) (.int .i64 0)
    have e0 := blk_cell h6 0
    have e1 := blk_cell h6 1
    have e2 := blk_cell h6 2
    have e3 := blk_cell h6 3
    have e4 := blk_cell h6 4
    refine bodyPost_ret (v := .agg #[.int .u8 1, .int .i64 (n : Int), .string ⟨#[]⟩, .slice none 0 0, .int .i64 0]) (by simp [results, Tryd.results42, go_sem, e0, e1, e2, e3, e4]) rfl ⟨⟨⟨_, rfl, VIn.plain _ _ 1 (n : Int) ⟨#[]⟩ 0 (by decide)⟩, ?_⟩, ?_⟩
    · exact Rr.set5 HR2.out (by omega) _ _ _ _ _
    · exact But.set5 (((((But.refl B w).alloc _).drewN q1).setCell 3 _).trans Hb2.out) (Nat.le_refl _) _ _ _ _ _
end Go.Proofs.YtmiipfdndgjndaaDoor
