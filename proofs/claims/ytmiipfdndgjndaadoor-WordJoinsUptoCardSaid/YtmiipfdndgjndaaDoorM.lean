/- The contracts of the program's value, list, Read. -/
import Derived.Test.YtmiipfdndgjndaaDoorL
import Derived.Test.YtmiipfdndgjndaaDoorK
import Derived.Test.YtmiipfdndgjndaaDoorX4
import Derived.Deep.AppendLies
namespace Go.Proofs.YtmiipfdndgjndaaDoor
open Go.RowKit Go.Lib
set_option maxHeartbeats 1000000
def ValPost (B : Nat) (s : ByteArray) (r : Except Nat (V × Nat × Nat)) (w : World) (e : Ending) (w' : World) : Prop :=
  (match r with
    | .ok (v, k', p') => (∃ cs : List Value, e = .returned (.agg cs.toArray) ∧ VIn w' (NewB w.heap.size w') v cs) ∧ Rd w' B s (k' : Int) (p' : Int)
    | .error q => e = .panicked (stuckV (q : Int))) ∧ But B w w'
def ListPost (B : Nat) (s : ByteArray) (r : Except Nat (List V × Nat × Nat)) (w : World) (e : Ending) (w' : World) : Prop :=
  (match r with
    | .ok (l, k', p') => (∃ (A : Option Addr) (cap : Nat), e = .returned (.slice A l.length cap) ∧ l.length ≤ cap ∧ l.length ≤ 140737488351232 ∧ LIn w' (NewB w.heap.size w') A l 0) ∧ Rd w' B s (k' : Int) (p' : Int)
    | .error q => e = .panicked (stuckV (q : Int))) ∧ But B w w'
theorem set5 {W : World} {H : Nat} {t : TypeId} {x0 x1 x2 x3 x4 : Value} (h : W.heap[H]? = some (.cells #[x0, x1, x2, x3, x4] t (0, 0))) (y0 y1 y2 y3 y4 : Value) :
    (((((W.setCell ⟨H, 0, none⟩ y0).setCell ⟨H, 1, none⟩ y1).setCell ⟨H, 2, none⟩ y2).setCell ⟨H, 3, none⟩ y3).setCell ⟨H, 4, none⟩ y4).heap[H]? = some (.cells #[y0, y1, y2, y3, y4] t (0, 0)) := by
  simp [World.setCell, Array.getElem?_modify, h]
theorem five_far (W : World) {b H : Nat} (hb : b ≠ H) (y0 y1 y2 y3 y4 : Value) :
    (((((W.setCell ⟨H, 0, none⟩ y0).setCell ⟨H, 1, none⟩ y1).setCell ⟨H, 2, none⟩ y2).setCell ⟨H, 3, none⟩ y3).setCell ⟨H, 4, none⟩ y4).heap[b]? = W.heap[b]? :=
  (Below.heap_setCell _ _ _ b hb).trans ((Below.heap_setCell _ _ _ b hb).trans ((Below.heap_setCell _ _ _ b hb).trans ((Below.heap_setCell _ _ _ b hb).trans (Below.heap_setCell _ _ _ b hb))))
theorem Rd.parts {w : World} {B : Nat} {s : ByteArray} {a p p' : Int} (h : Rd w B s a p) (e : p = p') : Rd w B s a p' := e ▸ h
theorem Rd.far {w : World} {B : Nat} {s : ByteArray} {a p : Int} (h : Rd w B s a p) {q : Addr} (hq : B ≠ q.block) (v : Value) : Rd (w.setCell q v) B s a p := (Below.heap_setCell w q v B hq).trans h
theorem Rd.set5 {W : World} {B H : Nat} {s : ByteArray} {a p : Int} (h : Rd W B s a p) (hB : B ≠ H) (y0 y1 y2 y3 y4 : Value) :
    Rd (((((W.setCell ⟨H, 0, none⟩ y0).setCell ⟨H, 1, none⟩ y1).setCell ⟨H, 2, none⟩ y2).setCell ⟨H, 3, none⟩ y3).setCell ⟨H, 4, none⟩ y4) B s a p :=
  ((((h.far hB _).far hB _).far hB _).far hB _).far hB _
theorem But.set5 {w W : World} {B H : Nat} (h : But B w W) (hH : w.heap.size ≤ H) (y0 y1 y2 y3 y4 : Value) :
    But B w (((((W.setCell ⟨H, 0, none⟩ y0).setCell ⟨H, 1, none⟩ y1).setCell ⟨H, 2, none⟩ y2).setCell ⟨H, 3, none⟩ y3).setCell ⟨H, 4, none⟩ y4) :=
  ((((h.setNew hH _).setNew hH _).setNew hH _).setNew hH _).setNew hH _
theorem VIn.plain (W : World) (S : Nat → Prop) (k n : Int) (s : ByteArray) (r : Int) (hs : s.size ≤ 140737488351232) : VIn W S (.mk k n s [] r) [.int .u8 k, .int .i64 n, .string s, .slice none 0 0, .int .i64 r] :=
  ⟨none, 0, rfl, Nat.le_refl _, by simp, hs, trivial⟩
def numRes (neg : Bool) (p : Nat) : Except Nat (Nat × Nat) → Except Nat (V × Nat × Nat)
  | .error q => .error q
  | .ok (n, k') => .ok (.number (if neg then -(n : Int) else (n : Int)), k', p + 1)
def refRes (p : Nat) : Except Nat (Nat × Nat) → Except Nat (V × Nat × Nat)
  | .error q => .error q
  | .ok (n, k') => .ok (.refer (n : Int), k', p + 1)
def textRes (p : Nat) : Except Nat (List UInt8 × Nat) → Except Nat (V × Nat × Nat)
  | .error q => .error q
  | .ok (b, k') => .ok (.text ⟨b.toArray⟩, k', p + 1)
def listRes : Except Nat (List V × Nat × Nat) → Except Nat (V × Nat × Nat)
  | .error q => .error q
  | .ok (l, k', p') => .ok (.list l, k', p')
set_option maxRecDepth 100000 in
theorem val_none (B : Nat) (s : ByteArray) (k p : Nat) (dd : Int) (w : World) (hS : s.size ≤ 140737488351232) (h : Rd w B s k p) (hk : k < s.size) (hp : p < 512) (hc : bAt s k = 95) :
    Calls Tryd.prog 40 #[.pointer (some ⟨B, 0, none⟩), .int .i64 dd] w (ValPost B s (.ok (.nothing, k + 1, p + 1)) w) := by
  have hlt := h.lt
  have hA : Rd (w.alloc (.cells #[.int .u8 0, .int .i64 0, .string ⟨#[]⟩, .slice none 0 0, .int .i64 0] 26)) B s k p := h.alloc _
  have c1 := hA.c1
  have c2 := hA.c2
  have f1 := hA.f 1
  have f2 := hA.f 2
  have hnx := fun W (hW : Rd W B s k p) => next_ok B s k p W hW hk
  rw [hc] at hnx
  have HN := Lib.hid hnx
  have HA := Lib.hid hA
  clear hnx hA
  go_enter Tryd.func40, Tryd.ntmps40
  go_wp2_with fail
  refine (HN.out _ (by exact HA.out)).mono ?_
  rintro e w' ⟨rfl, q1, rfl⟩
  go_wp2_with fail
  have h5 : ((((w.alloc (.cells #[.int .u8 0, .int .i64 0, .string ⟨#[]⟩, .slice none 0 0, .int .i64 0] 26)).drewN q1).setCell ⟨B, 2, none⟩ (.int .i64 ((p : Int) + 1))).setCell ⟨B, 1, none⟩ (.int .i64 ((k : Int) + 1))).heap[w.heap.size]? = _ := (Below.heap_setCell _ _ _ _ (by show w.heap.size ≠ B; omega)).trans ((Below.heap_setCell _ _ _ _ (by show w.heap.size ≠ B; omega)).trans (heap_alloc_new w (.cells #[.int .u8 0, .int .i64 0, .string ⟨#[]⟩, .slice none 0 0, .int .i64 0] 26)))
  have h6 := set5 h5 (.int .u8 0) (.int .i64 0) (.string ⟨#[]⟩) (.slice none 0 0) (.int .i64 0)
  have e0 := blk_cell h6 0
  have e1 := blk_cell h6 1
  have e2 := blk_cell h6 2
  have e3 := blk_cell h6 3
  have e4 := blk_cell h6 4
  refine bodyPost_ret (v := .agg #[.int .u8 0, .int .i64 0, .string ⟨#[]⟩, .slice none 0 0, .int .i64 0]) (by simp [results, Tryd.results40, go_sem, e0, e1, e2, e3, e4]) rfl ⟨⟨⟨_, rfl, VIn.plain _ _ 0 0 ⟨#[]⟩ 0 (by decide)⟩, ?_⟩, ?_⟩
  · exact Rd.parts (Rd.set5 (Rd.at (Rd.set1 (Rd.set2 (show Rd ((w.alloc (.cells #[.int .u8 0, .int .i64 0, .string ⟨#[]⟩, .slice none 0 0, .int .i64 0] 26)).drewN q1) B s k p from HA.out) ((p : Int) + 1)) ((k : Int) + 1)) (by omega : (k : Int) + 1 = ((k + 1 : Nat) : Int))) (by omega) _ _ _ _ _) (by omega)
  · exact But.set5 (((((But.refl B w).alloc _).drewN q1).setCell 2 _).setCell 1 _) (Nat.le_refl _) _ _ _ _ _
set_option maxRecDepth 100000 in
theorem val_pos (B : Nat) (s : ByteArray) (k p : Nat) (dd : Int) (w : World) (_hS : s.size ≤ 140737488351232) (h : Rd w B s k p) (hk : k < s.size) (hp : p < 512) (hc : digitI (bAt s k) = true) (r : Except Nat (Nat × Nat)) (hnum : ∀ W, Rd W B s k ((p : Int) + 1) → Calls Tryd.prog 65 #[.pointer (some ⟨B, 0, none⟩), .bool true] W (NumPost B s ((p : Int) + 1) false r W)) :
    Calls Tryd.prog 40 #[.pointer (some ⟨B, 0, none⟩), .int .i64 dd] w (ValPost B s (numRes false p r) w) := by
  have hlt := h.lt
  have hA : Rd (w.alloc (.cells #[.int .u8 0, .int .i64 0, .string ⟨#[]⟩, .slice none 0 0, .int .i64 0] 26)) B s k p := h.alloc _
  have c1 := hA.c1
  have c2 := hA.c2
  have f1 := hA.f 1
  have f2 := hA.f 2
  have hnx := fun W (hW : Rd W B s k p) => next_ok B s k p W hW hk
  have hcd := (digitI_iff _).1 hc
  have t0 : (bAt s k == 95) = false := by simp; omega
  have t1 : (bAt s k == 45) = false := by simp; omega
  have t2 : decide (48 ≤ bAt s k) = true := by simp; omega
  have t3 : decide (bAt s k ≤ 57) = true := by simp; omega
  clear hc hcd
  generalize bAt s k = c at *
  have HM := Lib.hid hnum
  clear hnum
  have HN := Lib.hid hnx
  have HA := Lib.hid hA
  clear hnx hA
  cases r with
  | error q =>
    rw [show numRes false p (.error q) = .error q from rfl]
    go_enter Tryd.func40, Tryd.ntmps40
    go_wp2_with fail
    refine (HN.out _ (by exact HA.out)).mono ?_
    rintro e w' ⟨rfl, q1, rfl⟩
    go_wp2_with fail
    refine (HM.out _ (by exact (Rd.set2 (show Rd ((w.alloc (.cells #[.int .u8 0, .int .i64 0, .string ⟨#[]⟩, .slice none 0 0, .int .i64 0] 26)).drewN q1) B s k p from HA.out) ((p : Int) + 1)))).mono ?_
    have h5 : (((w.alloc (.cells #[.int .u8 0, .int .i64 0, .string ⟨#[]⟩, .slice none 0 0, .int .i64 0] 26)).drewN q1).setCell ⟨B, 2, none⟩ (.int .i64 ((p : Int) + 1))).heap[w.heap.size]? = _ := (Below.heap_setCell _ _ _ _ (by show w.heap.size ≠ B; omega)).trans (heap_alloc_new w (.cells #[.int .u8 0, .int .i64 0, .string ⟨#[]⟩, .slice none 0 0, .int .i64 0] 26))
    have H5 := Lib.hid h5
    clear h5
    rintro e w2 ⟨rfl, hb2⟩
    go_wp2
    exact ⟨rfl, rfl, ((((But.refl B w).alloc _).drewN q1).setCell 2 _).trans hb2⟩
  | ok rr =>
    obtain ⟨n, k'⟩ := rr
    rw [show numRes false p (.ok (n, k')) = .ok (.number (n : Int), k', p + 1) from rfl]
    go_enter Tryd.func40, Tryd.ntmps40
    go_wp2_with fail
    refine (HN.out _ (by exact HA.out)).mono ?_
    rintro e w' ⟨rfl, q1, rfl⟩
    go_wp2_with fail
    refine (HM.out _ (by exact (Rd.set2 (show Rd ((w.alloc (.cells #[.int .u8 0, .int .i64 0, .string ⟨#[]⟩, .slice none 0 0, .int .i64 0] 26)).drewN q1) B s k p from HA.out) ((p : Int) + 1)))).mono ?_
    have h5 : (((w.alloc (.cells #[.int .u8 0, .int .i64 0, .string ⟨#[]⟩, .slice none 0 0, .int .i64 0] 26)).drewN q1).setCell ⟨B, 2, none⟩ (.int .i64 ((p : Int) + 1))).heap[w.heap.size]? = _ := (Below.heap_setCell _ _ _ _ (by show w.heap.size ≠ B; omega)).trans (heap_alloc_new w (.cells #[.int .u8 0, .int .i64 0, .string ⟨#[]⟩, .slice none 0 0, .int .i64 0] 26))
    have H5 := Lib.hid h5
    clear h5
    rintro e w2 ⟨⟨rfl, hrd2⟩, hb2⟩
    simp only [if_false, Bool.false_eq_true]
    have h5 := (hb2.block w.heap.size (by simp [World.setCell]) (by omega)).trans H5.out
    have z0 := blk_cell h5 0
    have z1 := blk_cell h5 1
    have z2 := blk_cell h5 2
    have z3 := blk_cell h5 3
    have z4 := blk_cell h5 4
    have zf : ∀ i, w2.frozen? ⟨w.heap.size, i, none⟩ = false := fun i => by simp [World.frozen?, h5]
    have zf0 := zf 0
    have zf1 := zf 1
    have zf2 := zf 2
    have zf3 := zf 3
    have zf4 := zf 4
    have H5b := Lib.hid h5
    have Hrd2 := Lib.hid hrd2
    have Hb2 := Lib.hid hb2
    clear h5 hrd2 hb2 zf
    go_wp2_with fail
    have h6 := set5 H5b.out (.int .u8 1) (.int .i64 (n : Int)) (.string ⟨#[]⟩) (.slice none 0 0) (.int .i64 0)
    have e0 := blk_cell h6 0
    have e1 := blk_cell h6 1
    have e2 := blk_cell h6 2
    have e3 := blk_cell h6 3
    have e4 := blk_cell h6 4
    refine bodyPost_ret (v := .agg #[.int .u8 1, .int .i64 (n : Int), .string ⟨#[]⟩, .slice none 0 0, .int .i64 0]) (by simp [results, Tryd.results40, go_sem, e0, e1, e2, e3, e4]) rfl ⟨⟨⟨_, rfl, VIn.plain _ _ 1 (n : Int) ⟨#[]⟩ 0 (by decide)⟩, ?_⟩, ?_⟩
    · exact Rd.parts (Rd.set5 Hrd2.out (by omega) _ _ _ _ _) (by omega)
    · exact But.set5 (((((But.refl B w).alloc _).drewN q1).setCell 2 _).trans Hb2.out) (Nat.le_refl _) _ _ _ _ _
set_option maxRecDepth 100000 in
theorem val_neg (B : Nat) (s : ByteArray) (k p : Nat) (dd : Int) (w : World) (_hS : s.size ≤ 140737488351232) (h : Rd w B s k p) (hk : k < s.size) (hp : p < 512) (hc : bAt s k = 45) (r : Except Nat (Nat × Nat)) (hnum : ∀ W, Rd W B s k ((p : Int) + 1) → Calls Tryd.prog 65 #[.pointer (some ⟨B, 0, none⟩), .bool true] W (NumPost B s ((p : Int) + 1) true r W)) :
    Calls Tryd.prog 40 #[.pointer (some ⟨B, 0, none⟩), .int .i64 dd] w (ValPost B s (numRes true p r) w) := by
  have hlt := h.lt
  have hA : Rd (w.alloc (.cells #[.int .u8 0, .int .i64 0, .string ⟨#[]⟩, .slice none 0 0, .int .i64 0] 26)) B s k p := h.alloc _
  have c1 := hA.c1
  have c2 := hA.c2
  have f1 := hA.f 1
  have f2 := hA.f 2
  have hnx := fun W (hW : Rd W B s k p) => next_ok B s k p W hW hk
  rw [hc] at hnx
  clear hc
  have HM := Lib.hid hnum
  clear hnum
  have HN := Lib.hid hnx
  have HA := Lib.hid hA
  clear hnx hA
  cases r with
  | error q =>
    rw [show numRes true p (.error q) = .error q from rfl]
    go_enter Tryd.func40, Tryd.ntmps40
    go_wp2_with fail
    refine (HN.out _ (by exact HA.out)).mono ?_
    rintro e w' ⟨rfl, q1, rfl⟩
    go_wp2_with fail
    refine (HM.out _ (by exact (Rd.set2 (show Rd ((w.alloc (.cells #[.int .u8 0, .int .i64 0, .string ⟨#[]⟩, .slice none 0 0, .int .i64 0] 26)).drewN q1) B s k p from HA.out) ((p : Int) + 1)))).mono ?_
    have h5 : (((w.alloc (.cells #[.int .u8 0, .int .i64 0, .string ⟨#[]⟩, .slice none 0 0, .int .i64 0] 26)).drewN q1).setCell ⟨B, 2, none⟩ (.int .i64 ((p : Int) + 1))).heap[w.heap.size]? = _ := (Below.heap_setCell _ _ _ _ (by show w.heap.size ≠ B; omega)).trans (heap_alloc_new w (.cells #[.int .u8 0, .int .i64 0, .string ⟨#[]⟩, .slice none 0 0, .int .i64 0] 26))
    have H5 := Lib.hid h5
    clear h5
    rintro e w2 ⟨rfl, hb2⟩
    go_wp2
    exact ⟨rfl, rfl, ((((But.refl B w).alloc _).drewN q1).setCell 2 _).trans hb2⟩
  | ok rr =>
    obtain ⟨n, k'⟩ := rr
    rw [show numRes true p (.ok (n, k')) = .ok (.number (-(n : Int)), k', p + 1) from rfl]
    go_enter Tryd.func40, Tryd.ntmps40
    go_wp2_with fail
    refine (HN.out _ (by exact HA.out)).mono ?_
    rintro e w' ⟨rfl, q1, rfl⟩
    go_wp2_with fail
    refine (HM.out _ (by exact (Rd.set2 (show Rd ((w.alloc (.cells #[.int .u8 0, .int .i64 0, .string ⟨#[]⟩, .slice none 0 0, .int .i64 0] 26)).drewN q1) B s k p from HA.out) ((p : Int) + 1)))).mono ?_
    have h5 : (((w.alloc (.cells #[.int .u8 0, .int .i64 0, .string ⟨#[]⟩, .slice none 0 0, .int .i64 0] 26)).drewN q1).setCell ⟨B, 2, none⟩ (.int .i64 ((p : Int) + 1))).heap[w.heap.size]? = _ := (Below.heap_setCell _ _ _ _ (by show w.heap.size ≠ B; omega)).trans (heap_alloc_new w (.cells #[.int .u8 0, .int .i64 0, .string ⟨#[]⟩, .slice none 0 0, .int .i64 0] 26))
    have H5 := Lib.hid h5
    clear h5
    rintro e w2 ⟨⟨rfl, hrd2⟩, hb2⟩
    simp only [if_true]
    have h5 := (hb2.block w.heap.size (by simp [World.setCell]) (by omega)).trans H5.out
    have z0 := blk_cell h5 0
    have z1 := blk_cell h5 1
    have z2 := blk_cell h5 2
    have z3 := blk_cell h5 3
    have z4 := blk_cell h5 4
    have zf : ∀ i, w2.frozen? ⟨w.heap.size, i, none⟩ = false := fun i => by simp [World.frozen?, h5]
    have zf0 := zf 0
    have zf1 := zf 1
    have zf2 := zf 2
    have zf3 := zf 3
    have zf4 := zf 4
    have H5b := Lib.hid h5
    have Hrd2 := Lib.hid hrd2
    have Hb2 := Lib.hid hb2
    clear h5 hrd2 hb2 zf
    go_wp2_with fail
    have h6 := set5 H5b.out (.int .u8 1) (.int .i64 (-(n : Int))) (.string ⟨#[]⟩) (.slice none 0 0) (.int .i64 0)
    have e0 := blk_cell h6 0
    have e1 := blk_cell h6 1
    have e2 := blk_cell h6 2
    have e3 := blk_cell h6 3
    have e4 := blk_cell h6 4
    refine bodyPost_ret (v := .agg #[.int .u8 1, .int .i64 (-(n : Int)), .string ⟨#[]⟩, .slice none 0 0, .int .i64 0]) (by simp [results, Tryd.results40, go_sem, e0, e1, e2, e3, e4]) rfl ⟨⟨⟨_, rfl, VIn.plain _ _ 1 (-(n : Int)) ⟨#[]⟩ 0 (by decide)⟩, ?_⟩, ?_⟩
    · exact Rd.parts (Rd.set5 Hrd2.out (by omega) _ _ _ _ _) (by omega)
    · exact But.set5 (((((But.refl B w).alloc _).drewN q1).setCell 2 _).trans Hb2.out) (Nat.le_refl _) _ _ _ _ _
set_option maxRecDepth 100000 in
theorem val_text (B : Nat) (s : ByteArray) (k p : Nat) (dd : Int) (w : World) (hS : s.size ≤ 140737488351232) (h : Rd w B s k p) (hk : k < s.size) (hp : p < 512) (hc : bAt s k = 34) :
    Calls Tryd.prog 40 #[.pointer (some ⟨B, 0, none⟩), .int .i64 dd] w (ValPost B s (textRes p (quotedF s (fun n => decide ((256 : Int) ≤ (n : Int))) k)) w) := by
  have hlt := h.lt
  have hA : Rd (w.alloc (.cells #[.int .u8 0, .int .i64 0, .string ⟨#[]⟩, .slice none 0 0, .int .i64 0] 26)) B s k p := h.alloc _
  have c1 := hA.c1
  have c2 := hA.c2
  have f1 := hA.f 1
  have f2 := hA.f 2
  have hnx := fun W (hW : Rd W B s k p) => next_ok B s k p W hW hk
  have hnum := fun W (hW : Rd W B s k ((p : Int) + 1)) => quoted_any B s k ((p : Int) + 1) 256 W hS hW
  rw [hc] at hnx
  clear hc
  have HN := Lib.hid hnx
  have HA := Lib.hid hA
  clear hnx hA
  obtain ⟨r, hr⟩ : ∃ r, quotedF s (fun n => decide ((256 : Int) ≤ (n : Int))) k = r := ⟨_, rfl⟩
  have hlen : ∀ b k', r = .ok (b, k') → b.length ≤ 256 := by
    intro b k' hb
    rw [← hr] at hb
    have := (quotedF_inv s _ k b k' hb).2
    rcases Nat.lt_or_ge 256 b.length with h1 | h1
    · have := this 256 h1
      simp at this
    · exact h1
  rw [hr] at hnum ⊢
  have HM := Lib.hid hnum
  have HL := Lib.hid hlen
  clear hnum hr hlen
  cases r with
  | error q =>
    rw [show textRes p (.error q) = .error q from rfl]
    go_enter Tryd.func40, Tryd.ntmps40
    go_wp2_with fail
    refine (HN.out _ (by exact HA.out)).mono ?_
    rintro e w' ⟨rfl, q1, rfl⟩
    go_wp2_with fail
    refine (HM.out _ (by exact (Rd.set2 (show Rd ((w.alloc (.cells #[.int .u8 0, .int .i64 0, .string ⟨#[]⟩, .slice none 0 0, .int .i64 0] 26)).drewN q1) B s k p from HA.out) ((p : Int) + 1)))).mono ?_
    have h5 : (((w.alloc (.cells #[.int .u8 0, .int .i64 0, .string ⟨#[]⟩, .slice none 0 0, .int .i64 0] 26)).drewN q1).setCell ⟨B, 2, none⟩ (.int .i64 ((p : Int) + 1))).heap[w.heap.size]? = _ := (Below.heap_setCell _ _ _ _ (by show w.heap.size ≠ B; omega)).trans (heap_alloc_new w (.cells #[.int .u8 0, .int .i64 0, .string ⟨#[]⟩, .slice none 0 0, .int .i64 0] 26))
    have H5 := Lib.hid h5
    clear h5
    rintro e w2 ⟨rfl, hb2⟩
    go_wp2
    exact ⟨rfl, rfl, ((((But.refl B w).alloc _).drewN q1).setCell 2 _).trans hb2⟩
  | ok rr =>
    obtain ⟨b, k'⟩ := rr
    rw [show textRes p (.ok (b, k')) = .ok (.text ⟨b.toArray⟩, k', p + 1) from rfl]
    go_enter Tryd.func40, Tryd.ntmps40
    go_wp2_with fail
    refine (HN.out _ (by exact HA.out)).mono ?_
    rintro e w' ⟨rfl, q1, rfl⟩
    go_wp2_with fail
    refine (HM.out _ (by exact (Rd.set2 (show Rd ((w.alloc (.cells #[.int .u8 0, .int .i64 0, .string ⟨#[]⟩, .slice none 0 0, .int .i64 0] 26)).drewN q1) B s k p from HA.out) ((p : Int) + 1)))).mono ?_
    have h5 : (((w.alloc (.cells #[.int .u8 0, .int .i64 0, .string ⟨#[]⟩, .slice none 0 0, .int .i64 0] 26)).drewN q1).setCell ⟨B, 2, none⟩ (.int .i64 ((p : Int) + 1))).heap[w.heap.size]? = _ := (Below.heap_setCell _ _ _ _ (by show w.heap.size ≠ B; omega)).trans (heap_alloc_new w (.cells #[.int .u8 0, .int .i64 0, .string ⟨#[]⟩, .slice none 0 0, .int .i64 0] 26))
    have H5 := Lib.hid h5
    clear h5
    rintro e w2 ⟨⟨rfl, hrd2⟩, hb2⟩
    have h5 := (hb2.block w.heap.size (by simp [World.setCell]) (by omega)).trans H5.out
    have z0 := blk_cell h5 0
    have z1 := blk_cell h5 1
    have z2 := blk_cell h5 2
    have z3 := blk_cell h5 3
    have z4 := blk_cell h5 4
    have zf : ∀ i, w2.frozen? ⟨w.heap.size, i, none⟩ = false := fun i => by simp [World.frozen?, h5]
    have zf0 := zf 0
    have zf1 := zf 1
    have zf2 := zf 2
    have zf3 := zf 3
    have zf4 := zf 4
    have H5b := Lib.hid h5
    have Hrd2 := Lib.hid hrd2
    have Hb2 := Lib.hid hb2
    clear h5 hrd2 hb2 zf
    go_wp2_with fail
    have h6 := set5 H5b.out (.int .u8 2) (.int .i64 0) (.string ⟨b.toArray⟩) (.slice none 0 0) (.int .i64 0)
    have e0 := blk_cell h6 0
    have e1 := blk_cell h6 1
    have e2 := blk_cell h6 2
    have e3 := blk_cell h6 3
    have e4 := blk_cell h6 4
    refine bodyPost_ret (v := .agg #[.int .u8 2, .int .i64 0, .string ⟨b.toArray⟩, .slice none 0 0, .int .i64 0]) (by simp [results, Tryd.results40, go_sem, e0, e1, e2, e3, e4]) rfl ⟨⟨⟨_, rfl, VIn.plain _ _ 2 0 ⟨b.toArray⟩ 0 (by have := HL.out b k' rfl; rw [size_arr]; omega)⟩, ?_⟩, ?_⟩
    · exact Rd.parts (Rd.set5 Hrd2.out (by omega) _ _ _ _ _) (by omega)
    · exact But.set5 (((((But.refl B w).alloc _).drewN q1).setCell 2 _).trans Hb2.out) (Nat.le_refl _) _ _ _ _ _
set_option maxRecDepth 100000 in
theorem val_list (B : Nat) (s : ByteArray) (k p : Nat) (dd : Int) (w : World) (hS : s.size ≤ 140737488351232) (h : Rd w B s k p) (hk : k < s.size) (hp : p < 512) (hc : bAt s k = 91) (hdd : dd < 16) (hd0 : 0 ≤ dd) (r : Except Nat (List V × Nat × Nat)) (hlist : ∀ W, Rd W B s ((k + 1 : Nat) : Int) ((p : Int) + 1) → Calls Tryd.prog 66 #[.pointer (some ⟨B, 0, none⟩), .int .i64 (dd + 1)] W (ListPost B s r W)) :
    Calls Tryd.prog 40 #[.pointer (some ⟨B, 0, none⟩), .int .i64 dd] w (ValPost B s (listRes r) w) := by
  have hlt := h.lt
  have hA : Rd (w.alloc (.cells #[.int .u8 0, .int .i64 0, .string ⟨#[]⟩, .slice none 0 0, .int .i64 0] 26)) B s k p := h.alloc _
  have c1 := hA.c1
  have c2 := hA.c2
  have f1 := hA.f 1
  have f2 := hA.f 2
  have hnx := fun W (hW : Rd W B s k p) => next_ok B s k p W hW hk
  rw [hc] at hnx
  clear hc
  have t0 : decide (dd < 16) = true := by simpa using hdd
  have HM := Lib.hid hlist
  clear hlist
  have HN := Lib.hid hnx
  have HA := Lib.hid hA
  clear hnx hA
  cases r with
  | error q =>
    rw [show listRes (.error q) = .error q from rfl]
    go_enter Tryd.func40, Tryd.ntmps40
    go_wp2_with fail
    refine (HN.out _ (by exact HA.out)).mono ?_
    rintro e w' ⟨rfl, q1, rfl⟩
    go_wp2_with fail
    refine (HM.out _ (by exact (Rd.at (Rd.set1 (Rd.set2 (show Rd ((w.alloc (.cells #[.int .u8 0, .int .i64 0, .string ⟨#[]⟩, .slice none 0 0, .int .i64 0] 26)).drewN q1) B s k p from HA.out) ((p : Int) + 1)) ((k : Int) + 1)) (by omega : (k : Int) + 1 = ((k + 1 : Nat) : Int))))).mono ?_
    have h5 : ((((w.alloc (.cells #[.int .u8 0, .int .i64 0, .string ⟨#[]⟩, .slice none 0 0, .int .i64 0] 26)).drewN q1).setCell ⟨B, 2, none⟩ (.int .i64 ((p : Int) + 1))).setCell ⟨B, 1, none⟩ (.int .i64 ((k : Int) + 1))).heap[w.heap.size]? = _ := (Below.heap_setCell _ _ _ _ (by show w.heap.size ≠ B; omega)).trans ((Below.heap_setCell _ _ _ _ (by show w.heap.size ≠ B; omega)).trans (heap_alloc_new w (.cells #[.int .u8 0, .int .i64 0, .string ⟨#[]⟩, .slice none 0 0, .int .i64 0] 26)))
    have H5 := Lib.hid h5
    clear h5
    rintro e w2 ⟨rfl, hb2⟩
    go_wp2
    exact ⟨rfl, rfl, (((((But.refl B w).alloc _).drewN q1).setCell 2 _).setCell 1 _).trans hb2⟩
  | ok rr =>
    obtain ⟨l, k', p'⟩ := rr
    rw [show listRes (.ok (l, k', p')) = .ok (.list l, k', p') from rfl]
    go_enter Tryd.func40, Tryd.ntmps40
    go_wp2_with fail
    refine (HN.out _ (by exact HA.out)).mono ?_
    rintro e w' ⟨rfl, q1, rfl⟩
    go_wp2_with fail
    refine (HM.out _ (by exact (Rd.at (Rd.set1 (Rd.set2 (show Rd ((w.alloc (.cells #[.int .u8 0, .int .i64 0, .string ⟨#[]⟩, .slice none 0 0, .int .i64 0] 26)).drewN q1) B s k p from HA.out) ((p : Int) + 1)) ((k : Int) + 1)) (by omega : (k : Int) + 1 = ((k + 1 : Nat) : Int))))).mono ?_
    have h5 : ((((w.alloc (.cells #[.int .u8 0, .int .i64 0, .string ⟨#[]⟩, .slice none 0 0, .int .i64 0] 26)).drewN q1).setCell ⟨B, 2, none⟩ (.int .i64 ((p : Int) + 1))).setCell ⟨B, 1, none⟩ (.int .i64 ((k : Int) + 1))).heap[w.heap.size]? = _ := (Below.heap_setCell _ _ _ _ (by show w.heap.size ≠ B; omega)).trans ((Below.heap_setCell _ _ _ _ (by show w.heap.size ≠ B; omega)).trans (heap_alloc_new w (.cells #[.int .u8 0, .int .i64 0, .string ⟨#[]⟩, .slice none 0 0, .int .i64 0] 26)))
    have H5 := Lib.hid h5
    clear h5
    rintro e w2 ⟨⟨⟨A, cap, rfl, hlc, hcap, hin⟩, hrd2⟩, hb2⟩
    have hz2 : w.heap.size + 1 ≤ w2.heap.size := by have := hb2.size; simp [World.setCell] at this; omega
    have Hin := Lib.hid hin
    clear hin
    have h5 := (hb2.block w.heap.size (by simp [World.setCell]) (by omega)).trans H5.out
    have z0 := blk_cell h5 0
    have z1 := blk_cell h5 1
    have z2 := blk_cell h5 2
    have z3 := blk_cell h5 3
    have z4 := blk_cell h5 4
    have zf : ∀ i, w2.frozen? ⟨w.heap.size, i, none⟩ = false := fun i => by simp [World.frozen?, h5]
    have zf0 := zf 0
    have zf1 := zf 1
    have zf2 := zf 2
    have zf3 := zf 3
    have zf4 := zf 4
    have H5b := Lib.hid h5
    have Hrd2 := Lib.hid hrd2
    have Hb2 := Lib.hid hb2
    clear h5 hrd2 hb2 zf
    go_wp2_with fail
    have h6 := set5 H5b.out (.int .u8 3) (.int .i64 0) (.string ⟨#[]⟩) (.slice A l.length cap) (.int .i64 0)
    have e0 := blk_cell h6 0
    have e1 := blk_cell h6 1
    have e2 := blk_cell h6 2
    have e3 := blk_cell h6 3
    have e4 := blk_cell h6 4
    refine bodyPost_ret (v := .agg #[.int .u8 3, .int .i64 0, .string ⟨#[]⟩, .slice A l.length cap, .int .i64 0]) (by simp [results, Tryd.results40, go_sem, e0, e1, e2, e3, e4]) rfl ⟨⟨⟨_, rfl, ⟨A, cap, rfl, hlc, hcap, by decide, ?_⟩⟩, ?_⟩, ?_⟩
    · have hsz : ((((w.alloc (.cells #[.int .u8 0, .int .i64 0, .string ⟨#[]⟩, .slice none 0 0, .int .i64 0] 26)).drewN q1).setCell ⟨B, 2, none⟩ (.int .i64 ((p : Int) + 1))).setCell ⟨B, 1, none⟩ (.int .i64 ((k : Int) + 1))).heap.size = w.heap.size + 1 := by simp [World.setCell]
      rw [hsz] at Hin
      refine LIn.keepNew Hin.out (fun b hb _ => ⟨by omega, five_far _ (by omega) _ _ _ _ _⟩)
    · exact Rd.parts (Rd.set5 Hrd2.out (by omega) _ _ _ _ _) (by omega)
    · exact But.set5 ((((((But.refl B w).alloc _).drewN q1).setCell 2 _).setCell 1 _).trans Hb2.out) (Nat.le_refl _) _ _ _ _ _
set_option maxRecDepth 100000 in
theorem val_ref (B : Nat) (s : ByteArray) (k p : Nat) (dd : Int) (w : World) (hS : s.size ≤ 140737488351232) (h : Rd w B s k p) (hk : k < s.size) (hp : p < 512) (hc : bAt s k = 35) :
    Calls Tryd.prog 40 #[.pointer (some ⟨B, 0, none⟩), .int .i64 dd] w (ValPost B s (refRes p (behindF s mostP (k + 1))) w) := by
  have hlt := h.lt
  have hA : Rd (w.alloc (.cells #[.int .u8 0, .int .i64 0, .string ⟨#[]⟩, .slice none 0 0, .int .i64 0] 26)) B s k p := h.alloc _
  have c1 := hA.c1
  have c2 := hA.c2
  have f1 := hA.f 1
  have f2 := hA.f 2
  have hnx := fun W (hW : Rd W B s k p) => next_ok B s k p W hW hk
  rw [hc] at hnx
  clear hc
  have HN := Lib.hid hnx
  have HA := Lib.hid hA
  clear hnx hA
  by_cases hk1 : k + 1 < s.size
  · have hnx1 := fun W (hW : Rd W B s ((k + 1 : Nat) : Int) ((p : Int) + 1)) => next_ok B s (k + 1) ((p : Int) + 1) W hW hk1
    by_cases hd1 : 49 ≤ bAt s (k + 1) ∧ bAt s (k + 1) ≤ 57
    · rw [show behindF s mostP (k + 1) = numLoop s mostP (s.size + 1) false 0 (k + 1) by rw [behindF, if_pos hk1, if_pos hd1]]
      have hnum := fun W (hW : Rd W B s ((k + 1 : Nat) : Int) ((p : Int) + 1)) => num_pos B s (k + 1) ((p : Int) + 1) false W hS hW hk1 (by omega)
      have e1 : decide (bAt s (k + 1) < 49) = false := by simp; omega
      have e2 : decide (57 < bAt s (k + 1)) = false := by simp; omega
      obtain ⟨r, hr⟩ : ∃ r, numLoop s mostP (s.size + 1) false 0 (k + 1) = r := ⟨_, rfl⟩
      rw [hr] at hnum ⊢
      generalize bAt s (k + 1) = c2 at hnx1 hd1 e1 e2
      have HM := Lib.hid hnum
      have HN1 := Lib.hid hnx1
      clear hnum hr hnx1 hd1
      cases r with
      | error q =>
        rw [show refRes p (.error q) = .error q from rfl]
        go_enter Tryd.func40, Tryd.ntmps40
        go_wp2_with fail
        refine (HN.out _ (by exact HA.out)).mono ?_
        rintro e w' ⟨rfl, q1, rfl⟩
        go_wp2_with fail
        refine (HN1.out _ (by exact (Rd.at (Rd.set1 (Rd.set2 (show Rd ((w.alloc (.cells #[.int .u8 0, .int .i64 0, .string ⟨#[]⟩, .slice none 0 0, .int .i64 0] 26)).drewN q1) B s k p from HA.out) ((p : Int) + 1)) ((k : Int) + 1)) (by omega : (k : Int) + 1 = ((k + 1 : Nat) : Int))))).mono ?_
        rintro e w' ⟨rfl, q2, rfl⟩
        go_wp2_with fail
        refine (HM.out _ (by exact (Rd.at (Rd.set1 (Rd.set2 (show Rd ((w.alloc (.cells #[.int .u8 0, .int .i64 0, .string ⟨#[]⟩, .slice none 0 0, .int .i64 0] 26)).drewN q1) B s k p from HA.out) ((p : Int) + 1)) ((k : Int) + 1)) (by omega : (k : Int) + 1 = ((k + 1 : Nat) : Int))))).mono ?_
        have h5 : ((((w.alloc (.cells #[.int .u8 0, .int .i64 0, .string ⟨#[]⟩, .slice none 0 0, .int .i64 0] 26)).drewN q1).setCell ⟨B, 2, none⟩ (.int .i64 ((p : Int) + 1))).setCell ⟨B, 1, none⟩ (.int .i64 ((k : Int) + 1))).heap[w.heap.size]? = _ := (Below.heap_setCell _ _ _ _ (by show w.heap.size ≠ B; omega)).trans ((Below.heap_setCell _ _ _ _ (by show w.heap.size ≠ B; omega)).trans (heap_alloc_new w (.cells #[.int .u8 0, .int .i64 0, .string ⟨#[]⟩, .slice none 0 0, .int .i64 0] 26)))
        have H5 := Lib.hid h5
        clear h5
        rintro e w2 ⟨rfl, hb2⟩
        go_wp2
        exact ⟨rfl, rfl, ((((((But.refl B w).alloc _).drewN q1).setCell 2 _).setCell 1 _).drewN q2).trans hb2⟩
      | ok rr =>
        obtain ⟨n, k'⟩ := rr
        rw [show refRes p (.ok (n, k')) = .ok (.refer (n : Int), k', p + 1) from rfl]
        go_enter Tryd.func40, Tryd.ntmps40
        go_wp2_with fail
        refine (HN.out _ (by exact HA.out)).mono ?_
        rintro e w' ⟨rfl, q1, rfl⟩
        go_wp2_with fail
        refine (HN1.out _ (by exact (Rd.at (Rd.set1 (Rd.set2 (show Rd ((w.alloc (.cells #[.int .u8 0, .int .i64 0, .string ⟨#[]⟩, .slice none 0 0, .int .i64 0] 26)).drewN q1) B s k p from HA.out) ((p : Int) + 1)) ((k : Int) + 1)) (by omega : (k : Int) + 1 = ((k + 1 : Nat) : Int))))).mono ?_
        rintro e w' ⟨rfl, q2, rfl⟩
        go_wp2_with fail
        refine (HM.out _ (by exact (Rd.at (Rd.set1 (Rd.set2 (show Rd ((w.alloc (.cells #[.int .u8 0, .int .i64 0, .string ⟨#[]⟩, .slice none 0 0, .int .i64 0] 26)).drewN q1) B s k p from HA.out) ((p : Int) + 1)) ((k : Int) + 1)) (by omega : (k : Int) + 1 = ((k + 1 : Nat) : Int))))).mono ?_
        have h5 : ((((w.alloc (.cells #[.int .u8 0, .int .i64 0, .string ⟨#[]⟩, .slice none 0 0, .int .i64 0] 26)).drewN q1).setCell ⟨B, 2, none⟩ (.int .i64 ((p : Int) + 1))).setCell ⟨B, 1, none⟩ (.int .i64 ((k : Int) + 1))).heap[w.heap.size]? = _ := (Below.heap_setCell _ _ _ _ (by show w.heap.size ≠ B; omega)).trans ((Below.heap_setCell _ _ _ _ (by show w.heap.size ≠ B; omega)).trans (heap_alloc_new w (.cells #[.int .u8 0, .int .i64 0, .string ⟨#[]⟩, .slice none 0 0, .int .i64 0] 26)))
        have H5 := Lib.hid h5
        clear h5
        rintro e w2 ⟨⟨rfl, hrd2⟩, hb2⟩
        simp only [if_false, Bool.false_eq_true]
        have h5 := (hb2.block w.heap.size (by simp [World.setCell]) (by omega)).trans H5.out
        have z0 := blk_cell h5 0
        have z1 := blk_cell h5 1
        have z2 := blk_cell h5 2
        have z3 := blk_cell h5 3
        have z4 := blk_cell h5 4
        have zf : ∀ i, w2.frozen? ⟨w.heap.size, i, none⟩ = false := fun i => by simp [World.frozen?, h5]
        have zf0 := zf 0
        have zf1 := zf 1
        have zf2 := zf 2
        have zf3 := zf 3
        have zf4 := zf 4
        have H5b := Lib.hid h5
        have Hrd2 := Lib.hid hrd2
        have Hb2 := Lib.hid hb2
        clear h5 hrd2 hb2 zf
        go_wp2_with fail
        have h6 := set5 H5b.out (.int .u8 4) (.int .i64 0) (.string ⟨#[]⟩) (.slice none 0 0) (.int .i64 (n : Int))
        have e0 := blk_cell h6 0
        have e1 := blk_cell h6 1
        have e2 := blk_cell h6 2
        have e3 := blk_cell h6 3
        have e4 := blk_cell h6 4
        refine bodyPost_ret (v := .agg #[.int .u8 4, .int .i64 0, .string ⟨#[]⟩, .slice none 0 0, .int .i64 (n : Int)]) (by simp [results, Tryd.results40, go_sem, e0, e1, e2, e3, e4]) rfl ⟨⟨⟨_, rfl, VIn.plain _ _ 4 0 ⟨#[]⟩ (n : Int) (by decide)⟩, ?_⟩, ?_⟩
        · exact Rd.parts (Rd.set5 Hrd2.out (by omega) _ _ _ _ _) (by omega)
        · exact But.set5 (((((((But.refl B w).alloc _).drewN q1).setCell 2 _).setCell 1 _).drewN q2).trans Hb2.out) (Nat.le_refl _) _ _ _ _ _
    · rw [show behindF s mostP (k + 1) = .error (k + 1) by rw [behindF, if_pos hk1, if_neg hd1]]
      rw [show refRes p (.error (k + 1)) = .error (k + 1) from rfl]
      have e1 : decide (bAt s (k + 1) < 49) = true ∨ (decide (bAt s (k + 1) < 49) = false ∧ decide (57 < bAt s (k + 1)) = true) := by
        by_cases hh : bAt s (k + 1) < 49
        · exact .inl (by simp; omega)
        · exact .inr ⟨by simp; omega, by simp; omega⟩
      generalize bAt s (k + 1) = c2 at hnx1 hd1 e1
      have HN1 := Lib.hid hnx1
      clear hnx1 hd1
      rcases e1 with e1 | ⟨e1, e2⟩
      all_goals
        go_enter Tryd.func40, Tryd.ntmps40
        go_wp2_with fail
        refine (HN.out _ (by exact HA.out)).mono ?_
        rintro e w' ⟨rfl, q1, rfl⟩
        go_wp2_with fail
        refine (HN1.out _ (by exact (Rd.at (Rd.set1 (Rd.set2 (show Rd ((w.alloc (.cells #[.int .u8 0, .int .i64 0, .string ⟨#[]⟩, .slice none 0 0, .int .i64 0] 26)).drewN q1) B s k p from HA.out) ((p : Int) + 1)) ((k : Int) + 1)) (by omega : (k : Int) + 1 = ((k + 1 : Nat) : Int))))).mono ?_
        rintro e w' ⟨rfl, q2, rfl⟩
        go_wp2_with fail
        refine (wrong_any B s ((k + 1 : Nat) : Int) ((p : Int) + 1) _ (by exact (Rd.at (Rd.set1 (Rd.set2 (show Rd ((w.alloc (.cells #[.int .u8 0, .int .i64 0, .string ⟨#[]⟩, .slice none 0 0, .int .i64 0] 26)).drewN q1) B s k p from HA.out) ((p : Int) + 1)) ((k : Int) + 1)) (by omega : (k : Int) + 1 = ((k + 1 : Nat) : Int))))).mono ?_
        rintro e w' ⟨rfl, rfl⟩
        go_wp2
        exact ⟨rfl, rfl, (((((But.refl B w).alloc _).drewN q1).setCell 2 _).setCell 1 _).drewN q2⟩
  · rw [show behindF s mostP (k + 1) = .error s.size by rw [behindF, if_neg hk1]]
    rw [show refRes p (.error s.size) = .error s.size from rfl]
    have hnx1 := fun W (hW : Rd W B s ((k + 1 : Nat) : Int) ((p : Int) + 1)) => next_none B s (k + 1) ((p : Int) + 1) W hW hk1
    have HN1 := Lib.hid hnx1
    clear hnx1
    go_enter Tryd.func40, Tryd.ntmps40
    go_wp2_with fail
    refine (HN.out _ (by exact HA.out)).mono ?_
    rintro e w' ⟨rfl, q1, rfl⟩
    go_wp2_with fail
    refine (HN1.out _ (by exact (Rd.at (Rd.set1 (Rd.set2 (show Rd ((w.alloc (.cells #[.int .u8 0, .int .i64 0, .string ⟨#[]⟩, .slice none 0 0, .int .i64 0] 26)).drewN q1) B s k p from HA.out) ((p : Int) + 1)) ((k : Int) + 1)) (by omega : (k : Int) + 1 = ((k + 1 : Nat) : Int))))).mono ?_
    rintro e w' ⟨rfl, q2, rfl⟩
    go_wp2
    exact ⟨rfl, rfl, (((((But.refl B w).alloc _).drewN q1).setCell 2 _).setCell 1 _).drewN q2⟩
set_option maxRecDepth 100000 in
theorem val_wrong (B : Nat) (s : ByteArray) (k p : Nat) (dd : Int) (w : World) (_hS : s.size ≤ 140737488351232) (h : Rd w B s k p) (hk : k < s.size) (_hp : p < 512) (h95 : ¬ bAt s k = 95) (h45 : ¬ bAt s k = 45) (hdg : digitI (bAt s k) = false) (h35 : ¬ bAt s k = 35) (h34 : ¬ bAt s k = 34) (h91 : ¬ (bAt s k = 91 ∧ dd < 16)) :
    Calls Tryd.prog 40 #[.pointer (some ⟨B, 0, none⟩), .int .i64 dd] w (ValPost B s (.error k) w) := by
  have hlt := h.lt
  have hA : Rd (w.alloc (.cells #[.int .u8 0, .int .i64 0, .string ⟨#[]⟩, .slice none 0 0, .int .i64 0] 26)) B s k p := h.alloc _
  have c1 := hA.c1
  have c2 := hA.c2
  have f1 := hA.f 1
  have f2 := hA.f 2
  have hnx := fun W (hW : Rd W B s k p) => next_ok B s k p W hW hk
  have t0 : (bAt s k == 95) = false := by simpa using h95
  have t1 : (bAt s k == 45) = false := by simpa using h45
  have t2 : (bAt s k == 35) = false := by simpa using h35
  have t3 : (bAt s k == 34) = false := by simpa using h34
  have t4 : decide (48 ≤ bAt s k) = false ∨ (decide (48 ≤ bAt s k) = true ∧ decide (bAt s k ≤ 57) = false) := by
    unfold digitI at hdg
    cases hh : decide (48 ≤ bAt s k) with
    | false => exact .inl rfl
    | true => rw [hh] at hdg; exact .inr ⟨rfl, by simpa using hdg⟩
  have t5 : (bAt s k == 91) = false ∨ ((bAt s k == 91) = true ∧ decide (dd < 16) = false) := by
    cases hh : bAt s k == 91 with
    | false => exact .inl rfl
    | true => exact .inr ⟨rfl, by simp; have : ¬ dd < 16 := fun h => h91 ⟨by simpa using hh, h⟩; omega⟩
  clear h95 h45 hdg h35 h34 h91
  generalize bAt s k = c at *
  have HN := Lib.hid hnx
  have HA := Lib.hid hA
  clear hnx hA
  rcases t4 with t4 | ⟨t4, t6⟩
  all_goals rcases t5 with t5 | ⟨t5, t7⟩
  all_goals
    go_enter Tryd.func40, Tryd.ntmps40
    go_wp2_with fail
    refine (HN.out _ (by exact HA.out)).mono ?_
    rintro e w' ⟨rfl, q1, rfl⟩
    go_wp2_with fail
    refine (wrong_any B s k p _ (by exact HA.out)).mono ?_
    rintro e w' ⟨rfl, rfl⟩
    go_wp2
    exact ⟨rfl, rfl, ((But.refl B w).alloc _).drewN q1⟩
set_option maxRecDepth 100000 in
theorem val_end (B : Nat) (s : ByteArray) (k p : Nat) (dd : Int) (w : World) (_hS : s.size ≤ 140737488351232) (h : Rd w B s k p) (hk : ¬ k < s.size) (_hp : p < 512) (_hdd : True) :
    Calls Tryd.prog 40 #[.pointer (some ⟨B, 0, none⟩), .int .i64 dd] w (ValPost B s (.error s.size) w) := by
  have hlt := h.lt
  have hA : Rd (w.alloc (.cells #[.int .u8 0, .int .i64 0, .string ⟨#[]⟩, .slice none 0 0, .int .i64 0] 26)) B s k p := h.alloc _
  have c1 := hA.c1
  have c2 := hA.c2
  have f1 := hA.f 1
  have f2 := hA.f 2
  have hnx := fun W (hW : Rd W B s k p) => next_none B s k p W hW hk
  have HN := Lib.hid hnx
  have HA := Lib.hid hA
  clear hnx hA
  go_enter Tryd.func40, Tryd.ntmps40
  go_wp2_with fail
  refine (HN.out _ (by exact HA.out)).mono ?_
  rintro e w' ⟨rfl, q1, rfl⟩
  go_wp2
  exact ⟨rfl, rfl, ((But.refl B w).alloc _).drewN q1⟩
end Go.Proofs.YtmiipfdndgjndaaDoor
