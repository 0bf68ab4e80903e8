/- The contract of the reference's value: texts, lists: printed by gen_rvalue.py. -/
import Derived.Test.YtmiipfdndgjndaaDoorRV
import Derived.Deep.RegionLaw
namespace Go.Proofs.YtmiipfdndgjndaaDoor
open Go.RowKit Go.Lib
set_option maxHeartbeats 1000000
def RvTxt (B : Nat) (s : ByteArray) (room : Int) (res : Except Nat (List UInt8 × Nat)) (w : World) (e : Ending) (w' : World) : Prop :=
  (match res with
    | .ok (b, k') => (∃ cs : List Value, e = .returned (.agg cs.toArray) ∧ VIn w' (NewB w.heap.size w') (.text ⟨b.toArray⟩) cs) ∧ Rr w' B s (k' : Int) false room
    | .error q => (∃ (xk xn : Int) (xs : ByteArray) (xA : Option Addr) (xm xc : Nat) (xr : Int), e = .returned (.agg #[.int .u8 xk, .int .i64 xn, .string xs, .slice xA xm xc, .int .i64 xr])) ∧ ∃ st rm, Rr w' B s (q : Int) st rm ∧ (st = false → q < s.size ∧ digitI (bAt s q) = true)) ∧ But B w w'
theorem rnext_stuck (B : Nat) (s : ByteArray) (a r : Int) (w : World) (h : Rr w B s a true r) : Calls Tryd.prog 67 #[.pointer (some ⟨B, 0, none⟩)] w fun e w' => e = .returned (.int .u8 0) ∧ ∃ q, w.drewN q = w' := by
  have c0 := h.c0
  have c1 := h.c1
  have c2 := h.c2
  go_enter Tryd.func67, Tryd.ntmps67
  go_wp2
  go_quiet (fail)
  go_wp2
  go_ret
  exact ⟨rfl, _, rfl⟩
theorem ron_stuck (B : Nat) (s : ByteArray) (a r : Int) (b : Bool) (w : World) (h : Rr w B s a true r) : Calls Tryd.prog 69 #[.pointer (some ⟨B, 0, none⟩), .bool b] w fun e w' => e = .returned (.bool false) ∧ ∃ q, (w.drewN q).setCell ⟨B, 2, none⟩ (.bool true) = w' := by
  have c0 := h.c0
  have c1 := h.c1
  have c2 := h.c2
  have f2 := h.f 2
  go_enter Tryd.func69, Tryd.ntmps69
  go_wp2
  go_quiet (fail)
  go_wp2
  go_ret
  exact ⟨rfl, _, rfl⟩
set_option maxRecDepth 100000 in
theorem rval_text (B : Nat) (s : ByteArray) (k : Nat) (room dd : Int) (w : World) (hS : s.size ≤ 140737488351232) (h : Rr w B s k false room) (hr : 1 ≤ room) (hr2 : room ≤ 512) (hk : k < s.size) (hc : bAt s k = 34) :
    Calls Tryd.prog 42 #[.pointer (some ⟨B, 0, none⟩), .int .i64 dd] w (RvTxt B s (room - 1) (quotedF s (fullL 256) k) w) := by
  have hlt := h.lt
  have hA : Rr (w.alloc (.cells #[.int .u8 0, .int .i64 0, .string ⟨#[]⟩, .slice none 0 0, .int .i64 0] 26)) B s k false room := h.alloc _
  have c1 := hA.c1
  have c2 := hA.c2
  have c3 := hA.c3
  have f1 := hA.f 1
  have f2 := hA.f 2
  have f3 := hA.f 3
  have tr : decide (room < 1) = false := by simp; omega
  have hnx := fun W (hW : Rr W B s k false room) => rnext_any B s k room W hW
  rw [hc] at hnx
  have HN := Lib.hid hnx
  have HA := Lib.hid hA
  clear hnx hA
  have HQ := Lib.hid (fun W (hW : Rr W B s k false (room - 1)) => rquoted_any B s k (room - 1) 256 W hS hW (by omega))
  obtain ⟨res, hres⟩ : ∃ res, quotedF s (fullL 256) k = res := ⟨_, rfl⟩
  rw [hres] at HQ ⊢
  have HL := Lib.hid (fun b k' (e : res = .ok (b, k')) => (quotedF_inv s (fullL 256) k b k' (hres.trans e)).2)
  clear hres
  cases res with
  | error q =>
    go_enter Tryd.func42, Tryd.ntmps42
    go_wp2_with fail
    refine (HN.out _ (by exact HA.out)).mono ?_
    rintro e w' ⟨rfl, q1, rfl⟩
    go_wp2_with fail
    refine (HQ.out _ (by exact (Rr.set3 (show Rr ((w.alloc (.cells #[.int .u8 0, .int .i64 0, .string ⟨#[]⟩, .slice none 0 0, .int .i64 0] 26)).drewN q1) B s (k : Int) false room from HA.out) (room - 1)))).mono ?_
    have h5 : (((w.alloc (.cells #[.int .u8 0, .int .i64 0, .string ⟨#[]⟩, .slice none 0 0, .int .i64 0] 26)).drewN q1).setCell ⟨B, 3, none⟩ (.int .i64 (room - 1))).heap[w.heap.size]? = _ := ((Below.heap_setCell _ _ _ _ (by show w.heap.size ≠ B; omega)).trans (heap_alloc_new w (.cells #[.int .u8 0, .int .i64 0, .string ⟨#[]⟩, .slice none 0 0, .int .i64 0] 26)))
    have H5 := Lib.hid h5
    clear h5
    rintro e w2 ⟨⟨rfl, hrd2⟩, hb2⟩
    have h5 := (hb2.block w.heap.size (by simp [World.setCell]) (by omega)).trans H5.out
    have z0 := blk_cell h5 0
    have z1 := blk_cell h5 1
    have z2 := blk_cell h5 2
    have z3 := blk_cell h5 3
    have z4 := blk_cell h5 4
    have zf : ∀ i, w2.frozen? ⟨w.heap.size, i, none⟩ = false := fun i => by simp [World.frozen?, h5]
    have zf0 := zf 0
    have zf1 := zf 1
    have zf2 := zf 2
    have zf3 := zf 3
    have zf4 := zf 4
    have H5b := Lib.hid h5
    have HR2 := Lib.hid hrd2
    have Hb2 := Lib.hid hb2
    clear h5 hrd2 hb2 zf
    go_wp2_with fail
    have h5 := H5b.out
    have h6 := set5 h5 (.int .u8 2) (.int .i64 0) (.string ⟨#[]⟩) (.slice none 0 0) (.int .i64 0)
    have e0 := blk_cell h6 0
    have e1 := blk_cell h6 1
    have e2 := blk_cell h6 2
    have e3 := blk_cell h6 3
    have e4 := blk_cell h6 4
    refine bodyPost_ret (v := .agg #[.int .u8 2, .int .i64 0, .string ⟨#[]⟩, .slice none 0 0, .int .i64 0]) (by simp [results, Tryd.results42, go_sem, e0, e1, e2, e3, e4]) rfl ⟨⟨⟨_, _, _, _, _, _, _, rfl⟩, true, room - 1, ?_, fun h => by cases h⟩, ?_⟩
    · exact Rr.set5 HR2.out (by omega) _ _ _ _ _
    · exact But.set5 (((((But.refl B w).alloc _).drewN q1).setCell 3 _).trans Hb2.out) (Nat.le_refl _) _ _ _ _ _
  | ok rr =>
    obtain ⟨b, k'⟩ := rr
    have hbl : b.length ≤ 256 := by
      by_cases hb : b.length ≤ 256
      · exact hb
      · have := HL.out b k' rfl 256 (by omega)
        simp [fullL] at this
    have hsb : (⟨b.toArray⟩ : ByteArray).size ≤ 140737488351232 := by rw [size_arr]; omega
    clear hbl
    go_enter Tryd.func42, Tryd.ntmps42
    go_wp2_with fail
    refine (HN.out _ (by exact HA.out)).mono ?_
    rintro e w' ⟨rfl, q1, rfl⟩
    go_wp2_with fail
    refine (HQ.out _ (by exact (Rr.set3 (show Rr ((w.alloc (.cells #[.int .u8 0, .int .i64 0, .string ⟨#[]⟩, .slice none 0 0, .int .i64 0] 26)).drewN q1) B s (k : Int) false room from HA.out) (room - 1)))).mono ?_
    have h5 : (((w.alloc (.cells #[.int .u8 0, .int .i64 0, .string ⟨#[]⟩, .slice none 0 0, .int .i64 0] 26)).drewN q1).setCell ⟨B, 3, none⟩ (.int .i64 (room - 1))).heap[w.heap.size]? = _ := ((Below.heap_setCell _ _ _ _ (by show w.heap.size ≠ B; omega)).trans (heap_alloc_new w (.cells #[.int .u8 0, .int .i64 0, .string ⟨#[]⟩, .slice none 0 0, .int .i64 0] 26)))
    have H5 := Lib.hid h5
    clear h5
    rintro e w2 ⟨⟨rfl, hrd2⟩, hb2⟩
    have h5 := (hb2.block w.heap.size (by simp [World.setCell]) (by omega)).trans H5.out
    have z0 := blk_cell h5 0
    have z1 := blk_cell h5 1
    have z2 := blk_cell h5 2
    have z3 := blk_cell h5 3
    have z4 := blk_cell h5 4
    have zf : ∀ i, w2.frozen? ⟨w.heap.size, i, none⟩ = false := fun i => by simp [World.frozen?, h5]
    have zf0 := zf 0
    have zf1 := zf 1
    have zf2 := zf 2
    have zf3 := zf 3
    have zf4 := zf 4
    have H5b := Lib.hid h5
    have HR2 := Lib.hid hrd2
    have Hb2 := Lib.hid hb2
    clear h5 hrd2 hb2 zf
    go_wp2_with fail
    have h5 := H5b.out
    have h6 := set5 h5 (.int .u8 2) (.int .i64 0) (.string ⟨b.toArray⟩) (.slice none 0 0) (.int .i64 0)
    have e0 := blk_cell h6 0
    have e1 := blk_cell h6 1
    have e2 := blk_cell h6 2
    have e3 := blk_cell h6 3
    have e4 := blk_cell h6 4
    refine bodyPost_ret (v := .agg #[.int .u8 2, .int .i64 0, .string ⟨b.toArray⟩, .slice none 0 0, .int .i64 0]) (by simp [results, Tryd.results42, go_sem, e0, e1, e2, e3, e4]) rfl ⟨⟨⟨_, rfl, VIn.plain _ _ 2 0 ⟨b.toArray⟩ 0 hsb⟩, ?_⟩, ?_⟩
    · exact Rr.set5 HR2.out (by omega) _ _ _ _ _
    · exact But.set5 (((((But.refl B w).alloc _).drewN q1).setCell 3 _).trans Hb2.out) (Nat.le_refl _) _ _ _ _ _
set_option maxRecDepth 100000 in
theorem rval_wrong (B : Nat) (s : ByteArray) (k : Nat) (room dd : Int) (w : World) (h : Rr w B s k false room) (hr : 1 ≤ room) (hr2 : room ≤ 512) (h95 : ¬ bAt s k = 95) (h35 : ¬ bAt s k = 35) (h45 : ¬ bAt s k = 45) (hdg : digitI (bAt s k) = false) (h34 : ¬ bAt s k = 34) (hc : ¬ bAt s k = 91 ∨ ¬ 0 < dd) :
    Calls Tryd.prog 42 #[.pointer (some ⟨B, 0, none⟩), .int .i64 dd] w fun e w' => (∃ (xk xn : Int) (xs : ByteArray) (xA : Option Addr) (xm xc : Nat) (xr : Int), e = .returned (.agg #[.int .u8 xk, .int .i64 xn, .string xs, .slice xA xm xc, .int .i64 xr])) ∧ Rr w' B s (k : Int) true (room - 1) ∧ But B w w' := by
  have hlt := h.lt
  have hA : Rr (w.alloc (.cells #[.int .u8 0, .int .i64 0, .string ⟨#[]⟩, .slice none 0 0, .int .i64 0] 26)) B s k false room := h.alloc _
  have c1 := hA.c1
  have c2 := hA.c2
  have c3 := hA.c3
  have f1 := hA.f 1
  have f2 := hA.f 2
  have f3 := hA.f 3
  have tr : decide (room < 1) = false := by simp; omega
  have hnx := fun W (hW : Rr W B s k false room) => rnext_any B s k room W hW
  have tt : (bAt s k == 91) = false ∨ ((bAt s k == 91) = true ∧ decide (0 < dd) = false) := by
    rcases hc with hc | hc
    · exact .inl (by simpa using hc)
    · cases hx : (bAt s k == 91) with
      | false => exact .inl rfl
      | true => exact .inr ⟨rfl, by simpa using hc⟩
  have t0 : (bAt s k == 95) = false := by simpa using h95
  have t1 : (bAt s k == 35) = false := by simpa using h35
  have t2 : (bAt s k == 45) = false := by simpa using h45
  have t3 : (bAt s k == 34) = false := by simpa using h34
  have t4 : decide (48 ≤ bAt s k) = false ∨ (decide (48 ≤ bAt s k) = true ∧ decide (bAt s k ≤ 57) = false) := by
    unfold digitI at hdg
    cases hx : decide (48 ≤ bAt s k) with
    | false => exact .inl rfl
    | true => rw [hx] at hdg; exact .inr ⟨rfl, by simpa using hdg⟩
  clear hc h95 h35 h45 h34 hdg
  generalize bAt s k = c at hnx tt t0 t1 t2 t3 t4
  have HN := Lib.hid hnx
  have HA := Lib.hid hA
  clear hnx hA
  rcases t4 with t4 | ⟨t4, t5⟩ <;> rcases tt with t6 | ⟨t6, t7⟩
  all_goals
    go_enter Tryd.func42, Tryd.ntmps42
    go_wp2_with fail
    refine (HN.out _ (by exact HA.out)).mono ?_
    rintro e w' ⟨rfl, q1, rfl⟩
    go_wp2_with fail
    refine (ron_no B s k _ _ (by exact (Rr.set3 (show Rr ((w.alloc (.cells #[.int .u8 0, .int .i64 0, .string ⟨#[]⟩, .slice none 0 0, .int .i64 0] 26)).drewN q1) B s (k : Int) false room from HA.out) (room - 1)))).mono ?_
    rintro e w' ⟨rfl, q2, rfl⟩
    go_wp2_with fail
    have h5 : (((((w.alloc (.cells #[.int .u8 0, .int .i64 0, .string ⟨#[]⟩, .slice none 0 0, .int .i64 0] 26)).drewN q1).setCell ⟨B, 3, none⟩ (.int .i64 (room - 1))).drewN q2).setCell ⟨B, 2, none⟩ (.bool true)).heap[w.heap.size]? = _ := (Below.heap_setCell _ _ _ _ (by show w.heap.size ≠ B; omega)).trans ((Below.heap_setCell _ _ _ _ (by show w.heap.size ≠ B; omega)).trans (heap_alloc_new w (.cells #[.int .u8 0, .int .i64 0, .string ⟨#[]⟩, .slice none 0 0, .int .i64 0] 26)))
    have h6 := set5 h5 (.int .u8 0) (.int .i64 0) (.string ⟨#[]⟩) (.slice none 0 0) (.int .i64 0)
    have e0 := blk_cell h6 0
    have e1 := blk_cell h6 1
    have e2 := blk_cell h6 2
    have e3 := blk_cell h6 3
    have e4 := blk_cell h6 4
    refine bodyPost_ret (v := .agg #[.int .u8 0, .int .i64 0, .string ⟨#[]⟩, .slice none 0 0, .int .i64 0]) (by simp [results, Tryd.results42, go_sem, e0, e1, e2, e3, e4]) rfl ⟨⟨_, _, _, _, _, _, _, rfl⟩, ?_, ?_⟩
    · exact Rr.set5 (Rr.set2 (show Rr ((((w.alloc (.cells #[.int .u8 0, .int .i64 0, .string ⟨#[]⟩, .slice none 0 0, .int .i64 0] 26)).drewN q1).setCell ⟨B, 3, none⟩ (.int .i64 (room - 1))).drewN q2) B s (k : Int) false (room - 1) from (Rr.set3 (show Rr ((w.alloc (.cells #[.int .u8 0, .int .i64 0, .string ⟨#[]⟩, .slice none 0 0, .int .i64 0] 26)).drewN q1) B s (k : Int) false room from HA.out) (room - 1))) true) (by omega) _ _ _ _ _
    · exact But.set5 ((((((But.refl B w).alloc _).drewN q1).setCell 3 _).drewN q2).setCell 2 _) (Nat.le_refl _) _ _ _ _ _
end Go.Proofs.YtmiipfdndgjndaaDoor
