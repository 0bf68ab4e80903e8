/- The contract of the program's token, the rest: printed by gen_token.py. -/
import Derived.Test.YtmiipfdndgjndaaDoorR
import Derived.Outline
namespace Go.Proofs.YtmiipfdndgjndaaDoor
open Go.RowKit Go.Lib
set_option maxHeartbeats 1000000
theorem set5d {W : World} {H : Nat} {t : TypeId} {x0 x1 x2 x3 x4 : Value} (h : W.heap[H]? = some (.cells #[x0, x1, x2, x3, x4] t (0, 0))) (y0 y1 y2 y3 y4 : Value) :
    (((((W.setCell ⟨H, 0, none⟩ y0).setCell ⟨H, 1, none⟩ y1).setCell ⟨H, 2, none⟩ y2).setCell ⟨H, 3, none⟩ y3).setCell ⟨H, 4, none⟩ y4).drew.heap[H]? = some (.cells #[y0, y1, y2, y3, y4] t (0, 0)) := set5 h y0 y1 y2 y3 y4
theorem Rd.set5d {W : World} {B H : Nat} {s : ByteArray} {a p : Int} (h : Rd W B s a p) (hB : B ≠ H) (y0 y1 y2 y3 y4 : Value) :
    Rd (((((W.setCell ⟨H, 0, none⟩ y0).setCell ⟨H, 1, none⟩ y1).setCell ⟨H, 2, none⟩ y2).setCell ⟨H, 3, none⟩ y3).setCell ⟨H, 4, none⟩ y4).drew B s a p := h.set5 hB y0 y1 y2 y3 y4
theorem But.set5d {w W : World} {B H : Nat} (h : But B w W) (hH : w.heap.size ≤ H) (y0 y1 y2 y3 y4 : Value) :
    But B w (((((W.setCell ⟨H, 0, none⟩ y0).setCell ⟨H, 1, none⟩ y1).setCell ⟨H, 2, none⟩ y2).setCell ⟨H, 3, none⟩ y3).setCell ⟨H, 4, none⟩ y4).drew := (h.set5 hH y0 y1 y2 y3 y4).same rfl rfl rfl rfl
set_option maxRecDepth 100000 in
theorem tok_sign (B : Nat) (s : ByteArray) (k : Nat) (p : Int) (w : World) (hS : s.size ≤ 140737488351232) (h : Rd w B s k p) (hk : k < s.size) (h1 : letterI (bAt s k) = false) (h2 : digitI (bAt s k) = false) (h3 : ¬ bAt s k = 45) (h4 : ¬ bAt s k = 35) (h5 : ¬ bAt s k = 34) (h6 : signI (bAt s k) = true) :
    Calls Tryd.prog 50 #[.pointer (some ⟨B, 0, none⟩), .int .u8 (bAt s k)] w (TokPost B s p (.ok (⟨5, k, 0, s.extract k (k + 1), 0⟩, k + 1)) w) := by
  obtain ⟨z0, z1, hrd1, hbt1, hsz1⟩ := tok_start B s k p w h
  have hlt := h.lt
  have c0 := h.c0
  have c1 := h.c1
  have f1 := h.f 1
  have Z0 := Lib.hid z0
  have Z1 := Lib.hid z1
  have Hrd1 := Lib.hid hrd1
  have Hbt1 := Lib.hid hbt1
  have Hsz1 := Lib.hid hsz1
  clear z0 z1 hrd1 hbt1 hsz1
  have a1 := letter_any (bAt s k)
  have a2 := digit_any (bAt s k)
  have a3 := sign_any (bAt s k)
  rw [h1] at a1
  rw [h2] at a2
  rw [h6] at a3
  have t1 : (bAt s k == 45) = false := by simpa using h3
  have t2 : (bAt s k == 35) = false := by simpa using h4
  have t3 : (bAt s k == 34) = false := by simpa using h5
  clear h1 h2 h3 h4 h5 h6
  generalize bAt s k = c at *
  have A1 := Lib.hid a1
  have A2 := Lib.hid a2
  have A3 := Lib.hid a3
  have ra1 := Hrd1.out.c1
  have ra2 := Hrd1.out.f 1
  obtain ⟨zA0, zA1, hrdA, hbtB, hszA⟩ := tok_start' B s (k : Int) ((k + 1 : Nat) : Int) p (w.setCell ⟨B, 1, none⟩ (.int .i64 ((k : Int) + 1))) w.heap.size (by simp [World.setCell]) (Rd.at (Rd.set1 h _) (by omega))
  have hbtA : But B w (((w.setCell ⟨B, 1, none⟩ (.int .i64 ((k : Int) + 1))).alloc (.cells #[.int .u8 0, .int .i64 0, .int .i64 0, .string ⟨#[]⟩, .int .i64 0] 56)).alloc (.cells #[.int .u8 0, .int .i64 (k : Int), .int .i64 0, .string ⟨#[]⟩, .int .i64 0] 56)) := ((But.refl B w).setCell 1 _).trans hbtB
  have q0 := hrdA.c0
  have q1 := hrdA.c1
  have hcast : ((k + 1 : Nat) : Int) = (k : Int) + 1 := by omega
  rw [hcast] at q1
  have y0 := blk_cell zA1 0
  have y1 := blk_cell zA1 1
  have y2 := blk_cell zA1 2
  have y3 := blk_cell zA1 3
  have y4 := blk_cell zA1 4
  have xx0 := blk_cell zA0 0
  have xxf0 := blk_unfrozen zA0 0
  have xx1 := blk_cell zA0 1
  have xxf1 := blk_unfrozen zA0 1
  have xx2 := blk_cell zA0 2
  have xxf2 := blk_unfrozen zA0 2
  have xx3 := blk_cell zA0 3
  have xxf3 := blk_unfrozen zA0 3
  have xx4 := blk_cell zA0 4
  have xxf4 := blk_unfrozen zA0 4
  have yf0 := blk_unfrozen zA1 0
  have yf2 := blk_unfrozen zA1 2
  have yf3 := blk_unfrozen zA1 3
  have yf4 := blk_unfrozen zA1 4
  have HrdA := Lib.hid hrdA
  have HbtA := Lib.hid hbtA
  have ZA0 := Lib.hid zA0
  have ZA1 := Lib.hid zA1
  have Hcast := Lib.hid hcast
  have g0 : (0 : Int) ≤ (k : Int) := by omega
  have g1 : (k : Int) ≤ (k : Int) + 1 := by omega
  have g2 : (k : Int) + 1 ≤ (s.size : Int) := by omega
  have hex : ((k : Int) + 1).toNat = k + 1 := by omega
  clear a1 a2 a3 hrdA hbtA hbtB zA0 zA1 hszA hcast
  go_enter Tryd.func50, Tryd.ntmps50
  go_wp2_with fail
  refine (A1.out _).mono ?_
  rintro e w' ⟨rfl, rfl⟩
  go_wp2_with fail
  refine (A2.out _).mono ?_
  rintro e w' ⟨rfl, rfl⟩
  go_wp2_with fail
  refine (A3.out _).mono ?_
  rintro e w' ⟨rfl, rfl⟩
  go_wp2_with fail
  generalize (((w.setCell ⟨B, 1, none⟩ (.int .i64 ((k : Int) + 1))).alloc (.cells #[.int .u8 0, .int .i64 0, .int .i64 0, .string ⟨#[]⟩, .int .i64 0] 56)).alloc (.cells #[.int .u8 0, .int .i64 (k : Int), .int .i64 0, .string ⟨#[]⟩, .int .i64 0] 56)) = W at *
  have hne1 : ¬ B = w.heap.size + 1 := by omega
  have hne2 : ¬ w.heap.size + 1 = B := by omega
  go_region_held_law (fun w' => w'.cell? ⟨B, 0, none⟩ = some (.string s) ∧ w'.cell? ⟨B, 1, none⟩ = some (.int .i64 ((k : Int) + 1))) (first | exact ⟨q0, q1⟩ | go_keep) ((fail))
  go_wp2_with fail
  have hh0 := (Below.heap_setCell _ ⟨w.heap.size + 1, 3, none⟩ (.string (s.extract k (k + 1))) w.heap.size (by show w.heap.size ≠ w.heap.size + 1; omega)).trans ((Below.heap_setCell W ⟨w.heap.size + 1, 0, none⟩ (.int .u8 5) w.heap.size (by show w.heap.size ≠ w.heap.size + 1; omega)).trans ZA0.out)
  have h6 := set5d hh0 (.int .u8 5) (.int .i64 (k : Int)) (.int .i64 0) (.string (s.extract k (k + 1))) (.int .i64 0)
  have e0 := blk_cell h6 0
  have e1 := blk_cell h6 1
  have e2 := blk_cell h6 2
  have e3 := blk_cell h6 3
  have e4 := blk_cell h6 4
  refine bodyPost_ret (v := .agg #[.int .u8 5, .int .i64 (k : Int), .int .i64 0, .string (s.extract k (k + 1)), .int .i64 0]) (by simp [results, Tryd.results50, go_sem, e0, e1, e2, e3, e4]) rfl ⟨⟨rfl, ?_⟩, ?_⟩
  · exact Rd.set5d ((HrdA.out.far (q := ⟨w.heap.size + 1, 0, none⟩) (by show B ≠ w.heap.size + 1; omega) (.int .u8 5)).far (q := ⟨w.heap.size + 1, 3, none⟩) (by show B ≠ w.heap.size + 1; omega) (.string (s.extract k (k + 1)))) (by omega) _ _ _ _ _
  · exact But.set5d ((HbtA.out.setNew (p := ⟨w.heap.size + 1, 0, none⟩) (by simp) (.int .u8 5)).setNew (p := ⟨w.heap.size + 1, 3, none⟩) (by simp) (.string (s.extract k (k + 1)))) (Nat.le_refl _) _ _ _ _ _
end Go.Proofs.YtmiipfdndgjndaaDoor
