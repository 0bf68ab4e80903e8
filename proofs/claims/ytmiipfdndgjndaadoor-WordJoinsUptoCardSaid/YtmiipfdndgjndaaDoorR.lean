/- The contract of the program's token: printed by gen_token.py. -/
import Derived.Test.YtmiipfdndgjndaaDoorQN
import Derived.Test.YtmiipfdndgjndaaDoorM
import Derived.Deep.RegionHeldLaw
namespace Go.Proofs.YtmiipfdndgjndaaDoor
open Go.RowKit Go.Lib
set_option maxHeartbeats 1000000
theorem blk_unfrozen {w : World} {b : Nat} {cs : Array Value} {t : TypeId} (h : w.heap[b]? = some (.cells cs t (0, 0))) (i : Nat) : w.frozen? ⟨b, i, none⟩ = false := by simp [World.frozen?, h]
def tokV (t : T) : Value := .agg #[.int .u8 t.kind, .int .i64 t.place, .int .i64 t.n, .string t.s, .int .i64 t.r]
def TokPost (B : Nat) (s : ByteArray) (p : Int) (r : Except Nat (T × Nat)) (w : World) (e : Ending) (w' : World) : Prop :=
  (match r with | .ok (t, k') => e = .returned (tokV t) ∧ Rd w' B s (k' : Int) p | .error q => e = .panicked (stuckV (q : Int))) ∧ But B w w'
def numTok (k k2 : Nat) : Option Int → Except Nat (T × Nat)
  | none => .error k
  | some n => .ok (⟨2, k, n, ⟨#[]⟩, 0⟩, k2)
def refTok (k k2 : Nat) : Option Int → Except Nat (T × Nat)
  | none => .error k
  | some n => if n < 1 then .error k else .ok (⟨4, k, 0, ⟨#[]⟩, n⟩, k2)
theorem tok_start' (B : Nat) (s : ByteArray) (k0 : Int) (a : Int) (p : Int) (w : World) (n : Nat) (hn : w.heap.size = n) (h : Rd w B s a p) :
    ((w.alloc (.cells #[.int .u8 0, .int .i64 0, .int .i64 0, .string ⟨#[]⟩, .int .i64 0] 56)).alloc (.cells #[.int .u8 0, .int .i64 k0, .int .i64 0, .string ⟨#[]⟩, .int .i64 0] 56)).heap[n]? = some (.cells #[.int .u8 0, .int .i64 0, .int .i64 0, .string ⟨#[]⟩, .int .i64 0] 56 (0, 0)) ∧ ((w.alloc (.cells #[.int .u8 0, .int .i64 0, .int .i64 0, .string ⟨#[]⟩, .int .i64 0] 56)).alloc (.cells #[.int .u8 0, .int .i64 k0, .int .i64 0, .string ⟨#[]⟩, .int .i64 0] 56)).heap[n + 1]? = some (.cells #[.int .u8 0, .int .i64 k0, .int .i64 0, .string ⟨#[]⟩, .int .i64 0] 56 (0, 0)) ∧ Rd ((w.alloc (.cells #[.int .u8 0, .int .i64 0, .int .i64 0, .string ⟨#[]⟩, .int .i64 0] 56)).alloc (.cells #[.int .u8 0, .int .i64 k0, .int .i64 0, .string ⟨#[]⟩, .int .i64 0] 56)) B s a p ∧ But B w ((w.alloc (.cells #[.int .u8 0, .int .i64 0, .int .i64 0, .string ⟨#[]⟩, .int .i64 0] 56)).alloc (.cells #[.int .u8 0, .int .i64 k0, .int .i64 0, .string ⟨#[]⟩, .int .i64 0] 56)) ∧ ((w.alloc (.cells #[.int .u8 0, .int .i64 0, .int .i64 0, .string ⟨#[]⟩, .int .i64 0] 56)).alloc (.cells #[.int .u8 0, .int .i64 k0, .int .i64 0, .string ⟨#[]⟩, .int .i64 0] 56)).heap.size = n + 2 := by
  subst hn
  refine ⟨(Below.heap_alloc _ _ _ (by simp)).trans (heap_alloc_new w _), ?_, (h.alloc _).alloc _, ((But.refl B w).alloc _).alloc _, by simp⟩
  have := heap_alloc_new (w.alloc (.cells #[.int .u8 0, .int .i64 0, .int .i64 0, .string ⟨#[]⟩, .int .i64 0] 56)) (.cells #[.int .u8 0, .int .i64 k0, .int .i64 0, .string ⟨#[]⟩, .int .i64 0] 56)
  rw [World.size_alloc] at this
  exact this
theorem tok_start (B : Nat) (s : ByteArray) (k : Nat) (p : Int) (w : World) (h : Rd w B s k p) :
    ((w.alloc (.cells #[.int .u8 0, .int .i64 0, .int .i64 0, .string ⟨#[]⟩, .int .i64 0] 56)).alloc (.cells #[.int .u8 0, .int .i64 (k : Int), .int .i64 0, .string ⟨#[]⟩, .int .i64 0] 56)).heap[w.heap.size]? = some (.cells #[.int .u8 0, .int .i64 0, .int .i64 0, .string ⟨#[]⟩, .int .i64 0] 56 (0, 0)) ∧ ((w.alloc (.cells #[.int .u8 0, .int .i64 0, .int .i64 0, .string ⟨#[]⟩, .int .i64 0] 56)).alloc (.cells #[.int .u8 0, .int .i64 (k : Int), .int .i64 0, .string ⟨#[]⟩, .int .i64 0] 56)).heap[w.heap.size + 1]? = some (.cells #[.int .u8 0, .int .i64 (k : Int), .int .i64 0, .string ⟨#[]⟩, .int .i64 0] 56 (0, 0)) ∧ Rd ((w.alloc (.cells #[.int .u8 0, .int .i64 0, .int .i64 0, .string ⟨#[]⟩, .int .i64 0] 56)).alloc (.cells #[.int .u8 0, .int .i64 (k : Int), .int .i64 0, .string ⟨#[]⟩, .int .i64 0] 56)) B s k p ∧ But B w ((w.alloc (.cells #[.int .u8 0, .int .i64 0, .int .i64 0, .string ⟨#[]⟩, .int .i64 0] 56)).alloc (.cells #[.int .u8 0, .int .i64 (k : Int), .int .i64 0, .string ⟨#[]⟩, .int .i64 0] 56)) ∧ ((w.alloc (.cells #[.int .u8 0, .int .i64 0, .int .i64 0, .string ⟨#[]⟩, .int .i64 0] 56)).alloc (.cells #[.int .u8 0, .int .i64 (k : Int), .int .i64 0, .string ⟨#[]⟩, .int .i64 0] 56)).heap.size = w.heap.size + 2 :=
  tok_start' B s k k p w _ rfl h
theorem set_field {W : World} {H : Nat} {t : TypeId} {cs : Array Value} (h : W.heap[H]? = some (.cells cs t (0, 0))) (i : Nat) (y : Value) : (W.setCell ⟨H, i, none⟩ y).heap[H]? = some (.cells (cs.setIfInBounds i y) t (0, 0)) := by
  simp [World.setCell, Array.getElem?_modify, h]
set_option maxRecDepth 100000 in
theorem tok_wrong (B : Nat) (s : ByteArray) (k : Nat) (p : Int) (w : World) (_hS : s.size ≤ 140737488351232) (h : Rd w B s k p) (_hk : k < s.size) (h1 : letterI (bAt s k) = false) (h2 : digitI (bAt s k) = false) (h3 : ¬ bAt s k = 45) (h4 : ¬ bAt s k = 35) (h5 : ¬ bAt s k = 34) (h6 : signI (bAt s k) = false) :
    Calls Tryd.prog 50 #[.pointer (some ⟨B, 0, none⟩), .int .u8 (bAt s k)] w (TokPost B s p (.error k) w) := by
  obtain ⟨z0, z1, hrd1, hbt1, hsz1⟩ := tok_start B s k p w h
  have hlt := h.lt
  have c0 := h.c0
  have c1 := h.c1
  have f1 := h.f 1
  have Z0 := Lib.hid z0
  have Z1 := Lib.hid z1
  have Hrd1 := Lib.hid hrd1
  have Hbt1 := Lib.hid hbt1
  have Hsz1 := Lib.hid hsz1
  clear z0 z1 hrd1 hbt1 hsz1
  have a1 := letter_any (bAt s k)
  have a2 := digit_any (bAt s k)
  have a3 := sign_any (bAt s k)
  rw [h1] at a1
  rw [h2] at a2
  rw [h6] at a3
  have t1 : (bAt s k == 45) = false := by simpa using h3
  have t2 : (bAt s k == 35) = false := by simpa using h4
  have t3 : (bAt s k == 34) = false := by simpa using h5
  clear h1 h2 h3 h4 h5 h6
  generalize bAt s k = c at *
  have A1 := Lib.hid a1
  have A2 := Lib.hid a2
  have A3 := Lib.hid a3
  clear a1 a2 a3
  go_enter Tryd.func50, Tryd.ntmps50
  go_wp2_with fail
  refine (A1.out _).mono ?_
  rintro e w' ⟨rfl, rfl⟩
  go_wp2_with fail
  refine (A2.out _).mono ?_
  rintro e w' ⟨rfl, rfl⟩
  go_wp2_with fail
  refine (A3.out _).mono ?_
  rintro e w' ⟨rfl, rfl⟩
  go_wp2_with fail
  refine (wrong_any B s k p _ (by exact Hrd1.out)).mono ?_
  rintro e w' ⟨rfl, rfl⟩
  go_wp2
  exact ⟨rfl, rfl, Hbt1.out⟩
set_option maxRecDepth 100000 in
theorem tok_text (B : Nat) (s : ByteArray) (k : Nat) (p : Int) (w : World) (hS : s.size ≤ 140737488351232) (h : Rd w B s k p) (_hk : k < s.size) (hc : bAt s k = 34) :
    Calls Tryd.prog 50 #[.pointer (some ⟨B, 0, none⟩), .int .u8 (bAt s k)] w (TokPost B s p (match quotedF s (fun n => decide ((s.size : Int) ≤ (n : Int))) k with | .error q => .error q | .ok (b, k') => .ok (⟨3, k, 0, ⟨b.toArray⟩, 0⟩, k')) w) := by
  obtain ⟨z0, z1, hrd1, hbt1, hsz1⟩ := tok_start B s k p w h
  have hlt := h.lt
  have c0 := h.c0
  have c1 := h.c1
  have f1 := h.f 1
  have Z0 := Lib.hid z0
  have Z1 := Lib.hid z1
  have Hrd1 := Lib.hid hrd1
  have Hbt1 := Lib.hid hbt1
  have Hsz1 := Lib.hid hsz1
  clear z0 z1 hrd1 hbt1 hsz1
  have hq := fun W (hW : Rd W B s k p) => quoted_any B s k p (s.size : Int) W hS hW
  rw [hc]
  have a1 := letter_any 34
  have a2 := digit_any 34
  rw [show letterI 34 = false from rfl] at a1
  rw [show digitI 34 = false from rfl] at a2
  clear hc
  have A1 := Lib.hid a1
  have A2 := Lib.hid a2
  clear a1 a2
  cases hQ : quotedF s (fun n => decide ((s.size : Int) ≤ (n : Int))) k with
  | error q =>
    rw [hQ] at hq
    have HQ := Lib.hid hq
    clear hq
    dsimp only
    go_enter Tryd.func50, Tryd.ntmps50
    go_wp2_with fail
    refine (A1.out _).mono ?_
    rintro e w' ⟨rfl, rfl⟩
    go_wp2_with fail
    refine (A2.out _).mono ?_
    rintro e w' ⟨rfl, rfl⟩
    go_wp2_with fail
    refine (HQ.out _ (by exact Hrd1.out)).mono ?_
    rintro e w2 ⟨rfl, hb2⟩
    go_wp2
    exact ⟨rfl, rfl, Hbt1.out.trans hb2⟩
  | ok r =>
    obtain ⟨b, k'⟩ := r
    rw [hQ] at hq
    have HQ := Lib.hid hq
    clear hq
    dsimp only
    go_enter Tryd.func50, Tryd.ntmps50
    go_wp2_with fail
    refine (A1.out _).mono ?_
    rintro e w' ⟨rfl, rfl⟩
    go_wp2_with fail
    refine (A2.out _).mono ?_
    rintro e w' ⟨rfl, rfl⟩
    go_wp2_with fail
    refine (HQ.out _ (by exact Hrd1.out)).mono ?_
    rintro e w2 ⟨⟨rfl, hrd2⟩, hb2⟩
    have z0 := (hb2.block w.heap.size (by rw [Hsz1.out]; omega) (by omega)).trans Z0.out
    have z1 := (hb2.block (w.heap.size + 1) (by rw [Hsz1.out]; omega) (by omega)).trans Z1.out
    have hsz2 := hb2.size
    rw [Hsz1.out] at hsz2
    have y0 := blk_cell z1 0
    have y1 := blk_cell z1 1
    have y2 := blk_cell z1 2
    have y3 := blk_cell z1 3
    have y4 := blk_cell z1 4
    have x0 := blk_cell z0 0
    have xf0 := blk_unfrozen z0 0
    have x1 := blk_cell z0 1
    have xf1 := blk_unfrozen z0 1
    have x2 := blk_cell z0 2
    have xf2 := blk_unfrozen z0 2
    have x3 := blk_cell z0 3
    have xf3 := blk_unfrozen z0 3
    have x4 := blk_cell z0 4
    have xf4 := blk_unfrozen z0 4
    have yf0 := blk_unfrozen z1 0
    have yf2 := blk_unfrozen z1 2
    have yf3 := blk_unfrozen z1 3
    have yf4 := blk_unfrozen z1 4
    have Z0b := Lib.hid z0
    have Z1b := Lib.hid z1
    have Hrd2 := Lib.hid hrd2
    have Hb2 := Lib.hid hb2
    clear z0 z1 hrd2 hb2
    go_wp2_with fail
    have hh0 := (Below.heap_setCell _ ⟨w.heap.size + 1, 3, none⟩ (.string ⟨b.toArray⟩) w.heap.size (by show w.heap.size ≠ w.heap.size + 1; omega)).trans ((Below.heap_setCell w2 ⟨w.heap.size + 1, 0, none⟩ (.int .u8 3) w.heap.size (by show w.heap.size ≠ w.heap.size + 1; omega)).trans Z0b.out)
    have h6 := set5 hh0 (.int .u8 3) (.int .i64 (k : Int)) (.int .i64 0) (.string ⟨b.toArray⟩) (.int .i64 0)
    have e0 := blk_cell h6 0
    have e1 := blk_cell h6 1
    have e2 := blk_cell h6 2
    have e3 := blk_cell h6 3
    have e4 := blk_cell h6 4
    refine bodyPost_ret (v := .agg #[.int .u8 3, .int .i64 (k : Int), .int .i64 0, .string ⟨b.toArray⟩, .int .i64 0]) (by simp [results, Tryd.results50, go_sem, e0, e1, e2, e3, e4]) rfl ⟨⟨rfl, ?_⟩, ?_⟩
    · exact Rd.set5 ((Hrd2.out.far (q := ⟨w.heap.size + 1, 0, none⟩) (by show B ≠ w.heap.size + 1; omega) (.int .u8 3)).far (q := ⟨w.heap.size + 1, 3, none⟩) (by show B ≠ w.heap.size + 1; omega) (.string ⟨b.toArray⟩)) (by omega) _ _ _ _ _
    · exact But.set5 (((Hbt1.out.trans Hb2.out).setNew (p := ⟨w.heap.size + 1, 0, none⟩) (by simp) (.int .u8 3)).setNew (p := ⟨w.heap.size + 1, 3, none⟩) (by simp) (.string ⟨b.toArray⟩)) (Nat.le_refl _) _ _ _ _ _
set_option maxRecDepth 100000 in
theorem tok_pos (B : Nat) (s : ByteArray) (k : Nat) (p : Int) (w : World) (_hS : s.size ≤ 140737488351232) (h : Rd w B s k p) (_hk : k < s.size) (hc : digitI (bAt s k) = true) (hB2 : B ≠ 2) (hE : ErrVar w) (k2 : Nat) (r : Option Int) (hdig : ∀ W, Rd W B s k p → ErrVar W → Calls Tryd.prog 74 #[.pointer (some ⟨B, 0, none⟩), .bool false] W (DigPost B s p k2 r W)) :
    Calls Tryd.prog 50 #[.pointer (some ⟨B, 0, none⟩), .int .u8 (bAt s k)] w (TokPost B s p (numTok k k2 r) w) := by
  obtain ⟨z0, z1, hrd1, hbt1, hsz1⟩ := tok_start B s k p w h
  have hlt := h.lt
  have c0 := h.c0
  have c1 := h.c1
  have f1 := h.f 1
  have Z0 := Lib.hid z0
  have Z1 := Lib.hid z1
  have Hrd1 := Lib.hid hrd1
  have Hbt1 := Lib.hid hbt1
  have Hsz1 := Lib.hid hsz1
  clear z0 z1 hrd1 hbt1 hsz1
  have hcd := (digitI_iff _).1 hc
  have a1 := letter_any (bAt s k)
  have a2 := digit_any (bAt s k)
  rw [show letterI (bAt s k) = false by unfold letterI; simp; omega] at a1
  rw [hc] at a2
  have t45 : (bAt s k == 45) = false := by simp; omega
  clear hc hcd
  generalize bAt s k = c at *
  have A1 := Lib.hid a1
  have A2 := Lib.hid a2
  have HD := Lib.hid hdig
  have hE1 : ErrVar ((w.alloc (.cells #[.int .u8 0, .int .i64 0, .int .i64 0, .string ⟨#[]⟩, .int .i64 0] 56)).alloc (.cells #[.int .u8 0, .int .i64 (k : Int), .int .i64 0, .string ⟨#[]⟩, .int .i64 0] 56)) := hE.but Hbt1.out hB2
  have HE1 := Lib.hid hE1
  clear a1 a2 hdig hE hE1
  cases r with
  | none =>
    rw [show numTok k k2 none = .error k from rfl]
    go_enter Tryd.func50, Tryd.ntmps50
    go_wp2_with fail
    refine (A1.out _).mono ?_
    rintro e w' ⟨rfl, rfl⟩
    go_wp2_with fail
    refine (A2.out _).mono ?_
    rintro e w' ⟨rfl, rfl⟩
    go_wp2_with fail
    refine (HD.out _ (by exact Hrd1.out) (by exact HE1.out)).mono ?_
    rintro e w2 ⟨⟨m, rfl⟩, hrd2, hb2⟩
    go_wp2_with fail
    exact ⟨rfl, rfl, Hbt1.out.trans hb2⟩
  | some n =>
    rw [show numTok k k2 (some n) = .ok (⟨2, k, n, ⟨#[]⟩, 0⟩, k2) from rfl]
    go_enter Tryd.func50, Tryd.ntmps50
    go_wp2_with fail
    refine (A1.out _).mono ?_
    rintro e w' ⟨rfl, rfl⟩
    go_wp2_with fail
    refine (A2.out _).mono ?_
    rintro e w' ⟨rfl, rfl⟩
    go_wp2_with fail
    refine (HD.out _ (by exact Hrd1.out) (by exact HE1.out)).mono ?_
    rintro e w2 ⟨rfl, hrd2, hb2⟩
    dsimp only
    have z0 := (hb2.block w.heap.size (by rw [Hsz1.out]; omega) (by omega)).trans Z0.out
    have z1 := (hb2.block (w.heap.size + 1) (by rw [Hsz1.out]; omega) (by omega)).trans Z1.out
    have hsz2 := hb2.size
    rw [Hsz1.out] at hsz2
    have y0 := blk_cell z1 0
    have y1 := blk_cell z1 1
    have y2 := blk_cell z1 2
    have y3 := blk_cell z1 3
    have y4 := blk_cell z1 4
    have x0 := blk_cell z0 0
    have xf0 := blk_unfrozen z0 0
    have x1 := blk_cell z0 1
    have xf1 := blk_unfrozen z0 1
    have x2 := blk_cell z0 2
    have xf2 := blk_unfrozen z0 2
    have x3 := blk_cell z0 3
    have xf3 := blk_unfrozen z0 3
    have x4 := blk_cell z0 4
    have xf4 := blk_unfrozen z0 4
    have yf0 := blk_unfrozen z1 0
    have yf2 := blk_unfrozen z1 2
    have yf3 := blk_unfrozen z1 3
    have yf4 := blk_unfrozen z1 4
    have Z0b := Lib.hid z0
    have Z1b := Lib.hid z1
    have Hrd2 := Lib.hid hrd2
    have Hb2 := Lib.hid hb2
    clear z0 z1 hrd2 hb2
    go_wp2_with fail
    have hh0 := (Below.heap_setCell _ ⟨w.heap.size + 1, 2, none⟩ (.int .i64 n) w.heap.size (by show w.heap.size ≠ w.heap.size + 1; omega)).trans ((Below.heap_setCell w2 ⟨w.heap.size + 1, 0, none⟩ (.int .u8 2) w.heap.size (by show w.heap.size ≠ w.heap.size + 1; omega)).trans Z0b.out)
    have h6 := set5 hh0 (.int .u8 2) (.int .i64 (k : Int)) (.int .i64 n) (.string ⟨#[]⟩) (.int .i64 0)
    have e0 := blk_cell h6 0
    have e1 := blk_cell h6 1
    have e2 := blk_cell h6 2
    have e3 := blk_cell h6 3
    have e4 := blk_cell h6 4
    refine bodyPost_ret (v := .agg #[.int .u8 2, .int .i64 (k : Int), .int .i64 n, .string ⟨#[]⟩, .int .i64 0]) (by simp [results, Tryd.results50, go_sem, e0, e1, e2, e3, e4]) rfl ⟨⟨rfl, ?_⟩, ?_⟩
    · exact Rd.set5 ((Hrd2.out.far (q := ⟨w.heap.size + 1, 0, none⟩) (by show B ≠ w.heap.size + 1; omega) (.int .u8 2)).far (q := ⟨w.heap.size + 1, 2, none⟩) (by show B ≠ w.heap.size + 1; omega) (.int .i64 n)) (by omega) _ _ _ _ _
    · exact But.set5 (((Hbt1.out.trans Hb2.out).setNew (p := ⟨w.heap.size + 1, 0, none⟩) (by simp) (.int .u8 2)).setNew (p := ⟨w.heap.size + 1, 2, none⟩) (by simp) (.int .i64 n)) (Nat.le_refl _) _ _ _ _ _
set_option maxRecDepth 100000 in
theorem tok_neg (B : Nat) (s : ByteArray) (k : Nat) (p : Int) (w : World) (_hS : s.size ≤ 140737488351232) (h : Rd w B s k p) (_hk : k < s.size) (hc : bAt s k = 45) (hB2 : B ≠ 2) (hE : ErrVar w) (k2 : Nat) (r : Option Int) (hdig : ∀ W, Rd W B s k p → ErrVar W → Calls Tryd.prog 74 #[.pointer (some ⟨B, 0, none⟩), .bool true] W (DigPost B s p k2 r W)) :
    Calls Tryd.prog 50 #[.pointer (some ⟨B, 0, none⟩), .int .u8 (bAt s k)] w (TokPost B s p (numTok k k2 r) w) := by
  obtain ⟨z0, z1, hrd1, hbt1, hsz1⟩ := tok_start B s k p w h
  have hlt := h.lt
  have c0 := h.c0
  have c1 := h.c1
  have f1 := h.f 1
  have Z0 := Lib.hid z0
  have Z1 := Lib.hid z1
  have Hrd1 := Lib.hid hrd1
  have Hbt1 := Lib.hid hbt1
  have Hsz1 := Lib.hid hsz1
  clear z0 z1 hrd1 hbt1 hsz1
  rw [hc]
  have a1 := letter_any 45
  have a2 := digit_any 45
  rw [show letterI 45 = false from rfl] at a1
  rw [show digitI 45 = false from rfl] at a2
  clear hc
  have A1 := Lib.hid a1
  have A2 := Lib.hid a2
  have HD := Lib.hid hdig
  have hE1 : ErrVar ((w.alloc (.cells #[.int .u8 0, .int .i64 0, .int .i64 0, .string ⟨#[]⟩, .int .i64 0] 56)).alloc (.cells #[.int .u8 0, .int .i64 (k : Int), .int .i64 0, .string ⟨#[]⟩, .int .i64 0] 56)) := hE.but Hbt1.out hB2
  have HE1 := Lib.hid hE1
  clear a1 a2 hdig hE hE1
  cases r with
  | none =>
    rw [show numTok k k2 none = .error k from rfl]
    go_enter Tryd.func50, Tryd.ntmps50
    go_wp2_with fail
    refine (A1.out _).mono ?_
    rintro e w' ⟨rfl, rfl⟩
    go_wp2_with fail
    refine (A2.out _).mono ?_
    rintro e w' ⟨rfl, rfl⟩
    go_wp2_with fail
    refine (HD.out _ (by exact Hrd1.out) (by exact HE1.out)).mono ?_
    rintro e w2 ⟨⟨m, rfl⟩, hrd2, hb2⟩
    go_wp2_with fail
    exact ⟨rfl, rfl, Hbt1.out.trans hb2⟩
  | some n =>
    rw [show numTok k k2 (some n) = .ok (⟨2, k, n, ⟨#[]⟩, 0⟩, k2) from rfl]
    go_enter Tryd.func50, Tryd.ntmps50
    go_wp2_with fail
    refine (A1.out _).mono ?_
    rintro e w' ⟨rfl, rfl⟩
    go_wp2_with fail
    refine (A2.out _).mono ?_
    rintro e w' ⟨rfl, rfl⟩
    go_wp2_with fail
    refine (HD.out _ (by exact Hrd1.out) (by exact HE1.out)).mono ?_
    rintro e w2 ⟨rfl, hrd2, hb2⟩
    dsimp only
    have z0 := (hb2.block w.heap.size (by rw [Hsz1.out]; omega) (by omega)).trans Z0.out
    have z1 := (hb2.block (w.heap.size + 1) (by rw [Hsz1.out]; omega) (by omega)).trans Z1.out
    have hsz2 := hb2.size
    rw [Hsz1.out] at hsz2
    have y0 := blk_cell z1 0
    have y1 := blk_cell z1 1
    have y2 := blk_cell z1 2
    have y3 := blk_cell z1 3
    have y4 := blk_cell z1 4
    have x0 := blk_cell z0 0
    have xf0 := blk_unfrozen z0 0
    have x1 := blk_cell z0 1
    have xf1 := blk_unfrozen z0 1
    have x2 := blk_cell z0 2
    have xf2 := blk_unfrozen z0 2
    have x3 := blk_cell z0 3
    have xf3 := blk_unfrozen z0 3
    have x4 := blk_cell z0 4
    have xf4 := blk_unfrozen z0 4
    have yf0 := blk_unfrozen z1 0
    have yf2 := blk_unfrozen z1 2
    have yf3 := blk_unfrozen z1 3
    have yf4 := blk_unfrozen z1 4
    have Z0b := Lib.hid z0
    have Z1b := Lib.hid z1
    have Hrd2 := Lib.hid hrd2
    have Hb2 := Lib.hid hb2
    clear z0 z1 hrd2 hb2
    go_wp2_with fail
    have hh0 := (Below.heap_setCell _ ⟨w.heap.size + 1, 2, none⟩ (.int .i64 n) w.heap.size (by show w.heap.size ≠ w.heap.size + 1; omega)).trans ((Below.heap_setCell w2 ⟨w.heap.size + 1, 0, none⟩ (.int .u8 2) w.heap.size (by show w.heap.size ≠ w.heap.size + 1; omega)).trans Z0b.out)
    have h6 := set5 hh0 (.int .u8 2) (.int .i64 (k : Int)) (.int .i64 n) (.string ⟨#[]⟩) (.int .i64 0)
    have e0 := blk_cell h6 0
    have e1 := blk_cell h6 1
    have e2 := blk_cell h6 2
    have e3 := blk_cell h6 3
    have e4 := blk_cell h6 4
    refine bodyPost_ret (v := .agg #[.int .u8 2, .int .i64 (k : Int), .int .i64 n, .string ⟨#[]⟩, .int .i64 0]) (by simp [results, Tryd.results50, go_sem, e0, e1, e2, e3, e4]) rfl ⟨⟨rfl, ?_⟩, ?_⟩
    · exact Rd.set5 ((Hrd2.out.far (q := ⟨w.heap.size + 1, 0, none⟩) (by show B ≠ w.heap.size + 1; omega) (.int .u8 2)).far (q := ⟨w.heap.size + 1, 2, none⟩) (by show B ≠ w.heap.size + 1; omega) (.int .i64 n)) (by omega) _ _ _ _ _
    · exact But.set5 (((Hbt1.out.trans Hb2.out).setNew (p := ⟨w.heap.size + 1, 0, none⟩) (by simp) (.int .u8 2)).setNew (p := ⟨w.heap.size + 1, 2, none⟩) (by simp) (.int .i64 n)) (Nat.le_refl _) _ _ _ _ _
set_option maxRecDepth 100000 in
theorem tok_ref (B : Nat) (s : ByteArray) (k : Nat) (p : Int) (w : World) (hS : s.size ≤ 140737488351232) (h : Rd w B s k p) (hk : k < s.size) (hc : bAt s k = 35) (hB2 : B ≠ 2) (hE : ErrVar w) (k2 : Nat) (r : Option Int) (hdig : ∀ W, Rd W B s ((k + 1 : Nat) : Int) p → ErrVar W → Calls Tryd.prog 74 #[.pointer (some ⟨B, 0, none⟩), .bool false] W (DigPost B s p k2 r W)) :
    Calls Tryd.prog 50 #[.pointer (some ⟨B, 0, none⟩), .int .u8 (bAt s k)] w (TokPost B s p (refTok k k2 r) w) := by
  obtain ⟨z0, z1, hrd1, hbt1, hsz1⟩ := tok_start B s k p w h
  have hlt := h.lt
  have c0 := h.c0
  have c1 := h.c1
  have f1 := h.f 1
  have Z0 := Lib.hid z0
  have Z1 := Lib.hid z1
  have Hrd1 := Lib.hid hrd1
  have Hbt1 := Lib.hid hbt1
  have Hsz1 := Lib.hid hsz1
  clear z0 z1 hrd1 hbt1 hsz1
  rw [hc]
  have a1 := letter_any 35
  have a2 := digit_any 35
  rw [show letterI 35 = false from rfl] at a1
  rw [show digitI 35 = false from rfl] at a2
  clear hc
  have A1 := Lib.hid a1
  have A2 := Lib.hid a2
  have HD := Lib.hid hdig
  obtain ⟨zA0, zA1, hrdA, hbtB, hszA⟩ := tok_start' B s (k : Int) ((k + 1 : Nat) : Int) p (w.setCell ⟨B, 1, none⟩ (.int .i64 ((k : Int) + 1))) w.heap.size (by simp [World.setCell]) (Rd.at (Rd.set1 h _) (by omega))
  have hbtA : But B w (((w.setCell ⟨B, 1, none⟩ (.int .i64 ((k : Int) + 1))).alloc (.cells #[.int .u8 0, .int .i64 0, .int .i64 0, .string ⟨#[]⟩, .int .i64 0] 56)).alloc (.cells #[.int .u8 0, .int .i64 (k : Int), .int .i64 0, .string ⟨#[]⟩, .int .i64 0] 56)) := ((But.refl B w).setCell 1 _).trans hbtB
  have hE1 : ErrVar (((w.setCell ⟨B, 1, none⟩ (.int .i64 ((k : Int) + 1))).alloc (.cells #[.int .u8 0, .int .i64 0, .int .i64 0, .string ⟨#[]⟩, .int .i64 0] 56)).alloc (.cells #[.int .u8 0, .int .i64 (k : Int), .int .i64 0, .string ⟨#[]⟩, .int .i64 0] 56)) := hE.but hbtA hB2
  have HE1 := Lib.hid hE1
  have HrdA := Lib.hid hrdA
  have HbtA := Lib.hid hbtA
  have ZA0 := Lib.hid zA0
  have ZA1 := Lib.hid zA1
  have HszA := Lib.hid hszA
  clear a1 a2 hdig hE hE1 hrdA hbtA hbtB zA0 zA1 hszA
  cases r with
  | none =>
    rw [show refTok k k2 none = .error k from rfl]
    go_enter Tryd.func50, Tryd.ntmps50
    go_wp2_with fail
    refine (A1.out _).mono ?_
    rintro e w' ⟨rfl, rfl⟩
    go_wp2_with fail
    refine (A2.out _).mono ?_
    rintro e w' ⟨rfl, rfl⟩
    go_wp2_with fail
    refine (HD.out _ (by exact HrdA.out) (by exact HE1.out)).mono ?_
    rintro e w2 ⟨⟨m, rfl⟩, hrd2, hb2⟩
    go_wp2_with fail
    exact ⟨rfl, rfl, HbtA.out.trans hb2⟩
  | some n =>
    by_cases hn : n < 1
    · rw [show refTok k k2 (some n) = .error k by show (if n < 1 then _ else _) = _; rw [if_pos hn]]
      have tn : decide (n < 1) = true := by simpa using hn
      go_enter Tryd.func50, Tryd.ntmps50
      go_wp2_with fail
      refine (A1.out _).mono ?_
      rintro e w' ⟨rfl, rfl⟩
      go_wp2_with fail
      refine (A2.out _).mono ?_
      rintro e w' ⟨rfl, rfl⟩
      go_wp2_with fail
      refine (HD.out _ (by exact HrdA.out) (by exact HE1.out)).mono ?_
      rintro e w2 ⟨rfl, hrd2, hb2⟩
      go_wp2_with fail
      exact ⟨rfl, rfl, HbtA.out.trans hb2⟩
    rw [show refTok k k2 (some n) = .ok (⟨4, k, 0, ⟨#[]⟩, n⟩, k2) by show (if n < 1 then _ else _) = _; rw [if_neg hn]]
    have tn : decide (n < 1) = false := by simp; omega
    clear hn
    go_enter Tryd.func50, Tryd.ntmps50
    go_wp2_with fail
    refine (A1.out _).mono ?_
    rintro e w' ⟨rfl, rfl⟩
    go_wp2_with fail
    refine (A2.out _).mono ?_
    rintro e w' ⟨rfl, rfl⟩
    go_wp2_with fail
    refine (HD.out _ (by exact HrdA.out) (by exact HE1.out)).mono ?_
    rintro e w2 ⟨rfl, hrd2, hb2⟩
    have z0 := (hb2.block w.heap.size (by rw [HszA.out]; omega) (by omega)).trans ZA0.out
    have z1 := (hb2.block (w.heap.size + 1) (by rw [HszA.out]; omega) (by omega)).trans ZA1.out
    have hsz2 := hb2.size
    rw [HszA.out] at hsz2
    have y0 := blk_cell z1 0
    have y1 := blk_cell z1 1
    have y2 := blk_cell z1 2
    have y3 := blk_cell z1 3
    have y4 := blk_cell z1 4
    have x0 := blk_cell z0 0
    have xf0 := blk_unfrozen z0 0
    have x1 := blk_cell z0 1
    have xf1 := blk_unfrozen z0 1
    have x2 := blk_cell z0 2
    have xf2 := blk_unfrozen z0 2
    have x3 := blk_cell z0 3
    have xf3 := blk_unfrozen z0 3
    have x4 := blk_cell z0 4
    have xf4 := blk_unfrozen z0 4
    have yf0 := blk_unfrozen z1 0
    have yf2 := blk_unfrozen z1 2
    have yf3 := blk_unfrozen z1 3
    have yf4 := blk_unfrozen z1 4
    have Z0b := Lib.hid z0
    have Z1b := Lib.hid z1
    have Hrd2 := Lib.hid hrd2
    have Hb2 := Lib.hid hb2
    clear z0 z1 hrd2 hb2
    go_wp2_with fail
    have hh0 := (Below.heap_setCell _ ⟨w.heap.size + 1, 4, none⟩ (.int .i64 n) w.heap.size (by show w.heap.size ≠ w.heap.size + 1; omega)).trans ((Below.heap_setCell w2 ⟨w.heap.size + 1, 0, none⟩ (.int .u8 4) w.heap.size (by show w.heap.size ≠ w.heap.size + 1; omega)).trans Z0b.out)
    have h6 := set5 hh0 (.int .u8 4) (.int .i64 (k : Int)) (.int .i64 0) (.string ⟨#[]⟩) (.int .i64 n)
    have e0 := blk_cell h6 0
    have e1 := blk_cell h6 1
    have e2 := blk_cell h6 2
    have e3 := blk_cell h6 3
    have e4 := blk_cell h6 4
    refine bodyPost_ret (v := .agg #[.int .u8 4, .int .i64 (k : Int), .int .i64 0, .string ⟨#[]⟩, .int .i64 n]) (by simp [results, Tryd.results50, go_sem, e0, e1, e2, e3, e4]) rfl ⟨⟨rfl, ?_⟩, ?_⟩
    · exact Rd.set5 ((Hrd2.out.far (q := ⟨w.heap.size + 1, 0, none⟩) (by show B ≠ w.heap.size + 1; omega) (.int .u8 4)).far (q := ⟨w.heap.size + 1, 4, none⟩) (by show B ≠ w.heap.size + 1; omega) (.int .i64 n)) (by omega) _ _ _ _ _
    · exact But.set5 (((HbtA.out.trans Hb2.out).setNew (p := ⟨w.heap.size + 1, 0, none⟩) (by simp) (.int .u8 4)).setNew (p := ⟨w.heap.size + 1, 4, none⟩) (by simp) (.int .i64 n)) (Nat.le_refl _) _ _ _ _ _
end Go.Proofs.YtmiipfdndgjndaaDoor
