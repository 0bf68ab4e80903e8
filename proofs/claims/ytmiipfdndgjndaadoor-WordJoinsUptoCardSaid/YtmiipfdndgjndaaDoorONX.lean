/- The contract of the reference's one: printed by gen_one.py. -/
import Derived.Test.YtmiipfdndgjndaaDoorNPX
import Derived.Test.YtmiipfdndgjndaaDoorS
import Derived.Test.YtmiipfdndgjndaaDoorO
namespace Go.Proofs.YtmiipfdndgjndaaDoor
open Go.RowKit Go.Lib
set_option maxHeartbeats 2000000
def OnePost (r : Except Nat (T × Nat)) (w : World) (e : Ending) (w' : World) : Prop :=
  (match r with
    | .ok (t, k') => e = .returned (.tuple #[tokV t, .int .i64 (k' : Int), .bool true])
    | .error q => ∃ (a b c : Int) (d : ByteArray) (f : Int), e = .returned (.tuple #[.agg #[.int .u8 a, .int .i64 b, .int .i64 c, .string d, .int .i64 f], .int .i64 (q : Int), .bool false])) ∧ Below w.heap.size w w'
/-- No letter and no digit right behind. -/
def endChk (s : ByteArray) : Except Nat (T × Nat) → Except Nat (T × Nat)
  | .error q => .error q
  | .ok (t, k') => if k' < s.size ∧ (letterI (bAt s k') || digitI (bAt s k')) = true then .error k' else .ok (t, k')
theorem endChk_of (s : ByteArray) (t : T) (e : Nat) : endChk s (.ok (t, e)) = if e < s.size ∧ (letterI (bAt s e) || digitI (bAt s e)) = true then .error e else .ok (t, e) := rfl
theorem one_start (w w0 : World) (k : Int) (hw : (w.alloc (.cells #[.int .u8 0, .int .i64 0, .int .i64 0, .string ⟨#[]⟩, .int .i64 0] 56)).alloc (.cells #[.int .u8 0, .int .i64 k, .int .i64 0, .string ⟨#[]⟩, .int .i64 0] 56) = w0) :
    w0.heap[w.heap.size]? = some (.cells #[.int .u8 0, .int .i64 0, .int .i64 0, .string ⟨#[]⟩, .int .i64 0] 56 (0, 0)) ∧ w0.heap[w.heap.size + 1]? = some (.cells #[.int .u8 0, .int .i64 k, .int .i64 0, .string ⟨#[]⟩, .int .i64 0] 56 (0, 0)) ∧ Below w.heap.size w w0 ∧ w0.heap.size = w.heap.size + 2 := by
  subst hw
  refine ⟨(Below.heap_alloc _ _ _ (by simp)).trans (heap_alloc_new w _), ?_, ((Below.refl _ w).alloc (Nat.le_refl _) _).alloc (by simp) _, by simp⟩
  have := heap_alloc_new (w.alloc (.cells #[.int .u8 0, .int .i64 0, .int .i64 0, .string ⟨#[]⟩, .int .i64 0] 56)) (.cells #[.int .u8 0, .int .i64 k, .int .i64 0, .string ⟨#[]⟩, .int .i64 0] 56)
  rw [World.size_alloc] at this
  exact this
set_option maxRecDepth 100000 in
theorem one_name (s : ByteArray) (k : Nat) (w : World) (hS : s.size ≤ 140737488351232) (hk : k < s.size) (hc : letterI (bAt s k) = true) (hnm : namedL (s.extract k (whileF s true (s.size + 1) k)) = decide (whileF s true (s.size + 1) k - k ≤ 32)) :
    Calls Tryd.prog 51 #[.string s, .int .i64 (k : Int)] w (OnePost (nameTok s k (whileF s true (s.size + 1) k)) w) := by
  have g0 : (0 : Int) ≤ (k : Int) := by omega
  have g1 : (k : Int) < (s.size : Int) := by omega
  have hbe := bAt_eq s k hk
  have a1 := refLetter_any (bAt s k)
  have a2 := refDigit_any (bAt s k)
  have a3 := refSign_any (bAt s k)
  rw [hc] at a1
  clear hc
  generalize bAt s k = c at hbe a1 a2 a3
  have A1 := Lib.hid a1
  have A2 := Lib.hid a2
  have A3 := Lib.hid a3
  clear a1 a2 a3
  obtain ⟨h1, h2⟩ := wstep_le s true k (by omega)
  have WH := Lib.hid (fun W => while_any s k true W hS (by omega))
  have NM := Lib.hid (fun W => name_any (s.extract k (whileF s true (s.size + 1) k)) W (by have := extract_size_le s k (whileF s true (s.size + 1) k); omega))
  unfold nameTok
  generalize whileF s true (s.size + 1) k = e at h1 h2 WH NM hnm ⊢
  rw [hnm] at NM
  clear hnm
  have u2 : (k : Int) ≤ (e : Int) := by omega
  have u3 : (e : Int) ≤ (s.size : Int) := by omega
  obtain ⟨x, hx⟩ : ∃ x, x = s.extract k e := ⟨_, rfl⟩
  rw [← hx] at NM ⊢
  have HX := Lib.hid hx
  clear hx
  by_cases hle : e - k ≤ 32
  · rw [show (decide (e - k ≤ 32)) = true by simpa using hle] at NM
    rw [if_pos hle]
    go_enter Tryd.func51, Tryd.ntmps51
    go_wp2_with fail
    refine (A1.out _).mono ?_
    rintro e w0 ⟨rfl, hw0⟩
    obtain ⟨z0, z1, hbw, hsz⟩ := one_start w w0 (k : Int) hw0
    have Z0 := Lib.hid z0
    have Z1 := Lib.hid z1
    have HBW := Lib.hid hbw
    have HSZ := Lib.hid hsz
    clear z0 z1 hbw hsz hw0
    have x0 : w0.cell? ⟨w.heap.size, 0, none⟩ = some (.int .u8 0) := blk_cell Z0.out 0
    have xf0 : w0.frozen? ⟨w.heap.size, 0, none⟩ = false := blk_free Z0.out 0
    have x1 : w0.cell? ⟨w.heap.size, 1, none⟩ = some (.int .i64 0) := blk_cell Z0.out 1
    have xf1 : w0.frozen? ⟨w.heap.size, 1, none⟩ = false := blk_free Z0.out 1
    have x2 : w0.cell? ⟨w.heap.size, 2, none⟩ = some (.int .i64 0) := blk_cell Z0.out 2
    have xf2 : w0.frozen? ⟨w.heap.size, 2, none⟩ = false := blk_free Z0.out 2
    have x3 : w0.cell? ⟨w.heap.size, 3, none⟩ = some (.string ⟨#[]⟩) := blk_cell Z0.out 3
    have xf3 : w0.frozen? ⟨w.heap.size, 3, none⟩ = false := blk_free Z0.out 3
    have x4 : w0.cell? ⟨w.heap.size, 4, none⟩ = some (.int .i64 0) := blk_cell Z0.out 4
    have xf4 : w0.frozen? ⟨w.heap.size, 4, none⟩ = false := blk_free Z0.out 4
    have y0 : w0.cell? ⟨w.heap.size + 1, 0, none⟩ = some (.int .u8 0) := blk_cell Z1.out 0
    have yf0 : w0.frozen? ⟨w.heap.size + 1, 0, none⟩ = false := blk_free Z1.out 0
    have y1 : w0.cell? ⟨w.heap.size + 1, 1, none⟩ = some (.int .i64 (k : Int)) := blk_cell Z1.out 1
    have yf1 : w0.frozen? ⟨w.heap.size + 1, 1, none⟩ = false := blk_free Z1.out 1
    have y2 : w0.cell? ⟨w.heap.size + 1, 2, none⟩ = some (.int .i64 0) := blk_cell Z1.out 2
    have yf2 : w0.frozen? ⟨w.heap.size + 1, 2, none⟩ = false := blk_free Z1.out 2
    have y3 : w0.cell? ⟨w.heap.size + 1, 3, none⟩ = some (.string ⟨#[]⟩) := blk_cell Z1.out 3
    have yf3 : w0.frozen? ⟨w.heap.size + 1, 3, none⟩ = false := blk_free Z1.out 3
    have y4 : w0.cell? ⟨w.heap.size + 1, 4, none⟩ = some (.int .i64 0) := blk_cell Z1.out 4
    have yf4 : w0.frozen? ⟨w.heap.size + 1, 4, none⟩ = false := blk_free Z1.out 4
    go_wp2_with fail
    refine (WH.out _).mono ?_
    rintro e w' ⟨rfl, rfl⟩
    go_wp2_with fail
    rw [← HX.out]
    refine (NM.out _).mono ?_
    rintro e w' ⟨rfl, rfl⟩
    go_wp2_with fail
    have h6 := set5 ((Below.heap_setCell (w0.setCell ⟨w.heap.size + 1, 0, none⟩ (.int .u8 1)) ⟨w.heap.size + 1, 3, none⟩ (.string x) w.heap.size (by show w.heap.size ≠ w.heap.size + 1; omega)).trans ((Below.heap_setCell w0 ⟨w.heap.size + 1, 0, none⟩ (.int .u8 1) w.heap.size (by show w.heap.size ≠ w.heap.size + 1; omega)).trans Z0.out)) (.int .u8 1) (.int .i64 (k : Int)) (.int .i64 0) (.string x) (.int .i64 0)
    have e0 := blk_cell h6 0
    have e1 := blk_cell h6 1
    have e2 := blk_cell h6 2
    have e3 := blk_cell h6 3
    have e4 := blk_cell h6 4
    refine bodyPost_ret (v := .tuple #[.agg #[.int .u8 1, .int .i64 (k : Int), .int .i64 0, .string x, .int .i64 0], .int .i64 (e), .bool true]) (by simp [results, Tryd.results51, go_sem, e0, e1, e2, e3, e4]) rfl ⟨rfl, ?_⟩
    exact (((((((HBW.out.setCell (p := ⟨w.heap.size + 1, 0, none⟩) (by simp) (.int .u8 1)).setCell (p := ⟨w.heap.size + 1, 3, none⟩) (by simp) (.string x)).setCell (p := ⟨w.heap.size, 0, none⟩) (Nat.le_refl _) (.int .u8 1)).setCell (p := ⟨w.heap.size, 1, none⟩) (Nat.le_refl _) (.int .i64 (k : Int))).setCell (p := ⟨w.heap.size, 2, none⟩) (Nat.le_refl _) (.int .i64 0)).setCell (p := ⟨w.heap.size, 3, none⟩) (Nat.le_refl _) (.string x)).setCell (p := ⟨w.heap.size, 4, none⟩) (Nat.le_refl _) (.int .i64 0))
  · rw [show (decide (e - k ≤ 32)) = false by simpa using hle] at NM
    rw [if_neg hle]
    go_enter Tryd.func51, Tryd.ntmps51
    go_wp2_with fail
    refine (A1.out _).mono ?_
    rintro e w0 ⟨rfl, hw0⟩
    obtain ⟨z0, z1, hbw, hsz⟩ := one_start w w0 (k : Int) hw0
    have Z0 := Lib.hid z0
    have Z1 := Lib.hid z1
    have HBW := Lib.hid hbw
    have HSZ := Lib.hid hsz
    clear z0 z1 hbw hsz hw0
    have x0 : w0.cell? ⟨w.heap.size, 0, none⟩ = some (.int .u8 0) := blk_cell Z0.out 0
    have xf0 : w0.frozen? ⟨w.heap.size, 0, none⟩ = false := blk_free Z0.out 0
    have x1 : w0.cell? ⟨w.heap.size, 1, none⟩ = some (.int .i64 0) := blk_cell Z0.out 1
    have xf1 : w0.frozen? ⟨w.heap.size, 1, none⟩ = false := blk_free Z0.out 1
    have x2 : w0.cell? ⟨w.heap.size, 2, none⟩ = some (.int .i64 0) := blk_cell Z0.out 2
    have xf2 : w0.frozen? ⟨w.heap.size, 2, none⟩ = false := blk_free Z0.out 2
    have x3 : w0.cell? ⟨w.heap.size, 3, none⟩ = some (.string ⟨#[]⟩) := blk_cell Z0.out 3
    have xf3 : w0.frozen? ⟨w.heap.size, 3, none⟩ = false := blk_free Z0.out 3
    have x4 : w0.cell? ⟨w.heap.size, 4, none⟩ = some (.int .i64 0) := blk_cell Z0.out 4
    have xf4 : w0.frozen? ⟨w.heap.size, 4, none⟩ = false := blk_free Z0.out 4
    have y0 : w0.cell? ⟨w.heap.size + 1, 0, none⟩ = some (.int .u8 0) := blk_cell Z1.out 0
    have yf0 : w0.frozen? ⟨w.heap.size + 1, 0, none⟩ = false := blk_free Z1.out 0
    have y1 : w0.cell? ⟨w.heap.size + 1, 1, none⟩ = some (.int .i64 (k : Int)) := blk_cell Z1.out 1
    have yf1 : w0.frozen? ⟨w.heap.size + 1, 1, none⟩ = false := blk_free Z1.out 1
    have y2 : w0.cell? ⟨w.heap.size + 1, 2, none⟩ = some (.int .i64 0) := blk_cell Z1.out 2
    have yf2 : w0.frozen? ⟨w.heap.size + 1, 2, none⟩ = false := blk_free Z1.out 2
    have y3 : w0.cell? ⟨w.heap.size + 1, 3, none⟩ = some (.string ⟨#[]⟩) := blk_cell Z1.out 3
    have yf3 : w0.frozen? ⟨w.heap.size + 1, 3, none⟩ = false := blk_free Z1.out 3
    have y4 : w0.cell? ⟨w.heap.size + 1, 4, none⟩ = some (.int .i64 0) := blk_cell Z1.out 4
    have yf4 : w0.frozen? ⟨w.heap.size + 1, 4, none⟩ = false := blk_free Z1.out 4
    go_wp2_with fail
    refine (WH.out _).mono ?_
    rintro e w' ⟨rfl, rfl⟩
    go_wp2_with fail
    rw [← HX.out]
    refine (NM.out _).mono ?_
    rintro e w' ⟨rfl, rfl⟩
    go_wp2_with fail
    have h6 := set5 ((Below.heap_setCell (w0.setCell ⟨w.heap.size + 1, 0, none⟩ (.int .u8 1)) ⟨w.heap.size + 1, 3, none⟩ (.string x) w.heap.size (by show w.heap.size ≠ w.heap.size + 1; omega)).trans ((Below.heap_setCell w0 ⟨w.heap.size + 1, 0, none⟩ (.int .u8 1) w.heap.size (by show w.heap.size ≠ w.heap.size + 1; omega)).trans Z0.out)) (.int .u8 1) (.int .i64 (k : Int)) (.int .i64 0) (.string x) (.int .i64 0)
    have e0 := blk_cell h6 0
    have e1 := blk_cell h6 1
    have e2 := blk_cell h6 2
    have e3 := blk_cell h6 3
    have e4 := blk_cell h6 4
    refine bodyPost_ret (v := .tuple #[.agg #[.int .u8 1, .int .i64 (k : Int), .int .i64 0, .string x, .int .i64 0], .int .i64 (k), .bool false]) (by simp [results, Tryd.results51, go_sem, e0, e1, e2, e3, e4]) rfl ⟨⟨_, _, _, _, _, rfl⟩, ?_⟩
    exact (((((((HBW.out.setCell (p := ⟨w.heap.size + 1, 0, none⟩) (by simp) (.int .u8 1)).setCell (p := ⟨w.heap.size + 1, 3, none⟩) (by simp) (.string x)).setCell (p := ⟨w.heap.size, 0, none⟩) (Nat.le_refl _) (.int .u8 1)).setCell (p := ⟨w.heap.size, 1, none⟩) (Nat.le_refl _) (.int .i64 (k : Int))).setCell (p := ⟨w.heap.size, 2, none⟩) (Nat.le_refl _) (.int .i64 0)).setCell (p := ⟨w.heap.size, 3, none⟩) (Nat.le_refl _) (.string x)).setCell (p := ⟨w.heap.size, 4, none⟩) (Nat.le_refl _) (.int .i64 0))

set_option maxRecDepth 100000 in
theorem one_num (s : ByteArray) (k : Nat) (w : World) (hS : s.size ≤ 140737488351232) (hk : k < s.size) (hc : digitI (bAt s k) = true ∨ bAt s k = 45) :
    Calls Tryd.prog 51 #[.string s, .int .i64 (k : Int)] w (OnePost (endChk s (match numT (s.extract k (whileF s false (s.size + 1) (k + 1))) with | none => .error k | some n => .ok (⟨2, k, n, ⟨#[]⟩, 0⟩, whileF s false (s.size + 1) (k + 1)))) w) := by
  have g0 : (0 : Int) ≤ (k : Int) := by omega
  have g1 : (k : Int) < (s.size : Int) := by omega
  have hbe := bAt_eq s k hk
  have a1 := refLetter_any (bAt s k)
  have a2 := refDigit_any (bAt s k)
  have a3 := refSign_any (bAt s k)
  have hdd : digitI (bAt s k) = true ∨ (digitI (bAt s k) = false ∧ (bAt s k == 45) = true) := by
    rcases hc with h | h
    · exact .inl h
    · exact .inr ⟨by rw [h]; rfl, by simpa using h⟩
  have hl0 : letterI (bAt s k) = false := by
    rcases hc with h | h
    · rw [digitI_iff] at h; unfold letterI; simp; omega
    · rw [h]; rfl
  clear hc
  generalize bAt s k = c at hbe a1 a2 a3 hdd hl0
  rw [hl0] at a1
  clear hl0
  have A1 := Lib.hid a1
  have A2 := Lib.hid a2
  have A3 := Lib.hid a3
  clear a1 a2 a3
  obtain ⟨h1, h2⟩ := wstep_le s false (k + 1) (by omega)
  have WH := Lib.hid (fun W => while_any s (k + 1) false W hS (by omega))
  have NU := Lib.hid (fun W => number_any (s.extract k (whileF s false (s.size + 1) (k + 1))) W (by have := extract_size_le s k (whileF s false (s.size + 1) (k + 1)); omega))
  generalize whileF s false (s.size + 1) (k + 1) = e at h1 h2 WH NU ⊢
  have u2 : (k : Int) ≤ (e : Int) := by omega
  have u3 : (e : Int) ≤ (s.size : Int) := by omega
  obtain ⟨x, hx⟩ : ∃ x, x = s.extract k e := ⟨_, rfl⟩
  rw [← hx] at NU ⊢
  have HX := Lib.hid hx
  clear hx
  generalize numT x = r at NU ⊢
  rw [show ((k + 1 : Nat) : Int) = (k : Int) + 1 by omega] at WH
  rcases hdd with hdd | ⟨hdd, t45⟩
  all_goals
    rw [hdd] at A2
    clear hdd
    cases r with
    | none =>
      go_enter Tryd.func51, Tryd.ntmps51
      go_wp2_with fail
      refine (A1.out _).mono ?_
      rintro e w0 ⟨rfl, hw0⟩
      obtain ⟨z0, z1, hbw, hsz⟩ := one_start w w0 (k : Int) hw0
      have Z0 := Lib.hid z0
      have Z1 := Lib.hid z1
      have HBW := Lib.hid hbw
      have HSZ := Lib.hid hsz
      clear z0 z1 hbw hsz hw0
      have x0 : w0.cell? ⟨w.heap.size, 0, none⟩ = some (.int .u8 0) := blk_cell Z0.out 0
      have xf0 : w0.frozen? ⟨w.heap.size, 0, none⟩ = false := blk_free Z0.out 0
      have x1 : w0.cell? ⟨w.heap.size, 1, none⟩ = some (.int .i64 0) := blk_cell Z0.out 1
      have xf1 : w0.frozen? ⟨w.heap.size, 1, none⟩ = false := blk_free Z0.out 1
      have x2 : w0.cell? ⟨w.heap.size, 2, none⟩ = some (.int .i64 0) := blk_cell Z0.out 2
      have xf2 : w0.frozen? ⟨w.heap.size, 2, none⟩ = false := blk_free Z0.out 2
      have x3 : w0.cell? ⟨w.heap.size, 3, none⟩ = some (.string ⟨#[]⟩) := blk_cell Z0.out 3
      have xf3 : w0.frozen? ⟨w.heap.size, 3, none⟩ = false := blk_free Z0.out 3
      have x4 : w0.cell? ⟨w.heap.size, 4, none⟩ = some (.int .i64 0) := blk_cell Z0.out 4
      have xf4 : w0.frozen? ⟨w.heap.size, 4, none⟩ = false := blk_free Z0.out 4
      have y0 : w0.cell? ⟨w.heap.size + 1, 0, none⟩ = some (.int .u8 0) := blk_cell Z1.out 0
      have yf0 : w0.frozen? ⟨w.heap.size + 1, 0, none⟩ = false := blk_free Z1.out 0
      have y1 : w0.cell? ⟨w.heap.size + 1, 1, none⟩ = some (.int .i64 (k : Int)) := blk_cell Z1.out 1
      have yf1 : w0.frozen? ⟨w.heap.size + 1, 1, none⟩ = false := blk_free Z1.out 1
      have y2 : w0.cell? ⟨w.heap.size + 1, 2, none⟩ = some (.int .i64 0) := blk_cell Z1.out 2
      have yf2 : w0.frozen? ⟨w.heap.size + 1, 2, none⟩ = false := blk_free Z1.out 2
      have y3 : w0.cell? ⟨w.heap.size + 1, 3, none⟩ = some (.string ⟨#[]⟩) := blk_cell Z1.out 3
      have yf3 : w0.frozen? ⟨w.heap.size + 1, 3, none⟩ = false := blk_free Z1.out 3
      have y4 : w0.cell? ⟨w.heap.size + 1, 4, none⟩ = some (.int .i64 0) := blk_cell Z1.out 4
      have yf4 : w0.frozen? ⟨w.heap.size + 1, 4, none⟩ = false := blk_free Z1.out 4
      go_wp2_with fail
      refine (A2.out _).mono ?_
      rintro e w' ⟨rfl, rfl⟩
      go_wp2_with fail
      refine (WH.out _).mono ?_
      rintro e w' ⟨rfl, rfl⟩
      go_wp2_with fail
      rw [← HX.out]
      refine (NU.out _).mono ?_
      rintro e2 w2 ⟨⟨n, rfl⟩, hb2⟩
      have y0' := hb2.block w.heap.size (by rw [HSZ.out]; omega)
      have y1' := hb2.block (w.heap.size + 1) (by rw [HSZ.out]; omega)
      have Q0 := Lib.hid (y0'.trans Z0.out)
      have Q1 := Lib.hid (y1'.trans Z1.out)
      have HB2 := Lib.hid (HBW.out.trans (hb2.mono (by rw [HSZ.out]; omega)))
      clear y0' y1' hb2 Z0 Z1 HBW
      clear x0 xf0 y0 yf0 x1 xf1 y1 yf1 x2 xf2 y2 yf2 x3 xf3 y3 yf3 x4 xf4 y4 yf4
      have x0 : w2.cell? ⟨w.heap.size, 0, none⟩ = some (.int .u8 0) := blk_cell Q0.out 0
      have xf0 : w2.frozen? ⟨w.heap.size, 0, none⟩ = false := blk_free Q0.out 0
      have x1 : w2.cell? ⟨w.heap.size, 1, none⟩ = some (.int .i64 0) := blk_cell Q0.out 1
      have xf1 : w2.frozen? ⟨w.heap.size, 1, none⟩ = false := blk_free Q0.out 1
      have x2 : w2.cell? ⟨w.heap.size, 2, none⟩ = some (.int .i64 0) := blk_cell Q0.out 2
      have xf2 : w2.frozen? ⟨w.heap.size, 2, none⟩ = false := blk_free Q0.out 2
      have x3 : w2.cell? ⟨w.heap.size, 3, none⟩ = some (.string ⟨#[]⟩) := blk_cell Q0.out 3
      have xf3 : w2.frozen? ⟨w.heap.size, 3, none⟩ = false := blk_free Q0.out 3
      have x4 : w2.cell? ⟨w.heap.size, 4, none⟩ = some (.int .i64 0) := blk_cell Q0.out 4
      have xf4 : w2.frozen? ⟨w.heap.size, 4, none⟩ = false := blk_free Q0.out 4
      have y0 : w2.cell? ⟨w.heap.size + 1, 0, none⟩ = some (.int .u8 0) := blk_cell Q1.out 0
      have yf0 : w2.frozen? ⟨w.heap.size + 1, 0, none⟩ = false := blk_free Q1.out 0
      have y1 : w2.cell? ⟨w.heap.size + 1, 1, none⟩ = some (.int .i64 (k : Int)) := blk_cell Q1.out 1
      have yf1 : w2.frozen? ⟨w.heap.size + 1, 1, none⟩ = false := blk_free Q1.out 1
      have y2 : w2.cell? ⟨w.heap.size + 1, 2, none⟩ = some (.int .i64 0) := blk_cell Q1.out 2
      have yf2 : w2.frozen? ⟨w.heap.size + 1, 2, none⟩ = false := blk_free Q1.out 2
      have y3 : w2.cell? ⟨w.heap.size + 1, 3, none⟩ = some (.string ⟨#[]⟩) := blk_cell Q1.out 3
      have yf3 : w2.frozen? ⟨w.heap.size + 1, 3, none⟩ = false := blk_free Q1.out 3
      have y4 : w2.cell? ⟨w.heap.size + 1, 4, none⟩ = some (.int .i64 0) := blk_cell Q1.out 4
      have yf4 : w2.frozen? ⟨w.heap.size + 1, 4, none⟩ = false := blk_free Q1.out 4
      go_wp2_with fail
      have h6 := set5 ((Below.heap_setCell (w2.setCell ⟨w.heap.size + 1, 0, none⟩ (.int .u8 2)) ⟨w.heap.size + 1, 2, none⟩ (.int .i64 n) w.heap.size (by show w.heap.size ≠ w.heap.size + 1; omega)).trans ((Below.heap_setCell w2 ⟨w.heap.size + 1, 0, none⟩ (.int .u8 2) w.heap.size (by show w.heap.size ≠ w.heap.size + 1; omega)).trans Q0.out)) (.int .u8 2) (.int .i64 (k : Int)) (.int .i64 n) (.string ⟨#[]⟩) (.int .i64 0)
      have e0 := blk_cell h6 0
      have e1 := blk_cell h6 1
      have e2 := blk_cell h6 2
      have e3 := blk_cell h6 3
      have e4 := blk_cell h6 4
      refine bodyPost_ret (v := .tuple #[.agg #[.int .u8 2, .int .i64 (k : Int), .int .i64 n, .string ⟨#[]⟩, .int .i64 0], .int .i64 (k), .bool false]) (by simp [results, Tryd.results51, go_sem, e0, e1, e2, e3, e4]) rfl ⟨⟨_, _, _, _, _, rfl⟩, ?_⟩
      exact (((((((HB2.out.setCell (p := ⟨w.heap.size + 1, 0, none⟩) (by simp) (.int .u8 2)).setCell (p := ⟨w.heap.size + 1, 2, none⟩) (by simp) (.int .i64 n)).setCell (p := ⟨w.heap.size, 0, none⟩) (Nat.le_refl _) (.int .u8 2)).setCell (p := ⟨w.heap.size, 1, none⟩) (Nat.le_refl _) (.int .i64 (k : Int))).setCell (p := ⟨w.heap.size, 2, none⟩) (Nat.le_refl _) (.int .i64 n)).setCell (p := ⟨w.heap.size, 3, none⟩) (Nat.le_refl _) (.string ⟨#[]⟩)).setCell (p := ⟨w.heap.size, 4, none⟩) (Nat.le_refl _) (.int .i64 0))

    | some n =>
      dsimp only
      rw [endChk_of]
      by_cases he : e < s.size
      · have hbe2 := bAt_eq s (e) he
        have l1 := refLetter_any (bAt s (e))
        have l2 := refDigit_any (bAt s (e))
        have t8 : decide ((e : Int) < (s.size : Int)) = true := by simp; omega
        have u0 : (0 : Int) ≤ (e : Int) := by omega
        have u1 : (e : Int) < (s.size : Int) := by omega
        generalize bAt s (e) = ce at hbe2 l1 l2 ⊢
        have L1 := Lib.hid l1
        have L2 := Lib.hid l2
        clear l1 l2
        cases hl : letterI ce with
        | true =>
          rw [if_pos ⟨he, by simp⟩]
          rw [hl] at L1
          clear hl
          go_enter Tryd.func51, Tryd.ntmps51
          go_wp2_with fail
          refine (A1.out _).mono ?_
          rintro e w0 ⟨rfl, hw0⟩
          obtain ⟨z0, z1, hbw, hsz⟩ := one_start w w0 (k : Int) hw0
          have Z0 := Lib.hid z0
          have Z1 := Lib.hid z1
          have HBW := Lib.hid hbw
          have HSZ := Lib.hid hsz
          clear z0 z1 hbw hsz hw0
          have x0 : w0.cell? ⟨w.heap.size, 0, none⟩ = some (.int .u8 0) := blk_cell Z0.out 0
          have xf0 : w0.frozen? ⟨w.heap.size, 0, none⟩ = false := blk_free Z0.out 0
          have x1 : w0.cell? ⟨w.heap.size, 1, none⟩ = some (.int .i64 0) := blk_cell Z0.out 1
          have xf1 : w0.frozen? ⟨w.heap.size, 1, none⟩ = false := blk_free Z0.out 1
          have x2 : w0.cell? ⟨w.heap.size, 2, none⟩ = some (.int .i64 0) := blk_cell Z0.out 2
          have xf2 : w0.frozen? ⟨w.heap.size, 2, none⟩ = false := blk_free Z0.out 2
          have x3 : w0.cell? ⟨w.heap.size, 3, none⟩ = some (.string ⟨#[]⟩) := blk_cell Z0.out 3
          have xf3 : w0.frozen? ⟨w.heap.size, 3, none⟩ = false := blk_free Z0.out 3
          have x4 : w0.cell? ⟨w.heap.size, 4, none⟩ = some (.int .i64 0) := blk_cell Z0.out 4
          have xf4 : w0.frozen? ⟨w.heap.size, 4, none⟩ = false := blk_free Z0.out 4
          have y0 : w0.cell? ⟨w.heap.size + 1, 0, none⟩ = some (.int .u8 0) := blk_cell Z1.out 0
          have yf0 : w0.frozen? ⟨w.heap.size + 1, 0, none⟩ = false := blk_free Z1.out 0
          have y1 : w0.cell? ⟨w.heap.size + 1, 1, none⟩ = some (.int .i64 (k : Int)) := blk_cell Z1.out 1
          have yf1 : w0.frozen? ⟨w.heap.size + 1, 1, none⟩ = false := blk_free Z1.out 1
          have y2 : w0.cell? ⟨w.heap.size + 1, 2, none⟩ = some (.int .i64 0) := blk_cell Z1.out 2
          have yf2 : w0.frozen? ⟨w.heap.size + 1, 2, none⟩ = false := blk_free Z1.out 2
          have y3 : w0.cell? ⟨w.heap.size + 1, 3, none⟩ = some (.string ⟨#[]⟩) := blk_cell Z1.out 3
          have yf3 : w0.frozen? ⟨w.heap.size + 1, 3, none⟩ = false := blk_free Z1.out 3
          have y4 : w0.cell? ⟨w.heap.size + 1, 4, none⟩ = some (.int .i64 0) := blk_cell Z1.out 4
          have yf4 : w0.frozen? ⟨w.heap.size + 1, 4, none⟩ = false := blk_free Z1.out 4
          go_wp2_with fail
          refine (A2.out _).mono ?_
          rintro e w' ⟨rfl, rfl⟩
          go_wp2_with fail
          refine (WH.out _).mono ?_
          rintro e w' ⟨rfl, rfl⟩
          go_wp2_with fail
          rw [← HX.out]
          refine (NU.out _).mono ?_
          rintro e2 w2 ⟨rfl, hb2⟩
          have y0' := hb2.block w.heap.size (by rw [HSZ.out]; omega)
          have y1' := hb2.block (w.heap.size + 1) (by rw [HSZ.out]; omega)
          have Q0 := Lib.hid (y0'.trans Z0.out)
          have Q1 := Lib.hid (y1'.trans Z1.out)
          have HB2 := Lib.hid (HBW.out.trans (hb2.mono (by rw [HSZ.out]; omega)))
          clear y0' y1' hb2 Z0 Z1 HBW
          clear x0 xf0 y0 yf0 x1 xf1 y1 yf1 x2 xf2 y2 yf2 x3 xf3 y3 yf3 x4 xf4 y4 yf4
          have x0 : w2.cell? ⟨w.heap.size, 0, none⟩ = some (.int .u8 0) := blk_cell Q0.out 0
          have xf0 : w2.frozen? ⟨w.heap.size, 0, none⟩ = false := blk_free Q0.out 0
          have x1 : w2.cell? ⟨w.heap.size, 1, none⟩ = some (.int .i64 0) := blk_cell Q0.out 1
          have xf1 : w2.frozen? ⟨w.heap.size, 1, none⟩ = false := blk_free Q0.out 1
          have x2 : w2.cell? ⟨w.heap.size, 2, none⟩ = some (.int .i64 0) := blk_cell Q0.out 2
          have xf2 : w2.frozen? ⟨w.heap.size, 2, none⟩ = false := blk_free Q0.out 2
          have x3 : w2.cell? ⟨w.heap.size, 3, none⟩ = some (.string ⟨#[]⟩) := blk_cell Q0.out 3
          have xf3 : w2.frozen? ⟨w.heap.size, 3, none⟩ = false := blk_free Q0.out 3
          have x4 : w2.cell? ⟨w.heap.size, 4, none⟩ = some (.int .i64 0) := blk_cell Q0.out 4
          have xf4 : w2.frozen? ⟨w.heap.size, 4, none⟩ = false := blk_free Q0.out 4
          have y0 : w2.cell? ⟨w.heap.size + 1, 0, none⟩ = some (.int .u8 0) := blk_cell Q1.out 0
          have yf0 : w2.frozen? ⟨w.heap.size + 1, 0, none⟩ = false := blk_free Q1.out 0
          have y1 : w2.cell? ⟨w.heap.size + 1, 1, none⟩ = some (.int .i64 (k : Int)) := blk_cell Q1.out 1
          have yf1 : w2.frozen? ⟨w.heap.size + 1, 1, none⟩ = false := blk_free Q1.out 1
          have y2 : w2.cell? ⟨w.heap.size + 1, 2, none⟩ = some (.int .i64 0) := blk_cell Q1.out 2
          have yf2 : w2.frozen? ⟨w.heap.size + 1, 2, none⟩ = false := blk_free Q1.out 2
          have y3 : w2.cell? ⟨w.heap.size + 1, 3, none⟩ = some (.string ⟨#[]⟩) := blk_cell Q1.out 3
          have yf3 : w2.frozen? ⟨w.heap.size + 1, 3, none⟩ = false := blk_free Q1.out 3
          have y4 : w2.cell? ⟨w.heap.size + 1, 4, none⟩ = some (.int .i64 0) := blk_cell Q1.out 4
          have yf4 : w2.frozen? ⟨w.heap.size + 1, 4, none⟩ = false := blk_free Q1.out 4
          go_wp2_with fail
          refine (L1.out _).mono ?_
          rintro e w' ⟨rfl, rfl⟩
          go_wp2_with fail
          have h6 := set5 ((Below.heap_setCell (w2.setCell ⟨w.heap.size + 1, 0, none⟩ (.int .u8 2)) ⟨w.heap.size + 1, 2, none⟩ (.int .i64 n) w.heap.size (by show w.heap.size ≠ w.heap.size + 1; omega)).trans ((Below.heap_setCell w2 ⟨w.heap.size + 1, 0, none⟩ (.int .u8 2) w.heap.size (by show w.heap.size ≠ w.heap.size + 1; omega)).trans Q0.out)) (.int .u8 2) (.int .i64 (k : Int)) (.int .i64 n) (.string ⟨#[]⟩) (.int .i64 0)
          have e0 := blk_cell h6 0
          have e1 := blk_cell h6 1
          have e2 := blk_cell h6 2
          have e3 := blk_cell h6 3
          have e4 := blk_cell h6 4
          refine bodyPost_ret (v := .tuple #[.agg #[.int .u8 2, .int .i64 (k : Int), .int .i64 n, .string ⟨#[]⟩, .int .i64 0], .int .i64 (e), .bool false]) (by simp [results, Tryd.results51, go_sem, e0, e1, e2, e3, e4]) rfl ⟨⟨_, _, _, _, _, rfl⟩, ?_⟩
          exact (((((((HB2.out.setCell (p := ⟨w.heap.size + 1, 0, none⟩) (by simp) (.int .u8 2)).setCell (p := ⟨w.heap.size + 1, 2, none⟩) (by simp) (.int .i64 n)).setCell (p := ⟨w.heap.size, 0, none⟩) (Nat.le_refl _) (.int .u8 2)).setCell (p := ⟨w.heap.size, 1, none⟩) (Nat.le_refl _) (.int .i64 (k : Int))).setCell (p := ⟨w.heap.size, 2, none⟩) (Nat.le_refl _) (.int .i64 n)).setCell (p := ⟨w.heap.size, 3, none⟩) (Nat.le_refl _) (.string ⟨#[]⟩)).setCell (p := ⟨w.heap.size, 4, none⟩) (Nat.le_refl _) (.int .i64 0))

        | false =>
          rw [hl] at L1
          cases hd2 : digitI ce with
          | true =>
            rw [if_pos ⟨he, by simp⟩]
            rw [hd2] at L2
            clear hl hd2
            go_enter Tryd.func51, Tryd.ntmps51
            go_wp2_with fail
            refine (A1.out _).mono ?_
            rintro e w0 ⟨rfl, hw0⟩
            obtain ⟨z0, z1, hbw, hsz⟩ := one_start w w0 (k : Int) hw0
            have Z0 := Lib.hid z0
            have Z1 := Lib.hid z1
            have HBW := Lib.hid hbw
            have HSZ := Lib.hid hsz
            clear z0 z1 hbw hsz hw0
            have x0 : w0.cell? ⟨w.heap.size, 0, none⟩ = some (.int .u8 0) := blk_cell Z0.out 0
            have xf0 : w0.frozen? ⟨w.heap.size, 0, none⟩ = false := blk_free Z0.out 0
            have x1 : w0.cell? ⟨w.heap.size, 1, none⟩ = some (.int .i64 0) := blk_cell Z0.out 1
            have xf1 : w0.frozen? ⟨w.heap.size, 1, none⟩ = false := blk_free Z0.out 1
            have x2 : w0.cell? ⟨w.heap.size, 2, none⟩ = some (.int .i64 0) := blk_cell Z0.out 2
            have xf2 : w0.frozen? ⟨w.heap.size, 2, none⟩ = false := blk_free Z0.out 2
            have x3 : w0.cell? ⟨w.heap.size, 3, none⟩ = some (.string ⟨#[]⟩) := blk_cell Z0.out 3
            have xf3 : w0.frozen? ⟨w.heap.size, 3, none⟩ = false := blk_free Z0.out 3
            have x4 : w0.cell? ⟨w.heap.size, 4, none⟩ = some (.int .i64 0) := blk_cell Z0.out 4
            have xf4 : w0.frozen? ⟨w.heap.size, 4, none⟩ = false := blk_free Z0.out 4
            have y0 : w0.cell? ⟨w.heap.size + 1, 0, none⟩ = some (.int .u8 0) := blk_cell Z1.out 0
            have yf0 : w0.frozen? ⟨w.heap.size + 1, 0, none⟩ = false := blk_free Z1.out 0
            have y1 : w0.cell? ⟨w.heap.size + 1, 1, none⟩ = some (.int .i64 (k : Int)) := blk_cell Z1.out 1
            have yf1 : w0.frozen? ⟨w.heap.size + 1, 1, none⟩ = false := blk_free Z1.out 1
            have y2 : w0.cell? ⟨w.heap.size + 1, 2, none⟩ = some (.int .i64 0) := blk_cell Z1.out 2
            have yf2 : w0.frozen? ⟨w.heap.size + 1, 2, none⟩ = false := blk_free Z1.out 2
            have y3 : w0.cell? ⟨w.heap.size + 1, 3, none⟩ = some (.string ⟨#[]⟩) := blk_cell Z1.out 3
            have yf3 : w0.frozen? ⟨w.heap.size + 1, 3, none⟩ = false := blk_free Z1.out 3
            have y4 : w0.cell? ⟨w.heap.size + 1, 4, none⟩ = some (.int .i64 0) := blk_cell Z1.out 4
            have yf4 : w0.frozen? ⟨w.heap.size + 1, 4, none⟩ = false := blk_free Z1.out 4
            go_wp2_with fail
            refine (A2.out _).mono ?_
            rintro e w' ⟨rfl, rfl⟩
            go_wp2_with fail
            refine (WH.out _).mono ?_
            rintro e w' ⟨rfl, rfl⟩
            go_wp2_with fail
            rw [← HX.out]
            refine (NU.out _).mono ?_
            rintro e2 w2 ⟨rfl, hb2⟩
            have y0' := hb2.block w.heap.size (by rw [HSZ.out]; omega)
            have y1' := hb2.block (w.heap.size + 1) (by rw [HSZ.out]; omega)
            have Q0 := Lib.hid (y0'.trans Z0.out)
            have Q1 := Lib.hid (y1'.trans Z1.out)
            have HB2 := Lib.hid (HBW.out.trans (hb2.mono (by rw [HSZ.out]; omega)))
            clear y0' y1' hb2 Z0 Z1 HBW
            clear x0 xf0 y0 yf0 x1 xf1 y1 yf1 x2 xf2 y2 yf2 x3 xf3 y3 yf3 x4 xf4 y4 yf4
            have x0 : w2.cell? ⟨w.heap.size, 0, none⟩ = some (.int .u8 0) := blk_cell Q0.out 0
            have xf0 : w2.frozen? ⟨w.heap.size, 0, none⟩ = false := blk_free Q0.out 0
            have x1 : w2.cell? ⟨w.heap.size, 1, none⟩ = some (.int .i64 0) := blk_cell Q0.out 1
            have xf1 : w2.frozen? ⟨w.heap.size, 1, none⟩ = false := blk_free Q0.out 1
            have x2 : w2.cell? ⟨w.heap.size, 2, none⟩ = some (.int .i64 0) := blk_cell Q0.out 2
            have xf2 : w2.frozen? ⟨w.heap.size, 2, none⟩ = false := blk_free Q0.out 2
            have x3 : w2.cell? ⟨w.heap.size, 3, none⟩ = some (.string ⟨#[]⟩) := blk_cell Q0.out 3
            have xf3 : w2.frozen? ⟨w.heap.size, 3, none⟩ = false := blk_free Q0.out 3
            have x4 : w2.cell? ⟨w.heap.size, 4, none⟩ = some (.int .i64 0) := blk_cell Q0.out 4
            have xf4 : w2.frozen? ⟨w.heap.size, 4, none⟩ = false := blk_free Q0.out 4
            have y0 : w2.cell? ⟨w.heap.size + 1, 0, none⟩ = some (.int .u8 0) := blk_cell Q1.out 0
            have yf0 : w2.frozen? ⟨w.heap.size + 1, 0, none⟩ = false := blk_free Q1.out 0
            have y1 : w2.cell? ⟨w.heap.size + 1, 1, none⟩ = some (.int .i64 (k : Int)) := blk_cell Q1.out 1
            have yf1 : w2.frozen? ⟨w.heap.size + 1, 1, none⟩ = false := blk_free Q1.out 1
            have y2 : w2.cell? ⟨w.heap.size + 1, 2, none⟩ = some (.int .i64 0) := blk_cell Q1.out 2
            have yf2 : w2.frozen? ⟨w.heap.size + 1, 2, none⟩ = false := blk_free Q1.out 2
            have y3 : w2.cell? ⟨w.heap.size + 1, 3, none⟩ = some (.string ⟨#[]⟩) := blk_cell Q1.out 3
            have yf3 : w2.frozen? ⟨w.heap.size + 1, 3, none⟩ = false := blk_free Q1.out 3
            have y4 : w2.cell? ⟨w.heap.size + 1, 4, none⟩ = some (.int .i64 0) := blk_cell Q1.out 4
            have yf4 : w2.frozen? ⟨w.heap.size + 1, 4, none⟩ = false := blk_free Q1.out 4
            go_wp2_with fail
            refine (L1.out _).mono ?_
            rintro e w' ⟨rfl, rfl⟩
            go_wp2_with fail
            refine (L2.out _).mono ?_
            rintro e w' ⟨rfl, rfl⟩
            go_wp2_with fail
            have h6 := set5 ((Below.heap_setCell (w2.setCell ⟨w.heap.size + 1, 0, none⟩ (.int .u8 2)) ⟨w.heap.size + 1, 2, none⟩ (.int .i64 n) w.heap.size (by show w.heap.size ≠ w.heap.size + 1; omega)).trans ((Below.heap_setCell w2 ⟨w.heap.size + 1, 0, none⟩ (.int .u8 2) w.heap.size (by show w.heap.size ≠ w.heap.size + 1; omega)).trans Q0.out)) (.int .u8 2) (.int .i64 (k : Int)) (.int .i64 n) (.string ⟨#[]⟩) (.int .i64 0)
            have e0 := blk_cell h6 0
            have e1 := blk_cell h6 1
            have e2 := blk_cell h6 2
            have e3 := blk_cell h6 3
            have e4 := blk_cell h6 4
            refine bodyPost_ret (v := .tuple #[.agg #[.int .u8 2, .int .i64 (k : Int), .int .i64 n, .string ⟨#[]⟩, .int .i64 0], .int .i64 (e), .bool false]) (by simp [results, Tryd.results51, go_sem, e0, e1, e2, e3, e4]) rfl ⟨⟨_, _, _, _, _, rfl⟩, ?_⟩
            exact (((((((HB2.out.setCell (p := ⟨w.heap.size + 1, 0, none⟩) (by simp) (.int .u8 2)).setCell (p := ⟨w.heap.size + 1, 2, none⟩) (by simp) (.int .i64 n)).setCell (p := ⟨w.heap.size, 0, none⟩) (Nat.le_refl _) (.int .u8 2)).setCell (p := ⟨w.heap.size, 1, none⟩) (Nat.le_refl _) (.int .i64 (k : Int))).setCell (p := ⟨w.heap.size, 2, none⟩) (Nat.le_refl _) (.int .i64 n)).setCell (p := ⟨w.heap.size, 3, none⟩) (Nat.le_refl _) (.string ⟨#[]⟩)).setCell (p := ⟨w.heap.size, 4, none⟩) (Nat.le_refl _) (.int .i64 0))

          | false =>
            rw [if_neg (by simp)]
            rw [hd2] at L2
            clear hl hd2
            go_enter Tryd.func51, Tryd.ntmps51
            go_wp2_with fail
            refine (A1.out _).mono ?_
            rintro e w0 ⟨rfl, hw0⟩
            obtain ⟨z0, z1, hbw, hsz⟩ := one_start w w0 (k : Int) hw0
            have Z0 := Lib.hid z0
            have Z1 := Lib.hid z1
            have HBW := Lib.hid hbw
            have HSZ := Lib.hid hsz
            clear z0 z1 hbw hsz hw0
            have x0 : w0.cell? ⟨w.heap.size, 0, none⟩ = some (.int .u8 0) := blk_cell Z0.out 0
            have xf0 : w0.frozen? ⟨w.heap.size, 0, none⟩ = false := blk_free Z0.out 0
            have x1 : w0.cell? ⟨w.heap.size, 1, none⟩ = some (.int .i64 0) := blk_cell Z0.out 1
            have xf1 : w0.frozen? ⟨w.heap.size, 1, none⟩ = false := blk_free Z0.out 1
            have x2 : w0.cell? ⟨w.heap.size, 2, none⟩ = some (.int .i64 0) := blk_cell Z0.out 2
            have xf2 : w0.frozen? ⟨w.heap.size, 2, none⟩ = false := blk_free Z0.out 2
            have x3 : w0.cell? ⟨w.heap.size, 3, none⟩ = some (.string ⟨#[]⟩) := blk_cell Z0.out 3
            have xf3 : w0.frozen? ⟨w.heap.size, 3, none⟩ = false := blk_free Z0.out 3
            have x4 : w0.cell? ⟨w.heap.size, 4, none⟩ = some (.int .i64 0) := blk_cell Z0.out 4
            have xf4 : w0.frozen? ⟨w.heap.size, 4, none⟩ = false := blk_free Z0.out 4
            have y0 : w0.cell? ⟨w.heap.size + 1, 0, none⟩ = some (.int .u8 0) := blk_cell Z1.out 0
            have yf0 : w0.frozen? ⟨w.heap.size + 1, 0, none⟩ = false := blk_free Z1.out 0
            have y1 : w0.cell? ⟨w.heap.size + 1, 1, none⟩ = some (.int .i64 (k : Int)) := blk_cell Z1.out 1
            have yf1 : w0.frozen? ⟨w.heap.size + 1, 1, none⟩ = false := blk_free Z1.out 1
            have y2 : w0.cell? ⟨w.heap.size + 1, 2, none⟩ = some (.int .i64 0) := blk_cell Z1.out 2
            have yf2 : w0.frozen? ⟨w.heap.size + 1, 2, none⟩ = false := blk_free Z1.out 2
            have y3 : w0.cell? ⟨w.heap.size + 1, 3, none⟩ = some (.string ⟨#[]⟩) := blk_cell Z1.out 3
            have yf3 : w0.frozen? ⟨w.heap.size + 1, 3, none⟩ = false := blk_free Z1.out 3
            have y4 : w0.cell? ⟨w.heap.size + 1, 4, none⟩ = some (.int .i64 0) := blk_cell Z1.out 4
            have yf4 : w0.frozen? ⟨w.heap.size + 1, 4, none⟩ = false := blk_free Z1.out 4
            go_wp2_with fail
            refine (A2.out _).mono ?_
            rintro e w' ⟨rfl, rfl⟩
            go_wp2_with fail
            refine (WH.out _).mono ?_
            rintro e w' ⟨rfl, rfl⟩
            go_wp2_with fail
            rw [← HX.out]
            refine (NU.out _).mono ?_
            rintro e2 w2 ⟨rfl, hb2⟩
            have y0' := hb2.block w.heap.size (by rw [HSZ.out]; omega)
            have y1' := hb2.block (w.heap.size + 1) (by rw [HSZ.out]; omega)
            have Q0 := Lib.hid (y0'.trans Z0.out)
            have Q1 := Lib.hid (y1'.trans Z1.out)
            have HB2 := Lib.hid (HBW.out.trans (hb2.mono (by rw [HSZ.out]; omega)))
            clear y0' y1' hb2 Z0 Z1 HBW
            clear x0 xf0 y0 yf0 x1 xf1 y1 yf1 x2 xf2 y2 yf2 x3 xf3 y3 yf3 x4 xf4 y4 yf4
            have x0 : w2.cell? ⟨w.heap.size, 0, none⟩ = some (.int .u8 0) := blk_cell Q0.out 0
            have xf0 : w2.frozen? ⟨w.heap.size, 0, none⟩ = false := blk_free Q0.out 0
            have x1 : w2.cell? ⟨w.heap.size, 1, none⟩ = some (.int .i64 0) := blk_cell Q0.out 1
            have xf1 : w2.frozen? ⟨w.heap.size, 1, none⟩ = false := blk_free Q0.out 1
            have x2 : w2.cell? ⟨w.heap.size, 2, none⟩ = some (.int .i64 0) := blk_cell Q0.out 2
            have xf2 : w2.frozen? ⟨w.heap.size, 2, none⟩ = false := blk_free Q0.out 2
            have x3 : w2.cell? ⟨w.heap.size, 3, none⟩ = some (.string ⟨#[]⟩) := blk_cell Q0.out 3
            have xf3 : w2.frozen? ⟨w.heap.size, 3, none⟩ = false := blk_free Q0.out 3
            have x4 : w2.cell? ⟨w.heap.size, 4, none⟩ = some (.int .i64 0) := blk_cell Q0.out 4
            have xf4 : w2.frozen? ⟨w.heap.size, 4, none⟩ = false := blk_free Q0.out 4
            have y0 : w2.cell? ⟨w.heap.size + 1, 0, none⟩ = some (.int .u8 0) := blk_cell Q1.out 0
            have yf0 : w2.frozen? ⟨w.heap.size + 1, 0, none⟩ = false := blk_free Q1.out 0
            have y1 : w2.cell? ⟨w.heap.size + 1, 1, none⟩ = some (.int .i64 (k : Int)) := blk_cell Q1.out 1
            have yf1 : w2.frozen? ⟨w.heap.size + 1, 1, none⟩ = false := blk_free Q1.out 1
            have y2 : w2.cell? ⟨w.heap.size + 1, 2, none⟩ = some (.int .i64 0) := blk_cell Q1.out 2
            have yf2 : w2.frozen? ⟨w.heap.size + 1, 2, none⟩ = false := blk_free Q1.out 2
            have y3 : w2.cell? ⟨w.heap.size + 1, 3, none⟩ = some (.string ⟨#[]⟩) := blk_cell Q1.out 3
            have yf3 : w2.frozen? ⟨w.heap.size + 1, 3, none⟩ = false := blk_free Q1.out 3
            have y4 : w2.cell? ⟨w.heap.size + 1, 4, none⟩ = some (.int .i64 0) := blk_cell Q1.out 4
            have yf4 : w2.frozen? ⟨w.heap.size + 1, 4, none⟩ = false := blk_free Q1.out 4
            go_wp2_with fail
            refine (L1.out _).mono ?_
            rintro e w' ⟨rfl, rfl⟩
            go_wp2_with fail
            refine (L2.out _).mono ?_
            rintro e w' ⟨rfl, rfl⟩
            go_wp2_with fail
            have h6 := set5 ((Below.heap_setCell (w2.setCell ⟨w.heap.size + 1, 0, none⟩ (.int .u8 2)) ⟨w.heap.size + 1, 2, none⟩ (.int .i64 n) w.heap.size (by show w.heap.size ≠ w.heap.size + 1; omega)).trans ((Below.heap_setCell w2 ⟨w.heap.size + 1, 0, none⟩ (.int .u8 2) w.heap.size (by show w.heap.size ≠ w.heap.size + 1; omega)).trans Q0.out)) (.int .u8 2) (.int .i64 (k : Int)) (.int .i64 n) (.string ⟨#[]⟩) (.int .i64 0)
            have e0 := blk_cell h6 0
            have e1 := blk_cell h6 1
            have e2 := blk_cell h6 2
            have e3 := blk_cell h6 3
            have e4 := blk_cell h6 4
            refine bodyPost_ret (v := .tuple #[.agg #[.int .u8 2, .int .i64 (k : Int), .int .i64 n, .string ⟨#[]⟩, .int .i64 0], .int .i64 (e), .bool true]) (by simp [results, Tryd.results51, go_sem, e0, e1, e2, e3, e4]) rfl ⟨rfl, ?_⟩
            exact (((((((HB2.out.setCell (p := ⟨w.heap.size + 1, 0, none⟩) (by simp) (.int .u8 2)).setCell (p := ⟨w.heap.size + 1, 2, none⟩) (by simp) (.int .i64 n)).setCell (p := ⟨w.heap.size, 0, none⟩) (Nat.le_refl _) (.int .u8 2)).setCell (p := ⟨w.heap.size, 1, none⟩) (Nat.le_refl _) (.int .i64 (k : Int))).setCell (p := ⟨w.heap.size, 2, none⟩) (Nat.le_refl _) (.int .i64 n)).setCell (p := ⟨w.heap.size, 3, none⟩) (Nat.le_refl _) (.string ⟨#[]⟩)).setCell (p := ⟨w.heap.size, 4, none⟩) (Nat.le_refl _) (.int .i64 0))
      · have t8 : decide ((e : Int) < (s.size : Int)) = false := by simp; omega
        rw [if_neg (fun h => he h.1)]
        go_enter Tryd.func51, Tryd.ntmps51
        go_wp2_with fail
        refine (A1.out _).mono ?_
        rintro e w0 ⟨rfl, hw0⟩
        obtain ⟨z0, z1, hbw, hsz⟩ := one_start w w0 (k : Int) hw0
        have Z0 := Lib.hid z0
        have Z1 := Lib.hid z1
        have HBW := Lib.hid hbw
        have HSZ := Lib.hid hsz
        clear z0 z1 hbw hsz hw0
        have x0 : w0.cell? ⟨w.heap.size, 0, none⟩ = some (.int .u8 0) := blk_cell Z0.out 0
        have xf0 : w0.frozen? ⟨w.heap.size, 0, none⟩ = false := blk_free Z0.out 0
        have x1 : w0.cell? ⟨w.heap.size, 1, none⟩ = some (.int .i64 0) := blk_cell Z0.out 1
        have xf1 : w0.frozen? ⟨w.heap.size, 1, none⟩ = false := blk_free Z0.out 1
        have x2 : w0.cell? ⟨w.heap.size, 2, none⟩ = some (.int .i64 0) := blk_cell Z0.out 2
        have xf2 : w0.frozen? ⟨w.heap.size, 2, none⟩ = false := blk_free Z0.out 2
        have x3 : w0.cell? ⟨w.heap.size, 3, none⟩ = some (.string ⟨#[]⟩) := blk_cell Z0.out 3
        have xf3 : w0.frozen? ⟨w.heap.size, 3, none⟩ = false := blk_free Z0.out 3
        have x4 : w0.cell? ⟨w.heap.size, 4, none⟩ = some (.int .i64 0) := blk_cell Z0.out 4
        have xf4 : w0.frozen? ⟨w.heap.size, 4, none⟩ = false := blk_free Z0.out 4
        have y0 : w0.cell? ⟨w.heap.size + 1, 0, none⟩ = some (.int .u8 0) := blk_cell Z1.out 0
        have yf0 : w0.frozen? ⟨w.heap.size + 1, 0, none⟩ = false := blk_free Z1.out 0
        have y1 : w0.cell? ⟨w.heap.size + 1, 1, none⟩ = some (.int .i64 (k : Int)) := blk_cell Z1.out 1
        have yf1 : w0.frozen? ⟨w.heap.size + 1, 1, none⟩ = false := blk_free Z1.out 1
        have y2 : w0.cell? ⟨w.heap.size + 1, 2, none⟩ = some (.int .i64 0) := blk_cell Z1.out 2
        have yf2 : w0.frozen? ⟨w.heap.size + 1, 2, none⟩ = false := blk_free Z1.out 2
        have y3 : w0.cell? ⟨w.heap.size + 1, 3, none⟩ = some (.string ⟨#[]⟩) := blk_cell Z1.out 3
        have yf3 : w0.frozen? ⟨w.heap.size + 1, 3, none⟩ = false := blk_free Z1.out 3
        have y4 : w0.cell? ⟨w.heap.size + 1, 4, none⟩ = some (.int .i64 0) := blk_cell Z1.out 4
        have yf4 : w0.frozen? ⟨w.heap.size + 1, 4, none⟩ = false := blk_free Z1.out 4
        go_wp2_with fail
        refine (A2.out _).mono ?_
        rintro e w' ⟨rfl, rfl⟩
        go_wp2_with fail
        refine (WH.out _).mono ?_
        rintro e w' ⟨rfl, rfl⟩
        go_wp2_with fail
        rw [← HX.out]
        refine (NU.out _).mono ?_
        rintro e2 w2 ⟨rfl, hb2⟩
        have y0' := hb2.block w.heap.size (by rw [HSZ.out]; omega)
        have y1' := hb2.block (w.heap.size + 1) (by rw [HSZ.out]; omega)
        have Q0 := Lib.hid (y0'.trans Z0.out)
        have Q1 := Lib.hid (y1'.trans Z1.out)
        have HB2 := Lib.hid (HBW.out.trans (hb2.mono (by rw [HSZ.out]; omega)))
        clear y0' y1' hb2 Z0 Z1 HBW
        clear x0 xf0 y0 yf0 x1 xf1 y1 yf1 x2 xf2 y2 yf2 x3 xf3 y3 yf3 x4 xf4 y4 yf4
        have x0 : w2.cell? ⟨w.heap.size, 0, none⟩ = some (.int .u8 0) := blk_cell Q0.out 0
        have xf0 : w2.frozen? ⟨w.heap.size, 0, none⟩ = false := blk_free Q0.out 0
        have x1 : w2.cell? ⟨w.heap.size, 1, none⟩ = some (.int .i64 0) := blk_cell Q0.out 1
        have xf1 : w2.frozen? ⟨w.heap.size, 1, none⟩ = false := blk_free Q0.out 1
        have x2 : w2.cell? ⟨w.heap.size, 2, none⟩ = some (.int .i64 0) := blk_cell Q0.out 2
        have xf2 : w2.frozen? ⟨w.heap.size, 2, none⟩ = false := blk_free Q0.out 2
        have x3 : w2.cell? ⟨w.heap.size, 3, none⟩ = some (.string ⟨#[]⟩) := blk_cell Q0.out 3
        have xf3 : w2.frozen? ⟨w.heap.size, 3, none⟩ = false := blk_free Q0.out 3
        have x4 : w2.cell? ⟨w.heap.size, 4, none⟩ = some (.int .i64 0) := blk_cell Q0.out 4
        have xf4 : w2.frozen? ⟨w.heap.size, 4, none⟩ = false := blk_free Q0.out 4
        have y0 : w2.cell? ⟨w.heap.size + 1, 0, none⟩ = some (.int .u8 0) := blk_cell Q1.out 0
        have yf0 : w2.frozen? ⟨w.heap.size + 1, 0, none⟩ = false := blk_free Q1.out 0
        have y1 : w2.cell? ⟨w.heap.size + 1, 1, none⟩ = some (.int .i64 (k : Int)) := blk_cell Q1.out 1
        have yf1 : w2.frozen? ⟨w.heap.size + 1, 1, none⟩ = false := blk_free Q1.out 1
        have y2 : w2.cell? ⟨w.heap.size + 1, 2, none⟩ = some (.int .i64 0) := blk_cell Q1.out 2
        have yf2 : w2.frozen? ⟨w.heap.size + 1, 2, none⟩ = false := blk_free Q1.out 2
        have y3 : w2.cell? ⟨w.heap.size + 1, 3, none⟩ = some (.string ⟨#[]⟩) := blk_cell Q1.out 3
        have yf3 : w2.frozen? ⟨w.heap.size + 1, 3, none⟩ = false := blk_free Q1.out 3
        have y4 : w2.cell? ⟨w.heap.size + 1, 4, none⟩ = some (.int .i64 0) := blk_cell Q1.out 4
        have yf4 : w2.frozen? ⟨w.heap.size + 1, 4, none⟩ = false := blk_free Q1.out 4
        go_wp2_with fail
        have h6 := set5 ((Below.heap_setCell (w2.setCell ⟨w.heap.size + 1, 0, none⟩ (.int .u8 2)) ⟨w.heap.size + 1, 2, none⟩ (.int .i64 n) w.heap.size (by show w.heap.size ≠ w.heap.size + 1; omega)).trans ((Below.heap_setCell w2 ⟨w.heap.size + 1, 0, none⟩ (.int .u8 2) w.heap.size (by show w.heap.size ≠ w.heap.size + 1; omega)).trans Q0.out)) (.int .u8 2) (.int .i64 (k : Int)) (.int .i64 n) (.string ⟨#[]⟩) (.int .i64 0)
        have e0 := blk_cell h6 0
        have e1 := blk_cell h6 1
        have e2 := blk_cell h6 2
        have e3 := blk_cell h6 3
        have e4 := blk_cell h6 4
        refine bodyPost_ret (v := .tuple #[.agg #[.int .u8 2, .int .i64 (k : Int), .int .i64 n, .string ⟨#[]⟩, .int .i64 0], .int .i64 (e), .bool true]) (by simp [results, Tryd.results51, go_sem, e0, e1, e2, e3, e4]) rfl ⟨rfl, ?_⟩
        exact (((((((HB2.out.setCell (p := ⟨w.heap.size + 1, 0, none⟩) (by simp) (.int .u8 2)).setCell (p := ⟨w.heap.size + 1, 2, none⟩) (by simp) (.int .i64 n)).setCell (p := ⟨w.heap.size, 0, none⟩) (Nat.le_refl _) (.int .u8 2)).setCell (p := ⟨w.heap.size, 1, none⟩) (Nat.le_refl _) (.int .i64 (k : Int))).setCell (p := ⟨w.heap.size, 2, none⟩) (Nat.le_refl _) (.int .i64 n)).setCell (p := ⟨w.heap.size, 3, none⟩) (Nat.le_refl _) (.string ⟨#[]⟩)).setCell (p := ⟨w.heap.size, 4, none⟩) (Nat.le_refl _) (.int .i64 0))

set_option maxRecDepth 100000 in
theorem one_ref (s : ByteArray) (k : Nat) (w : World) (hS : s.size ≤ 140737488351232) (hk : k < s.size) (hc : bAt s k = 35) :
    Calls Tryd.prog 51 #[.string s, .int .i64 (k : Int)] w (OnePost (endChk s (match numT (s.extract (k + 1) (whileF s false (s.size + 1) (k + 1))) with | none => .error k | some n => if n < 1 then .error k else .ok (⟨4, k, 0, ⟨#[]⟩, n⟩, whileF s false (s.size + 1) (k + 1)))) w) := by
  have g0 : (0 : Int) ≤ (k : Int) := by omega
  have g1 : (k : Int) < (s.size : Int) := by omega
  have hbe := bAt_eq s k hk
  have a1 := refLetter_any (bAt s k)
  have a2 := refDigit_any (bAt s k)
  have a3 := refSign_any (bAt s k)
  rw [hc] at hbe a1 a2 a3
  rw [show letterI 35 = false from rfl] at a1
  rw [show digitI 35 = false from rfl] at a2
  clear hc
  have A1 := Lib.hid a1
  have A2 := Lib.hid a2
  have A3 := Lib.hid a3
  clear a1 a2 a3
  obtain ⟨h1, h2⟩ := wstep_le s false (k + 1) (by omega)
  have WH := Lib.hid (fun W => while_any s (k + 1) false W hS (by omega))
  have NU := Lib.hid (fun W => number_any (s.extract (k + 1) (whileF s false (s.size + 1) (k + 1))) W (by have := extract_size_le s (k + 1) (whileF s false (s.size + 1) (k + 1)); omega))
  generalize whileF s false (s.size + 1) (k + 1) = e at h1 h2 WH NU ⊢
  have u2 : ((k : Int) + 1 : Int) ≤ (e : Int) := by omega
  have u3 : (e : Int) ≤ (s.size : Int) := by omega
  obtain ⟨x, hx⟩ : ∃ x, x = s.extract (k + 1) e := ⟨_, rfl⟩
  rw [← hx] at NU ⊢
  have HX := Lib.hid hx
  clear hx
  generalize numT x = r at NU ⊢
  rw [show ((k + 1 : Nat) : Int) = (k : Int) + 1 by omega] at WH
  cases r with
  | none =>
    go_enter Tryd.func51, Tryd.ntmps51
    go_wp2_with fail
    refine (A1.out _).mono ?_
    rintro e w0 ⟨rfl, hw0⟩
    obtain ⟨z0, z1, hbw, hsz⟩ := one_start w w0 (k : Int) hw0
    have Z0 := Lib.hid z0
    have Z1 := Lib.hid z1
    have HBW := Lib.hid hbw
    have HSZ := Lib.hid hsz
    clear z0 z1 hbw hsz hw0
    have x0 : w0.cell? ⟨w.heap.size, 0, none⟩ = some (.int .u8 0) := blk_cell Z0.out 0
    have xf0 : w0.frozen? ⟨w.heap.size, 0, none⟩ = false := blk_free Z0.out 0
    have x1 : w0.cell? ⟨w.heap.size, 1, none⟩ = some (.int .i64 0) := blk_cell Z0.out 1
    have xf1 : w0.frozen? ⟨w.heap.size, 1, none⟩ = false := blk_free Z0.out 1
    have x2 : w0.cell? ⟨w.heap.size, 2, none⟩ = some (.int .i64 0) := blk_cell Z0.out 2
    have xf2 : w0.frozen? ⟨w.heap.size, 2, none⟩ = false := blk_free Z0.out 2
    have x3 : w0.cell? ⟨w.heap.size, 3, none⟩ = some (.string ⟨#[]⟩) := blk_cell Z0.out 3
    have xf3 : w0.frozen? ⟨w.heap.size, 3, none⟩ = false := blk_free Z0.out 3
    have x4 : w0.cell? ⟨w.heap.size, 4, none⟩ = some (.int .i64 0) := blk_cell Z0.out 4
    have xf4 : w0.frozen? ⟨w.heap.size, 4, none⟩ = false := blk_free Z0.out 4
    have y0 : w0.cell? ⟨w.heap.size + 1, 0, none⟩ = some (.int .u8 0) := blk_cell Z1.out 0
    have yf0 : w0.frozen? ⟨w.heap.size + 1, 0, none⟩ = false := blk_free Z1.out 0
    have y1 : w0.cell? ⟨w.heap.size + 1, 1, none⟩ = some (.int .i64 (k : Int)) := blk_cell Z1.out 1
    have yf1 : w0.frozen? ⟨w.heap.size + 1, 1, none⟩ = false := blk_free Z1.out 1
    have y2 : w0.cell? ⟨w.heap.size + 1, 2, none⟩ = some (.int .i64 0) := blk_cell Z1.out 2
    have yf2 : w0.frozen? ⟨w.heap.size + 1, 2, none⟩ = false := blk_free Z1.out 2
    have y3 : w0.cell? ⟨w.heap.size + 1, 3, none⟩ = some (.string ⟨#[]⟩) := blk_cell Z1.out 3
    have yf3 : w0.frozen? ⟨w.heap.size + 1, 3, none⟩ = false := blk_free Z1.out 3
    have y4 : w0.cell? ⟨w.heap.size + 1, 4, none⟩ = some (.int .i64 0) := blk_cell Z1.out 4
    have yf4 : w0.frozen? ⟨w.heap.size + 1, 4, none⟩ = false := blk_free Z1.out 4
    go_wp2_with fail
    refine (A2.out _).mono ?_
    rintro e w' ⟨rfl, rfl⟩
    go_wp2_with fail
    refine (WH.out _).mono ?_
    rintro e w' ⟨rfl, rfl⟩
    go_wp2_with fail
    rw [← HX.out]
    refine (NU.out _).mono ?_
    rintro e2 w2 ⟨⟨n, rfl⟩, hb2⟩
    have y0' := hb2.block w.heap.size (by rw [HSZ.out]; omega)
    have y1' := hb2.block (w.heap.size + 1) (by rw [HSZ.out]; omega)
    have Q0 := Lib.hid (y0'.trans Z0.out)
    have Q1 := Lib.hid (y1'.trans Z1.out)
    have HB2 := Lib.hid (HBW.out.trans (hb2.mono (by rw [HSZ.out]; omega)))
    clear y0' y1' hb2 Z0 Z1 HBW
    clear x0 xf0 y0 yf0 x1 xf1 y1 yf1 x2 xf2 y2 yf2 x3 xf3 y3 yf3 x4 xf4 y4 yf4
    have x0 : w2.cell? ⟨w.heap.size, 0, none⟩ = some (.int .u8 0) := blk_cell Q0.out 0
    have xf0 : w2.frozen? ⟨w.heap.size, 0, none⟩ = false := blk_free Q0.out 0
    have x1 : w2.cell? ⟨w.heap.size, 1, none⟩ = some (.int .i64 0) := blk_cell Q0.out 1
    have xf1 : w2.frozen? ⟨w.heap.size, 1, none⟩ = false := blk_free Q0.out 1
    have x2 : w2.cell? ⟨w.heap.size, 2, none⟩ = some (.int .i64 0) := blk_cell Q0.out 2
    have xf2 : w2.frozen? ⟨w.heap.size, 2, none⟩ = false := blk_free Q0.out 2
    have x3 : w2.cell? ⟨w.heap.size, 3, none⟩ = some (.string ⟨#[]⟩) := blk_cell Q0.out 3
    have xf3 : w2.frozen? ⟨w.heap.size, 3, none⟩ = false := blk_free Q0.out 3
    have x4 : w2.cell? ⟨w.heap.size, 4, none⟩ = some (.int .i64 0) := blk_cell Q0.out 4
    have xf4 : w2.frozen? ⟨w.heap.size, 4, none⟩ = false := blk_free Q0.out 4
    have y0 : w2.cell? ⟨w.heap.size + 1, 0, none⟩ = some (.int .u8 0) := blk_cell Q1.out 0
    have yf0 : w2.frozen? ⟨w.heap.size + 1, 0, none⟩ = false := blk_free Q1.out 0
    have y1 : w2.cell? ⟨w.heap.size + 1, 1, none⟩ = some (.int .i64 (k : Int)) := blk_cell Q1.out 1
    have yf1 : w2.frozen? ⟨w.heap.size + 1, 1, none⟩ = false := blk_free Q1.out 1
    have y2 : w2.cell? ⟨w.heap.size + 1, 2, none⟩ = some (.int .i64 0) := blk_cell Q1.out 2
    have yf2 : w2.frozen? ⟨w.heap.size + 1, 2, none⟩ = false := blk_free Q1.out 2
    have y3 : w2.cell? ⟨w.heap.size + 1, 3, none⟩ = some (.string ⟨#[]⟩) := blk_cell Q1.out 3
    have yf3 : w2.frozen? ⟨w.heap.size + 1, 3, none⟩ = false := blk_free Q1.out 3
    have y4 : w2.cell? ⟨w.heap.size + 1, 4, none⟩ = some (.int .i64 0) := blk_cell Q1.out 4
    have yf4 : w2.frozen? ⟨w.heap.size + 1, 4, none⟩ = false := blk_free Q1.out 4
    go_wp2_with fail
    have h6 := set5 ((Below.heap_setCell (w2.setCell ⟨w.heap.size + 1, 0, none⟩ (.int .u8 4)) ⟨w.heap.size + 1, 4, none⟩ (.int .i64 n) w.heap.size (by show w.heap.size ≠ w.heap.size + 1; omega)).trans ((Below.heap_setCell w2 ⟨w.heap.size + 1, 0, none⟩ (.int .u8 4) w.heap.size (by show w.heap.size ≠ w.heap.size + 1; omega)).trans Q0.out)) (.int .u8 4) (.int .i64 (k : Int)) (.int .i64 0) (.string ⟨#[]⟩) (.int .i64 n)
    have e0 := blk_cell h6 0
    have e1 := blk_cell h6 1
    have e2 := blk_cell h6 2
    have e3 := blk_cell h6 3
    have e4 := blk_cell h6 4
    refine bodyPost_ret (v := .tuple #[.agg #[.int .u8 4, .int .i64 (k : Int), .int .i64 0, .string ⟨#[]⟩, .int .i64 n], .int .i64 (k), .bool false]) (by simp [results, Tryd.results51, go_sem, e0, e1, e2, e3, e4]) rfl ⟨⟨_, _, _, _, _, rfl⟩, ?_⟩
    exact (((((((HB2.out.setCell (p := ⟨w.heap.size + 1, 0, none⟩) (by simp) (.int .u8 4)).setCell (p := ⟨w.heap.size + 1, 4, none⟩) (by simp) (.int .i64 n)).setCell (p := ⟨w.heap.size, 0, none⟩) (Nat.le_refl _) (.int .u8 4)).setCell (p := ⟨w.heap.size, 1, none⟩) (Nat.le_refl _) (.int .i64 (k : Int))).setCell (p := ⟨w.heap.size, 2, none⟩) (Nat.le_refl _) (.int .i64 0)).setCell (p := ⟨w.heap.size, 3, none⟩) (Nat.le_refl _) (.string ⟨#[]⟩)).setCell (p := ⟨w.heap.size, 4, none⟩) (Nat.le_refl _) (.int .i64 n))

  | some n =>
    dsimp only
    by_cases hn1 : n < 1
    · rw [if_pos hn1]
      have t7 : decide (n < 1) = true := by simpa using hn1
      go_enter Tryd.func51, Tryd.ntmps51
      go_wp2_with fail
      refine (A1.out _).mono ?_
      rintro e w0 ⟨rfl, hw0⟩
      obtain ⟨z0, z1, hbw, hsz⟩ := one_start w w0 (k : Int) hw0
      have Z0 := Lib.hid z0
      have Z1 := Lib.hid z1
      have HBW := Lib.hid hbw
      have HSZ := Lib.hid hsz
      clear z0 z1 hbw hsz hw0
      have x0 : w0.cell? ⟨w.heap.size, 0, none⟩ = some (.int .u8 0) := blk_cell Z0.out 0
      have xf0 : w0.frozen? ⟨w.heap.size, 0, none⟩ = false := blk_free Z0.out 0
      have x1 : w0.cell? ⟨w.heap.size, 1, none⟩ = some (.int .i64 0) := blk_cell Z0.out 1
      have xf1 : w0.frozen? ⟨w.heap.size, 1, none⟩ = false := blk_free Z0.out 1
      have x2 : w0.cell? ⟨w.heap.size, 2, none⟩ = some (.int .i64 0) := blk_cell Z0.out 2
      have xf2 : w0.frozen? ⟨w.heap.size, 2, none⟩ = false := blk_free Z0.out 2
      have x3 : w0.cell? ⟨w.heap.size, 3, none⟩ = some (.string ⟨#[]⟩) := blk_cell Z0.out 3
      have xf3 : w0.frozen? ⟨w.heap.size, 3, none⟩ = false := blk_free Z0.out 3
      have x4 : w0.cell? ⟨w.heap.size, 4, none⟩ = some (.int .i64 0) := blk_cell Z0.out 4
      have xf4 : w0.frozen? ⟨w.heap.size, 4, none⟩ = false := blk_free Z0.out 4
      have y0 : w0.cell? ⟨w.heap.size + 1, 0, none⟩ = some (.int .u8 0) := blk_cell Z1.out 0
      have yf0 : w0.frozen? ⟨w.heap.size + 1, 0, none⟩ = false := blk_free Z1.out 0
      have y1 : w0.cell? ⟨w.heap.size + 1, 1, none⟩ = some (.int .i64 (k : Int)) := blk_cell Z1.out 1
      have yf1 : w0.frozen? ⟨w.heap.size + 1, 1, none⟩ = false := blk_free Z1.out 1
      have y2 : w0.cell? ⟨w.heap.size + 1, 2, none⟩ = some (.int .i64 0) := blk_cell Z1.out 2
      have yf2 : w0.frozen? ⟨w.heap.size + 1, 2, none⟩ = false := blk_free Z1.out 2
      have y3 : w0.cell? ⟨w.heap.size + 1, 3, none⟩ = some (.string ⟨#[]⟩) := blk_cell Z1.out 3
      have yf3 : w0.frozen? ⟨w.heap.size + 1, 3, none⟩ = false := blk_free Z1.out 3
      have y4 : w0.cell? ⟨w.heap.size + 1, 4, none⟩ = some (.int .i64 0) := blk_cell Z1.out 4
      have yf4 : w0.frozen? ⟨w.heap.size + 1, 4, none⟩ = false := blk_free Z1.out 4
      go_wp2_with fail
      refine (A2.out _).mono ?_
      rintro e w' ⟨rfl, rfl⟩
      go_wp2_with fail
      refine (WH.out _).mono ?_
      rintro e w' ⟨rfl, rfl⟩
      go_wp2_with fail
      rw [← HX.out]
      refine (NU.out _).mono ?_
      rintro e2 w2 ⟨rfl, hb2⟩
      have y0' := hb2.block w.heap.size (by rw [HSZ.out]; omega)
      have y1' := hb2.block (w.heap.size + 1) (by rw [HSZ.out]; omega)
      have Q0 := Lib.hid (y0'.trans Z0.out)
      have Q1 := Lib.hid (y1'.trans Z1.out)
      have HB2 := Lib.hid (HBW.out.trans (hb2.mono (by rw [HSZ.out]; omega)))
      clear y0' y1' hb2 Z0 Z1 HBW
      clear x0 xf0 y0 yf0 x1 xf1 y1 yf1 x2 xf2 y2 yf2 x3 xf3 y3 yf3 x4 xf4 y4 yf4
      have x0 : w2.cell? ⟨w.heap.size, 0, none⟩ = some (.int .u8 0) := blk_cell Q0.out 0
      have xf0 : w2.frozen? ⟨w.heap.size, 0, none⟩ = false := blk_free Q0.out 0
      have x1 : w2.cell? ⟨w.heap.size, 1, none⟩ = some (.int .i64 0) := blk_cell Q0.out 1
      have xf1 : w2.frozen? ⟨w.heap.size, 1, none⟩ = false := blk_free Q0.out 1
      have x2 : w2.cell? ⟨w.heap.size, 2, none⟩ = some (.int .i64 0) := blk_cell Q0.out 2
      have xf2 : w2.frozen? ⟨w.heap.size, 2, none⟩ = false := blk_free Q0.out 2
      have x3 : w2.cell? ⟨w.heap.size, 3, none⟩ = some (.string ⟨#[]⟩) := blk_cell Q0.out 3
      have xf3 : w2.frozen? ⟨w.heap.size, 3, none⟩ = false := blk_free Q0.out 3
      have x4 : w2.cell? ⟨w.heap.size, 4, none⟩ = some (.int .i64 0) := blk_cell Q0.out 4
      have xf4 : w2.frozen? ⟨w.heap.size, 4, none⟩ = false := blk_free Q0.out 4
      have y0 : w2.cell? ⟨w.heap.size + 1, 0, none⟩ = some (.int .u8 0) := blk_cell Q1.out 0
      have yf0 : w2.frozen? ⟨w.heap.size + 1, 0, none⟩ = false := blk_free Q1.out 0
      have y1 : w2.cell? ⟨w.heap.size + 1, 1, none⟩ = some (.int .i64 (k : Int)) := blk_cell Q1.out 1
      have yf1 : w2.frozen? ⟨w.heap.size + 1, 1, none⟩ = false := blk_free Q1.out 1
      have y2 : w2.cell? ⟨w.heap.size + 1, 2, none⟩ = some (.int .i64 0) := blk_cell Q1.out 2
      have yf2 : w2.frozen? ⟨w.heap.size + 1, 2, none⟩ = false := blk_free Q1.out 2
      have y3 : w2.cell? ⟨w.heap.size + 1, 3, none⟩ = some (.string ⟨#[]⟩) := blk_cell Q1.out 3
      have yf3 : w2.frozen? ⟨w.heap.size + 1, 3, none⟩ = false := blk_free Q1.out 3
      have y4 : w2.cell? ⟨w.heap.size + 1, 4, none⟩ = some (.int .i64 0) := blk_cell Q1.out 4
      have yf4 : w2.frozen? ⟨w.heap.size + 1, 4, none⟩ = false := blk_free Q1.out 4
      go_wp2_with fail
      have h6 := set5 ((Below.heap_setCell (w2.setCell ⟨w.heap.size + 1, 0, none⟩ (.int .u8 4)) ⟨w.heap.size + 1, 4, none⟩ (.int .i64 n) w.heap.size (by show w.heap.size ≠ w.heap.size + 1; omega)).trans ((Below.heap_setCell w2 ⟨w.heap.size + 1, 0, none⟩ (.int .u8 4) w.heap.size (by show w.heap.size ≠ w.heap.size + 1; omega)).trans Q0.out)) (.int .u8 4) (.int .i64 (k : Int)) (.int .i64 0) (.string ⟨#[]⟩) (.int .i64 n)
      have e0 := blk_cell h6 0
      have e1 := blk_cell h6 1
      have e2 := blk_cell h6 2
      have e3 := blk_cell h6 3
      have e4 := blk_cell h6 4
      refine bodyPost_ret (v := .tuple #[.agg #[.int .u8 4, .int .i64 (k : Int), .int .i64 0, .string ⟨#[]⟩, .int .i64 n], .int .i64 (k), .bool false]) (by simp [results, Tryd.results51, go_sem, e0, e1, e2, e3, e4]) rfl ⟨⟨_, _, _, _, _, rfl⟩, ?_⟩
      exact (((((((HB2.out.setCell (p := ⟨w.heap.size + 1, 0, none⟩) (by simp) (.int .u8 4)).setCell (p := ⟨w.heap.size + 1, 4, none⟩) (by simp) (.int .i64 n)).setCell (p := ⟨w.heap.size, 0, none⟩) (Nat.le_refl _) (.int .u8 4)).setCell (p := ⟨w.heap.size, 1, none⟩) (Nat.le_refl _) (.int .i64 (k : Int))).setCell (p := ⟨w.heap.size, 2, none⟩) (Nat.le_refl _) (.int .i64 0)).setCell (p := ⟨w.heap.size, 3, none⟩) (Nat.le_refl _) (.string ⟨#[]⟩)).setCell (p := ⟨w.heap.size, 4, none⟩) (Nat.le_refl _) (.int .i64 n))
    · rw [if_neg hn1]
      have t7 : decide (n < 1) = false := by simpa using hn1
      clear hn1
      rw [endChk_of]
      by_cases he : e < s.size
      · have hbe2 := bAt_eq s (e) he
        have l1 := refLetter_any (bAt s (e))
        have l2 := refDigit_any (bAt s (e))
        have t8 : decide ((e : Int) < (s.size : Int)) = true := by simp; omega
        have u0 : (0 : Int) ≤ (e : Int) := by omega
        have u1 : (e : Int) < (s.size : Int) := by omega
        generalize bAt s (e) = ce at hbe2 l1 l2 ⊢
        have L1 := Lib.hid l1
        have L2 := Lib.hid l2
        clear l1 l2
        cases hl : letterI ce with
        | true =>
          rw [if_pos ⟨he, by simp⟩]
          rw [hl] at L1
          clear hl
          go_enter Tryd.func51, Tryd.ntmps51
          go_wp2_with fail
          refine (A1.out _).mono ?_
          rintro e w0 ⟨rfl, hw0⟩
          obtain ⟨z0, z1, hbw, hsz⟩ := one_start w w0 (k : Int) hw0
          have Z0 := Lib.hid z0
          have Z1 := Lib.hid z1
          have HBW := Lib.hid hbw
          have HSZ := Lib.hid hsz
          clear z0 z1 hbw hsz hw0
          have x0 : w0.cell? ⟨w.heap.size, 0, none⟩ = some (.int .u8 0) := blk_cell Z0.out 0
          have xf0 : w0.frozen? ⟨w.heap.size, 0, none⟩ = false := blk_free Z0.out 0
          have x1 : w0.cell? ⟨w.heap.size, 1, none⟩ = some (.int .i64 0) := blk_cell Z0.out 1
          have xf1 : w0.frozen? ⟨w.heap.size, 1, none⟩ = false := blk_free Z0.out 1
          have x2 : w0.cell? ⟨w.heap.size, 2, none⟩ = some (.int .i64 0) := blk_cell Z0.out 2
          have xf2 : w0.frozen? ⟨w.heap.size, 2, none⟩ = false := blk_free Z0.out 2
          have x3 : w0.cell? ⟨w.heap.size, 3, none⟩ = some (.string ⟨#[]⟩) := blk_cell Z0.out 3
          have xf3 : w0.frozen? ⟨w.heap.size, 3, none⟩ = false := blk_free Z0.out 3
          have x4 : w0.cell? ⟨w.heap.size, 4, none⟩ = some (.int .i64 0) := blk_cell Z0.out 4
          have xf4 : w0.frozen? ⟨w.heap.size, 4, none⟩ = false := blk_free Z0.out 4
          have y0 : w0.cell? ⟨w.heap.size + 1, 0, none⟩ = some (.int .u8 0) := blk_cell Z1.out 0
          have yf0 : w0.frozen? ⟨w.heap.size + 1, 0, none⟩ = false := blk_free Z1.out 0
          have y1 : w0.cell? ⟨w.heap.size + 1, 1, none⟩ = some (.int .i64 (k : Int)) := blk_cell Z1.out 1
          have yf1 : w0.frozen? ⟨w.heap.size + 1, 1, none⟩ = false := blk_free Z1.out 1
          have y2 : w0.cell? ⟨w.heap.size + 1, 2, none⟩ = some (.int .i64 0) := blk_cell Z1.out 2
          have yf2 : w0.frozen? ⟨w.heap.size + 1, 2, none⟩ = false := blk_free Z1.out 2
          have y3 : w0.cell? ⟨w.heap.size + 1, 3, none⟩ = some (.string ⟨#[]⟩) := blk_cell Z1.out 3
          have yf3 : w0.frozen? ⟨w.heap.size + 1, 3, none⟩ = false := blk_free Z1.out 3
          have y4 : w0.cell? ⟨w.heap.size + 1, 4, none⟩ = some (.int .i64 0) := blk_cell Z1.out 4
          have yf4 : w0.frozen? ⟨w.heap.size + 1, 4, none⟩ = false := blk_free Z1.out 4
          go_wp2_with fail
          refine (A2.out _).mono ?_
          rintro e w' ⟨rfl, rfl⟩
          go_wp2_with fail
          refine (WH.out _).mono ?_
          rintro e w' ⟨rfl, rfl⟩
          go_wp2_with fail
          rw [← HX.out]
          refine (NU.out _).mono ?_
          rintro e2 w2 ⟨rfl, hb2⟩
          have y0' := hb2.block w.heap.size (by rw [HSZ.out]; omega)
          have y1' := hb2.block (w.heap.size + 1) (by rw [HSZ.out]; omega)
          have Q0 := Lib.hid (y0'.trans Z0.out)
          have Q1 := Lib.hid (y1'.trans Z1.out)
          have HB2 := Lib.hid (HBW.out.trans (hb2.mono (by rw [HSZ.out]; omega)))
          clear y0' y1' hb2 Z0 Z1 HBW
          clear x0 xf0 y0 yf0 x1 xf1 y1 yf1 x2 xf2 y2 yf2 x3 xf3 y3 yf3 x4 xf4 y4 yf4
          have x0 : w2.cell? ⟨w.heap.size, 0, none⟩ = some (.int .u8 0) := blk_cell Q0.out 0
          have xf0 : w2.frozen? ⟨w.heap.size, 0, none⟩ = false := blk_free Q0.out 0
          have x1 : w2.cell? ⟨w.heap.size, 1, none⟩ = some (.int .i64 0) := blk_cell Q0.out 1
          have xf1 : w2.frozen? ⟨w.heap.size, 1, none⟩ = false := blk_free Q0.out 1
          have x2 : w2.cell? ⟨w.heap.size, 2, none⟩ = some (.int .i64 0) := blk_cell Q0.out 2
          have xf2 : w2.frozen? ⟨w.heap.size, 2, none⟩ = false := blk_free Q0.out 2
          have x3 : w2.cell? ⟨w.heap.size, 3, none⟩ = some (.string ⟨#[]⟩) := blk_cell Q0.out 3
          have xf3 : w2.frozen? ⟨w.heap.size, 3, none⟩ = false := blk_free Q0.out 3
          have x4 : w2.cell? ⟨w.heap.size, 4, none⟩ = some (.int .i64 0) := blk_cell Q0.out 4
          have xf4 : w2.frozen? ⟨w.heap.size, 4, none⟩ = false := blk_free Q0.out 4
          have y0 : w2.cell? ⟨w.heap.size + 1, 0, none⟩ = some (.int .u8 0) := blk_cell Q1.out 0
          have yf0 : w2.frozen? ⟨w.heap.size + 1, 0, none⟩ = false := blk_free Q1.out 0
          have y1 : w2.cell? ⟨w.heap.size + 1, 1, none⟩ = some (.int .i64 (k : Int)) := blk_cell Q1.out 1
          have yf1 : w2.frozen? ⟨w.heap.size + 1, 1, none⟩ = false := blk_free Q1.out 1
          have y2 : w2.cell? ⟨w.heap.size + 1, 2, none⟩ = some (.int .i64 0) := blk_cell Q1.out 2
          have yf2 : w2.frozen? ⟨w.heap.size + 1, 2, none⟩ = false := blk_free Q1.out 2
          have y3 : w2.cell? ⟨w.heap.size + 1, 3, none⟩ = some (.string ⟨#[]⟩) := blk_cell Q1.out 3
          have yf3 : w2.frozen? ⟨w.heap.size + 1, 3, none⟩ = false := blk_free Q1.out 3
          have y4 : w2.cell? ⟨w.heap.size + 1, 4, none⟩ = some (.int .i64 0) := blk_cell Q1.out 4
          have yf4 : w2.frozen? ⟨w.heap.size + 1, 4, none⟩ = false := blk_free Q1.out 4
          go_wp2_with fail
          refine (L1.out _).mono ?_
          rintro e w' ⟨rfl, rfl⟩
          go_wp2_with fail
          have h6 := set5 ((Below.heap_setCell (w2.setCell ⟨w.heap.size + 1, 0, none⟩ (.int .u8 4)) ⟨w.heap.size + 1, 4, none⟩ (.int .i64 n) w.heap.size (by show w.heap.size ≠ w.heap.size + 1; omega)).trans ((Below.heap_setCell w2 ⟨w.heap.size + 1, 0, none⟩ (.int .u8 4) w.heap.size (by show w.heap.size ≠ w.heap.size + 1; omega)).trans Q0.out)) (.int .u8 4) (.int .i64 (k : Int)) (.int .i64 0) (.string ⟨#[]⟩) (.int .i64 n)
          have e0 := blk_cell h6 0
          have e1 := blk_cell h6 1
          have e2 := blk_cell h6 2
          have e3 := blk_cell h6 3
          have e4 := blk_cell h6 4
          refine bodyPost_ret (v := .tuple #[.agg #[.int .u8 4, .int .i64 (k : Int), .int .i64 0, .string ⟨#[]⟩, .int .i64 n], .int .i64 (e), .bool false]) (by simp [results, Tryd.results51, go_sem, e0, e1, e2, e3, e4]) rfl ⟨⟨_, _, _, _, _, rfl⟩, ?_⟩
          exact (((((((HB2.out.setCell (p := ⟨w.heap.size + 1, 0, none⟩) (by simp) (.int .u8 4)).setCell (p := ⟨w.heap.size + 1, 4, none⟩) (by simp) (.int .i64 n)).setCell (p := ⟨w.heap.size, 0, none⟩) (Nat.le_refl _) (.int .u8 4)).setCell (p := ⟨w.heap.size, 1, none⟩) (Nat.le_refl _) (.int .i64 (k : Int))).setCell (p := ⟨w.heap.size, 2, none⟩) (Nat.le_refl _) (.int .i64 0)).setCell (p := ⟨w.heap.size, 3, none⟩) (Nat.le_refl _) (.string ⟨#[]⟩)).setCell (p := ⟨w.heap.size, 4, none⟩) (Nat.le_refl _) (.int .i64 n))

        | false =>
          rw [hl] at L1
          cases hd2 : digitI ce with
          | true =>
            rw [if_pos ⟨he, by simp⟩]
            rw [hd2] at L2
            clear hl hd2
            go_enter Tryd.func51, Tryd.ntmps51
            go_wp2_with fail
            refine (A1.out _).mono ?_
            rintro e w0 ⟨rfl, hw0⟩
            obtain ⟨z0, z1, hbw, hsz⟩ := one_start w w0 (k : Int) hw0
            have Z0 := Lib.hid z0
            have Z1 := Lib.hid z1
            have HBW := Lib.hid hbw
            have HSZ := Lib.hid hsz
            clear z0 z1 hbw hsz hw0
            have x0 : w0.cell? ⟨w.heap.size, 0, none⟩ = some (.int .u8 0) := blk_cell Z0.out 0
            have xf0 : w0.frozen? ⟨w.heap.size, 0, none⟩ = false := blk_free Z0.out 0
            have x1 : w0.cell? ⟨w.heap.size, 1, none⟩ = some (.int .i64 0) := blk_cell Z0.out 1
            have xf1 : w0.frozen? ⟨w.heap.size, 1, none⟩ = false := blk_free Z0.out 1
            have x2 : w0.cell? ⟨w.heap.size, 2, none⟩ = some (.int .i64 0) := blk_cell Z0.out 2
            have xf2 : w0.frozen? ⟨w.heap.size, 2, none⟩ = false := blk_free Z0.out 2
            have x3 : w0.cell? ⟨w.heap.size, 3, none⟩ = some (.string ⟨#[]⟩) := blk_cell Z0.out 3
            have xf3 : w0.frozen? ⟨w.heap.size, 3, none⟩ = false := blk_free Z0.out 3
            have x4 : w0.cell? ⟨w.heap.size, 4, none⟩ = some (.int .i64 0) := blk_cell Z0.out 4
            have xf4 : w0.frozen? ⟨w.heap.size, 4, none⟩ = false := blk_free Z0.out 4
            have y0 : w0.cell? ⟨w.heap.size + 1, 0, none⟩ = some (.int .u8 0) := blk_cell Z1.out 0
            have yf0 : w0.frozen? ⟨w.heap.size + 1, 0, none⟩ = false := blk_free Z1.out 0
            have y1 : w0.cell? ⟨w.heap.size + 1, 1, none⟩ = some (.int .i64 (k : Int)) := blk_cell Z1.out 1
            have yf1 : w0.frozen? ⟨w.heap.size + 1, 1, none⟩ = false := blk_free Z1.out 1
            have y2 : w0.cell? ⟨w.heap.size + 1, 2, none⟩ = some (.int .i64 0) := blk_cell Z1.out 2
            have yf2 : w0.frozen? ⟨w.heap.size + 1, 2, none⟩ = false := blk_free Z1.out 2
            have y3 : w0.cell? ⟨w.heap.size + 1, 3, none⟩ = some (.string ⟨#[]⟩) := blk_cell Z1.out 3
            have yf3 : w0.frozen? ⟨w.heap.size + 1, 3, none⟩ = false := blk_free Z1.out 3
            have y4 : w0.cell? ⟨w.heap.size + 1, 4, none⟩ = some (.int .i64 0) := blk_cell Z1.out 4
            have yf4 : w0.frozen? ⟨w.heap.size + 1, 4, none⟩ = false := blk_free Z1.out 4
            go_wp2_with fail
            refine (A2.out _).mono ?_
            rintro e w' ⟨rfl, rfl⟩
            go_wp2_with fail
            refine (WH.out _).mono ?_
            rintro e w' ⟨rfl, rfl⟩
            go_wp2_with fail
            rw [← HX.out]
            refine (NU.out _).mono ?_
            rintro e2 w2 ⟨rfl, hb2⟩
            have y0' := hb2.block w.heap.size (by rw [HSZ.out]; omega)
            have y1' := hb2.block (w.heap.size + 1) (by rw [HSZ.out]; omega)
            have Q0 := Lib.hid (y0'.trans Z0.out)
            have Q1 := Lib.hid (y1'.trans Z1.out)
            have HB2 := Lib.hid (HBW.out.trans (hb2.mono (by rw [HSZ.out]; omega)))
            clear y0' y1' hb2 Z0 Z1 HBW
            clear x0 xf0 y0 yf0 x1 xf1 y1 yf1 x2 xf2 y2 yf2 x3 xf3 y3 yf3 x4 xf4 y4 yf4
            have x0 : w2.cell? ⟨w.heap.size, 0, none⟩ = some (.int .u8 0) := blk_cell Q0.out 0
            have xf0 : w2.frozen? ⟨w.heap.size, 0, none⟩ = false := blk_free Q0.out 0
            have x1 : w2.cell? ⟨w.heap.size, 1, none⟩ = some (.int .i64 0) := blk_cell Q0.out 1
            have xf1 : w2.frozen? ⟨w.heap.size, 1, none⟩ = false := blk_free Q0.out 1
            have x2 : w2.cell? ⟨w.heap.size, 2, none⟩ = some (.int .i64 0) := blk_cell Q0.out 2
            have xf2 : w2.frozen? ⟨w.heap.size, 2, none⟩ = false := blk_free Q0.out 2
            have x3 : w2.cell? ⟨w.heap.size, 3, none⟩ = some (.string ⟨#[]⟩) := blk_cell Q0.out 3
            have xf3 : w2.frozen? ⟨w.heap.size, 3, none⟩ = false := blk_free Q0.out 3
            have x4 : w2.cell? ⟨w.heap.size, 4, none⟩ = some (.int .i64 0) := blk_cell Q0.out 4
            have xf4 : w2.frozen? ⟨w.heap.size, 4, none⟩ = false := blk_free Q0.out 4
            have y0 : w2.cell? ⟨w.heap.size + 1, 0, none⟩ = some (.int .u8 0) := blk_cell Q1.out 0
            have yf0 : w2.frozen? ⟨w.heap.size + 1, 0, none⟩ = false := blk_free Q1.out 0
            have y1 : w2.cell? ⟨w.heap.size + 1, 1, none⟩ = some (.int .i64 (k : Int)) := blk_cell Q1.out 1
            have yf1 : w2.frozen? ⟨w.heap.size + 1, 1, none⟩ = false := blk_free Q1.out 1
            have y2 : w2.cell? ⟨w.heap.size + 1, 2, none⟩ = some (.int .i64 0) := blk_cell Q1.out 2
            have yf2 : w2.frozen? ⟨w.heap.size + 1, 2, none⟩ = false := blk_free Q1.out 2
            have y3 : w2.cell? ⟨w.heap.size + 1, 3, none⟩ = some (.string ⟨#[]⟩) := blk_cell Q1.out 3
            have yf3 : w2.frozen? ⟨w.heap.size + 1, 3, none⟩ = false := blk_free Q1.out 3
            have y4 : w2.cell? ⟨w.heap.size + 1, 4, none⟩ = some (.int .i64 0) := blk_cell Q1.out 4
            have yf4 : w2.frozen? ⟨w.heap.size + 1, 4, none⟩ = false := blk_free Q1.out 4
            go_wp2_with fail
            refine (L1.out _).mono ?_
            rintro e w' ⟨rfl, rfl⟩
            go_wp2_with fail
            refine (L2.out _).mono ?_
            rintro e w' ⟨rfl, rfl⟩
            go_wp2_with fail
            have h6 := set5 ((Below.heap_setCell (w2.setCell ⟨w.heap.size + 1, 0, none⟩ (.int .u8 4)) ⟨w.heap.size + 1, 4, none⟩ (.int .i64 n) w.heap.size (by show w.heap.size ≠ w.heap.size + 1; omega)).trans ((Below.heap_setCell w2 ⟨w.heap.size + 1, 0, none⟩ (.int .u8 4) w.heap.size (by show w.heap.size ≠ w.heap.size + 1; omega)).trans Q0.out)) (.int .u8 4) (.int .i64 (k : Int)) (.int .i64 0) (.string ⟨#[]⟩) (.int .i64 n)
            have e0 := blk_cell h6 0
            have e1 := blk_cell h6 1
            have e2 := blk_cell h6 2
            have e3 := blk_cell h6 3
            have e4 := blk_cell h6 4
            refine bodyPost_ret (v := .tuple #[.agg #[.int .u8 4, .int .i64 (k : Int), .int .i64 0, .string ⟨#[]⟩, .int .i64 n], .int .i64 (e), .bool false]) (by simp [results, Tryd.results51, go_sem, e0, e1, e2, e3, e4]) rfl ⟨⟨_, _, _, _, _, rfl⟩, ?_⟩
            exact (((((((HB2.out.setCell (p := ⟨w.heap.size + 1, 0, none⟩) (by simp) (.int .u8 4)).setCell (p := ⟨w.heap.size + 1, 4, none⟩) (by simp) (.int .i64 n)).setCell (p := ⟨w.heap.size, 0, none⟩) (Nat.le_refl _) (.int .u8 4)).setCell (p := ⟨w.heap.size, 1, none⟩) (Nat.le_refl _) (.int .i64 (k : Int))).setCell (p := ⟨w.heap.size, 2, none⟩) (Nat.le_refl _) (.int .i64 0)).setCell (p := ⟨w.heap.size, 3, none⟩) (Nat.le_refl _) (.string ⟨#[]⟩)).setCell (p := ⟨w.heap.size, 4, none⟩) (Nat.le_refl _) (.int .i64 n))

          | false =>
            rw [if_neg (by simp)]
            rw [hd2] at L2
            clear hl hd2
            go_enter Tryd.func51, Tryd.ntmps51
            go_wp2_with fail
            refine (A1.out _).mono ?_
            rintro e w0 ⟨rfl, hw0⟩
            obtain ⟨z0, z1, hbw, hsz⟩ := one_start w w0 (k : Int) hw0
            have Z0 := Lib.hid z0
            have Z1 := Lib.hid z1
            have HBW := Lib.hid hbw
            have HSZ := Lib.hid hsz
            clear z0 z1 hbw hsz hw0
            have x0 : w0.cell? ⟨w.heap.size, 0, none⟩ = some (.int .u8 0) := blk_cell Z0.out 0
            have xf0 : w0.frozen? ⟨w.heap.size, 0, none⟩ = false := blk_free Z0.out 0
            have x1 : w0.cell? ⟨w.heap.size, 1, none⟩ = some (.int .i64 0) := blk_cell Z0.out 1
            have xf1 : w0.frozen? ⟨w.heap.size, 1, none⟩ = false := blk_free Z0.out 1
            have x2 : w0.cell? ⟨w.heap.size, 2, none⟩ = some (.int .i64 0) := blk_cell Z0.out 2
            have xf2 : w0.frozen? ⟨w.heap.size, 2, none⟩ = false := blk_free Z0.out 2
            have x3 : w0.cell? ⟨w.heap.size, 3, none⟩ = some (.string ⟨#[]⟩) := blk_cell Z0.out 3
            have xf3 : w0.frozen? ⟨w.heap.size, 3, none⟩ = false := blk_free Z0.out 3
            have x4 : w0.cell? ⟨w.heap.size, 4, none⟩ = some (.int .i64 0) := blk_cell Z0.out 4
            have xf4 : w0.frozen? ⟨w.heap.size, 4, none⟩ = false := blk_free Z0.out 4
            have y0 : w0.cell? ⟨w.heap.size + 1, 0, none⟩ = some (.int .u8 0) := blk_cell Z1.out 0
            have yf0 : w0.frozen? ⟨w.heap.size + 1, 0, none⟩ = false := blk_free Z1.out 0
            have y1 : w0.cell? ⟨w.heap.size + 1, 1, none⟩ = some (.int .i64 (k : Int)) := blk_cell Z1.out 1
            have yf1 : w0.frozen? ⟨w.heap.size + 1, 1, none⟩ = false := blk_free Z1.out 1
            have y2 : w0.cell? ⟨w.heap.size + 1, 2, none⟩ = some (.int .i64 0) := blk_cell Z1.out 2
            have yf2 : w0.frozen? ⟨w.heap.size + 1, 2, none⟩ = false := blk_free Z1.out 2
            have y3 : w0.cell? ⟨w.heap.size + 1, 3, none⟩ = some (.string ⟨#[]⟩) := blk_cell Z1.out 3
            have yf3 : w0.frozen? ⟨w.heap.size + 1, 3, none⟩ = false := blk_free Z1.out 3
            have y4 : w0.cell? ⟨w.heap.size + 1, 4, none⟩ = some (.int .i64 0) := blk_cell Z1.out 4
            have yf4 : w0.frozen? ⟨w.heap.size + 1, 4, none⟩ = false := blk_free Z1.out 4
            go_wp2_with fail
            refine (A2.out _).mono ?_
            rintro e w' ⟨rfl, rfl⟩
            go_wp2_with fail
            refine (WH.out _).mono ?_
            rintro e w' ⟨rfl, rfl⟩
            go_wp2_with fail
            rw [← HX.out]
            refine (NU.out _).mono ?_
            rintro e2 w2 ⟨rfl, hb2⟩
            have y0' := hb2.block w.heap.size (by rw [HSZ.out]; omega)
            have y1' := hb2.block (w.heap.size + 1) (by rw [HSZ.out]; omega)
            have Q0 := Lib.hid (y0'.trans Z0.out)
            have Q1 := Lib.hid (y1'.trans Z1.out)
            have HB2 := Lib.hid (HBW.out.trans (hb2.mono (by rw [HSZ.out]; omega)))
            clear y0' y1' hb2 Z0 Z1 HBW
            clear x0 xf0 y0 yf0 x1 xf1 y1 yf1 x2 xf2 y2 yf2 x3 xf3 y3 yf3 x4 xf4 y4 yf4
            have x0 : w2.cell? ⟨w.heap.size, 0, none⟩ = some (.int .u8 0) := blk_cell Q0.out 0
            have xf0 : w2.frozen? ⟨w.heap.size, 0, none⟩ = false := blk_free Q0.out 0
            have x1 : w2.cell? ⟨w.heap.size, 1, none⟩ = some (.int .i64 0) := blk_cell Q0.out 1
            have xf1 : w2.frozen? ⟨w.heap.size, 1, none⟩ = false := blk_free Q0.out 1
            have x2 : w2.cell? ⟨w.heap.size, 2, none⟩ = some (.int .i64 0) := blk_cell Q0.out 2
            have xf2 : w2.frozen? ⟨w.heap.size, 2, none⟩ = false := blk_free Q0.out 2
            have x3 : w2.cell? ⟨w.heap.size, 3, none⟩ = some (.string ⟨#[]⟩) := blk_cell Q0.out 3
            have xf3 : w2.frozen? ⟨w.heap.size, 3, none⟩ = false := blk_free Q0.out 3
            have x4 : w2.cell? ⟨w.heap.size, 4, none⟩ = some (.int .i64 0) := blk_cell Q0.out 4
            have xf4 : w2.frozen? ⟨w.heap.size, 4, none⟩ = false := blk_free Q0.out 4
            have y0 : w2.cell? ⟨w.heap.size + 1, 0, none⟩ = some (.int .u8 0) := blk_cell Q1.out 0
            have yf0 : w2.frozen? ⟨w.heap.size + 1, 0, none⟩ = false := blk_free Q1.out 0
            have y1 : w2.cell? ⟨w.heap.size + 1, 1, none⟩ = some (.int .i64 (k : Int)) := blk_cell Q1.out 1
            have yf1 : w2.frozen? ⟨w.heap.size + 1, 1, none⟩ = false := blk_free Q1.out 1
            have y2 : w2.cell? ⟨w.heap.size + 1, 2, none⟩ = some (.int .i64 0) := blk_cell Q1.out 2
            have yf2 : w2.frozen? ⟨w.heap.size + 1, 2, none⟩ = false := blk_free Q1.out 2
            have y3 : w2.cell? ⟨w.heap.size + 1, 3, none⟩ = some (.string ⟨#[]⟩) := blk_cell Q1.out 3
            have yf3 : w2.frozen? ⟨w.heap.size + 1, 3, none⟩ = false := blk_free Q1.out 3
            have y4 : w2.cell? ⟨w.heap.size + 1, 4, none⟩ = some (.int .i64 0) := blk_cell Q1.out 4
            have yf4 : w2.frozen? ⟨w.heap.size + 1, 4, none⟩ = false := blk_free Q1.out 4
            go_wp2_with fail
            refine (L1.out _).mono ?_
            rintro e w' ⟨rfl, rfl⟩
            go_wp2_with fail
            refine (L2.out _).mono ?_
            rintro e w' ⟨rfl, rfl⟩
            go_wp2_with fail
            have h6 := set5 ((Below.heap_setCell (w2.setCell ⟨w.heap.size + 1, 0, none⟩ (.int .u8 4)) ⟨w.heap.size + 1, 4, none⟩ (.int .i64 n) w.heap.size (by show w.heap.size ≠ w.heap.size + 1; omega)).trans ((Below.heap_setCell w2 ⟨w.heap.size + 1, 0, none⟩ (.int .u8 4) w.heap.size (by show w.heap.size ≠ w.heap.size + 1; omega)).trans Q0.out)) (.int .u8 4) (.int .i64 (k : Int)) (.int .i64 0) (.string ⟨#[]⟩) (.int .i64 n)
            have e0 := blk_cell h6 0
            have e1 := blk_cell h6 1
            have e2 := blk_cell h6 2
            have e3 := blk_cell h6 3
            have e4 := blk_cell h6 4
            refine bodyPost_ret (v := .tuple #[.agg #[.int .u8 4, .int .i64 (k : Int), .int .i64 0, .string ⟨#[]⟩, .int .i64 n], .int .i64 (e), .bool true]) (by simp [results, Tryd.results51, go_sem, e0, e1, e2, e3, e4]) rfl ⟨rfl, ?_⟩
            exact (((((((HB2.out.setCell (p := ⟨w.heap.size + 1, 0, none⟩) (by simp) (.int .u8 4)).setCell (p := ⟨w.heap.size + 1, 4, none⟩) (by simp) (.int .i64 n)).setCell (p := ⟨w.heap.size, 0, none⟩) (Nat.le_refl _) (.int .u8 4)).setCell (p := ⟨w.heap.size, 1, none⟩) (Nat.le_refl _) (.int .i64 (k : Int))).setCell (p := ⟨w.heap.size, 2, none⟩) (Nat.le_refl _) (.int .i64 0)).setCell (p := ⟨w.heap.size, 3, none⟩) (Nat.le_refl _) (.string ⟨#[]⟩)).setCell (p := ⟨w.heap.size, 4, none⟩) (Nat.le_refl _) (.int .i64 n))
      · have t8 : decide ((e : Int) < (s.size : Int)) = false := by simp; omega
        rw [if_neg (fun h => he h.1)]
        go_enter Tryd.func51, Tryd.ntmps51
        go_wp2_with fail
        refine (A1.out _).mono ?_
        rintro e w0 ⟨rfl, hw0⟩
        obtain ⟨z0, z1, hbw, hsz⟩ := one_start w w0 (k : Int) hw0
        have Z0 := Lib.hid z0
        have Z1 := Lib.hid z1
        have HBW := Lib.hid hbw
        have HSZ := Lib.hid hsz
        clear z0 z1 hbw hsz hw0
        have x0 : w0.cell? ⟨w.heap.size, 0, none⟩ = some (.int .u8 0) := blk_cell Z0.out 0
        have xf0 : w0.frozen? ⟨w.heap.size, 0, none⟩ = false := blk_free Z0.out 0
        have x1 : w0.cell? ⟨w.heap.size, 1, none⟩ = some (.int .i64 0) := blk_cell Z0.out 1
        have xf1 : w0.frozen? ⟨w.heap.size, 1, none⟩ = false := blk_free Z0.out 1
        have x2 : w0.cell? ⟨w.heap.size, 2, none⟩ = some (.int .i64 0) := blk_cell Z0.out 2
        have xf2 : w0.frozen? ⟨w.heap.size, 2, none⟩ = false := blk_free Z0.out 2
        have x3 : w0.cell? ⟨w.heap.size, 3, none⟩ = some (.string ⟨#[]⟩) := blk_cell Z0.out 3
        have xf3 : w0.frozen? ⟨w.heap.size, 3, none⟩ = false := blk_free Z0.out 3
        have x4 : w0.cell? ⟨w.heap.size, 4, none⟩ = some (.int .i64 0) := blk_cell Z0.out 4
        have xf4 : w0.frozen? ⟨w.heap.size, 4, none⟩ = false := blk_free Z0.out 4
        have y0 : w0.cell? ⟨w.heap.size + 1, 0, none⟩ = some (.int .u8 0) := blk_cell Z1.out 0
        have yf0 : w0.frozen? ⟨w.heap.size + 1, 0, none⟩ = false := blk_free Z1.out 0
        have y1 : w0.cell? ⟨w.heap.size + 1, 1, none⟩ = some (.int .i64 (k : Int)) := blk_cell Z1.out 1
        have yf1 : w0.frozen? ⟨w.heap.size + 1, 1, none⟩ = false := blk_free Z1.out 1
        have y2 : w0.cell? ⟨w.heap.size + 1, 2, none⟩ = some (.int .i64 0) := blk_cell Z1.out 2
        have yf2 : w0.frozen? ⟨w.heap.size + 1, 2, none⟩ = false := blk_free Z1.out 2
        have y3 : w0.cell? ⟨w.heap.size + 1, 3, none⟩ = some (.string ⟨#[]⟩) := blk_cell Z1.out 3
        have yf3 : w0.frozen? ⟨w.heap.size + 1, 3, none⟩ = false := blk_free Z1.out 3
        have y4 : w0.cell? ⟨w.heap.size + 1, 4, none⟩ = some (.int .i64 0) := blk_cell Z1.out 4
        have yf4 : w0.frozen? ⟨w.heap.size + 1, 4, none⟩ = false := blk_free Z1.out 4
        go_wp2_with fail
        refine (A2.out _).mono ?_
        rintro e w' ⟨rfl, rfl⟩
        go_wp2_with fail
        refine (WH.out _).mono ?_
        rintro e w' ⟨rfl, rfl⟩
        go_wp2_with fail
        rw [← HX.out]
        refine (NU.out _).mono ?_
        rintro e2 w2 ⟨rfl, hb2⟩
        have y0' := hb2.block w.heap.size (by rw [HSZ.out]; omega)
        have y1' := hb2.block (w.heap.size + 1) (by rw [HSZ.out]; omega)
        have Q0 := Lib.hid (y0'.trans Z0.out)
        have Q1 := Lib.hid (y1'.trans Z1.out)
        have HB2 := Lib.hid (HBW.out.trans (hb2.mono (by rw [HSZ.out]; omega)))
        clear y0' y1' hb2 Z0 Z1 HBW
        clear x0 xf0 y0 yf0 x1 xf1 y1 yf1 x2 xf2 y2 yf2 x3 xf3 y3 yf3 x4 xf4 y4 yf4
        have x0 : w2.cell? ⟨w.heap.size, 0, none⟩ = some (.int .u8 0) := blk_cell Q0.out 0
        have xf0 : w2.frozen? ⟨w.heap.size, 0, none⟩ = false := blk_free Q0.out 0
        have x1 : w2.cell? ⟨w.heap.size, 1, none⟩ = some (.int .i64 0) := blk_cell Q0.out 1
        have xf1 : w2.frozen? ⟨w.heap.size, 1, none⟩ = false := blk_free Q0.out 1
        have x2 : w2.cell? ⟨w.heap.size, 2, none⟩ = some (.int .i64 0) := blk_cell Q0.out 2
        have xf2 : w2.frozen? ⟨w.heap.size, 2, none⟩ = false := blk_free Q0.out 2
        have x3 : w2.cell? ⟨w.heap.size, 3, none⟩ = some (.string ⟨#[]⟩) := blk_cell Q0.out 3
        have xf3 : w2.frozen? ⟨w.heap.size, 3, none⟩ = false := blk_free Q0.out 3
        have x4 : w2.cell? ⟨w.heap.size, 4, none⟩ = some (.int .i64 0) := blk_cell Q0.out 4
        have xf4 : w2.frozen? ⟨w.heap.size, 4, none⟩ = false := blk_free Q0.out 4
        have y0 : w2.cell? ⟨w.heap.size + 1, 0, none⟩ = some (.int .u8 0) := blk_cell Q1.out 0
        have yf0 : w2.frozen? ⟨w.heap.size + 1, 0, none⟩ = false := blk_free Q1.out 0
        have y1 : w2.cell? ⟨w.heap.size + 1, 1, none⟩ = some (.int .i64 (k : Int)) := blk_cell Q1.out 1
        have yf1 : w2.frozen? ⟨w.heap.size + 1, 1, none⟩ = false := blk_free Q1.out 1
        have y2 : w2.cell? ⟨w.heap.size + 1, 2, none⟩ = some (.int .i64 0) := blk_cell Q1.out 2
        have yf2 : w2.frozen? ⟨w.heap.size + 1, 2, none⟩ = false := blk_free Q1.out 2
        have y3 : w2.cell? ⟨w.heap.size + 1, 3, none⟩ = some (.string ⟨#[]⟩) := blk_cell Q1.out 3
        have yf3 : w2.frozen? ⟨w.heap.size + 1, 3, none⟩ = false := blk_free Q1.out 3
        have y4 : w2.cell? ⟨w.heap.size + 1, 4, none⟩ = some (.int .i64 0) := blk_cell Q1.out 4
        have yf4 : w2.frozen? ⟨w.heap.size + 1, 4, none⟩ = false := blk_free Q1.out 4
        go_wp2_with fail
        have h6 := set5 ((Below.heap_setCell (w2.setCell ⟨w.heap.size + 1, 0, none⟩ (.int .u8 4)) ⟨w.heap.size + 1, 4, none⟩ (.int .i64 n) w.heap.size (by show w.heap.size ≠ w.heap.size + 1; omega)).trans ((Below.heap_setCell w2 ⟨w.heap.size + 1, 0, none⟩ (.int .u8 4) w.heap.size (by show w.heap.size ≠ w.heap.size + 1; omega)).trans Q0.out)) (.int .u8 4) (.int .i64 (k : Int)) (.int .i64 0) (.string ⟨#[]⟩) (.int .i64 n)
        have e0 := blk_cell h6 0
        have e1 := blk_cell h6 1
        have e2 := blk_cell h6 2
        have e3 := blk_cell h6 3
        have e4 := blk_cell h6 4
        refine bodyPost_ret (v := .tuple #[.agg #[.int .u8 4, .int .i64 (k : Int), .int .i64 0, .string ⟨#[]⟩, .int .i64 n], .int .i64 (e), .bool true]) (by simp [results, Tryd.results51, go_sem, e0, e1, e2, e3, e4]) rfl ⟨rfl, ?_⟩
        exact (((((((HB2.out.setCell (p := ⟨w.heap.size + 1, 0, none⟩) (by simp) (.int .u8 4)).setCell (p := ⟨w.heap.size + 1, 4, none⟩) (by simp) (.int .i64 n)).setCell (p := ⟨w.heap.size, 0, none⟩) (Nat.le_refl _) (.int .u8 4)).setCell (p := ⟨w.heap.size, 1, none⟩) (Nat.le_refl _) (.int .i64 (k : Int))).setCell (p := ⟨w.heap.size, 2, none⟩) (Nat.le_refl _) (.int .i64 0)).setCell (p := ⟨w.heap.size, 3, none⟩) (Nat.le_refl _) (.string ⟨#[]⟩)).setCell (p := ⟨w.heap.size, 4, none⟩) (Nat.le_refl _) (.int .i64 n))

end Go.Proofs.YtmiipfdndgjndaaDoor
/- The contract of the reference's one: texts, signs, and whole: printed by gen_one.py. -/
namespace Go.Proofs.YtmiipfdndgjndaaDoor
open Go.RowKit Go.Lib
set_option maxHeartbeats 2000000
def txtTok (k : Nat) : Except Nat (List UInt8 × Nat) → Except Nat (T × Nat)
  | .error q => .error (k + q)
  | .ok (b, j) => .ok (⟨3, k, 0, ⟨b.toArray⟩, 0⟩, k + j)
theorem set_zero {W : World} {H : Nat} {t : TypeId} {x0 x1 x2 x3 x4 : Value} (h : W.heap[H]? = some (.cells #[x0, x1, x2, x3, x4] t (0, 0))) (y : Value) : (W.setCell ⟨H, 0, none⟩ y).heap[H]? = some (.cells #[y, x1, x2, x3, x4] t (0, 0)) := by
  simp [World.setCell, Array.getElem?_modify, h]
set_option maxRecDepth 100000 in
theorem one_text (s : ByteArray) (k : Nat) (w : World) (hS : s.size ≤ 140737488351232) (hk : k < s.size) (hc : bAt s k = 34) :
    Calls Tryd.prog 51 #[.string s, .int .i64 (k : Int)] w (OnePost (endChk s (txtTok k (quotedF (s.extract k s.size) (fullL (-1)) 0))) w) := by
  have g0 : (0 : Int) ≤ (k : Int) := by omega
  have g1 : (k : Int) < (s.size : Int) := by omega
  have hbe := bAt_eq s k hk
  have a1 := refLetter_any (bAt s k)
  have a2 := refDigit_any (bAt s k)
  have a3 := refSign_any (bAt s k)
  rw [hc] at hbe a1 a2 a3
  rw [show letterI 34 = false from rfl] at a1
  rw [show digitI 34 = false from rfl] at a2
  clear hc
  have A1 := Lib.hid a1
  have A2 := Lib.hid a2
  have A3 := Lib.hid a3
  clear a1 a2 a3
  obtain ⟨u, hu⟩ : ∃ u, u = s.extract k s.size := ⟨_, rfl⟩
  have hus : u.size = s.size - k := by rw [hu]; exact rest_size s k (by omega)
  have RQ := Lib.hid (fun W (hW : Rr W (w.heap.size + 2) u ((0 : Nat) : Int) false 0) => rquoted_any (w.heap.size + 2) u 0 0 (-1) W (by omega) hW (by omega))
  rw [← hu]
  have HU := Lib.hid hu
  clear hu
  obtain ⟨res, hres⟩ : ∃ res, quotedF u (fullL (-1)) 0 = res := ⟨_, rfl⟩
  have hjl : ∀ b j, res = .ok (b, j) → 0 < j ∧ j ≤ u.size := fun b j e => quotedF_le u (fullL (-1)) 0 b j (hres.trans e)
  have hql : ∀ q, res = .error q → q ≤ u.size := fun q e => by have h9 := (quotedF_ge u (fullL (-1)) 0 (by omega)).2; rw [hres, e] at h9; exact h9
  rw [hres] at RQ ⊢
  clear hres
  cases res with
  | error q =>
    have hqle := hql q rfl
    go_enter Tryd.func51, Tryd.ntmps51
    go_wp2_with fail
    refine (A1.out _).mono ?_
    rintro e w0 ⟨rfl, hw0⟩
    obtain ⟨z0, z1, hbw, hsz⟩ := one_start w w0 (k : Int) hw0
    have Z0 := Lib.hid z0
    have Z1 := Lib.hid z1
    have HBW := Lib.hid hbw
    have HSZ := Lib.hid hsz
    clear z0 z1 hbw hsz hw0
    have x0 : w0.cell? ⟨w.heap.size, 0, none⟩ = some (.int .u8 0) := blk_cell Z0.out 0
    have xf0 : w0.frozen? ⟨w.heap.size, 0, none⟩ = false := blk_free Z0.out 0
    have x1 : w0.cell? ⟨w.heap.size, 1, none⟩ = some (.int .i64 0) := blk_cell Z0.out 1
    have xf1 : w0.frozen? ⟨w.heap.size, 1, none⟩ = false := blk_free Z0.out 1
    have x2 : w0.cell? ⟨w.heap.size, 2, none⟩ = some (.int .i64 0) := blk_cell Z0.out 2
    have xf2 : w0.frozen? ⟨w.heap.size, 2, none⟩ = false := blk_free Z0.out 2
    have x3 : w0.cell? ⟨w.heap.size, 3, none⟩ = some (.string ⟨#[]⟩) := blk_cell Z0.out 3
    have xf3 : w0.frozen? ⟨w.heap.size, 3, none⟩ = false := blk_free Z0.out 3
    have x4 : w0.cell? ⟨w.heap.size, 4, none⟩ = some (.int .i64 0) := blk_cell Z0.out 4
    have xf4 : w0.frozen? ⟨w.heap.size, 4, none⟩ = false := blk_free Z0.out 4
    have y0 : w0.cell? ⟨w.heap.size + 1, 0, none⟩ = some (.int .u8 0) := blk_cell Z1.out 0
    have yf0 : w0.frozen? ⟨w.heap.size + 1, 0, none⟩ = false := blk_free Z1.out 0
    have y1 : w0.cell? ⟨w.heap.size + 1, 1, none⟩ = some (.int .i64 (k : Int)) := blk_cell Z1.out 1
    have yf1 : w0.frozen? ⟨w.heap.size + 1, 1, none⟩ = false := blk_free Z1.out 1
    have y2 : w0.cell? ⟨w.heap.size + 1, 2, none⟩ = some (.int .i64 0) := blk_cell Z1.out 2
    have yf2 : w0.frozen? ⟨w.heap.size + 1, 2, none⟩ = false := blk_free Z1.out 2
    have y3 : w0.cell? ⟨w.heap.size + 1, 3, none⟩ = some (.string ⟨#[]⟩) := blk_cell Z1.out 3
    have yf3 : w0.frozen? ⟨w.heap.size + 1, 3, none⟩ = false := blk_free Z1.out 3
    have y4 : w0.cell? ⟨w.heap.size + 1, 4, none⟩ = some (.int .i64 0) := blk_cell Z1.out 4
    have yf4 : w0.frozen? ⟨w.heap.size + 1, 4, none⟩ = false := blk_free Z1.out 4
    have ya : ∀ o, (w0.alloc o).cell? ⟨w.heap.size + 1, 0, none⟩ = some (.int .u8 0) := fun o => blk_cell ((Below.heap_alloc w0 o (w.heap.size + 1) (by rw [HSZ.out]; omega)).trans Z1.out) 0
    have yfa : ∀ o, (w0.alloc o).frozen? ⟨w.heap.size + 1, 0, none⟩ = false := fun o => blk_free ((Below.heap_alloc w0 o (w.heap.size + 1) (by rw [HSZ.out]; omega)).trans Z1.out) 0
    go_wp2_with fail
    refine (A2.out _).mono ?_
    rintro e w' ⟨rfl, rfl⟩
    go_wp2_with fail
    rw [← HU.out, HSZ.out]
    have hr1 : Rr ((w0.alloc (.cells #[.string u, .int .i64 0, .bool false, .int .i64 0] 81)).setCell ⟨w.heap.size + 1, 0, none⟩ (.int .u8 3)) (w.heap.size + 2) u ((0 : Nat) : Int) false 0 := Rr.far (by have h9 := heap_alloc_new w0 (.cells #[.string u, .int .i64 0, .bool false, .int .i64 0] 81); rw [HSZ.out] at h9; exact h9) (by show w.heap.size + 2 ≠ w.heap.size + 1; omega) _
    have Q0 : Hid (((w0.alloc (.cells #[.string u, .int .i64 0, .bool false, .int .i64 0] 81)).setCell ⟨w.heap.size + 1, 0, none⟩ (.int .u8 3)).heap[w.heap.size]? = some (.cells #[.int .u8 0, .int .i64 0, .int .i64 0, .string ⟨#[]⟩, .int .i64 0] 56 (0, 0))) := Lib.hid ((Below.heap_setCell _ _ _ _ (by show w.heap.size ≠ w.heap.size + 1; omega)).trans ((Below.heap_alloc w0 (.cells #[.string u, .int .i64 0, .bool false, .int .i64 0] 81) w.heap.size (by rw [HSZ.out]; omega)).trans Z0.out))
    have Q1 : Hid (((w0.alloc (.cells #[.string u, .int .i64 0, .bool false, .int .i64 0] 81)).setCell ⟨w.heap.size + 1, 0, none⟩ (.int .u8 3)).heap[w.heap.size + 1]? = some (.cells #[.int .u8 3, .int .i64 (k : Int), .int .i64 0, .string ⟨#[]⟩, .int .i64 0] 56 (0, 0))) := Lib.hid (set_zero ((Below.heap_alloc w0 (.cells #[.string u, .int .i64 0, .bool false, .int .i64 0] 81) (w.heap.size + 1) (by rw [HSZ.out]; omega)).trans Z1.out) _)
    have HB1 : Hid (Below w.heap.size w ((w0.alloc (.cells #[.string u, .int .i64 0, .bool false, .int .i64 0] 81)).setCell ⟨w.heap.size + 1, 0, none⟩ (.int .u8 3))) := Lib.hid ((HBW.out.alloc HBW.out.size (.cells #[.string u, .int .i64 0, .bool false, .int .i64 0] 81)).setCell (p := ⟨w.heap.size + 1, 0, none⟩) (by simp) (.int .u8 3))
    have HS1 : Hid (((w0.alloc (.cells #[.string u, .int .i64 0, .bool false, .int .i64 0] 81)).setCell ⟨w.heap.size + 1, 0, none⟩ (.int .u8 3)).heap.size = w.heap.size + 3) := Lib.hid (by rw [Rd.size_set, World.size_alloc, HSZ.out])
    have HR1 := Lib.hid hr1
    clear hr1
    refine (RQ.out _ (by exact HR1.out)).mono ?_
    rintro e2 w2 ⟨⟨rfl, hr2⟩, hb2⟩
    have Q0b := Lib.hid ((hb2.block w.heap.size (by rw [HS1.out]; omega) (by omega)).trans Q0.out)
    have Q1b := Lib.hid ((hb2.block (w.heap.size + 1) (by rw [HS1.out]; omega) (by omega)).trans Q1.out)
    have HB2 := Lib.hid (below_but HB1.out (by omega) hb2)
    have r1 := hr2.c1
    have r2 := hr2.c2
    have HR2 := Lib.hid hr2
    clear hr2 hb2 Z0 Z1 HBW Q0 Q1 HB1 HR1
    clear x0 xf0 y0 yf0 x1 xf1 y1 yf1 x2 xf2 y2 yf2 x3 xf3 y3 yf3 x4 xf4 y4 yf4
    have x0 : w2.cell? ⟨w.heap.size, 0, none⟩ = some (.int .u8 0) := blk_cell Q0b.out 0
    have xf0 : w2.frozen? ⟨w.heap.size, 0, none⟩ = false := blk_free Q0b.out 0
    have x1 : w2.cell? ⟨w.heap.size, 1, none⟩ = some (.int .i64 0) := blk_cell Q0b.out 1
    have xf1 : w2.frozen? ⟨w.heap.size, 1, none⟩ = false := blk_free Q0b.out 1
    have x2 : w2.cell? ⟨w.heap.size, 2, none⟩ = some (.int .i64 0) := blk_cell Q0b.out 2
    have xf2 : w2.frozen? ⟨w.heap.size, 2, none⟩ = false := blk_free Q0b.out 2
    have x3 : w2.cell? ⟨w.heap.size, 3, none⟩ = some (.string ⟨#[]⟩) := blk_cell Q0b.out 3
    have xf3 : w2.frozen? ⟨w.heap.size, 3, none⟩ = false := blk_free Q0b.out 3
    have x4 : w2.cell? ⟨w.heap.size, 4, none⟩ = some (.int .i64 0) := blk_cell Q0b.out 4
    have xf4 : w2.frozen? ⟨w.heap.size, 4, none⟩ = false := blk_free Q0b.out 4
    have y0 : w2.cell? ⟨w.heap.size + 1, 0, none⟩ = some (.int .u8 3) := blk_cell Q1b.out 0
    have yf0 : w2.frozen? ⟨w.heap.size + 1, 0, none⟩ = false := blk_free Q1b.out 0
    have y1 : w2.cell? ⟨w.heap.size + 1, 1, none⟩ = some (.int .i64 (k : Int)) := blk_cell Q1b.out 1
    have yf1 : w2.frozen? ⟨w.heap.size + 1, 1, none⟩ = false := blk_free Q1b.out 1
    have y2 : w2.cell? ⟨w.heap.size + 1, 2, none⟩ = some (.int .i64 0) := blk_cell Q1b.out 2
    have yf2 : w2.frozen? ⟨w.heap.size + 1, 2, none⟩ = false := blk_free Q1b.out 2
    have y3 : w2.cell? ⟨w.heap.size + 1, 3, none⟩ = some (.string ⟨#[]⟩) := blk_cell Q1b.out 3
    have yf3 : w2.frozen? ⟨w.heap.size + 1, 3, none⟩ = false := blk_free Q1b.out 3
    have y4 : w2.cell? ⟨w.heap.size + 1, 4, none⟩ = some (.int .i64 0) := blk_cell Q1b.out 4
    have yf4 : w2.frozen? ⟨w.heap.size + 1, 4, none⟩ = false := blk_free Q1b.out 4
    go_wp2_with fail
    have h6 := set5 ((Below.heap_setCell w2 ⟨w.heap.size + 1, 3, none⟩ (.string ⟨#[]⟩) w.heap.size (by show w.heap.size ≠ w.heap.size + 1; omega)).trans Q0b.out) (.int .u8 3) (.int .i64 (k : Int)) (.int .i64 0) (.string ⟨#[]⟩) (.int .i64 0)
    have e0 := blk_cell h6 0
    have e1 := blk_cell h6 1
    have e2 := blk_cell h6 2
    have e3 := blk_cell h6 3
    have e4 := blk_cell h6 4
    refine bodyPost_ret (v := .tuple #[.agg #[.int .u8 3, .int .i64 (k : Int), .int .i64 0, .string ⟨#[]⟩, .int .i64 0], .int .i64 ((k : Int) + (q : Int)), .bool false]) (by simp [results, Tryd.results51, go_sem, e0, e1, e2, e3, e4]) rfl ⟨⟨_, _, _, _, _, rfl⟩, ?_⟩
    exact ((((((HB2.out.setCell (p := ⟨w.heap.size + 1, 3, none⟩) (by simp) (.string ⟨#[]⟩)).setCell (p := ⟨w.heap.size, 0, none⟩) (Nat.le_refl _) (.int .u8 3)).setCell (p := ⟨w.heap.size, 1, none⟩) (Nat.le_refl _) (.int .i64 (k : Int))).setCell (p := ⟨w.heap.size, 2, none⟩) (Nat.le_refl _) (.int .i64 0)).setCell (p := ⟨w.heap.size, 3, none⟩) (Nat.le_refl _) (.string ⟨#[]⟩)).setCell (p := ⟨w.heap.size, 4, none⟩) (Nat.le_refl _) (.int .i64 0))

  | ok rr =>
    obtain ⟨b, j⟩ := rr
    obtain ⟨j0, j1⟩ := hjl b j rfl
    rw [show txtTok k (.ok (b, j)) = .ok (⟨3, k, 0, ⟨b.toArray⟩, 0⟩, k + j) from rfl]
    obtain ⟨x, hx⟩ : ∃ x : ByteArray, x = ⟨b.toArray⟩ := ⟨_, rfl⟩
    have HX := Lib.hid hx
    rw [← hx]
    clear hx
    have tn : ((k : Int) + (j : Int)).toNat = k + j := by omega
    rw [endChk_of]
    by_cases he : k + j < s.size
    · have hbe2 := bAt_eq s (k + j) he
      have l1 := refLetter_any (bAt s (k + j))
      have l2 := refDigit_any (bAt s (k + j))
      have t8 : decide ((k : Int) + (j : Int) < (s.size : Int)) = true := by simp; omega
      have u0 : (0 : Int) ≤ (k : Int) + (j : Int) := by omega
      have u1 : (k : Int) + (j : Int) < (s.size : Int) := by omega
      generalize bAt s (k + j) = ce at hbe2 l1 l2 ⊢
      have L1 := Lib.hid l1
      have L2 := Lib.hid l2
      clear l1 l2
      cases hl : letterI ce with
      | true =>
        rw [if_pos ⟨he, by simp⟩]
        rw [hl] at L1
        clear hl
        go_enter Tryd.func51, Tryd.ntmps51
        go_wp2_with fail
        refine (A1.out _).mono ?_
        rintro e w0 ⟨rfl, hw0⟩
        obtain ⟨z0, z1, hbw, hsz⟩ := one_start w w0 (k : Int) hw0
        have Z0 := Lib.hid z0
        have Z1 := Lib.hid z1
        have HBW := Lib.hid hbw
        have HSZ := Lib.hid hsz
        clear z0 z1 hbw hsz hw0
        have x0 : w0.cell? ⟨w.heap.size, 0, none⟩ = some (.int .u8 0) := blk_cell Z0.out 0
        have xf0 : w0.frozen? ⟨w.heap.size, 0, none⟩ = false := blk_free Z0.out 0
        have x1 : w0.cell? ⟨w.heap.size, 1, none⟩ = some (.int .i64 0) := blk_cell Z0.out 1
        have xf1 : w0.frozen? ⟨w.heap.size, 1, none⟩ = false := blk_free Z0.out 1
        have x2 : w0.cell? ⟨w.heap.size, 2, none⟩ = some (.int .i64 0) := blk_cell Z0.out 2
        have xf2 : w0.frozen? ⟨w.heap.size, 2, none⟩ = false := blk_free Z0.out 2
        have x3 : w0.cell? ⟨w.heap.size, 3, none⟩ = some (.string ⟨#[]⟩) := blk_cell Z0.out 3
        have xf3 : w0.frozen? ⟨w.heap.size, 3, none⟩ = false := blk_free Z0.out 3
        have x4 : w0.cell? ⟨w.heap.size, 4, none⟩ = some (.int .i64 0) := blk_cell Z0.out 4
        have xf4 : w0.frozen? ⟨w.heap.size, 4, none⟩ = false := blk_free Z0.out 4
        have y0 : w0.cell? ⟨w.heap.size + 1, 0, none⟩ = some (.int .u8 0) := blk_cell Z1.out 0
        have yf0 : w0.frozen? ⟨w.heap.size + 1, 0, none⟩ = false := blk_free Z1.out 0
        have y1 : w0.cell? ⟨w.heap.size + 1, 1, none⟩ = some (.int .i64 (k : Int)) := blk_cell Z1.out 1
        have yf1 : w0.frozen? ⟨w.heap.size + 1, 1, none⟩ = false := blk_free Z1.out 1
        have y2 : w0.cell? ⟨w.heap.size + 1, 2, none⟩ = some (.int .i64 0) := blk_cell Z1.out 2
        have yf2 : w0.frozen? ⟨w.heap.size + 1, 2, none⟩ = false := blk_free Z1.out 2
        have y3 : w0.cell? ⟨w.heap.size + 1, 3, none⟩ = some (.string ⟨#[]⟩) := blk_cell Z1.out 3
        have yf3 : w0.frozen? ⟨w.heap.size + 1, 3, none⟩ = false := blk_free Z1.out 3
        have y4 : w0.cell? ⟨w.heap.size + 1, 4, none⟩ = some (.int .i64 0) := blk_cell Z1.out 4
        have yf4 : w0.frozen? ⟨w.heap.size + 1, 4, none⟩ = false := blk_free Z1.out 4
        have ya : ∀ o, (w0.alloc o).cell? ⟨w.heap.size + 1, 0, none⟩ = some (.int .u8 0) := fun o => blk_cell ((Below.heap_alloc w0 o (w.heap.size + 1) (by rw [HSZ.out]; omega)).trans Z1.out) 0
        have yfa : ∀ o, (w0.alloc o).frozen? ⟨w.heap.size + 1, 0, none⟩ = false := fun o => blk_free ((Below.heap_alloc w0 o (w.heap.size + 1) (by rw [HSZ.out]; omega)).trans Z1.out) 0
        go_wp2_with fail
        refine (A2.out _).mono ?_
        rintro e w' ⟨rfl, rfl⟩
        go_wp2_with fail
        rw [← HU.out, HSZ.out]
        have hr1 : Rr ((w0.alloc (.cells #[.string u, .int .i64 0, .bool false, .int .i64 0] 81)).setCell ⟨w.heap.size + 1, 0, none⟩ (.int .u8 3)) (w.heap.size + 2) u ((0 : Nat) : Int) false 0 := Rr.far (by have h9 := heap_alloc_new w0 (.cells #[.string u, .int .i64 0, .bool false, .int .i64 0] 81); rw [HSZ.out] at h9; exact h9) (by show w.heap.size + 2 ≠ w.heap.size + 1; omega) _
        have Q0 : Hid (((w0.alloc (.cells #[.string u, .int .i64 0, .bool false, .int .i64 0] 81)).setCell ⟨w.heap.size + 1, 0, none⟩ (.int .u8 3)).heap[w.heap.size]? = some (.cells #[.int .u8 0, .int .i64 0, .int .i64 0, .string ⟨#[]⟩, .int .i64 0] 56 (0, 0))) := Lib.hid ((Below.heap_setCell _ _ _ _ (by show w.heap.size ≠ w.heap.size + 1; omega)).trans ((Below.heap_alloc w0 (.cells #[.string u, .int .i64 0, .bool false, .int .i64 0] 81) w.heap.size (by rw [HSZ.out]; omega)).trans Z0.out))
        have Q1 : Hid (((w0.alloc (.cells #[.string u, .int .i64 0, .bool false, .int .i64 0] 81)).setCell ⟨w.heap.size + 1, 0, none⟩ (.int .u8 3)).heap[w.heap.size + 1]? = some (.cells #[.int .u8 3, .int .i64 (k : Int), .int .i64 0, .string ⟨#[]⟩, .int .i64 0] 56 (0, 0))) := Lib.hid (set_zero ((Below.heap_alloc w0 (.cells #[.string u, .int .i64 0, .bool false, .int .i64 0] 81) (w.heap.size + 1) (by rw [HSZ.out]; omega)).trans Z1.out) _)
        have HB1 : Hid (Below w.heap.size w ((w0.alloc (.cells #[.string u, .int .i64 0, .bool false, .int .i64 0] 81)).setCell ⟨w.heap.size + 1, 0, none⟩ (.int .u8 3))) := Lib.hid ((HBW.out.alloc HBW.out.size (.cells #[.string u, .int .i64 0, .bool false, .int .i64 0] 81)).setCell (p := ⟨w.heap.size + 1, 0, none⟩) (by simp) (.int .u8 3))
        have HS1 : Hid (((w0.alloc (.cells #[.string u, .int .i64 0, .bool false, .int .i64 0] 81)).setCell ⟨w.heap.size + 1, 0, none⟩ (.int .u8 3)).heap.size = w.heap.size + 3) := Lib.hid (by rw [Rd.size_set, World.size_alloc, HSZ.out])
        have HR1 := Lib.hid hr1
        clear hr1
        refine (RQ.out _ (by exact HR1.out)).mono ?_
        rintro e2 w2 ⟨⟨rfl, hr2⟩, hb2⟩
        rw [← HX.out]
        have Q0b := Lib.hid ((hb2.block w.heap.size (by rw [HS1.out]; omega) (by omega)).trans Q0.out)
        have Q1b := Lib.hid ((hb2.block (w.heap.size + 1) (by rw [HS1.out]; omega) (by omega)).trans Q1.out)
        have HB2 := Lib.hid (below_but HB1.out (by omega) hb2)
        have r1 := hr2.c1
        have r2 := hr2.c2
        have HR2 := Lib.hid hr2
        clear hr2 hb2 Z0 Z1 HBW Q0 Q1 HB1 HR1
        clear x0 xf0 y0 yf0 x1 xf1 y1 yf1 x2 xf2 y2 yf2 x3 xf3 y3 yf3 x4 xf4 y4 yf4
        have x0 : w2.cell? ⟨w.heap.size, 0, none⟩ = some (.int .u8 0) := blk_cell Q0b.out 0
        have xf0 : w2.frozen? ⟨w.heap.size, 0, none⟩ = false := blk_free Q0b.out 0
        have x1 : w2.cell? ⟨w.heap.size, 1, none⟩ = some (.int .i64 0) := blk_cell Q0b.out 1
        have xf1 : w2.frozen? ⟨w.heap.size, 1, none⟩ = false := blk_free Q0b.out 1
        have x2 : w2.cell? ⟨w.heap.size, 2, none⟩ = some (.int .i64 0) := blk_cell Q0b.out 2
        have xf2 : w2.frozen? ⟨w.heap.size, 2, none⟩ = false := blk_free Q0b.out 2
        have x3 : w2.cell? ⟨w.heap.size, 3, none⟩ = some (.string ⟨#[]⟩) := blk_cell Q0b.out 3
        have xf3 : w2.frozen? ⟨w.heap.size, 3, none⟩ = false := blk_free Q0b.out 3
        have x4 : w2.cell? ⟨w.heap.size, 4, none⟩ = some (.int .i64 0) := blk_cell Q0b.out 4
        have xf4 : w2.frozen? ⟨w.heap.size, 4, none⟩ = false := blk_free Q0b.out 4
        have y0 : w2.cell? ⟨w.heap.size + 1, 0, none⟩ = some (.int .u8 3) := blk_cell Q1b.out 0
        have yf0 : w2.frozen? ⟨w.heap.size + 1, 0, none⟩ = false := blk_free Q1b.out 0
        have y1 : w2.cell? ⟨w.heap.size + 1, 1, none⟩ = some (.int .i64 (k : Int)) := blk_cell Q1b.out 1
        have yf1 : w2.frozen? ⟨w.heap.size + 1, 1, none⟩ = false := blk_free Q1b.out 1
        have y2 : w2.cell? ⟨w.heap.size + 1, 2, none⟩ = some (.int .i64 0) := blk_cell Q1b.out 2
        have yf2 : w2.frozen? ⟨w.heap.size + 1, 2, none⟩ = false := blk_free Q1b.out 2
        have y3 : w2.cell? ⟨w.heap.size + 1, 3, none⟩ = some (.string ⟨#[]⟩) := blk_cell Q1b.out 3
        have yf3 : w2.frozen? ⟨w.heap.size + 1, 3, none⟩ = false := blk_free Q1b.out 3
        have y4 : w2.cell? ⟨w.heap.size + 1, 4, none⟩ = some (.int .i64 0) := blk_cell Q1b.out 4
        have yf4 : w2.frozen? ⟨w.heap.size + 1, 4, none⟩ = false := blk_free Q1b.out 4
        go_wp2_with fail
        refine (L1.out _).mono ?_
        rintro e w' ⟨rfl, rfl⟩
        go_wp2_with fail
        have h6 := set5 ((Below.heap_setCell w2 ⟨w.heap.size + 1, 3, none⟩ (.string x) w.heap.size (by show w.heap.size ≠ w.heap.size + 1; omega)).trans Q0b.out) (.int .u8 3) (.int .i64 (k : Int)) (.int .i64 0) (.string x) (.int .i64 0)
        have e0 := blk_cell h6 0
        have e1 := blk_cell h6 1
        have e2 := blk_cell h6 2
        have e3 := blk_cell h6 3
        have e4 := blk_cell h6 4
        refine bodyPost_ret (v := .tuple #[.agg #[.int .u8 3, .int .i64 (k : Int), .int .i64 0, .string x, .int .i64 0], .int .i64 ((k : Int) + (j : Int)), .bool false]) (by simp [results, Tryd.results51, go_sem, e0, e1, e2, e3, e4]) rfl ⟨⟨_, _, _, _, _, rfl⟩, ?_⟩
        exact ((((((HB2.out.setCell (p := ⟨w.heap.size + 1, 3, none⟩) (by simp) (.string x)).setCell (p := ⟨w.heap.size, 0, none⟩) (Nat.le_refl _) (.int .u8 3)).setCell (p := ⟨w.heap.size, 1, none⟩) (Nat.le_refl _) (.int .i64 (k : Int))).setCell (p := ⟨w.heap.size, 2, none⟩) (Nat.le_refl _) (.int .i64 0)).setCell (p := ⟨w.heap.size, 3, none⟩) (Nat.le_refl _) (.string x)).setCell (p := ⟨w.heap.size, 4, none⟩) (Nat.le_refl _) (.int .i64 0))

      | false =>
        rw [hl] at L1
        cases hd2 : digitI ce with
        | true =>
          rw [if_pos ⟨he, by simp⟩]
          rw [hd2] at L2
          clear hl hd2
          go_enter Tryd.func51, Tryd.ntmps51
          go_wp2_with fail
          refine (A1.out _).mono ?_
          rintro e w0 ⟨rfl, hw0⟩
          obtain ⟨z0, z1, hbw, hsz⟩ := one_start w w0 (k : Int) hw0
          have Z0 := Lib.hid z0
          have Z1 := Lib.hid z1
          have HBW := Lib.hid hbw
          have HSZ := Lib.hid hsz
          clear z0 z1 hbw hsz hw0
          have x0 : w0.cell? ⟨w.heap.size, 0, none⟩ = some (.int .u8 0) := blk_cell Z0.out 0
          have xf0 : w0.frozen? ⟨w.heap.size, 0, none⟩ = false := blk_free Z0.out 0
          have x1 : w0.cell? ⟨w.heap.size, 1, none⟩ = some (.int .i64 0) := blk_cell Z0.out 1
          have xf1 : w0.frozen? ⟨w.heap.size, 1, none⟩ = false := blk_free Z0.out 1
          have x2 : w0.cell? ⟨w.heap.size, 2, none⟩ = some (.int .i64 0) := blk_cell Z0.out 2
          have xf2 : w0.frozen? ⟨w.heap.size, 2, none⟩ = false := blk_free Z0.out 2
          have x3 : w0.cell? ⟨w.heap.size, 3, none⟩ = some (.string ⟨#[]⟩) := blk_cell Z0.out 3
          have xf3 : w0.frozen? ⟨w.heap.size, 3, none⟩ = false := blk_free Z0.out 3
          have x4 : w0.cell? ⟨w.heap.size, 4, none⟩ = some (.int .i64 0) := blk_cell Z0.out 4
          have xf4 : w0.frozen? ⟨w.heap.size, 4, none⟩ = false := blk_free Z0.out 4
          have y0 : w0.cell? ⟨w.heap.size + 1, 0, none⟩ = some (.int .u8 0) := blk_cell Z1.out 0
          have yf0 : w0.frozen? ⟨w.heap.size + 1, 0, none⟩ = false := blk_free Z1.out 0
          have y1 : w0.cell? ⟨w.heap.size + 1, 1, none⟩ = some (.int .i64 (k : Int)) := blk_cell Z1.out 1
          have yf1 : w0.frozen? ⟨w.heap.size + 1, 1, none⟩ = false := blk_free Z1.out 1
          have y2 : w0.cell? ⟨w.heap.size + 1, 2, none⟩ = some (.int .i64 0) := blk_cell Z1.out 2
          have yf2 : w0.frozen? ⟨w.heap.size + 1, 2, none⟩ = false := blk_free Z1.out 2
          have y3 : w0.cell? ⟨w.heap.size + 1, 3, none⟩ = some (.string ⟨#[]⟩) := blk_cell Z1.out 3
          have yf3 : w0.frozen? ⟨w.heap.size + 1, 3, none⟩ = false := blk_free Z1.out 3
          have y4 : w0.cell? ⟨w.heap.size + 1, 4, none⟩ = some (.int .i64 0) := blk_cell Z1.out 4
          have yf4 : w0.frozen? ⟨w.heap.size + 1, 4, none⟩ = false := blk_free Z1.out 4
          have ya : ∀ o, (w0.alloc o).cell? ⟨w.heap.size + 1, 0, none⟩ = some (.int .u8 0) := fun o => blk_cell ((Below.heap_alloc w0 o (w.heap.size + 1) (by rw [HSZ.out]; omega)).trans Z1.out) 0
          have yfa : ∀ o, (w0.alloc o).frozen? ⟨w.heap.size + 1, 0, none⟩ = false := fun o => blk_free ((Below.heap_alloc w0 o (w.heap.size + 1) (by rw [HSZ.out]; omega)).trans Z1.out) 0
          go_wp2_with fail
          refine (A2.out _).mono ?_
          rintro e w' ⟨rfl, rfl⟩
          go_wp2_with fail
          rw [← HU.out, HSZ.out]
          have hr1 : Rr ((w0.alloc (.cells #[.string u, .int .i64 0, .bool false, .int .i64 0] 81)).setCell ⟨w.heap.size + 1, 0, none⟩ (.int .u8 3)) (w.heap.size + 2) u ((0 : Nat) : Int) false 0 := Rr.far (by have h9 := heap_alloc_new w0 (.cells #[.string u, .int .i64 0, .bool false, .int .i64 0] 81); rw [HSZ.out] at h9; exact h9) (by show w.heap.size + 2 ≠ w.heap.size + 1; omega) _
          have Q0 : Hid (((w0.alloc (.cells #[.string u, .int .i64 0, .bool false, .int .i64 0] 81)).setCell ⟨w.heap.size + 1, 0, none⟩ (.int .u8 3)).heap[w.heap.size]? = some (.cells #[.int .u8 0, .int .i64 0, .int .i64 0, .string ⟨#[]⟩, .int .i64 0] 56 (0, 0))) := Lib.hid ((Below.heap_setCell _ _ _ _ (by show w.heap.size ≠ w.heap.size + 1; omega)).trans ((Below.heap_alloc w0 (.cells #[.string u, .int .i64 0, .bool false, .int .i64 0] 81) w.heap.size (by rw [HSZ.out]; omega)).trans Z0.out))
          have Q1 : Hid (((w0.alloc (.cells #[.string u, .int .i64 0, .bool false, .int .i64 0] 81)).setCell ⟨w.heap.size + 1, 0, none⟩ (.int .u8 3)).heap[w.heap.size + 1]? = some (.cells #[.int .u8 3, .int .i64 (k : Int), .int .i64 0, .string ⟨#[]⟩, .int .i64 0] 56 (0, 0))) := Lib.hid (set_zero ((Below.heap_alloc w0 (.cells #[.string u, .int .i64 0, .bool false, .int .i64 0] 81) (w.heap.size + 1) (by rw [HSZ.out]; omega)).trans Z1.out) _)
          have HB1 : Hid (Below w.heap.size w ((w0.alloc (.cells #[.string u, .int .i64 0, .bool false, .int .i64 0] 81)).setCell ⟨w.heap.size + 1, 0, none⟩ (.int .u8 3))) := Lib.hid ((HBW.out.alloc HBW.out.size (.cells #[.string u, .int .i64 0, .bool false, .int .i64 0] 81)).setCell (p := ⟨w.heap.size + 1, 0, none⟩) (by simp) (.int .u8 3))
          have HS1 : Hid (((w0.alloc (.cells #[.string u, .int .i64 0, .bool false, .int .i64 0] 81)).setCell ⟨w.heap.size + 1, 0, none⟩ (.int .u8 3)).heap.size = w.heap.size + 3) := Lib.hid (by rw [Rd.size_set, World.size_alloc, HSZ.out])
          have HR1 := Lib.hid hr1
          clear hr1
          refine (RQ.out _ (by exact HR1.out)).mono ?_
          rintro e2 w2 ⟨⟨rfl, hr2⟩, hb2⟩
          rw [← HX.out]
          have Q0b := Lib.hid ((hb2.block w.heap.size (by rw [HS1.out]; omega) (by omega)).trans Q0.out)
          have Q1b := Lib.hid ((hb2.block (w.heap.size + 1) (by rw [HS1.out]; omega) (by omega)).trans Q1.out)
          have HB2 := Lib.hid (below_but HB1.out (by omega) hb2)
          have r1 := hr2.c1
          have r2 := hr2.c2
          have HR2 := Lib.hid hr2
          clear hr2 hb2 Z0 Z1 HBW Q0 Q1 HB1 HR1
          clear x0 xf0 y0 yf0 x1 xf1 y1 yf1 x2 xf2 y2 yf2 x3 xf3 y3 yf3 x4 xf4 y4 yf4
          have x0 : w2.cell? ⟨w.heap.size, 0, none⟩ = some (.int .u8 0) := blk_cell Q0b.out 0
          have xf0 : w2.frozen? ⟨w.heap.size, 0, none⟩ = false := blk_free Q0b.out 0
          have x1 : w2.cell? ⟨w.heap.size, 1, none⟩ = some (.int .i64 0) := blk_cell Q0b.out 1
          have xf1 : w2.frozen? ⟨w.heap.size, 1, none⟩ = false := blk_free Q0b.out 1
          have x2 : w2.cell? ⟨w.heap.size, 2, none⟩ = some (.int .i64 0) := blk_cell Q0b.out 2
          have xf2 : w2.frozen? ⟨w.heap.size, 2, none⟩ = false := blk_free Q0b.out 2
          have x3 : w2.cell? ⟨w.heap.size, 3, none⟩ = some (.string ⟨#[]⟩) := blk_cell Q0b.out 3
          have xf3 : w2.frozen? ⟨w.heap.size, 3, none⟩ = false := blk_free Q0b.out 3
          have x4 : w2.cell? ⟨w.heap.size, 4, none⟩ = some (.int .i64 0) := blk_cell Q0b.out 4
          have xf4 : w2.frozen? ⟨w.heap.size, 4, none⟩ = false := blk_free Q0b.out 4
          have y0 : w2.cell? ⟨w.heap.size + 1, 0, none⟩ = some (.int .u8 3) := blk_cell Q1b.out 0
          have yf0 : w2.frozen? ⟨w.heap.size + 1, 0, none⟩ = false := blk_free Q1b.out 0
          have y1 : w2.cell? ⟨w.heap.size + 1, 1, none⟩ = some (.int .i64 (k : Int)) := blk_cell Q1b.out 1
          have yf1 : w2.frozen? ⟨w.heap.size + 1, 1, none⟩ = false := blk_free Q1b.out 1
          have y2 : w2.cell? ⟨w.heap.size + 1, 2, none⟩ = some (.int .i64 0) := blk_cell Q1b.out 2
          have yf2 : w2.frozen? ⟨w.heap.size + 1, 2, none⟩ = false := blk_free Q1b.out 2
          have y3 : w2.cell? ⟨w.heap.size + 1, 3, none⟩ = some (.string ⟨#[]⟩) := blk_cell Q1b.out 3
          have yf3 : w2.frozen? ⟨w.heap.size + 1, 3, none⟩ = false := blk_free Q1b.out 3
          have y4 : w2.cell? ⟨w.heap.size + 1, 4, none⟩ = some (.int .i64 0) := blk_cell Q1b.out 4
          have yf4 : w2.frozen? ⟨w.heap.size + 1, 4, none⟩ = false := blk_free Q1b.out 4
          go_wp2_with fail
          refine (L1.out _).mono ?_
          rintro e w' ⟨rfl, rfl⟩
          go_wp2_with fail
          refine (L2.out _).mono ?_
          rintro e w' ⟨rfl, rfl⟩
          go_wp2_with fail
          have h6 := set5 ((Below.heap_setCell w2 ⟨w.heap.size + 1, 3, none⟩ (.string x) w.heap.size (by show w.heap.size ≠ w.heap.size + 1; omega)).trans Q0b.out) (.int .u8 3) (.int .i64 (k : Int)) (.int .i64 0) (.string x) (.int .i64 0)
          have e0 := blk_cell h6 0
          have e1 := blk_cell h6 1
          have e2 := blk_cell h6 2
          have e3 := blk_cell h6 3
          have e4 := blk_cell h6 4
          refine bodyPost_ret (v := .tuple #[.agg #[.int .u8 3, .int .i64 (k : Int), .int .i64 0, .string x, .int .i64 0], .int .i64 ((k : Int) + (j : Int)), .bool false]) (by simp [results, Tryd.results51, go_sem, e0, e1, e2, e3, e4]) rfl ⟨⟨_, _, _, _, _, rfl⟩, ?_⟩
          exact ((((((HB2.out.setCell (p := ⟨w.heap.size + 1, 3, none⟩) (by simp) (.string x)).setCell (p := ⟨w.heap.size, 0, none⟩) (Nat.le_refl _) (.int .u8 3)).setCell (p := ⟨w.heap.size, 1, none⟩) (Nat.le_refl _) (.int .i64 (k : Int))).setCell (p := ⟨w.heap.size, 2, none⟩) (Nat.le_refl _) (.int .i64 0)).setCell (p := ⟨w.heap.size, 3, none⟩) (Nat.le_refl _) (.string x)).setCell (p := ⟨w.heap.size, 4, none⟩) (Nat.le_refl _) (.int .i64 0))

        | false =>
          rw [if_neg (by simp)]
          rw [hd2] at L2
          clear hl hd2
          go_enter Tryd.func51, Tryd.ntmps51
          go_wp2_with fail
          refine (A1.out _).mono ?_
          rintro e w0 ⟨rfl, hw0⟩
          obtain ⟨z0, z1, hbw, hsz⟩ := one_start w w0 (k : Int) hw0
          have Z0 := Lib.hid z0
          have Z1 := Lib.hid z1
          have HBW := Lib.hid hbw
          have HSZ := Lib.hid hsz
          clear z0 z1 hbw hsz hw0
          have x0 : w0.cell? ⟨w.heap.size, 0, none⟩ = some (.int .u8 0) := blk_cell Z0.out 0
          have xf0 : w0.frozen? ⟨w.heap.size, 0, none⟩ = false := blk_free Z0.out 0
          have x1 : w0.cell? ⟨w.heap.size, 1, none⟩ = some (.int .i64 0) := blk_cell Z0.out 1
          have xf1 : w0.frozen? ⟨w.heap.size, 1, none⟩ = false := blk_free Z0.out 1
          have x2 : w0.cell? ⟨w.heap.size, 2, none⟩ = some (.int .i64 0) := blk_cell Z0.out 2
          have xf2 : w0.frozen? ⟨w.heap.size, 2, none⟩ = false := blk_free Z0.out 2
          have x3 : w0.cell? ⟨w.heap.size, 3, none⟩ = some (.string ⟨#[]⟩) := blk_cell Z0.out 3
          have xf3 : w0.frozen? ⟨w.heap.size, 3, none⟩ = false := blk_free Z0.out 3
          have x4 : w0.cell? ⟨w.heap.size, 4, none⟩ = some (.int .i64 0) := blk_cell Z0.out 4
          have xf4 : w0.frozen? ⟨w.heap.size, 4, none⟩ = false := blk_free Z0.out 4
          have y0 : w0.cell? ⟨w.heap.size + 1, 0, none⟩ = some (.int .u8 0) := blk_cell Z1.out 0
          have yf0 : w0.frozen? ⟨w.heap.size + 1, 0, none⟩ = false := blk_free Z1.out 0
          have y1 : w0.cell? ⟨w.heap.size + 1, 1, none⟩ = some (.int .i64 (k : Int)) := blk_cell Z1.out 1
          have yf1 : w0.frozen? ⟨w.heap.size + 1, 1, none⟩ = false := blk_free Z1.out 1
          have y2 : w0.cell? ⟨w.heap.size + 1, 2, none⟩ = some (.int .i64 0) := blk_cell Z1.out 2
          have yf2 : w0.frozen? ⟨w.heap.size + 1, 2, none⟩ = false := blk_free Z1.out 2
          have y3 : w0.cell? ⟨w.heap.size + 1, 3, none⟩ = some (.string ⟨#[]⟩) := blk_cell Z1.out 3
          have yf3 : w0.frozen? ⟨w.heap.size + 1, 3, none⟩ = false := blk_free Z1.out 3
          have y4 : w0.cell? ⟨w.heap.size + 1, 4, none⟩ = some (.int .i64 0) := blk_cell Z1.out 4
          have yf4 : w0.frozen? ⟨w.heap.size + 1, 4, none⟩ = false := blk_free Z1.out 4
          have ya : ∀ o, (w0.alloc o).cell? ⟨w.heap.size + 1, 0, none⟩ = some (.int .u8 0) := fun o => blk_cell ((Below.heap_alloc w0 o (w.heap.size + 1) (by rw [HSZ.out]; omega)).trans Z1.out) 0
          have yfa : ∀ o, (w0.alloc o).frozen? ⟨w.heap.size + 1, 0, none⟩ = false := fun o => blk_free ((Below.heap_alloc w0 o (w.heap.size + 1) (by rw [HSZ.out]; omega)).trans Z1.out) 0
          go_wp2_with fail
          refine (A2.out _).mono ?_
          rintro e w' ⟨rfl, rfl⟩
          go_wp2_with fail
          rw [← HU.out, HSZ.out]
          have hr1 : Rr ((w0.alloc (.cells #[.string u, .int .i64 0, .bool false, .int .i64 0] 81)).setCell ⟨w.heap.size + 1, 0, none⟩ (.int .u8 3)) (w.heap.size + 2) u ((0 : Nat) : Int) false 0 := Rr.far (by have h9 := heap_alloc_new w0 (.cells #[.string u, .int .i64 0, .bool false, .int .i64 0] 81); rw [HSZ.out] at h9; exact h9) (by show w.heap.size + 2 ≠ w.heap.size + 1; omega) _
          have Q0 : Hid (((w0.alloc (.cells #[.string u, .int .i64 0, .bool false, .int .i64 0] 81)).setCell ⟨w.heap.size + 1, 0, none⟩ (.int .u8 3)).heap[w.heap.size]? = some (.cells #[.int .u8 0, .int .i64 0, .int .i64 0, .string ⟨#[]⟩, .int .i64 0] 56 (0, 0))) := Lib.hid ((Below.heap_setCell _ _ _ _ (by show w.heap.size ≠ w.heap.size + 1; omega)).trans ((Below.heap_alloc w0 (.cells #[.string u, .int .i64 0, .bool false, .int .i64 0] 81) w.heap.size (by rw [HSZ.out]; omega)).trans Z0.out))
          have Q1 : Hid (((w0.alloc (.cells #[.string u, .int .i64 0, .bool false, .int .i64 0] 81)).setCell ⟨w.heap.size + 1, 0, none⟩ (.int .u8 3)).heap[w.heap.size + 1]? = some (.cells #[.int .u8 3, .int .i64 (k : Int), .int .i64 0, .string ⟨#[]⟩, .int .i64 0] 56 (0, 0))) := Lib.hid (set_zero ((Below.heap_alloc w0 (.cells #[.string u, .int .i64 0, .bool false, .int .i64 0] 81) (w.heap.size + 1) (by rw [HSZ.out]; omega)).trans Z1.out) _)
          have HB1 : Hid (Below w.heap.size w ((w0.alloc (.cells #[.string u, .int .i64 0, .bool false, .int .i64 0] 81)).setCell ⟨w.heap.size + 1, 0, none⟩ (.int .u8 3))) := Lib.hid ((HBW.out.alloc HBW.out.size (.cells #[.string u, .int .i64 0, .bool false, .int .i64 0] 81)).setCell (p := ⟨w.heap.size + 1, 0, none⟩) (by simp) (.int .u8 3))
          have HS1 : Hid (((w0.alloc (.cells #[.string u, .int .i64 0, .bool false, .int .i64 0] 81)).setCell ⟨w.heap.size + 1, 0, none⟩ (.int .u8 3)).heap.size = w.heap.size + 3) := Lib.hid (by rw [Rd.size_set, World.size_alloc, HSZ.out])
          have HR1 := Lib.hid hr1
          clear hr1
          refine (RQ.out _ (by exact HR1.out)).mono ?_
          rintro e2 w2 ⟨⟨rfl, hr2⟩, hb2⟩
          rw [← HX.out]
          have Q0b := Lib.hid ((hb2.block w.heap.size (by rw [HS1.out]; omega) (by omega)).trans Q0.out)
          have Q1b := Lib.hid ((hb2.block (w.heap.size + 1) (by rw [HS1.out]; omega) (by omega)).trans Q1.out)
          have HB2 := Lib.hid (below_but HB1.out (by omega) hb2)
          have r1 := hr2.c1
          have r2 := hr2.c2
          have HR2 := Lib.hid hr2
          clear hr2 hb2 Z0 Z1 HBW Q0 Q1 HB1 HR1
          clear x0 xf0 y0 yf0 x1 xf1 y1 yf1 x2 xf2 y2 yf2 x3 xf3 y3 yf3 x4 xf4 y4 yf4
          have x0 : w2.cell? ⟨w.heap.size, 0, none⟩ = some (.int .u8 0) := blk_cell Q0b.out 0
          have xf0 : w2.frozen? ⟨w.heap.size, 0, none⟩ = false := blk_free Q0b.out 0
          have x1 : w2.cell? ⟨w.heap.size, 1, none⟩ = some (.int .i64 0) := blk_cell Q0b.out 1
          have xf1 : w2.frozen? ⟨w.heap.size, 1, none⟩ = false := blk_free Q0b.out 1
          have x2 : w2.cell? ⟨w.heap.size, 2, none⟩ = some (.int .i64 0) := blk_cell Q0b.out 2
          have xf2 : w2.frozen? ⟨w.heap.size, 2, none⟩ = false := blk_free Q0b.out 2
          have x3 : w2.cell? ⟨w.heap.size, 3, none⟩ = some (.string ⟨#[]⟩) := blk_cell Q0b.out 3
          have xf3 : w2.frozen? ⟨w.heap.size, 3, none⟩ = false := blk_free Q0b.out 3
          have x4 : w2.cell? ⟨w.heap.size, 4, none⟩ = some (.int .i64 0) := blk_cell Q0b.out 4
          have xf4 : w2.frozen? ⟨w.heap.size, 4, none⟩ = false := blk_free Q0b.out 4
          have y0 : w2.cell? ⟨w.heap.size + 1, 0, none⟩ = some (.int .u8 3) := blk_cell Q1b.out 0
          have yf0 : w2.frozen? ⟨w.heap.size + 1, 0, none⟩ = false := blk_free Q1b.out 0
          have y1 : w2.cell? ⟨w.heap.size + 1, 1, none⟩ = some (.int .i64 (k : Int)) := blk_cell Q1b.out 1
          have yf1 : w2.frozen? ⟨w.heap.size + 1, 1, none⟩ = false := blk_free Q1b.out 1
          have y2 : w2.cell? ⟨w.heap.size + 1, 2, none⟩ = some (.int .i64 0) := blk_cell Q1b.out 2
          have yf2 : w2.frozen? ⟨w.heap.size + 1, 2, none⟩ = false := blk_free Q1b.out 2
          have y3 : w2.cell? ⟨w.heap.size + 1, 3, none⟩ = some (.string ⟨#[]⟩) := blk_cell Q1b.out 3
          have yf3 : w2.frozen? ⟨w.heap.size + 1, 3, none⟩ = false := blk_free Q1b.out 3
          have y4 : w2.cell? ⟨w.heap.size + 1, 4, none⟩ = some (.int .i64 0) := blk_cell Q1b.out 4
          have yf4 : w2.frozen? ⟨w.heap.size + 1, 4, none⟩ = false := blk_free Q1b.out 4
          go_wp2_with fail
          refine (L1.out _).mono ?_
          rintro e w' ⟨rfl, rfl⟩
          go_wp2_with fail
          refine (L2.out _).mono ?_
          rintro e w' ⟨rfl, rfl⟩
          go_wp2_with fail
          have h6 := set5 ((Below.heap_setCell w2 ⟨w.heap.size + 1, 3, none⟩ (.string x) w.heap.size (by show w.heap.size ≠ w.heap.size + 1; omega)).trans Q0b.out) (.int .u8 3) (.int .i64 (k : Int)) (.int .i64 0) (.string x) (.int .i64 0)
          have e0 := blk_cell h6 0
          have e1 := blk_cell h6 1
          have e2 := blk_cell h6 2
          have e3 := blk_cell h6 3
          have e4 := blk_cell h6 4
          refine bodyPost_ret (v := .tuple #[.agg #[.int .u8 3, .int .i64 (k : Int), .int .i64 0, .string x, .int .i64 0], .int .i64 ((k : Int) + (j : Int)), .bool true]) (by simp [results, Tryd.results51, go_sem, e0, e1, e2, e3, e4]) rfl ⟨rfl, ?_⟩
          exact ((((((HB2.out.setCell (p := ⟨w.heap.size + 1, 3, none⟩) (by simp) (.string x)).setCell (p := ⟨w.heap.size, 0, none⟩) (Nat.le_refl _) (.int .u8 3)).setCell (p := ⟨w.heap.size, 1, none⟩) (Nat.le_refl _) (.int .i64 (k : Int))).setCell (p := ⟨w.heap.size, 2, none⟩) (Nat.le_refl _) (.int .i64 0)).setCell (p := ⟨w.heap.size, 3, none⟩) (Nat.le_refl _) (.string x)).setCell (p := ⟨w.heap.size, 4, none⟩) (Nat.le_refl _) (.int .i64 0))
    · have t8 : decide ((k : Int) + (j : Int) < (s.size : Int)) = false := by simp; omega
      rw [if_neg (fun h => he h.1)]
      go_enter Tryd.func51, Tryd.ntmps51
      go_wp2_with fail
      refine (A1.out _).mono ?_
      rintro e w0 ⟨rfl, hw0⟩
      obtain ⟨z0, z1, hbw, hsz⟩ := one_start w w0 (k : Int) hw0
      have Z0 := Lib.hid z0
      have Z1 := Lib.hid z1
      have HBW := Lib.hid hbw
      have HSZ := Lib.hid hsz
      clear z0 z1 hbw hsz hw0
      have x0 : w0.cell? ⟨w.heap.size, 0, none⟩ = some (.int .u8 0) := blk_cell Z0.out 0
      have xf0 : w0.frozen? ⟨w.heap.size, 0, none⟩ = false := blk_free Z0.out 0
      have x1 : w0.cell? ⟨w.heap.size, 1, none⟩ = some (.int .i64 0) := blk_cell Z0.out 1
      have xf1 : w0.frozen? ⟨w.heap.size, 1, none⟩ = false := blk_free Z0.out 1
      have x2 : w0.cell? ⟨w.heap.size, 2, none⟩ = some (.int .i64 0) := blk_cell Z0.out 2
      have xf2 : w0.frozen? ⟨w.heap.size, 2, none⟩ = false := blk_free Z0.out 2
      have x3 : w0.cell? ⟨w.heap.size, 3, none⟩ = some (.string ⟨#[]⟩) := blk_cell Z0.out 3
      have xf3 : w0.frozen? ⟨w.heap.size, 3, none⟩ = false := blk_free Z0.out 3
      have x4 : w0.cell? ⟨w.heap.size, 4, none⟩ = some (.int .i64 0) := blk_cell Z0.out 4
      have xf4 : w0.frozen? ⟨w.heap.size, 4, none⟩ = false := blk_free Z0.out 4
      have y0 : w0.cell? ⟨w.heap.size + 1, 0, none⟩ = some (.int .u8 0) := blk_cell Z1.out 0
      have yf0 : w0.frozen? ⟨w.heap.size + 1, 0, none⟩ = false := blk_free Z1.out 0
      have y1 : w0.cell? ⟨w.heap.size + 1, 1, none⟩ = some (.int .i64 (k : Int)) := blk_cell Z1.out 1
      have yf1 : w0.frozen? ⟨w.heap.size + 1, 1, none⟩ = false := blk_free Z1.out 1
      have y2 : w0.cell? ⟨w.heap.size + 1, 2, none⟩ = some (.int .i64 0) := blk_cell Z1.out 2
      have yf2 : w0.frozen? ⟨w.heap.size + 1, 2, none⟩ = false := blk_free Z1.out 2
      have y3 : w0.cell? ⟨w.heap.size + 1, 3, none⟩ = some (.string ⟨#[]⟩) := blk_cell Z1.out 3
      have yf3 : w0.frozen? ⟨w.heap.size + 1, 3, none⟩ = false := blk_free Z1.out 3
      have y4 : w0.cell? ⟨w.heap.size + 1, 4, none⟩ = some (.int .i64 0) := blk_cell Z1.out 4
      have yf4 : w0.frozen? ⟨w.heap.size + 1, 4, none⟩ = false := blk_free Z1.out 4
      have ya : ∀ o, (w0.alloc o).cell? ⟨w.heap.size + 1, 0, none⟩ = some (.int .u8 0) := fun o => blk_cell ((Below.heap_alloc w0 o (w.heap.size + 1) (by rw [HSZ.out]; omega)).trans Z1.out) 0
      have yfa : ∀ o, (w0.alloc o).frozen? ⟨w.heap.size + 1, 0, none⟩ = false := fun o => blk_free ((Below.heap_alloc w0 o (w.heap.size + 1) (by rw [HSZ.out]; omega)).trans Z1.out) 0
      go_wp2_with fail
      refine (A2.out _).mono ?_
      rintro e w' ⟨rfl, rfl⟩
      go_wp2_with fail
      rw [← HU.out, HSZ.out]
      have hr1 : Rr ((w0.alloc (.cells #[.string u, .int .i64 0, .bool false, .int .i64 0] 81)).setCell ⟨w.heap.size + 1, 0, none⟩ (.int .u8 3)) (w.heap.size + 2) u ((0 : Nat) : Int) false 0 := Rr.far (by have h9 := heap_alloc_new w0 (.cells #[.string u, .int .i64 0, .bool false, .int .i64 0] 81); rw [HSZ.out] at h9; exact h9) (by show w.heap.size + 2 ≠ w.heap.size + 1; omega) _
      have Q0 : Hid (((w0.alloc (.cells #[.string u, .int .i64 0, .bool false, .int .i64 0] 81)).setCell ⟨w.heap.size + 1, 0, none⟩ (.int .u8 3)).heap[w.heap.size]? = some (.cells #[.int .u8 0, .int .i64 0, .int .i64 0, .string ⟨#[]⟩, .int .i64 0] 56 (0, 0))) := Lib.hid ((Below.heap_setCell _ _ _ _ (by show w.heap.size ≠ w.heap.size + 1; omega)).trans ((Below.heap_alloc w0 (.cells #[.string u, .int .i64 0, .bool false, .int .i64 0] 81) w.heap.size (by rw [HSZ.out]; omega)).trans Z0.out))
      have Q1 : Hid (((w0.alloc (.cells #[.string u, .int .i64 0, .bool false, .int .i64 0] 81)).setCell ⟨w.heap.size + 1, 0, none⟩ (.int .u8 3)).heap[w.heap.size + 1]? = some (.cells #[.int .u8 3, .int .i64 (k : Int), .int .i64 0, .string ⟨#[]⟩, .int .i64 0] 56 (0, 0))) := Lib.hid (set_zero ((Below.heap_alloc w0 (.cells #[.string u, .int .i64 0, .bool false, .int .i64 0] 81) (w.heap.size + 1) (by rw [HSZ.out]; omega)).trans Z1.out) _)
      have HB1 : Hid (Below w.heap.size w ((w0.alloc (.cells #[.string u, .int .i64 0, .bool false, .int .i64 0] 81)).setCell ⟨w.heap.size + 1, 0, none⟩ (.int .u8 3))) := Lib.hid ((HBW.out.alloc HBW.out.size (.cells #[.string u, .int .i64 0, .bool false, .int .i64 0] 81)).setCell (p := ⟨w.heap.size + 1, 0, none⟩) (by simp) (.int .u8 3))
      have HS1 : Hid (((w0.alloc (.cells #[.string u, .int .i64 0, .bool false, .int .i64 0] 81)).setCell ⟨w.heap.size + 1, 0, none⟩ (.int .u8 3)).heap.size = w.heap.size + 3) := Lib.hid (by rw [Rd.size_set, World.size_alloc, HSZ.out])
      have HR1 := Lib.hid hr1
      clear hr1
      refine (RQ.out _ (by exact HR1.out)).mono ?_
      rintro e2 w2 ⟨⟨rfl, hr2⟩, hb2⟩
      rw [← HX.out]
      have Q0b := Lib.hid ((hb2.block w.heap.size (by rw [HS1.out]; omega) (by omega)).trans Q0.out)
      have Q1b := Lib.hid ((hb2.block (w.heap.size + 1) (by rw [HS1.out]; omega) (by omega)).trans Q1.out)
      have HB2 := Lib.hid (below_but HB1.out (by omega) hb2)
      have r1 := hr2.c1
      have r2 := hr2.c2
      have HR2 := Lib.hid hr2
      clear hr2 hb2 Z0 Z1 HBW Q0 Q1 HB1 HR1
      clear x0 xf0 y0 yf0 x1 xf1 y1 yf1 x2 xf2 y2 yf2 x3 xf3 y3 yf3 x4 xf4 y4 yf4
      have x0 : w2.cell? ⟨w.heap.size, 0, none⟩ = some (.int .u8 0) := blk_cell Q0b.out 0
      have xf0 : w2.frozen? ⟨w.heap.size, 0, none⟩ = false := blk_free Q0b.out 0
      have x1 : w2.cell? ⟨w.heap.size, 1, none⟩ = some (.int .i64 0) := blk_cell Q0b.out 1
      have xf1 : w2.frozen? ⟨w.heap.size, 1, none⟩ = false := blk_free Q0b.out 1
      have x2 : w2.cell? ⟨w.heap.size, 2, none⟩ = some (.int .i64 0) := blk_cell Q0b.out 2
      have xf2 : w2.frozen? ⟨w.heap.size, 2, none⟩ = false := blk_free Q0b.out 2
      have x3 : w2.cell? ⟨w.heap.size, 3, none⟩ = some (.string ⟨#[]⟩) := blk_cell Q0b.out 3
      have xf3 : w2.frozen? ⟨w.heap.size, 3, none⟩ = false := blk_free Q0b.out 3
      have x4 : w2.cell? ⟨w.heap.size, 4, none⟩ = some (.int .i64 0) := blk_cell Q0b.out 4
      have xf4 : w2.frozen? ⟨w.heap.size, 4, none⟩ = false := blk_free Q0b.out 4
      have y0 : w2.cell? ⟨w.heap.size + 1, 0, none⟩ = some (.int .u8 3) := blk_cell Q1b.out 0
      have yf0 : w2.frozen? ⟨w.heap.size + 1, 0, none⟩ = false := blk_free Q1b.out 0
      have y1 : w2.cell? ⟨w.heap.size + 1, 1, none⟩ = some (.int .i64 (k : Int)) := blk_cell Q1b.out 1
      have yf1 : w2.frozen? ⟨w.heap.size + 1, 1, none⟩ = false := blk_free Q1b.out 1
      have y2 : w2.cell? ⟨w.heap.size + 1, 2, none⟩ = some (.int .i64 0) := blk_cell Q1b.out 2
      have yf2 : w2.frozen? ⟨w.heap.size + 1, 2, none⟩ = false := blk_free Q1b.out 2
      have y3 : w2.cell? ⟨w.heap.size + 1, 3, none⟩ = some (.string ⟨#[]⟩) := blk_cell Q1b.out 3
      have yf3 : w2.frozen? ⟨w.heap.size + 1, 3, none⟩ = false := blk_free Q1b.out 3
      have y4 : w2.cell? ⟨w.heap.size + 1, 4, none⟩ = some (.int .i64 0) := blk_cell Q1b.out 4
      have yf4 : w2.frozen? ⟨w.heap.size + 1, 4, none⟩ = false := blk_free Q1b.out 4
      go_wp2_with fail
      have h6 := set5 ((Below.heap_setCell w2 ⟨w.heap.size + 1, 3, none⟩ (.string x) w.heap.size (by show w.heap.size ≠ w.heap.size + 1; omega)).trans Q0b.out) (.int .u8 3) (.int .i64 (k : Int)) (.int .i64 0) (.string x) (.int .i64 0)
      have e0 := blk_cell h6 0
      have e1 := blk_cell h6 1
      have e2 := blk_cell h6 2
      have e3 := blk_cell h6 3
      have e4 := blk_cell h6 4
      refine bodyPost_ret (v := .tuple #[.agg #[.int .u8 3, .int .i64 (k : Int), .int .i64 0, .string x, .int .i64 0], .int .i64 ((k : Int) + (j : Int)), .bool true]) (by simp [results, Tryd.results51, go_sem, e0, e1, e2, e3, e4]) rfl ⟨rfl, ?_⟩
      exact ((((((HB2.out.setCell (p := ⟨w.heap.size + 1, 3, none⟩) (by simp) (.string x)).setCell (p := ⟨w.heap.size, 0, none⟩) (Nat.le_refl _) (.int .u8 3)).setCell (p := ⟨w.heap.size, 1, none⟩) (Nat.le_refl _) (.int .i64 (k : Int))).setCell (p := ⟨w.heap.size, 2, none⟩) (Nat.le_refl _) (.int .i64 0)).setCell (p := ⟨w.heap.size, 3, none⟩) (Nat.le_refl _) (.string x)).setCell (p := ⟨w.heap.size, 4, none⟩) (Nat.le_refl _) (.int .i64 0))


set_option maxRecDepth 100000 in
theorem one_sign (s : ByteArray) (k : Nat) (w : World) (hS : s.size ≤ 140737488351232) (hk : k < s.size) (h1 : letterI (bAt s k) = false) (h2 : digitI (bAt s k) = false) (h45 : ¬ bAt s k = 45) (h35 : ¬ bAt s k = 35) (h34 : ¬ bAt s k = 34) (h6 : signI (bAt s k) = true) :
    Calls Tryd.prog 51 #[.string s, .int .i64 (k : Int)] w (OnePost (.ok (⟨5, k, 0, s.extract k (k + 1), 0⟩, k + 1)) w) := by
  have g0 : (0 : Int) ≤ (k : Int) := by omega
  have g1 : (k : Int) < (s.size : Int) := by omega
  have hbe := bAt_eq s k hk
  have a1 := refLetter_any (bAt s k)
  have a2 := refDigit_any (bAt s k)
  have a3 := refSign_any (bAt s k)
  rw [h1] at a1
  have t45 : (bAt s k == 45) = false := by simpa using h45
  have t35 : (bAt s k == 35) = false := by simpa using h35
  have t34 : (bAt s k == 34) = false := by simpa using h34
  rw [h2] at a2
  rw [h6] at a3
  clear h2 h6 h45 h35 h34
  clear h1
  generalize bAt s k = c at hbe a1 a2 a3 t45 t35 t34
  have A1 := Lib.hid a1
  have A2 := Lib.hid a2
  have A3 := Lib.hid a3
  clear a1 a2 a3
  obtain ⟨x, hx⟩ : ∃ x, x = s.extract k (k + 1) := ⟨_, rfl⟩
  rw [← hx]
  have HX := Lib.hid hx
  clear hx
  go_enter Tryd.func51, Tryd.ntmps51
  go_wp2_with fail
  refine (A1.out _).mono ?_
  rintro e w0 ⟨rfl, hw0⟩
  obtain ⟨z0, z1, hbw, hsz⟩ := one_start w w0 (k : Int) hw0
  have Z0 := Lib.hid z0
  have Z1 := Lib.hid z1
  have HBW := Lib.hid hbw
  have HSZ := Lib.hid hsz
  clear z0 z1 hbw hsz hw0
  have x0 : w0.cell? ⟨w.heap.size, 0, none⟩ = some (.int .u8 0) := blk_cell Z0.out 0
  have xf0 : w0.frozen? ⟨w.heap.size, 0, none⟩ = false := blk_free Z0.out 0
  have x1 : w0.cell? ⟨w.heap.size, 1, none⟩ = some (.int .i64 0) := blk_cell Z0.out 1
  have xf1 : w0.frozen? ⟨w.heap.size, 1, none⟩ = false := blk_free Z0.out 1
  have x2 : w0.cell? ⟨w.heap.size, 2, none⟩ = some (.int .i64 0) := blk_cell Z0.out 2
  have xf2 : w0.frozen? ⟨w.heap.size, 2, none⟩ = false := blk_free Z0.out 2
  have x3 : w0.cell? ⟨w.heap.size, 3, none⟩ = some (.string ⟨#[]⟩) := blk_cell Z0.out 3
  have xf3 : w0.frozen? ⟨w.heap.size, 3, none⟩ = false := blk_free Z0.out 3
  have x4 : w0.cell? ⟨w.heap.size, 4, none⟩ = some (.int .i64 0) := blk_cell Z0.out 4
  have xf4 : w0.frozen? ⟨w.heap.size, 4, none⟩ = false := blk_free Z0.out 4
  have y0 : w0.cell? ⟨w.heap.size + 1, 0, none⟩ = some (.int .u8 0) := blk_cell Z1.out 0
  have yf0 : w0.frozen? ⟨w.heap.size + 1, 0, none⟩ = false := blk_free Z1.out 0
  have y1 : w0.cell? ⟨w.heap.size + 1, 1, none⟩ = some (.int .i64 (k : Int)) := blk_cell Z1.out 1
  have yf1 : w0.frozen? ⟨w.heap.size + 1, 1, none⟩ = false := blk_free Z1.out 1
  have y2 : w0.cell? ⟨w.heap.size + 1, 2, none⟩ = some (.int .i64 0) := blk_cell Z1.out 2
  have yf2 : w0.frozen? ⟨w.heap.size + 1, 2, none⟩ = false := blk_free Z1.out 2
  have y3 : w0.cell? ⟨w.heap.size + 1, 3, none⟩ = some (.string ⟨#[]⟩) := blk_cell Z1.out 3
  have yf3 : w0.frozen? ⟨w.heap.size + 1, 3, none⟩ = false := blk_free Z1.out 3
  have y4 : w0.cell? ⟨w.heap.size + 1, 4, none⟩ = some (.int .i64 0) := blk_cell Z1.out 4
  have yf4 : w0.frozen? ⟨w.heap.size + 1, 4, none⟩ = false := blk_free Z1.out 4
  go_wp2_with fail
  refine (A2.out _).mono ?_
  rintro e w' ⟨rfl, rfl⟩
  go_wp2_with fail
  refine (A3.out _).mono ?_
  rintro e w' ⟨rfl, rfl⟩
  go_wp2_with fail
  rw [← HX.out]
  have h6 := set5 ((Below.heap_setCell (w0.setCell ⟨w.heap.size + 1, 0, none⟩ (.int .u8 5)) ⟨w.heap.size + 1, 3, none⟩ (.string x) w.heap.size (by show w.heap.size ≠ w.heap.size + 1; omega)).trans ((Below.heap_setCell w0 ⟨w.heap.size + 1, 0, none⟩ (.int .u8 5) w.heap.size (by show w.heap.size ≠ w.heap.size + 1; omega)).trans Z0.out)) (.int .u8 5) (.int .i64 (k : Int)) (.int .i64 0) (.string x) (.int .i64 0)
  have e0 := blk_cell h6 0
  have e1 := blk_cell h6 1
  have e2 := blk_cell h6 2
  have e3 := blk_cell h6 3
  have e4 := blk_cell h6 4
  refine bodyPost_ret (v := .tuple #[.agg #[.int .u8 5, .int .i64 (k : Int), .int .i64 0, .string x, .int .i64 0], .int .i64 ((k : Int) + 1), .bool true]) (by simp [results, Tryd.results51, go_sem, e0, e1, e2, e3, e4]) rfl ⟨rfl, ?_⟩
  exact (((((((HBW.out.setCell (p := ⟨w.heap.size + 1, 0, none⟩) (by simp) (.int .u8 5)).setCell (p := ⟨w.heap.size + 1, 3, none⟩) (by simp) (.string x)).setCell (p := ⟨w.heap.size, 0, none⟩) (Nat.le_refl _) (.int .u8 5)).setCell (p := ⟨w.heap.size, 1, none⟩) (Nat.le_refl _) (.int .i64 (k : Int))).setCell (p := ⟨w.heap.size, 2, none⟩) (Nat.le_refl _) (.int .i64 0)).setCell (p := ⟨w.heap.size, 3, none⟩) (Nat.le_refl _) (.string x)).setCell (p := ⟨w.heap.size, 4, none⟩) (Nat.le_refl _) (.int .i64 0))

set_option maxRecDepth 100000 in
theorem one_wrong (s : ByteArray) (k : Nat) (w : World) (hS : s.size ≤ 140737488351232) (hk : k < s.size) (h1 : letterI (bAt s k) = false) (h2 : digitI (bAt s k) = false) (h45 : ¬ bAt s k = 45) (h35 : ¬ bAt s k = 35) (h34 : ¬ bAt s k = 34) (h6 : signI (bAt s k) = false) :
    Calls Tryd.prog 51 #[.string s, .int .i64 (k : Int)] w (OnePost (.error k) w) := by
  have g0 : (0 : Int) ≤ (k : Int) := by omega
  have g1 : (k : Int) < (s.size : Int) := by omega
  have hbe := bAt_eq s k hk
  have a1 := refLetter_any (bAt s k)
  have a2 := refDigit_any (bAt s k)
  have a3 := refSign_any (bAt s k)
  rw [h1] at a1
  have t45 : (bAt s k == 45) = false := by simpa using h45
  have t35 : (bAt s k == 35) = false := by simpa using h35
  have t34 : (bAt s k == 34) = false := by simpa using h34
  rw [h2] at a2
  rw [h6] at a3
  clear h2 h6 h45 h35 h34
  clear h1
  generalize bAt s k = c at hbe a1 a2 a3 t45 t35 t34
  have A1 := Lib.hid a1
  have A2 := Lib.hid a2
  have A3 := Lib.hid a3
  clear a1 a2 a3
  go_enter Tryd.func51, Tryd.ntmps51
  go_wp2_with fail
  refine (A1.out _).mono ?_
  rintro e w0 ⟨rfl, hw0⟩
  obtain ⟨z0, z1, hbw, hsz⟩ := one_start w w0 (k : Int) hw0
  have Z0 := Lib.hid z0
  have Z1 := Lib.hid z1
  have HBW := Lib.hid hbw
  have HSZ := Lib.hid hsz
  clear z0 z1 hbw hsz hw0
  have x0 : w0.cell? ⟨w.heap.size, 0, none⟩ = some (.int .u8 0) := blk_cell Z0.out 0
  have xf0 : w0.frozen? ⟨w.heap.size, 0, none⟩ = false := blk_free Z0.out 0
  have x1 : w0.cell? ⟨w.heap.size, 1, none⟩ = some (.int .i64 0) := blk_cell Z0.out 1
  have xf1 : w0.frozen? ⟨w.heap.size, 1, none⟩ = false := blk_free Z0.out 1
  have x2 : w0.cell? ⟨w.heap.size, 2, none⟩ = some (.int .i64 0) := blk_cell Z0.out 2
  have xf2 : w0.frozen? ⟨w.heap.size, 2, none⟩ = false := blk_free Z0.out 2
  have x3 : w0.cell? ⟨w.heap.size, 3, none⟩ = some (.string ⟨#[]⟩) := blk_cell Z0.out 3
  have xf3 : w0.frozen? ⟨w.heap.size, 3, none⟩ = false := blk_free Z0.out 3
  have x4 : w0.cell? ⟨w.heap.size, 4, none⟩ = some (.int .i64 0) := blk_cell Z0.out 4
  have xf4 : w0.frozen? ⟨w.heap.size, 4, none⟩ = false := blk_free Z0.out 4
  have y0 : w0.cell? ⟨w.heap.size + 1, 0, none⟩ = some (.int .u8 0) := blk_cell Z1.out 0
  have yf0 : w0.frozen? ⟨w.heap.size + 1, 0, none⟩ = false := blk_free Z1.out 0
  have y1 : w0.cell? ⟨w.heap.size + 1, 1, none⟩ = some (.int .i64 (k : Int)) := blk_cell Z1.out 1
  have yf1 : w0.frozen? ⟨w.heap.size + 1, 1, none⟩ = false := blk_free Z1.out 1
  have y2 : w0.cell? ⟨w.heap.size + 1, 2, none⟩ = some (.int .i64 0) := blk_cell Z1.out 2
  have yf2 : w0.frozen? ⟨w.heap.size + 1, 2, none⟩ = false := blk_free Z1.out 2
  have y3 : w0.cell? ⟨w.heap.size + 1, 3, none⟩ = some (.string ⟨#[]⟩) := blk_cell Z1.out 3
  have yf3 : w0.frozen? ⟨w.heap.size + 1, 3, none⟩ = false := blk_free Z1.out 3
  have y4 : w0.cell? ⟨w.heap.size + 1, 4, none⟩ = some (.int .i64 0) := blk_cell Z1.out 4
  have yf4 : w0.frozen? ⟨w.heap.size + 1, 4, none⟩ = false := blk_free Z1.out 4
  go_wp2_with fail
  refine (A2.out _).mono ?_
  rintro e w' ⟨rfl, rfl⟩
  go_wp2_with fail
  refine (A3.out _).mono ?_
  rintro e w' ⟨rfl, rfl⟩
  go_wp2_with fail
  have h6 := set5 Z0.out (.int .u8 0) (.int .i64 (k : Int)) (.int .i64 0) (.string ⟨#[]⟩) (.int .i64 0)
  have e0 := blk_cell h6 0
  have e1 := blk_cell h6 1
  have e2 := blk_cell h6 2
  have e3 := blk_cell h6 3
  have e4 := blk_cell h6 4
  refine bodyPost_ret (v := .tuple #[.agg #[.int .u8 0, .int .i64 (k : Int), .int .i64 0, .string ⟨#[]⟩, .int .i64 0], .int .i64 (k), .bool false]) (by simp [results, Tryd.results51, go_sem, e0, e1, e2, e3, e4]) rfl ⟨⟨_, _, _, _, _, rfl⟩, ?_⟩
  exact (((((HBW.out.setCell (p := ⟨w.heap.size, 0, none⟩) (Nat.le_refl _) (.int .u8 0)).setCell (p := ⟨w.heap.size, 1, none⟩) (Nat.le_refl _) (.int .i64 (k : Int))).setCell (p := ⟨w.heap.size, 2, none⟩) (Nat.le_refl _) (.int .i64 0)).setCell (p := ⟨w.heap.size, 3, none⟩) (Nat.le_refl _) (.string ⟨#[]⟩)).setCell (p := ⟨w.heap.size, 4, none⟩) (Nat.le_refl _) (.int .i64 0))

end Go.Proofs.YtmiipfdndgjndaaDoor
/- The contract of the reference's one, whole. -/
namespace Go.Proofs.YtmiipfdndgjndaaDoor
open Go.RowKit Go.Lib
set_option maxHeartbeats 1000000
/-- The token that begins at a place, of which no letter and no digit stands right behind (a sign's excepted). -/
def oneR (s : ByteArray) (k : Nat) : Except Nat (T × Nat) :=
  match tokF s k with
  | .error q => .error q
  | .ok (t, k') => if t.kind = 5 then .ok (t, k') else endChk s (.ok (t, k'))
theorem ext_bAt (s : ByteArray) (a b i : Nat) (hb : b ≤ s.size) (hi : a + i < b) : bAt (s.extract a b) i = bAt s (a + i) := by
  have hsz : (s.extract a b).size = b - a := by rw [← size_list, seg_length s a b (by omega) hb]
  have e1 := rest_at (show i < (s.extract a b).size by omega)
  have e2 := rest_at (show a + i < s.size by omega)
  rw [Lib.extract_data, List.drop_take, List.drop_drop, e2] at e1
  obtain ⟨m, hm⟩ : ∃ m, b - a - i = m + 1 := ⟨b - a - i - 1, by omega⟩
  rw [hm, List.take_succ_cons] at e1
  injection e1 with e1 _
  have a1 := bAt_range s (a + i)
  have a2 := bAt_range (s.extract a b) i
  have b1 := u8_toNat _ a1.1 a1.2
  have b2 := u8_toNat _ a2.1 a2.2
  rw [← e1] at b2
  omega
theorem while_pos (s : ByteArray) (l : Bool) (k : Nat) (hk : k < s.size) (h : (digitI (bAt s k) || (l && letterI (bAt s k))) = true) : whileF s l (s.size + 1) k = whileF s l (s.size + 1) (k + 1) :=
  whileF_unique s l (s.size + 1) (s.size + 1) k (k + 1) (by omega) (by omega) (by omega) (by omega) (fun i h1 h2 => by rw [show i = k by omega]; exact h)
theorem name_ext (s : ByteArray) (k : Nat) (hk : k < s.size) (hc : letterI (bAt s k) = true) : namedL (s.extract k (whileF s true (s.size + 1) k)) = decide (whileF s true (s.size + 1) k - k ≤ 32) := by
  have h0 := while_pos s true k hk (by rw [hc]; simp)
  obtain ⟨a1, a2⟩ := wstep_le s true (k + 1) (by omega)
  rw [← h0] at a1 a2
  obtain ⟨b1, b2, b3, b4⟩ := whileF_spec s true (s.size + 1) k (by omega) (by omega)
  generalize whileF s true (s.size + 1) k = e at a1 a2 b1 b2 b3 b4 ⊢
  have hsz : (s.extract k e).size = e - k := by rw [← size_list, seg_length s k e b1 b2]
  rw [Bool.eq_iff_iff, named_split, hsz, decide_eq_true_eq]
  constructor
  · rintro ⟨_, h, _⟩
    exact h
  · intro h
    refine ⟨by omega, h, by rw [ext_bAt s k e 0 b2 (by omega)]; exact hc, fun i hi => ?_⟩
    rw [ext_bAt s k e i b2 (by omega)]
    have := b3 (k + i) (by omega) (by omega)
    rw [Bool.true_and, Bool.or_comm] at this
    exact this
theorem num_ext_neg (s : ByteArray) (k : Nat) (hk : k < s.size) (h45 : bAt s k = 45) : numT (s.extract k (whileF s false (s.size + 1) (k + 1))) = decF s true (k + 1) (whileF s false (s.size + 1) (k + 1)) := by
  obtain ⟨a1, a2⟩ := wstep_le s false (k + 1) (by omega)
  have hd := seg_alldig s (k + 1) (by omega)
  generalize whileF s false (s.size + 1) (k + 1) = e at a1 a2 hd ⊢
  rw [numT_val _ true _ (extract_cons s k e hk a1 h45) hd, decF_val s true (k + 1) e _ rfl hd (seg_length s (k + 1) e a1 a2) a1]
theorem num_ext_pos (s : ByteArray) (k : Nat) (hk : k ≤ s.size) : numT (s.extract k (whileF s false (s.size + 1) k)) = decF s false k (whileF s false (s.size + 1) k) := by
  obtain ⟨a1, a2⟩ := wstep_le s false k hk
  have hd := seg_alldig s k hk
  generalize whileF s false (s.size + 1) k = e at a1 a2 hd ⊢
  rw [numT_val _ false _ (by simp) hd, decF_val s false k e _ rfl hd (seg_length s k e a1 a2) a1]
theorem one_any (s : ByteArray) (k : Nat) (w : World) (hS : s.size ≤ 140737488351232) (hk : k < s.size) : Calls Tryd.prog 51 #[.string s, .int .i64 (k : Int)] w (OnePost (oneR s k) w) := by
  unfold oneR tokF
  by_cases hc : letterI (bAt s k) = true
  · rw [if_pos hc]
    have h := one_name s k w hS hk hc (name_ext s k hk hc)
    obtain ⟨b1, b2, b3, b4⟩ := whileF_spec s true (s.size + 1) k (by omega) (by omega)
    unfold nameTok at h
    by_cases hle : whileF s true (s.size + 1) k - k ≤ 32
    · rw [if_pos hle] at h ⊢
      dsimp only
      rw [if_neg (by decide), endChk_of, if_neg]
      · exact h
      · rintro ⟨h1, h2⟩
        refine b4 ⟨h1, ?_⟩
        rw [Bool.true_and, Bool.or_comm]
        exact h2
    · rw [if_neg hle] at h ⊢
      exact h
  · rw [if_neg hc]
    have hl : letterI (bAt s k) = false := by simpa using hc
    by_cases hd : digitI (bAt s k) = true ∨ bAt s k = 45
    · rw [if_pos hd]
      have h := one_num s k w hS hk hd
      by_cases h45 : bAt s k = 45
      · rw [if_pos h45, show (bAt s k == 45) = true by simpa using h45]
        rw [num_ext_neg s k hk h45] at h
        cases hx : decF s true (k + 1) (whileF s false (s.size + 1) (k + 1)) with
        | none => rw [hx] at h; exact h
        | some n =>
          rw [hx] at h
          dsimp only
          rw [if_neg (by decide)]
          exact h
      · rw [if_neg h45, show (bAt s k == 45) = false by simpa using h45]
        have hdg : digitI (bAt s k) = true := hd.resolve_right h45
        have hw := while_pos s false k hk (by rw [hdg]; rfl)
        rw [← hw, num_ext_pos s k (by omega)] at h
        cases hx : decF s false k (whileF s false (s.size + 1) k) with
        | none => rw [hx] at h; exact h
        | some n =>
          rw [hx] at h
          dsimp only
          rw [if_neg (by decide)]
          exact h
    · rw [if_neg hd]
      have hdg : digitI (bAt s k) = false := by
        cases hx : digitI (bAt s k) with
        | false => rfl
        | true => exact absurd (.inl hx) hd
      have h45 : ¬ bAt s k = 45 := fun h => hd (.inr h)
      by_cases h35 : bAt s k = 35
      · rw [if_pos h35]
        have h := one_ref s k w hS hk h35
        rw [num_ext_pos s (k + 1) (by omega)] at h
        cases hx : decF s false (k + 1) (whileF s false (s.size + 1) (k + 1)) with
        | none => rw [hx] at h; exact h
        | some n =>
          rw [hx] at h
          dsimp only at h ⊢
          by_cases hn : n < 1
          · rw [if_pos hn] at h ⊢; exact h
          · rw [if_neg hn] at h ⊢
            dsimp only
            rw [if_neg (by decide)]
            exact h
      · rw [if_neg h35]
        by_cases h34 : bAt s k = 34
        · rw [if_pos h34]
          have h := one_text s k w hS hk h34
          rw [← quotedF_any, quotedF_shift s (fullL (-1)) k (by omega)]
          cases hx : quotedF (s.extract k s.size) (fullL (-1)) 0 with
          | error q => rw [hx] at h; exact h
          | ok r =>
            obtain ⟨b, j⟩ := r
            rw [hx] at h
            show Calls Tryd.prog 51 _ w (OnePost (if (3 : Int) = 5 then _ else endChk s (.ok (⟨3, k, 0, ⟨b.toArray⟩, 0⟩, k + j))) w)
            rw [if_neg (by decide)]
            exact h
        · rw [if_neg h34]
          by_cases hsg : signI (bAt s k) = true
          · rw [if_pos hsg]
            have h := one_sign s k w hS hk hl hdg h45 h35 h34 hsg
            dsimp only
            rw [if_pos rfl]
            exact h
          · rw [if_neg hsg]
            exact one_wrong s k w hS hk hl hdg h45 h35 h34 (by simpa using hsg)
end Go.Proofs.YtmiipfdndgjndaaDoor
