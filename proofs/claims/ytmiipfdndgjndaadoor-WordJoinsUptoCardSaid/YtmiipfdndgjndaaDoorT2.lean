/- The contract of the program's may of a token. -/
import Derived.Test.YtmiipfdndgjndaaDoorT1
namespace Go.Proofs.YtmiipfdndgjndaaDoor
open Go.RowKit Go.Lib
set_option maxHeartbeats 1000000
def mayRes (t : T) (w : World) (e : Ending) (w' : World) : Prop := e = .returned (.bool (mayT t)) ∧ Below w.heap.size w w'
theorem below_two {w : World} (o1 o2 : Obj) : Below w.heap.size w ((w.alloc o1).alloc o2) := ((Below.refl _ w).alloc (Nat.le_refl _) _).alloc (by simp) _
theorem below_three {w : World} (o1 o2 : Obj) (j : Nat) (v : Value) : Below w.heap.size w (((w.alloc o1).alloc o2).setCell ⟨w.heap.size + 1, j, none⟩ v) := (below_two o1 o2).setCell (p := ⟨w.heap.size + 1, j, none⟩) (by show w.heap.size ≤ w.heap.size + 1; omega) v
theorem empty_size (s : ByteArray) : (s.size == 0) = decide (s = ⟨#[]⟩) := by
  cases s with | mk d => cases d with | mk l => cases l with
    | nil => rfl
    | cons a b => simp [ByteArray.size]
theorem empty_of {s : ByteArray} (h : s.toList = []) : s = ⟨#[]⟩ := by
  rw [ByteArray.toList_eq] at h
  cases s with | mk d => cases d with | mk l => cases l with
    | nil => rfl
    | cons a b => simp at h
set_option maxRecDepth 100000 in
theorem wmay_two (p n : Int) (s : ByteArray) (r : Int) (w : World) : Calls Tryd.prog 56 #[tokV ⟨2, p, n, s, r⟩] w (mayRes ⟨2, p, n, s, r⟩ w) := by
  obtain ⟨nr, hnr⟩ : ∃ nr, nr = mayRes ⟨2, p, n, s, r⟩ w := ⟨_, rfl⟩
  rw [← hnr]
  have Hnr := Lib.hid hnr
  clear hnr
  unfold tokV
  dsimp only
  by_cases hr : ¬ r = 0
  · have hr2 : ¬ 0 = r := fun e => hr e.symm
    go_enter Tryd.func56, Tryd.ntmps56
    go_wp2
    rw [Hnr.out]
    exact ⟨by simp [mayT, empty_size, *], by first | exact below_three _ _ _ _ | exact below_two _ _⟩
  replace hr := Decidable.not_not.mp hr
  subst hr
  by_cases hs : ¬ s = ⟨#[]⟩
  · have hs2 : ¬ s.toList = [] := fun e => hs (empty_of e)
    go_enter Tryd.func56, Tryd.ntmps56
    go_wp2
    rw [Hnr.out]
    exact ⟨by simp [mayT, empty_size, *], by first | exact below_three _ _ _ _ | exact below_two _ _⟩
  replace hs := Decidable.not_not.mp hs
  subst hs
  go_enter Tryd.func56, Tryd.ntmps56
  go_wp2
  rw [Hnr.out]
  exact ⟨by simp [mayT, empty_size, *], by first | exact below_three _ _ _ _ | exact below_two _ _⟩
set_option maxRecDepth 100000 in
theorem wmay_three (p n : Int) (s : ByteArray) (r : Int) (w : World) : Calls Tryd.prog 56 #[tokV ⟨3, p, n, s, r⟩] w (mayRes ⟨3, p, n, s, r⟩ w) := by
  obtain ⟨nr, hnr⟩ : ∃ nr, nr = mayRes ⟨3, p, n, s, r⟩ w := ⟨_, rfl⟩
  rw [← hnr]
  have Hnr := Lib.hid hnr
  clear hnr
  unfold tokV
  dsimp only
  by_cases hn : ¬ n = 0
  · have hn2 : ¬ 0 = n := fun e => hn e.symm
    go_enter Tryd.func56, Tryd.ntmps56
    go_wp2
    rw [Hnr.out]
    exact ⟨by simp [mayT, *], by first | exact below_three _ _ _ _ | exact below_two _ _⟩
  replace hn := Decidable.not_not.mp hn
  subst hn
  by_cases hr : ¬ r = 0
  · have hr2 : ¬ 0 = r := fun e => hr e.symm
    go_enter Tryd.func56, Tryd.ntmps56
    go_wp2
    rw [Hnr.out]
    exact ⟨by simp [mayT, *], by first | exact below_three _ _ _ _ | exact below_two _ _⟩
  replace hr := Decidable.not_not.mp hr
  subst hr
  go_enter Tryd.func56, Tryd.ntmps56
  go_wp2
  rw [Hnr.out]
  exact ⟨by simp [mayT, *], by first | exact below_three _ _ _ _ | exact below_two _ _⟩
set_option maxRecDepth 100000 in
theorem wmay_four (p n : Int) (s : ByteArray) (r : Int) (w : World) : Calls Tryd.prog 56 #[tokV ⟨4, p, n, s, r⟩] w (mayRes ⟨4, p, n, s, r⟩ w) := by
  obtain ⟨nr, hnr⟩ : ∃ nr, nr = mayRes ⟨4, p, n, s, r⟩ w := ⟨_, rfl⟩
  rw [← hnr]
  have Hnr := Lib.hid hnr
  clear hnr
  unfold tokV
  dsimp only
  by_cases hn : ¬ n = 0
  · have hn2 : ¬ 0 = n := fun e => hn e.symm
    go_enter Tryd.func56, Tryd.ntmps56
    go_wp2
    rw [Hnr.out]
    exact ⟨by simp [mayT, empty_size, *], by first | exact below_three _ _ _ _ | exact below_two _ _⟩
  replace hn := Decidable.not_not.mp hn
  subst hn
  by_cases hs : ¬ s = ⟨#[]⟩
  · have hs2 : ¬ s.toList = [] := fun e => hs (empty_of e)
    go_enter Tryd.func56, Tryd.ntmps56
    go_wp2
    rw [Hnr.out]
    exact ⟨by simp [mayT, empty_size, *], by first | exact below_three _ _ _ _ | exact below_two _ _⟩
  replace hs := Decidable.not_not.mp hs
  subst hs
  cases hg : decide (1 ≤ r)
  · go_enter Tryd.func56, Tryd.ntmps56
    go_wp2
    rw [Hnr.out]
    exact ⟨by simp [mayT, empty_size, *], by first | exact below_three _ _ _ _ | exact below_two _ _⟩
  · go_enter Tryd.func56, Tryd.ntmps56
    go_wp2
    rw [Hnr.out]
    exact ⟨by simp [mayT, empty_size, *], by first | exact below_three _ _ _ _ | exact below_two _ _⟩
set_option maxRecDepth 100000 in
theorem wmay_one (p n : Int) (s : ByteArray) (r : Int) (w : World) (hs : s.size ≤ 140737488351232) : Calls Tryd.prog 56 #[tokV ⟨1, p, n, s, r⟩] w (mayRes ⟨1, p, n, s, r⟩ w) := by
  obtain ⟨nr, hnr⟩ : ∃ nr, nr = mayRes ⟨1, p, n, s, r⟩ w := ⟨_, rfl⟩
  rw [← hnr]
  have Hnr := Lib.hid hnr
  clear hnr
  unfold tokV
  dsimp only
  by_cases hn : ¬ n = 0
  · have hn2 : ¬ 0 = n := fun e => hn e.symm
    go_enter Tryd.func56, Tryd.ntmps56
    go_wp2
    rw [Hnr.out]
    exact ⟨by simp [mayT, *], by first | exact below_three _ _ _ _ | exact below_two _ _⟩
  replace hn := Decidable.not_not.mp hn
  subst hn
  by_cases hr : ¬ r = 0
  · have hr2 : ¬ 0 = r := fun e => hr e.symm
    go_enter Tryd.func56, Tryd.ntmps56
    go_wp2
    rw [Hnr.out]
    exact ⟨by simp [mayT, *], by first | exact below_three _ _ _ _ | exact below_two _ _⟩
  replace hr := Decidable.not_not.mp hr
  subst hr
  have hc := fun W => named_any s W hs
  have HC := Lib.hid hc
  clear hc
  go_enter Tryd.func56, Tryd.ntmps56
  go_wp2_with ((go_at_call 83; refine (HC.out _).mono ?_; rintro e w2 ⟨rfl, rfl⟩; dsimp only))
  rw [Hnr.out]
  exact ⟨by simp [mayT, *], by first | exact below_three _ _ _ _ | exact below_two _ _⟩
set_option maxRecDepth 100000 in
theorem wmay_five (p n : Int) (s : ByteArray) (r : Int) (w : World) : Calls Tryd.prog 56 #[tokV ⟨5, p, n, s, r⟩] w (mayRes ⟨5, p, n, s, r⟩ w) := by
  obtain ⟨nr, hnr⟩ : ∃ nr, nr = mayRes ⟨5, p, n, s, r⟩ w := ⟨_, rfl⟩
  rw [← hnr]
  have Hnr := Lib.hid hnr
  clear hnr
  unfold tokV
  dsimp only
  by_cases hn : ¬ n = 0
  · have hn2 : ¬ 0 = n := fun e => hn e.symm
    go_enter Tryd.func56, Tryd.ntmps56
    go_wp2
    rw [Hnr.out]
    exact ⟨by simp [mayT, *], by first | exact below_three _ _ _ _ | exact below_two _ _⟩
  replace hn := Decidable.not_not.mp hn
  subst hn
  by_cases hr : ¬ r = 0
  · have hr2 : ¬ 0 = r := fun e => hr e.symm
    go_enter Tryd.func56, Tryd.ntmps56
    go_wp2
    rw [Hnr.out]
    exact ⟨by simp [mayT, *], by first | exact below_three _ _ _ _ | exact below_two _ _⟩
  replace hr := Decidable.not_not.mp hr
  subst hr
  by_cases hz : ¬ s.size = 1
  · have t1 : ((s.size : Int) == 1) = false := by simp; omega
    go_enter Tryd.func56, Tryd.ntmps56
    go_wp2
    rw [Hnr.out]
    exact ⟨by simp [mayT, *], by first | exact below_three _ _ _ _ | exact below_two _ _⟩
  replace hz := Decidable.not_not.mp hz
  have t1 : ((s.size : Int) == 1) = true := by simp; omega
  have g1 : (0 : Int) < (s.size : Int) := by omega
  have hbe := bAt_eq s 0 (by omega)
  have hc := fun W => sign_any (bAt s 0) W
  have HC := Lib.hid hc
  clear hc
  go_enter Tryd.func56, Tryd.ntmps56
  go_wp2_with ((go_at_call 49; refine (HC.out _).mono ?_; rintro e w2 ⟨rfl, rfl⟩; dsimp only))
  rw [Hnr.out]
  exact ⟨by simp [mayT, *], by first | exact below_three _ _ _ _ | exact below_two _ _⟩
set_option maxRecDepth 100000 in
theorem wmay_rest (k p n : Int) (s : ByteArray) (r : Int) (w : World) (h1 : k ≠ 1) (h2 : k ≠ 2) (h3 : k ≠ 3) (h4 : k ≠ 4) (h5 : k ≠ 5) : Calls Tryd.prog 56 #[tokV ⟨k, p, n, s, r⟩] w (mayRes ⟨k, p, n, s, r⟩ w) := by
  obtain ⟨nr, hnr⟩ : ∃ nr, nr = mayRes ⟨k, p, n, s, r⟩ w := ⟨_, rfl⟩
  rw [← hnr]
  have Hnr := Lib.hid hnr
  clear hnr
  unfold tokV
  dsimp only
  have b1 : (k == 1) = false := by simpa using h1
  have b2 : (k == 2) = false := by simpa using h2
  have b3 : (k == 3) = false := by simpa using h3
  have b4 : (k == 4) = false := by simpa using h4
  have b5 : (k == 5) = false := by simpa using h5
  go_enter Tryd.func56, Tryd.ntmps56
  go_wp2
  rw [Hnr.out]
  exact ⟨by simp [mayT, *], by first | exact below_three _ _ _ _ | exact below_two _ _⟩
theorem wmay_any (t : T) (w : World) (hs : t.s.size ≤ 140737488351232) : Calls Tryd.prog 56 #[tokV t] w (mayRes t w) := by
  obtain ⟨k, p, n, s, r⟩ := t
  by_cases h1 : k = 1
  · subst h1; exact wmay_one p n s r w hs
  by_cases h2 : k = 2
  · subst h2; exact wmay_two p n s r w
  by_cases h3 : k = 3
  · subst h3; exact wmay_three p n s r w
  by_cases h4 : k = 4
  · subst h4; exact wmay_four p n s r w
  by_cases h5 : k = 5
  · subst h5; exact wmay_five p n s r w
  exact wmay_rest k p n s r w h1 h2 h3 h4 h5
end Go.Proofs.YtmiipfdndgjndaaDoor
