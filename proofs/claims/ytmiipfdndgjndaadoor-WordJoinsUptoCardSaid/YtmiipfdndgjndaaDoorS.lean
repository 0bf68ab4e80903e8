/- The contract of the program's token, whole. -/
import Derived.Test.YtmiipfdndgjndaaDoorR3
import Derived.Test.YtmiipfdndgjndaaDoorO
namespace Go.Proofs.YtmiipfdndgjndaaDoor
open Go.RowKit Go.Lib
set_option maxHeartbeats 1000000
theorem tok_any (B : Nat) (s : ByteArray) (k : Nat) (p : Int) (w : World) (hS : s.size ≤ 140737488351232) (h : Rd w B s k p) (hk : k < s.size) (hB2 : B ≠ 2) (hE : ErrVar w) :
    Calls Tryd.prog 50 #[.pointer (some ⟨B, 0, none⟩), .int .u8 (bAt s k)] w (TokPost B s p (tokF s k) w) := by
  unfold tokF
  by_cases h1 : letterI (bAt s k) = true
  · rw [if_pos h1]
    exact tok_name B s k p w hS h hk h1
  rw [if_neg h1]
  have h1' : letterI (bAt s k) = false := by simpa using h1
  by_cases h45 : bAt s k = 45
  · rw [if_pos (.inr h45), if_pos h45, h45]
    have := tok_neg B s k p w hS h hk h45 hB2 hE _ _ (fun W hW hEW => digits_neg B s k p W hS hW hk h45 hB2 hEW)
    rw [h45] at this
    rw [show ((45 : Int) == 45) = true from rfl]
    cases hd : decF s true (k + 1) (whileF s false (s.size + 1) (k + 1)) with
    | none => rw [hd] at this; exact this
    | some n => rw [hd] at this; exact this
  by_cases h2 : digitI (bAt s k) = true
  · rw [if_pos (.inl h2), if_neg h45]
    have := tok_pos B s k p w hS h hk h2 hB2 hE _ _ (fun W hW hEW => digits_pos B s k p W hS hW (by omega) hB2 hEW)
    rw [show (bAt s k == 45) = false by simpa using h45]
    cases hd : decF s false k (whileF s false (s.size + 1) k) with
    | none => rw [hd] at this; exact this
    | some n => rw [hd] at this; exact this
  have h2' : digitI (bAt s k) = false := by simpa using h2
  rw [if_neg (by rintro (h | h); exact h2 h; exact h45 h)]
  by_cases h35 : bAt s k = 35
  · rw [if_pos h35]
    have := tok_ref B s k p w hS h hk h35 hB2 hE _ _ (fun W hW hEW => digits_pos B s (k + 1) p W hS hW (by omega) hB2 hEW)
    cases hd : decF s false (k + 1) (whileF s false (s.size + 1) (k + 1)) with
    | none => rw [hd] at this; exact this
    | some n => rw [hd] at this; exact this
  rw [if_neg h35]
  by_cases h34 : bAt s k = 34
  · rw [if_pos h34]
    exact tok_text B s k p w hS h hk h34
  rw [if_neg h34]
  by_cases h6 : signI (bAt s k) = true
  · rw [if_pos h6]
    exact tok_sign B s k p w hS h hk h1' h2' h45 h35 h34 h6
  · rw [if_neg h6]
    exact tok_wrong B s k p w hS h hk h1' h2' h45 h35 h34 (by simpa using h6)
theorem tokF_lt (s : ByteArray) (k : Nat) (hk : k < s.size) (t : T) (k' : Nat) (h : tokF s k = .ok (t, k')) : k < k' ∧ k' ≤ s.size ∧ t.place = (k : Int) := by
  unfold tokF at h
  split at h
  · rename_i h1
    have hw := whileF_spec s true (s.size + 1) k (by omega) (by omega)
    split at h
    · injection h with h; injection h with h2 h3
      subst h2
      have : whileF s true (s.size + 1) k ≠ k := fun e => by
        rw [e] at hw
        exact hw.2.2.2 ⟨hk, by simp [h1]⟩
      exact ⟨by omega, by omega, rfl⟩
    · cases h
  · split at h
    · rename_i h1 h2
      split at h
      · cases h
      · injection h with h; injection h with h3 h4
        subst h3
        by_cases h45 : bAt s k = 45
        · rw [if_pos h45] at h4
          have hw := whileF_spec s false (s.size + 1) (k + 1) (by omega) (by omega)
          exact ⟨by omega, by omega, rfl⟩
        · rw [if_neg h45] at h4
          have hw := whileF_spec s false (s.size + 1) k (by omega) (by omega)
          have hdg : digitI (bAt s k) = true := by rcases h2 with h2 | h2; exact h2; exact absurd h2 h45
          have : whileF s false (s.size + 1) k ≠ k := fun e => by
            rw [e] at hw
            exact hw.2.2.2 ⟨hk, by simp [hdg]⟩
          exact ⟨by omega, by omega, rfl⟩
    · split at h
      · have hw := whileF_spec s false (s.size + 1) (k + 1) (by omega) (by omega)
        split at h
        · cases h
        · split at h
          · cases h
          · injection h with h; injection h with h3 h4
            subst h3
            exact ⟨by omega, by omega, rfl⟩
      · split at h
        · split at h
          · cases h
          · rename_i b k2 hq
            injection h with h; injection h with h3 h4
            subst h3
            have := quotedF_le s _ k b k2 hq
            exact ⟨by omega, by omega, rfl⟩
        · split at h
          · injection h with h; injection h with h3 h4
            subst h3
            exact ⟨by omega, by omega, rfl⟩
          · cases h
end Go.Proofs.YtmiipfdndgjndaaDoor
