/- Numbers: their digits and the reading of them. -/
import Derived.Test.YtmiipfdndgjndaaDoorX1
namespace Go.Proofs.YtmiipfdndgjndaaDoor
theorem dig_digit (d : Nat) (h : d < 10) : ((UInt8.ofNat (48 + d)).toNat : Int) = 48 + d := by
  rw [UInt8.toNat_ofNat']
  omega
theorem digitI_iff (c : Int) : digitI c = true ↔ 48 ≤ c ∧ c ≤ 57 := by simp [digitI]
/-- The digits of a number are read as it. -/
theorem numLoop_digits (s : ByteArray) (most : Nat) : ∀ (u f k : Nat) (r : List UInt8), u ≤ most → s.data.toList.drop k = Lib.decDigits u ++ r → (Lib.decDigits u).length ≤ f →
    numLoop s most f false 0 k = numLoop s most (f - (Lib.decDigits u).length) true u (k + (Lib.decDigits u).length) := by
  intro u
  induction u using Nat.strongRecOn with
  | _ u ih =>
    intro f k r hm h hf
    by_cases hu : u < 10
    · rw [Lib.decDigits, dif_pos hu] at h hf ⊢
      obtain ⟨a1, a2, a3⟩ := rest_cons h
      rw [dig_digit u hu] at a2
      obtain ⟨f, rfl⟩ : ∃ m, f = m + 1 := ⟨f - 1, by simp at hf; omega⟩
      rw [numLoop, if_pos ⟨a1, by rw [digitI_iff]; omega⟩, a2, if_neg (by simp)]
      simp only [List.length_cons, List.length_nil]
      rw [show 0 * 10 + ((48 + (u : Int)) - 48).toNat = u by omega]
      rfl
    · rw [Lib.decDigits, dif_neg hu] at h hf ⊢
      rw [List.append_assoc] at h
      rw [List.length_append] at hf ⊢
      simp only [List.length_cons, List.length_nil] at hf ⊢
      rw [ih (u / 10) (by omega) f k _ (by omega) h (by omega)]
      have h2 := rest_append h
      obtain ⟨a1, a2, a3⟩ := rest_cons h2
      rw [dig_digit (u % 10) (by omega)] at a2
      obtain ⟨g, hg⟩ : ∃ g, f - (Lib.decDigits (u / 10)).length = g + 1 := ⟨f - (Lib.decDigits (u / 10)).length - 1, by omega⟩
      rw [hg, numLoop, if_pos ⟨a1, by rw [digitI_iff]; omega⟩, a2, show ((48 + ((u % 10 : Nat) : Int)) - 48).toNat = u % 10 by omega, if_neg (by omega)]
      rw [show u / 10 * 10 + u % 10 = u by omega, show f - ((Lib.decDigits (u / 10)).length + (0 + 1)) = g by omega]
      rfl
theorem numLoop_stop (s : ByteArray) (most f : Nat) (b : Bool) (n k : Nat) (h : ¬ (k < s.size ∧ digitI (bAt s k) = true)) : numLoop s most f b n k = .ok (n, k) := by
  cases f with
  | zero => rfl
  | succ f => rw [numLoop, if_neg h]
theorem u8_dig (c : Int) (h : 48 ≤ c ∧ c ≤ 57) : u8 c = UInt8.ofNat (48 + (c - 48).toNat) := by
  unfold u8
  congr 1
  omega
theorem decDigits_step (n d : Nat) (hn : 0 < n) (hd : d < 10) : Lib.decDigits (n * 10 + d) = Lib.decDigits n ++ [UInt8.ofNat (48 + d)] := by
  rw [Lib.decDigits, dif_neg (by omega), show (n * 10 + d) / 10 = n by omega, show (n * 10 + d) % 10 = d by omega]
/-- What is read as digits is what would be written. -/
theorem numLoop_inv (s : ByteArray) (most : Nat) : ∀ (f n k m k' : Nat), s.size < k + f → n ≤ most → numLoop s most f true n k = .ok (m, k') →
    m ≤ most ∧ k ≤ k' ∧ Lib.decDigits n ++ s.data.toList.drop k = Lib.decDigits m ++ s.data.toList.drop k' ∧ ¬ (k' < s.size ∧ digitI (bAt s k') = true) := by
  intro f
  induction f with
  | zero =>
    intro n k m k' hf hn h
    rw [numLoop] at h
    injection h with h; injection h with h1 h2
    subst h1; subst h2
    exact ⟨hn, Nat.le_refl _, rfl, by omega⟩
  | succ f ih =>
    intro n k m k' hf hn h
    rw [numLoop] at h
    split at h
    · rename_i hk
      obtain ⟨hk, hd⟩ := hk
      rw [digitI_iff] at hd
      split at h
      · cases h
      · rename_i hb
        have h0 : 0 < n := by
          rcases Nat.eq_zero_or_pos n with h0 | h0
          · exact absurd (.inl ⟨rfl, h0⟩) hb
          · exact h0
        have hq : n ≤ (most - (bAt s k - 48).toNat) / 10 := by
          rcases Nat.lt_or_ge ((most - (bAt s k - 48).toNat) / 10) n with h1 | h1
          · exact absurd (.inr h1) hb
          · exact h1
        obtain ⟨e1, e2, e3, e4⟩ := ih _ _ _ _ (by omega) (by omega) h
        refine ⟨e1, by omega, ?_, e4⟩
        rw [← e3, decDigits_step n _ h0 (by omega), rest_at hk, u8_dig _ hd]
        simp
    · rename_i hk
      injection h with h; injection h with h1 h2
      subst h1; subst h2
      exact ⟨hn, Nat.le_refl _, rfl, hk⟩
theorem numLoop_inv0 (s : ByteArray) (most k m k' : Nat) (hm : 9 ≤ most) (h : numLoop s most (s.size + 1) false 0 k = .ok (m, k')) (hk : k < s.size) (hd : digitI (bAt s k) = true) :
    m ≤ most ∧ k < k' ∧ s.data.toList.drop k = Lib.decDigits m ++ s.data.toList.drop k' ∧ ¬ (k' < s.size ∧ digitI (bAt s k') = true) := by
  rw [numLoop, if_pos ⟨hk, hd⟩, if_neg (by simp)] at h
  rw [digitI_iff] at hd
  obtain ⟨e1, e2, e3, e4⟩ := numLoop_inv s most _ _ _ _ _ (by omega) (by omega) h
  refine ⟨e1, by omega, ?_, e4⟩
  rw [← e3, show 0 * 10 + (bAt s k - 48).toNat = (bAt s k - 48).toNat by omega, Lib.decDigits, dif_pos (by omega), rest_at hk, u8_dig _ hd]
  rfl
/-- The first digit is a nought for 0 alone. -/
theorem decDigits_head (u : Nat) : ∃ d r, Lib.decDigits u = UInt8.ofNat (48 + d) :: r ∧ d < 10 ∧ (d = 0 ↔ u = 0) := by
  induction u using Nat.strongRecOn with
  | _ u ih =>
    by_cases hu : u < 10
    · exact ⟨u, [], by rw [Lib.decDigits, dif_pos hu], hu, Iff.rfl⟩
    · obtain ⟨d, r, e, hd, h0⟩ := ih (u / 10) (by omega)
      exact ⟨d, r ++ [UInt8.ofNat (48 + u % 10)], by rw [Lib.decDigits, dif_neg hu, e]; rfl, hd, by rw [h0]; omega⟩
/-- No digit comes. -/
def NoDigit (s : ByteArray) (k : Nat) : Prop := ¬ (k < s.size ∧ digitI (bAt s k) = true)
theorem numF_write (s : ByteArray) (most u k : Nat) (r : List UInt8) (hu : u ≤ most) (h : s.data.toList.drop k = Lib.decDigits u ++ r) (hn : NoDigit s (k + (Lib.decDigits u).length)) :
    numLoop s most (s.size + 1) false 0 k = .ok (u, k + (Lib.decDigits u).length) ∧ k < s.size ∧ digitI (bAt s k) = true ∧ (0 < u → 49 ≤ bAt s k) := by
  have hl : (Lib.decDigits u).length ≤ s.size + 1 := by
    have h1 : (s.data.toList.drop k).length = s.size - k := by rw [List.length_drop, size_list]
    rw [h] at h1
    simp at h1
    omega
  obtain ⟨d, r', e, hd, h0⟩ := decDigits_head u
  rw [numLoop_digits s most u (s.size + 1) k r hu h hl, numLoop_stop _ _ _ _ _ _ hn]
  rw [e] at h
  obtain ⟨a1, a2, _⟩ := rest_cons h
  rw [dig_digit d hd] at a2
  exact ⟨rfl, a1, by rw [digitI_iff]; omega, fun hp => by omega⟩
theorem behindF_write (s : ByteArray) (most u k : Nat) (r : List UInt8) (hu : u ≤ most) (hp : 0 < u) (h : s.data.toList.drop k = Lib.decDigits u ++ r) (hn : NoDigit s (k + (Lib.decDigits u).length)) :
    behindF s most k = .ok (u, k + (Lib.decDigits u).length) := by
  obtain ⟨e1, e2, e3, e4⟩ := numF_write s most u k r hu h hn
  rw [digitI_iff] at e3
  rw [behindF, if_pos e2, if_pos ⟨e4 hp, e3.2⟩, e1]
theorem behindF_inv (s : ByteArray) (most k m k' : Nat) (hm : 9 ≤ most) (h : behindF s most k = .ok (m, k')) :
    m ≤ most ∧ 0 < m ∧ k < k' ∧ k < s.size ∧ s.data.toList.drop k = Lib.decDigits m ++ s.data.toList.drop k' ∧ NoDigit s k' := by
  unfold behindF at h
  split at h
  · rename_i hk
    split at h
    · rename_i hd
      obtain ⟨e1, e2, e3, e4⟩ := numLoop_inv0 s most k m k' hm h hk (by rw [digitI_iff]; omega)
      refine ⟨e1, ?_, e2, hk, e3, e4⟩
      obtain ⟨d, r, e, hd', h0⟩ := decDigits_head m
      rcases Nat.eq_zero_or_pos m with hz | hz
      · exfalso
        have hd0 := h0.2 hz
        rw [e, hd0] at e3
        obtain ⟨_, a2, _⟩ := rest_cons e3
        have : bAt s k = 48 := a2
        omega
      · exact hz
    · cases h
  · cases h
end Go.Proofs.YtmiipfdndgjndaaDoor
