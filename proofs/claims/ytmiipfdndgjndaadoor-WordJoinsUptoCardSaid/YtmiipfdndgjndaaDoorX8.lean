/- Digits read here and digits parsed by the library. -/
import Derived.Test.YtmiipfdndgjndaaDoorX2
import Derived.Lib.Strings
namespace Go.Proofs.YtmiipfdndgjndaaDoor
def valL (n : Nat) (l : List UInt8) : Nat := l.foldl (fun a c => a * 10 + (c.toNat - 48)) n
theorem valL_ge (n : Nat) (l : List UInt8) : n ≤ valL n l := by
  induction l generalizing n with
  | nil => exact Nat.le_refl _
  | cons c l ih =>
    have := ih (n * 10 + (c.toNat - 48))
    show n ≤ valL (n * 10 + (c.toNat - 48)) l
    omega
def AllDig (l : List UInt8) : Prop := ∀ c ∈ l, 48 ≤ c.toNat ∧ c.toNat ≤ 57
theorem parseUintM_val (n : Nat) (l : List UInt8) (h : AllDig l) (hn : n ≤ 18446744073709551615) : Lib.parseUintM 18446744073709551615 n l = if valL n l ≤ 18446744073709551615 then .ok (valL n l) else .range := by
  induction l generalizing n with
  | nil => rw [Lib.parseUintM, show valL n [] = n from rfl, if_pos hn]
  | cons c l ih =>
    have hc := h c (by simp)
    have hv : valL n (c :: l) = valL (n * 10 + (c.toNat - 48)) l := rfl
    have hge := valL_ge (n * 10 + (c.toNat - 48)) l
    rw [Lib.parseUintM, if_pos hc, hv]
    by_cases h1 : 1844674407370955162 ≤ n
    · rw [if_pos h1, if_neg (by omega)]
    · rw [if_neg h1]
      by_cases h2 : 18446744073709551615 < n * 10 + (c.toNat - 48)
      · rw [if_pos h2, if_neg (by omega)]
      · rw [if_neg h2]
        exact ih _ (fun x hx => h x (by simp [hx])) (by omega)
theorem digit_nat {c : UInt8} (h : 48 ≤ c.toNat ∧ c.toNat ≤ 57) : digitI (c.toNat : Int) = true := by rw [digitI_iff]; omega
theorem numLoop_val (t : ByteArray) (most : Nat) : ∀ (l : List UInt8) (f n k : Nat), t.data.toList.drop k = l → AllDig l → 0 < n → n ≤ most → l.length < f →
    (valL n l ≤ most ∧ ∃ k', numLoop t most f true n k = .ok (valL n l, k')) ∨ (¬ valL n l ≤ most ∧ ∃ q, numLoop t most f true n k = .error q) := by
  intro l
  induction l with
  | nil =>
    intro f n k h _ h0 hn hf
    left
    have hk := rest_nil h
    exact ⟨hn, k, numLoop_stop _ _ _ _ _ _ (fun hh => hk hh.1)⟩
  | cons c l ih =>
    intro f n k h hd h0 hn hf
    obtain ⟨f, rfl⟩ : ∃ m, f = m + 1 := ⟨f - 1, by simp at hf; omega⟩
    have hc := hd c (by simp)
    obtain ⟨a1, a2, a3⟩ := rest_cons h
    have hv : valL n (c :: l) = valL (n * 10 + (c.toNat - 48)) l := rfl
    have hge := valL_ge (n * 10 + (c.toNat - 48)) l
    rw [numLoop, a2, if_pos ⟨a1, digit_nat hc⟩, hv, show ((c.toNat : Int) - 48).toNat = c.toNat - 48 by omega]
    by_cases h2 : most < n * 10 + (c.toNat - 48)
    · right
      refine ⟨by omega, k, ?_⟩
      rw [if_pos (.inr (by omega))]
    · rw [if_neg (by omega)]
      exact ih f _ _ a3 (fun x hx => hd x (by simp [hx])) (by omega) (by omega) (by simp at hf; omega)
/-- digits in no form. -/
def noForm (neg : Bool) (l : List UInt8) : Prop := l = [] ∨ ∃ r, l = 48 :: r ∧ (r ≠ [] ∨ neg = true)
theorem parseIntB_digits (neg : Bool) (l : List UInt8) (hne : l ≠ []) (hd : AllDig l) :
    Lib.parseIntB 64 ((if neg then [45] else []) ++ l) = if valL 0 l ≤ (if neg then mostN else mostP) then .ok (if neg then -(valL 0 l : Int) else (valL 0 l : Int)) else .range := by
  have hu : Lib.parseUintB 64 l = if valL 0 l ≤ 18446744073709551615 then .ok (valL 0 l) else .range := by
    rw [Lib.parseUintB, if_neg hne]
    exact parseUintM_val 0 l hd (by omega)
  cases neg with
  | true =>
    show (match Lib.parseUintB 64 (if (45 : UInt8).toNat = 43 ∨ (45 : UInt8).toNat = 45 then l else 45 :: l) with | Lib.NumEnd.syntax => Lib.NumEnd.syntax | .range => .range | .ok u => if ¬ (45 : UInt8).toNat = 45 ∧ 2 ^ (64 - 1) ≤ u then .range else if (45 : UInt8).toNat = 45 ∧ 2 ^ (64 - 1) < u then .range else .ok (if (45 : UInt8).toNat = 45 then -(u : Int) else u)) = _
    rw [if_pos (by decide), hu]
    simp only [if_true]
    by_cases h1 : valL 0 l ≤ mostN
    · have : mostN ≤ 9223372036854775808 := Nat.le_refl _
      rw [if_pos (by omega), if_pos h1]
      dsimp only
      rw [if_neg (fun h => h.1 (by decide)), if_neg (by omega), if_pos (by decide)]
    · have : 9223372036854775808 ≤ mostN := Nat.le_refl _
      rw [if_neg h1]
      by_cases h2 : valL 0 l ≤ 18446744073709551615
      · rw [if_pos h2]
        dsimp only
        rw [if_neg (fun h => h.1 (by decide)), if_pos ⟨by decide, by omega⟩]
      · rw [if_neg h2]
  | false =>
    obtain ⟨c, r, rfl⟩ : ∃ c r, l = c :: r := by
      cases l with
      | nil => exact absurd rfl hne
      | cons c r => exact ⟨c, r, rfl⟩
    have hc := hd c (by simp)
    show (match Lib.parseUintB 64 (if c.toNat = 43 ∨ c.toNat = 45 then r else c :: r) with | Lib.NumEnd.syntax => Lib.NumEnd.syntax | .range => .range | .ok u => if ¬ c.toNat = 45 ∧ 2 ^ (64 - 1) ≤ u then .range else if c.toNat = 45 ∧ 2 ^ (64 - 1) < u then .range else .ok (if c.toNat = 45 then -(u : Int) else u)) = _
    rw [if_neg (by omega), hu]
    simp only [if_false, Bool.false_eq_true]
    by_cases h1 : valL 0 (c :: r) ≤ mostP
    · have : mostP ≤ 9223372036854775807 := Nat.le_refl _
      rw [if_pos (by omega), if_pos h1]
      dsimp only
      rw [if_neg (by omega), if_neg (by omega), if_neg (by omega)]
    · have : 9223372036854775807 ≤ mostP := Nat.le_refl _
      rw [if_neg h1]
      by_cases h2 : valL 0 (c :: r) ≤ 18446744073709551615
      · rw [if_pos h2]
        dsimp only
        rw [if_pos ⟨by omega, by omega⟩]
      · rw [if_neg h2]
theorem dec_spec (s : ByteArray) (neg : Bool) (a b : Nat) (l : List UInt8) (hl : (s.extract a b).data.toList = l) (hd : AllDig l) (hlen : l.length = b - a) (hab : a ≤ b) :
    (noForm neg l → decF s neg a b = none) ∧ (¬ noForm neg l → Lib.parseIntB 64 ((if neg then [45] else []) ++ l) = (match decF s neg a b with | some n => .ok n | none => .range)) := by
  have hmost : 9 ≤ (if neg then mostN else mostP) := by cases neg <;> decide
  have h0 : (s.extract a b).data.toList.drop 0 = l := by rw [List.drop_zero, hl]
  cases l with
  | nil =>
    have hab' : a = b := by simp at hlen; omega
    refine ⟨fun _ => ?_, fun h => absurd (.inl rfl) h⟩
    unfold decF
    rw [numLoop_stop _ _ _ _ _ _ (fun hh => rest_nil h0 hh.1)]
    dsimp only
    rw [if_pos (.inl hab')]
  | cons c r =>
    have hne : ¬ a = b := by simp at hlen; omega
    have hc := hd c (by simp)
    obtain ⟨a1, a2, a3⟩ := rest_cons h0
    have hstep : numLoop (s.extract a b) (if neg then mostN else mostP) (b - a + 1) false 0 0 = numLoop (s.extract a b) (if neg then mostN else mostP) (b - a) true (c.toNat - 48) 1 := by
      rw [numLoop, a2, if_pos ⟨a1, digit_nat hc⟩, if_neg (by simp), show 0 * 10 + ((c.toNat : Int) - 48).toNat = c.toNat - 48 by omega]
    by_cases h48 : c = 48
    · subst h48
      cases r with
      | nil =>
        have hnl : numLoop (s.extract a b) (if neg then mostN else mostP) (b - a + 1) false 0 0 = .ok (0, 1) := by
          rw [hstep]
          exact numLoop_stop _ _ _ _ _ _ (fun hh => rest_nil a3 hh.1)
        cases neg with
        | true =>
          refine ⟨fun _ => ?_, fun h => absurd (.inr ⟨[], rfl, .inr rfl⟩) h⟩
          unfold decF
          rw [hnl]
          dsimp only
          rw [if_pos (.inr ⟨rfl, rfl⟩)]
        | false =>
          refine ⟨fun h => ?_, fun _ => ?_⟩
          · rcases h with h | ⟨r, h, h'⟩
            · cases h
            · injection h with _ h
              rcases h' with h' | h'
              · exact absurd h.symm h'
              · cases h'
          · rw [parseIntB_digits false [48] (by simp) hd]
            unfold decF
            rw [hnl]
            dsimp only
            rw [show valL 0 [48] = 0 from rfl, if_pos (Nat.zero_le _), if_neg (show ¬ (a = b ∨ (false = true ∧ 0 = 0)) by simp; exact hne)]
      | cons c2 r =>
        refine ⟨fun _ => ?_, fun h => absurd (.inr ⟨_, rfl, .inl (by simp)⟩) h⟩
        have hc2 := hd c2 (by simp)
        obtain ⟨b1, b2, b3⟩ := rest_cons a3
        unfold decF
        rw [hstep]
        obtain ⟨f, hf⟩ : ∃ f, b - a = f + 1 := ⟨b - a - 1, by omega⟩
        rw [hf, numLoop, b2, if_pos ⟨b1, digit_nat hc2⟩, if_pos (.inl ⟨rfl, by decide⟩)]
    · have hv : valL 0 (c :: r) = valL (c.toNat - 48) r := by
        show valL (0 * 10 + (c.toNat - 48)) r = _
        rw [show 0 * 10 + (c.toNat - 48) = c.toNat - 48 by omega]
      have hpos : 0 < c.toNat - 48 := by
        rcases Nat.lt_or_ge 48 c.toNat with h | h
        · omega
        · exact absurd (UInt8.toNat_inj.1 (show c.toNat = (48 : UInt8).toNat by have : (48 : UInt8).toNat = 48 := rfl; omega)) h48
      have hge := valL_ge (c.toNat - 48) r
      refine ⟨fun h => ?_, fun _ => ?_⟩
      · rcases h with h | ⟨r', h, _⟩
        · cases h
        · injection h with h _
          exact absurd h h48
      · rw [parseIntB_digits neg (c :: r) (by simp) hd, hv]
        have hnv := numLoop_val (s.extract a b) (if neg then mostN else mostP) r (b - a) (c.toNat - 48) 1 a3 (fun x hx => hd x (by simp [hx])) hpos (by omega) (by simp at hlen; omega)
        unfold decF
        rw [hstep]
        rcases hnv with ⟨h1, k', h2⟩ | ⟨h1, q, h2⟩
        · rw [h2, if_pos h1]
          dsimp only
          rw [if_neg (show ¬ (a = b ∨ (neg = true ∧ valL (c.toNat - 48) r = 0)) by rintro (h | ⟨_, h⟩) <;> omega)]
        · rw [h2, if_neg h1]
/-- where digits end. -/
theorem whileF_spec (s : ByteArray) (letters : Bool) : ∀ (f k : Nat), s.size < k + f → k ≤ s.size → k ≤ whileF s letters f k ∧ whileF s letters f k ≤ s.size ∧ (∀ i, k ≤ i → i < whileF s letters f k → (digitI (bAt s i) || (letters && letterI (bAt s i))) = true) ∧ ¬ (whileF s letters f k < s.size ∧ (digitI (bAt s (whileF s letters f k)) || (letters && letterI (bAt s (whileF s letters f k)))) = true) := by
  intro f
  induction f with
  | zero => intro k h1 h2; omega
  | succ f ih =>
    intro k h1 h2
    by_cases hd : k < s.size ∧ (digitI (bAt s k) || (letters && letterI (bAt s k))) = true
    · have e : whileF s letters (f + 1) k = whileF s letters f (k + 1) := by rw [whileF, if_pos hd]
      rw [e]
      obtain ⟨i1, i2, i3, i4⟩ := ih (k + 1) (by omega) (by omega)
      refine ⟨by omega, i2, fun i h3 h4 => ?_, i4⟩
      rcases Nat.lt_or_ge k i with h5 | h5
      · exact i3 i h5 h4
      · rw [show i = k by omega]; exact hd.2
    · have e : whileF s letters (f + 1) k = k := by rw [whileF, if_neg hd]
      rw [e]
      exact ⟨Nat.le_refl _, h2, fun i h3 h4 => by omega, hd⟩
theorem seg_bytes (s : ByteArray) (a b : Nat) (hab : a ≤ b) (hb : b ≤ s.size) : ∀ c ∈ (s.extract a b).data.toList, ∃ i, a ≤ i ∧ i < b ∧ (c.toNat : Int) = bAt s i := by
  intro c hc
  rw [Lib.extract_data] at hc
  obtain ⟨i, hi, e⟩ := List.mem_iff_getElem.1 hc
  rw [List.length_take, List.length_drop, size_list] at hi
  refine ⟨a + i, by omega, by omega, ?_⟩
  rw [← bAt_eq s (a + i) (by omega), ← e, List.getElem_take, List.getElem_drop]
  rfl
theorem seg_alldig (s : ByteArray) (k : Nat) (hk : k ≤ s.size) : AllDig (s.extract k (whileF s false (s.size + 1) k)).data.toList := by
  obtain ⟨h1, h2, h3, _⟩ := whileF_spec s false (s.size + 1) k (by omega) hk
  intro c hc
  obtain ⟨i, i1, i2, i3⟩ := seg_bytes s k _ h1 h2 c hc
  have := h3 i i1 i2
  simp only [Bool.false_and, Bool.or_false] at this
  rw [digitI_iff] at this
  omega
theorem seg_length (s : ByteArray) (a b : Nat) (hab : a ≤ b) (hb : b ≤ s.size) : (s.extract a b).data.toList.length = b - a := by
  rw [Lib.extract_data, List.length_take, List.length_drop, size_list]
  omega
end Go.Proofs.YtmiipfdndgjndaaDoor
