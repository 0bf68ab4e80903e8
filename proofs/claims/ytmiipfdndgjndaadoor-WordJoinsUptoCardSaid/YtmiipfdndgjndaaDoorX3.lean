/- A value's text is read as it; what is read is the text of what is told. -/
import Derived.Test.YtmiipfdndgjndaaDoorX2
namespace Go.Proofs.YtmiipfdndgjndaaDoor
mutual
/-- A value takes parts; none: it may not be. -/
def takeV : V → Nat → Nat → Option Nat
  | .mk k n s l r, p, d =>
    if p = 0 then none
    else if k = 0 then (if n = 0 ∧ s.size = 0 ∧ r = 0 ∧ l.length = 0 then some (p - 1) else none)
    else if k = 1 then (if s.size = 0 ∧ r = 0 ∧ l.length = 0 then some (p - 1) else none)
    else if k = 2 then (if s.size ≤ 256 ∧ n = 0 ∧ r = 0 ∧ l.length = 0 then some (p - 1) else none)
    else if k = 4 then (if 1 ≤ r ∧ n = 0 ∧ s.size = 0 ∧ l.length = 0 then some (p - 1) else none)
    else if k = 3 then
      (if d = 0 ∨ p - 1 < l.length then none
      else match takeL l (p - 1) (d - 1) with
        | none => none
        | some p' => if n = 0 ∧ s.size = 0 ∧ r = 0 then some p' else none)
    else none
def takeL : List V → Nat → Nat → Option Nat
  | [], p, _ => some p
  | v :: l, p, d => match takeV v p d with
    | none => none
    | some p' => takeL l p' d
end
def mayV (v : V) : Bool := (takeV v 512 16).isSome
mutual
/-- The numbers are int64s. -/
def V.fits : V → Prop
  | .mk _ n _ l r => -9223372036854775808 ≤ n ∧ n ≤ 9223372036854775807 ∧ -9223372036854775808 ≤ r ∧ r ≤ 9223372036854775807 ∧ fitsL l
def fitsL : List V → Prop
  | [] => True
  | v :: l => v.fits ∧ fitsL l
end
theorem empty_of_size {s : ByteArray} (h : s.size = 0) : s = ⟨#[]⟩ := by
  cases s with
  | mk a => congr 1; exact Array.eq_empty_of_size_eq_zero h
theorem itoa_nat (u : Nat) : Lib.itoa (u : Int) = Lib.decDigits u := by
  unfold Lib.itoa
  rw [if_neg (by omega), Int.toNat_natCast]
theorem itoa_negnat (u : Nat) (h : 0 < u) : Lib.itoa (-(u : Int)) = 45 :: Lib.decDigits u := by
  unfold Lib.itoa
  rw [if_pos (by omega)]
  congr 1
  congr 1
  omega
/-- A value that may be has one of these forms. -/
theorem take_forms {k n : Int} {s : ByteArray} {l : List V} {r : Int} {p d p' : Nat} (h : takeV (.mk k n s l r) p d = some p') :
    0 < p ∧ ((V.mk k n s l r = .nothing ∧ p' = p - 1) ∨ (V.mk k n s l r = .number n ∧ p' = p - 1) ∨ (V.mk k n s l r = .text s ∧ s.size ≤ 256 ∧ p' = p - 1) ∨ (V.mk k n s l r = .refer r ∧ 1 ≤ r ∧ p' = p - 1)
    ∨ (V.mk k n s l r = .list l ∧ 0 < d ∧ l.length ≤ p - 1 ∧ takeL l (p - 1) (d - 1) = some p')) := by
  rw [takeV] at h
  split at h
  · cases h
  · rename_i hp
    refine ⟨by omega, ?_⟩
    split at h
    · rename_i hk
      split at h
      · rename_i hc
        injection h with h
        exact .inl ⟨by rw [hk, hc.1, empty_of_size hc.2.1, hc.2.2.1, List.length_eq_zero_iff.1 hc.2.2.2]; rfl, h.symm⟩
      · cases h
    · split at h
      · rename_i hk
        split at h
        · rename_i hc
          injection h with h
          exact .inr (.inl ⟨by rw [hk, empty_of_size hc.1, hc.2.1, List.length_eq_zero_iff.1 hc.2.2]; rfl, h.symm⟩)
        · cases h
      · split at h
        · rename_i hk
          split at h
          · rename_i hc
            injection h with h
            exact .inr (.inr (.inl ⟨by rw [hk, hc.2.1, hc.2.2.1, List.length_eq_zero_iff.1 hc.2.2.2]; rfl, hc.1, h.symm⟩))
          · cases h
        · split at h
          · rename_i hk
            split at h
            · rename_i hc
              injection h with h
              exact .inr (.inr (.inr (.inl ⟨by rw [hk, hc.2.1, empty_of_size hc.2.2.1, List.length_eq_zero_iff.1 hc.2.2.2]; rfl, hc.1, h.symm⟩)))
            · cases h
          · split at h
            · rename_i hk
              split at h
              · cases h
              · rename_i hd
                split at h
                · cases h
                · rename_i q hq
                  split at h
                  · rename_i hc
                    injection h with h
                    subst h
                    exact .inr (.inr (.inr (.inr ⟨by rw [hk, hc.1, empty_of_size hc.2.1, hc.2.2]; rfl, by omega, by omega, hq⟩)))
                  · cases h
            · cases h
/-- The first byte of a value's text. -/
theorem textL_head {v : V} {p d p' : Nat} (h : takeV v p d = some p') : ∃ c r, textL v = c :: r ∧ c ≠ 93 ∧ c ≠ 32 := by
  obtain ⟨k, n, s, l, r⟩ := v
  obtain ⟨_, hf⟩ := take_forms h
  rcases hf with ⟨e, _⟩ | ⟨e, _⟩ | ⟨e, _⟩ | ⟨e, _⟩ | ⟨e, _⟩ <;> rw [e]
  · exact ⟨95, [], rfl, by decide, by decide⟩
  · rcases Int.lt_or_le n 0 with hn | hn
    · obtain ⟨u, rfl⟩ : ∃ u : Nat, n = -(u : Int) := ⟨n.natAbs, by omega⟩
      exact ⟨45, _, itoa_negnat u (by omega), by decide, by decide⟩
    · obtain ⟨u, rfl⟩ : ∃ u : Nat, n = (u : Int) := ⟨n.toNat, by omega⟩
      obtain ⟨c, r', e', hc, _⟩ := decDigits_head u
      refine ⟨_, r', (itoa_nat u).trans e', ?_, ?_⟩
      · intro he; have := congrArg UInt8.toNat he; rw [UInt8.toNat_ofNat'] at this; simp at this; omega
      · intro he; have := congrArg UInt8.toNat he; rw [UInt8.toNat_ofNat'] at this; simp at this; omega
  · exact ⟨34, _, rfl, by decide, by decide⟩
  · exact ⟨35, _, rfl, by decide, by decide⟩
  · exact ⟨91, _, rfl, by decide, by decide⟩
theorem noDigit_of {s : ByteArray} {k : Nat} {c : UInt8} {r : List UInt8} (h : s.data.toList.drop k = c :: r) (hc : digitI (c.toNat : Int) = false) : NoDigit s k := by
  obtain ⟨_, a2, _⟩ := rest_cons h
  intro ⟨_, hd⟩
  rw [a2, hc] at hd
  cases hd
mutual
theorem take_le : (v : V) → ∀ (p d p' : Nat), takeV v p d = some p' → p' ≤ p
  | .mk k n s l r => by
    intro p d p' h
    obtain ⟨_, hf⟩ := take_forms h
    rcases hf with ⟨_, e'⟩ | ⟨_, e'⟩ | ⟨_, _, e'⟩ | ⟨_, _, e'⟩ | ⟨_, _, _, e'⟩
    · omega
    · omega
    · omega
    · omega
    · have := takeL_le l _ _ _ e'
      omega
theorem takeL_le : (l : List V) → ∀ (p d p' : Nat), takeL l p d = some p' → p' ≤ p
  | [] => by
    intro p d p' h
    rw [takeL] at h
    injection h with h
    omega
  | v :: l => by
    intro p d p' h
    rw [takeL] at h
    split at h
    · cases h
    · rename_i q hq
      have := take_le v _ _ _ hq
      have := takeL_le l _ _ _ h
      omega
end
mutual
/-- A value's text is read as it. -/
theorem read_text (s : ByteArray) : (v : V) → ∀ (p d p' k : Nat) (r : List UInt8), takeV v p d = some p' → v.fits → p ≤ 512 → s.data.toList.drop k = textL v ++ r → NoDigit s (k + (textL v).length) →
    valF s d (512 - p) k = .ok (v, k + (textL v).length, 512 - p')
  | .mk kk n st l rr => by
    intro p d p' k r h hfit hp hd hnd
    obtain ⟨h0, hf⟩ := take_forms h
    unfold V.fits at hfit
    obtain ⟨n0, n1, r0, r1, hfl⟩ := hfit
    have hv : ∃ rv, valF s d = headF s rv ∧ (0 < d → rv = some (valF s (d - 1))) := by
      cases d with
      | zero => exact ⟨_, rfl, fun h => absurd h (by omega)⟩
      | succ d => exact ⟨_, rfl, fun _ => rfl⟩
    obtain ⟨rv, hv, hrv⟩ := hv
    rw [hv]
    clear hv
    rcases hf with ⟨e, e'⟩ | ⟨e, e'⟩ | ⟨e, es, e'⟩ | ⟨e, er, e'⟩ | ⟨e, ed, el, e'⟩
    · rw [e] at hd hnd ⊢
      obtain ⟨a1, a2, a3⟩ := rest_cons (show s.data.toList.drop k = 95 :: r from hd)
      rw [headF.eq_def, if_pos a1, if_pos (by rw [a2]; decide), e', show 512 - (p - 1) = 512 - p + 1 by omega]
      rfl
    · rw [e] at hd hnd ⊢
      rcases Int.lt_or_le n 0 with hn | hn
      · obtain ⟨u, rfl⟩ : ∃ u : Nat, n = -(u : Int) := ⟨n.natAbs, by omega⟩
        have et : textL (V.number (-(u : Int))) = 45 :: Lib.decDigits u := itoa_negnat u (by omega)
        rw [et] at hd hnd ⊢
        obtain ⟨a1, a2, a3⟩ := rest_cons (show s.data.toList.drop k = 45 :: (Lib.decDigits u ++ r) from hd)
        have hb := behindF_write s mostN u (k + 1) r (by unfold mostN; omega) (by omega) a3 (by rw [List.length_cons] at hnd; rw [show k + 1 + (Lib.decDigits u).length = k + ((Lib.decDigits u).length + 1) by omega]; exact hnd)
        rw [headF.eq_def, if_pos a1, if_neg (by rw [a2]; decide), if_pos (by rw [a2]; decide), hb]
        dsimp only
        rw [e', show 512 - (p - 1) = 512 - p + 1 by omega, List.length_cons, show k + 1 + (Lib.decDigits u).length = k + ((Lib.decDigits u).length + 1) by omega]
      · obtain ⟨u, rfl⟩ : ∃ u : Nat, n = (u : Int) := ⟨n.toNat, by omega⟩
        have et : textL (V.number (u : Int)) = Lib.decDigits u := itoa_nat u
        rw [et] at hd hnd ⊢
        obtain ⟨b1, b2, b3, _⟩ := numF_write s mostP u k r (by unfold mostP; omega) hd hnd
        have b3' := (digitI_iff _).1 b3
        rw [headF.eq_def, if_pos b2, if_neg (by omega), if_neg (by omega), if_pos b3, b1]
        dsimp only
        rw [e', show 512 - (p - 1) = 512 - p + 1 by omega]
    · rw [e] at hd hnd ⊢
      have et : textL (V.text st) = quoteL st.data.toList := rfl
      rw [et] at hd ⊢
      have hq := quotedF_quote s (fun n => decide ((256 : Int) ≤ (n : Int))) st.data.toList r k hd (fun m hm => by rw [size_list] at hm; simp; omega)
      unfold quoteL at hd
      obtain ⟨a1, a2, a3⟩ := rest_cons (show s.data.toList.drop k = 34 :: ((quoteM st.data.toList ++ [34]) ++ r) from hd)
      rw [headF.eq_def, if_pos a1, if_neg (by rw [a2]; decide), if_neg (by rw [a2]; decide), if_neg (by rw [a2]; decide), if_neg (by rw [a2]; decide), if_pos (by rw [a2]; decide), hq]
      dsimp only
      rw [e', show 512 - (p - 1) = 512 - p + 1 by omega]
    · rw [e] at hd hnd ⊢
      obtain ⟨u, rfl⟩ : ∃ u : Nat, rr = (u : Int) := ⟨rr.toNat, by omega⟩
      have et : textL (V.refer (u : Int)) = 35 :: Lib.decDigits u := congrArg (35 :: ·) (itoa_nat u)
      rw [et] at hd hnd ⊢
      obtain ⟨a1, a2, a3⟩ := rest_cons (show s.data.toList.drop k = 35 :: (Lib.decDigits u ++ r) from hd)
      have hb := behindF_write s mostP u (k + 1) r (by unfold mostP; omega) (by omega) a3 (by rw [List.length_cons] at hnd; rw [show k + 1 + (Lib.decDigits u).length = k + ((Lib.decDigits u).length + 1) by omega]; exact hnd)
      rw [headF.eq_def, if_pos a1, if_neg (by rw [a2]; decide), if_neg (by rw [a2]; decide), if_neg (by rw [a2]; decide), if_pos (by rw [a2]; decide), hb]
      dsimp only
      rw [e', show 512 - (p - 1) = 512 - p + 1 by omega, List.length_cons, show k + 1 + (Lib.decDigits u).length = k + ((Lib.decDigits u).length + 1) by omega]
    · rw [e] at hd hnd ⊢
      have et : textL (V.list l) = 91 :: (rowL true l ++ [93]) := rfl
      rw [et] at hd ⊢
      obtain ⟨a1, a2, a3⟩ := rest_cons (show s.data.toList.drop k = 91 :: ((rowL true l ++ [93]) ++ r) from hd)
      rw [List.append_assoc] at a3
      have hlen : l.length < s.size + 1 := by
        have h1 : (s.data.toList.drop (k + 1)).length = s.size - (k + 1) := by rw [List.length_drop, size_list]
        rw [a3, List.length_append, List.length_append] at h1
        have h2 : ∀ (l : List V) (b : Bool) (p q d : Nat), takeL l p d = some q → l.length ≤ (rowL b l).length := by
          intro l
          induction l with
          | nil => intros; simp
          | cons v l ih =>
            intro b p q d h
            rw [takeL] at h
            split at h
            · cases h
            · rename_i q' hq'
              obtain ⟨c, r', e, _⟩ := textL_head hq'
              have := ih false _ _ _ h
              rw [rowL, List.length_append, List.length_append, e]
              simp
              omega
        have := h2 l true _ _ _ e'
        simp at h1
        omega
      have hr := read_row s l (p - 1) (d - 1) p' (k + 1) r [] (s.size + 1) e' hfl (by omega) a3 (by omega)
      rw [headF.eq_def, if_pos a1, if_neg (by rw [a2]; decide), if_neg (by rw [a2]; decide), if_neg (by rw [a2]; decide), if_neg (by rw [a2]; decide), if_neg (by rw [a2]; decide), if_pos (by rw [a2]; decide), hrv ed]
      dsimp only
      rw [show 512 - p + 1 = 512 - (p - 1) by omega, hr]
      dsimp only
      rw [List.nil_append]
      congr 2
      simp
      omega
theorem read_row (s : ByteArray) : (l : List V) → ∀ (p d p' k : Nat) (r : List UInt8) (acc : List V) (f : Nat), takeL l p d = some p' → fitsL l → p ≤ 512 → s.data.toList.drop k = rowL acc.isEmpty l ++ ([93] ++ r) → l.length < f →
    listF s (valF s d) f (512 - p) k acc = .ok (acc ++ l, k + (rowL acc.isEmpty l).length + 1, 512 - p')
  | [] => by
    intro p d p' k r acc f h _ _ hd hf
    obtain ⟨f, rfl⟩ : ∃ m, f = m + 1 := ⟨f - 1, by simp at hf; omega⟩
    have hd' : s.data.toList.drop k = 93 :: r := by rw [hd]; cases acc <;> rfl
    obtain ⟨a1, a2, _⟩ := rest_cons hd'
    rw [takeL] at h
    injection h with h
    subst h
    rw [listF, if_pos a1, if_pos (by rw [a2]; decide)]
    cases acc <;> simp [rowL]
  | v :: l => by
    intro p d p' k r acc f h hfit hp hd hf
    obtain ⟨f, rfl⟩ : ∃ m, f = m + 1 := ⟨f - 1, by simp at hf; omega⟩
    rw [takeL] at h
    split at h
    · cases h
    · rename_i q hq
      unfold fitsL at hfit
      obtain ⟨c, r', e, hc1, hc2⟩ := textL_head hq
      have hp0 : 0 < p := by
        obtain ⟨k, n, st, l', rr⟩ := v
        exact (take_forms hq).1
      have hqp : q ≤ 512 := by
        have := take_le _ _ _ _ hq
        omega
      have hnd : ∀ k0, s.data.toList.drop k0 = textL v ++ (rowL false l ++ ([93] ++ r)) → NoDigit s (k0 + (textL v).length) := by
        intro k0 h0
        have h1 := rest_append h0
        cases l with
        | nil => exact noDigit_of (c := 93) h1 (by decide)
        | cons v' l' =>
          refine noDigit_of (c := 32) (r := (textL v' ++ rowL false l') ++ ([93] ++ r)) ?_ (by decide)
          rw [h1]
          simp [rowL]
      cases acc with
      | nil =>
        have hd' : s.data.toList.drop k = textL v ++ (rowL false l ++ ([93] ++ r)) := by rw [hd]; simp [rowL]
        have hv := read_text s v p d q k _ hq hfit.1 hp hd' (hnd k hd')
        have hr := read_row s l q d p' (k + (textL v).length) r [v] f h hfit.2 hqp (rest_append hd') (by simp at hf; omega)
        rw [e] at hd'
        obtain ⟨a1, a2, _⟩ := rest_cons (show s.data.toList.drop k = c :: (r' ++ (rowL false l ++ ([93] ++ r))) from hd')
        rw [listF, if_pos a1, if_neg (by rw [a2]; intro hx; exact hc1 (UInt8.toNat_inj.1 (by simpa using (Int.ofNat.inj hx)))), if_neg (by omega), if_neg (by simp), if_pos rfl, hv]
        dsimp only
        rw [List.nil_append, hr]
        congr 2
        simp [rowL]
        omega
      | cons a acc =>
        have hd' : s.data.toList.drop k = 32 :: (textL v ++ (rowL false l ++ ([93] ++ r))) := by rw [hd]; simp [rowL]
        obtain ⟨a1, a2, a3⟩ := rest_cons hd'
        have hv := read_text s v p d q (k + 1) _ hq hfit.1 hp a3 (hnd _ a3)
        have hr := read_row s l q d p' (k + 1 + (textL v).length) r (a :: acc ++ [v]) f h hfit.2 hqp (by rw [rest_append a3]; rfl) (by simp at hf; omega)
        rw [listF, if_pos a1, if_neg (by rw [a2]; decide), if_neg (by omega), if_neg (by rw [a2]; simp), if_neg (by simp), hv]
        dsimp only
        rw [hr]
        congr 2
        · simp
        · simp [rowL]
          omega
end
end Go.Proofs.YtmiipfdndgjndaaDoor
