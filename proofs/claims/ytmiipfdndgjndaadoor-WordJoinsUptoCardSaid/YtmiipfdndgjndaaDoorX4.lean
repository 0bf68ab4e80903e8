/- What is read is the text of what is told, and may be. -/
import Derived.Test.YtmiipfdndgjndaaDoorX3
namespace Go.Proofs.YtmiipfdndgjndaaDoor
theorem rest_lt {s : ByteArray} {k k' : Nat} {a : List UInt8} (h : s.data.toList.drop k = a ++ s.data.toList.drop k') (hk : k ≤ s.size) (hk' : k' ≤ s.size) : k' = k + a.length := by
  have := congrArg List.length h
  rw [List.length_append, List.length_drop, List.length_drop, size_list] at this
  omega
def ReadOk (s : ByteArray) (d : Nat) (rv : Nat → Nat → Except Nat (V × Nat × Nat)) : Prop :=
  ∀ p k v k' p', rv p k = .ok (v, k', p') → p < 512 → k ≤ s.size →
    s.data.toList.drop k = textL v ++ s.data.toList.drop k' ∧ k' ≤ s.size ∧ k < k' ∧ p < p' ∧ p' ≤ 512 ∧ takeV v (512 - p) d = some (512 - p') ∧ v.fits
theorem listF_inv (s : ByteArray) (d : Nat) (rv : Nat → Nat → Except Nat (V × Nat × Nat)) (hrv : ReadOk s d rv) : ∀ (f p k : Nat) (acc l : List V) (k' p' : Nat), listF s rv f p k acc = .ok (l, k', p') → p ≤ 512 → k ≤ s.size →
    ∃ more, l = acc ++ more ∧ s.data.toList.drop k = rowL acc.isEmpty more ++ ([93] ++ s.data.toList.drop k') ∧ k' ≤ s.size ∧ k < k' ∧ p + more.length ≤ p' ∧ p' ≤ 512 ∧ takeL more (512 - p) d = some (512 - p') ∧ fitsL more := by
  intro f
  induction f with
  | zero => intro p k acc l k' p' h; cases h
  | succ f ih =>
    intro p k acc l k' p' h hp hks
    rw [listF] at h
    split at h
    · rename_i hk
      split at h
      · rename_i h93
        injection h with h; injection h with h1 h2; injection h2 with h2 h3
        subst h1; subst h2; subst h3
        refine ⟨[], by simp, ?_, by omega, by omega, by simp, hp, rfl, trivial⟩
        rw [rest_at hk, h93]
        cases acc <;> rfl
      · split at h
        · cases h
        · rename_i hp5
          split at h
          · cases h
          · rename_i hc
            split at h
            · cases h
            · rename_i v k2 p2 hv
              cases acc with
              | nil =>
                rw [if_pos rfl] at hv
                obtain ⟨e1, e2, e3, e4, e5, e6, e7⟩ := hrv _ _ _ _ _ hv (by omega) (by omega)
                obtain ⟨more, m1, m2, m3, m4, m5, m6, m7, m8⟩ := ih _ _ _ _ _ _ h (by omega) (by omega)
                refine ⟨v :: more, by rw [m1]; simp, ?_, m3, by omega, by simp; omega, m6, ?_, ⟨e7, m8⟩⟩
                · rw [e1, m2]; simp [rowL]
                · rw [takeL, e6]; exact m7
              | cons a acc =>
                rw [if_neg (by simp)] at hv
                have h32 : bAt s k = 32 := by
                  rcases Decidable.em (bAt s k = 32) with hx | hx
                  · exact hx
                  · exact absurd ⟨by simp, hx⟩ hc
                obtain ⟨e1, e2, e3, e4, e5, e6, e7⟩ := hrv _ _ _ _ _ hv (by omega) (by omega)
                obtain ⟨more, m1, m2, m3, m4, m5, m6, m7, m8⟩ := ih _ _ _ _ _ _ h (by omega) (by omega)
                refine ⟨v :: more, by rw [m1]; simp, ?_, m3, by omega, by simp; omega, m6, ?_, ⟨e7, m8⟩⟩
                · rw [rest_at hk, h32, e1, m2]; simp [rowL, u8]
                · rw [takeL, e6]; exact m7
    · cases h
theorem quotedF_le (s : ByteArray) (full : Nat → Bool) (k : Nat) (b : List UInt8) (k' : Nat) (h : quotedF s full k = .ok (b, k')) : k < k' ∧ k' ≤ s.size := by
  have hq : ∀ (f k : Nat) (b b' : List UInt8) (k' : Nat), qF s full f k b = .ok (b', k') → k < k' ∧ k' ≤ s.size := by
    intro f
    induction f with
    | zero => intro k b b' k' h; cases h
    | succ f ih =>
      intro k b b' k' h
      rw [qF] at h
      split at h
      · split at h
        · injection h with h; injection h with h1 h2; omega
        · split at h
          · cases h
          · split at h
            · cases h
            · split at h
              · cases h
              · split at h
                · split at h
                  · cases h
                  · rename_i x k2 hE
                    have := escF_ok s _ x k2 hE
                    have := ih _ _ _ _ h
                    omega
                · have := ih _ _ _ _ h
                  omega
      · cases h
  unfold quotedF at h
  split at h
  · split at h
    · have := hq _ _ _ _ _ h
      omega
    · cases h
  · cases h
theorem numLoop_le (s : ByteArray) (most : Nat) : ∀ (f : Nat) (b : Bool) (n k m k' : Nat), numLoop s most f b n k = .ok (m, k') → k ≤ s.size → k ≤ k' ∧ k' ≤ s.size := by
  intro f
  induction f with
  | zero => intro b n k m k' h hk; rw [numLoop] at h; injection h with h; injection h with h1 h2; omega
  | succ f ih =>
    intro b n k m k' h hk
    rw [numLoop] at h
    split at h
    · rename_i hd
      split at h
      · cases h
      · have := ih _ _ _ _ _ h (by omega)
        omega
    · injection h with h; injection h with h1 h2; omega
theorem behindF_le (s : ByteArray) (most k m k' : Nat) (h : behindF s most k = .ok (m, k')) : k' ≤ s.size := by
  unfold behindF at h
  split at h
  · split at h
    · exact (numLoop_le s _ _ _ _ _ _ _ h (by omega)).2
    · cases h
  · cases h
theorem headF_ok (s : ByteArray) (d : Nat) (rv : Option (Nat → Nat → Except Nat (V × Nat × Nat))) (hrv : ∀ g, rv = some g → 0 < d ∧ ReadOk s (d - 1) g) : ReadOk s d (headF s rv) := by
  intro p k v k' p' h hp hks
  have hpp : 512 - p ≠ 0 := by omega
  rw [headF.eq_def] at h
  split at h
  · rename_i hk
    split at h
    · rename_i hc
      injection h with h; injection h with h1 h2; injection h2 with h2 h3
      subst h1; subst h2; subst h3
      refine ⟨by rw [rest_at hk, hc]; rfl, by omega, by omega, by omega, by omega, ?_, ?_⟩
      · rw [V.nothing, takeV, if_neg hpp, if_pos rfl, if_pos (by decide)]; exact congrArg some (by omega)
      · exact ⟨by omega, by omega, by omega, by omega, trivial⟩
    · split at h
      · rename_i hc
        split at h
        · cases h
        · rename_i n k2 hb
          injection h with h; injection h with h1 h2; injection h2 with h2 h3
          subst h1; subst h2; subst h3
          obtain ⟨b1, b2, b3, b4, b5, b6⟩ := behindF_inv s _ _ _ _ (by decide) hb
          have b1' : n ≤ 9223372036854775808 := b1
          have b7 := behindF_le s _ _ _ _ hb
          refine ⟨?_, b7, by omega, by omega, by omega, ?_, ?_⟩
          · rw [rest_at hk, hc, b5, show textL (V.number (-(n : Int))) = 45 :: Lib.decDigits n from itoa_negnat n b2]
            rfl
          · rw [V.number, takeV, if_neg hpp, if_neg (by decide), if_pos rfl, if_pos (by decide)]; exact congrArg some (by omega)
          · exact ⟨by omega, by omega, by omega, by omega, trivial⟩
      · split at h
        · rename_i hd
          split at h
          · cases h
          · rename_i n k2 hb
            injection h with h; injection h with h1 h2; injection h2 with h2 h3
            subst h1; subst h2; subst h3
            obtain ⟨b1, b2, b3, b4⟩ := numLoop_inv0 s _ _ _ _ (by decide) hb hk hd
            have b1' : n ≤ 9223372036854775807 := b1
            have b7 := numLoop_le s _ _ _ _ _ _ _ hb hks
            refine ⟨?_, b7.2, by omega, by omega, by omega, ?_, ?_⟩
            · rw [b3, show textL (V.number (n : Int)) = Lib.decDigits n from itoa_nat n]
            · rw [V.number, takeV, if_neg hpp, if_neg (by decide), if_pos rfl, if_pos (by decide)]; exact congrArg some (by omega)
            · exact ⟨by omega, by omega, by omega, by omega, trivial⟩
        · split at h
          · rename_i hc
            split at h
            · cases h
            · rename_i n k2 hb
              injection h with h; injection h with h1 h2; injection h2 with h2 h3
              subst h1; subst h2; subst h3
              obtain ⟨b1, b2, b3, b4, b5, b6⟩ := behindF_inv s _ _ _ _ (by decide) hb
              have b1' : n ≤ 9223372036854775807 := b1
              have b7 := behindF_le s _ _ _ _ hb
              refine ⟨?_, b7, by omega, by omega, by omega, ?_, ?_⟩
              · rw [rest_at hk, hc, b5, show textL (V.refer (n : Int)) = 35 :: Lib.decDigits n from congrArg (35 :: ·) (itoa_nat n)]
                rfl
              · rw [V.refer, takeV, if_neg hpp, if_neg (by decide), if_neg (by decide), if_neg (by decide), if_pos rfl, if_pos ⟨by omega, by decide⟩]; exact congrArg some (by omega)
              · exact ⟨by omega, by omega, by omega, by omega, trivial⟩
          · split at h
            · rename_i hc
              split at h
              · cases h
              · rename_i b k2 hb
                injection h with h; injection h with h1 h2; injection h2 with h2 h3
                subst h1; subst h2; subst h3
                obtain ⟨b1, b2⟩ := quotedF_inv s _ _ _ _ hb
                have b7 := quotedF_le s _ _ _ _ hb
                have hb256 : b.length ≤ 256 := by
                  rcases Nat.lt_or_ge 256 b.length with hlt | hge
                  · have := b2 256 hlt
                    simp at this
                  · exact hge
                refine ⟨b1, b7.2, by omega, by omega, by omega, ?_, ?_⟩
                · rw [V.text, takeV, if_neg hpp, if_neg (by decide), if_neg (by decide), if_pos rfl, if_pos ⟨by simp [ByteArray.size]; omega, by decide⟩]; exact congrArg some (by omega)
                · exact ⟨by omega, by omega, by omega, by omega, trivial⟩
            · split at h
              · rename_i hc
                split at h
                · cases h
                · rename_i g
                  obtain ⟨hd, hg⟩ := hrv g rfl
                  split at h
                  · cases h
                  · rename_i l k2 p2 hl
                    injection h with h; injection h with h1 h2; injection h2 with h2 h3
                    subst h1; subst h2; subst h3
                    obtain ⟨more, m1, m2, m3, m4, m5, m6, m7, m8⟩ := listF_inv s _ g hg _ _ _ _ _ _ _ hl (by omega) (by omega)
                    have m1' : l = more := by simpa using m1
                    subst m1'
                    refine ⟨?_, m3, by omega, by omega, m6, ?_, ?_⟩
                    · rw [rest_at hk, hc, m2]
                      simp [V.list, textL, u8]
                    · rw [V.list, takeV, if_neg hpp, if_neg (by decide), if_neg (by decide), if_neg (by decide), if_neg (by decide), if_pos rfl, if_neg (by omega), show 512 - p - 1 = 512 - (p + 1) by omega, m7]
                      rfl
                    · exact ⟨by omega, by omega, by omega, by omega, m8⟩
              · cases h
  · cases h
theorem valF_ok (s : ByteArray) : ∀ d, ReadOk s d (valF s d) := by
  intro d
  induction d with
  | zero => exact headF_ok s 0 none (fun g hg => by cases hg)
  | succ d ih => exact headF_ok s (d + 1) _ (fun g hg => by injection hg with hg; subst hg; exact ⟨by omega, ih⟩)
/-- What Read takes is the text of what it tells. -/
theorem readF_text (s : ByteArray) (h : (readF s).2.2 = 0) : mayV (readF s).1 = true ∧ textL (readF s).1 = s.data.toList ∧ (readF s).2.1 = 0 ∧ (readF s).1.fits := by
  unfold readF at h ⊢
  split at h
  · cases h
  · rename_i v k p hv
    split at h
    · cases h
    · rename_i hk
      rw [if_neg hk]
      obtain ⟨e1, e2, e3, e4, e5, e6, e7⟩ := valF_ok s 16 0 0 v k p hv (by omega) (by omega)
      refine ⟨by unfold mayV; rw [e6]; rfl, ?_, rfl, e7⟩
      have : k = s.size := by omega
      subst this
      rw [List.drop_zero] at e1
      rw [e1, List.drop_eq_nil_of_le (by rw [size_list]; omega)]
      simp
/-- A value's text is read as it. -/
theorem readF_of_text (v : V) (h : mayV v = true) (hf : v.fits) : readF ⟨(textL v).toArray⟩ = (v, 0, 0) := by
  unfold mayV at h
  rw [Option.isSome_iff_exists] at h
  obtain ⟨p', hp'⟩ := h
  have hd : (⟨(textL v).toArray⟩ : ByteArray).data.toList.drop 0 = textL v ++ [] := by simp
  have hs : (⟨(textL v).toArray⟩ : ByteArray).size = (textL v).length := by simp [ByteArray.size]
  have := read_text ⟨(textL v).toArray⟩ v 512 16 p' 0 [] hp' hf (by omega) hd (by intro ⟨h1, _⟩; rw [hs] at h1; omega)
  unfold readF
  rw [show valF ⟨(textL v).toArray⟩ 16 0 0 = _ from this]
  dsimp only
  rw [if_neg (by rw [hs]; omega)]
/-- Quoted and told back. -/
theorem unquoteF_quote (l : List UInt8) : unquoteF ⟨(quoteL l).toArray⟩ = (l, 0, 0) := by
  have hs : (⟨(quoteL l).toArray⟩ : ByteArray).size = (quoteL l).length := by simp [ByteArray.size]
  have hlen : l.length < (quoteL l).length := by
    have := quoteM_length l
    simp [quoteL]
    omega
  have := quotedF_quote ⟨(quoteL l).toArray⟩ (fun n => decide (((⟨(quoteL l).toArray⟩ : ByteArray).size : Int) ≤ (n : Int))) l [] 0 (by simp) (fun n hn => by rw [hs]; simp; omega)
  unfold unquoteF
  rw [this]
  dsimp only
  rw [if_neg (by rw [hs]; omega)]
theorem quote_unquoteF (s : ByteArray) (h : (unquoteF s).2.2 = 0) : quoteL (unquoteF s).1 = s.data.toList ∧ (unquoteF s).2.1 = 0 := by
  unfold unquoteF at h ⊢
  split at h
  · cases h
  · rename_i b k hb
    split at h
    · cases h
    · rename_i hk
      rw [if_neg hk]
      obtain ⟨e1, _⟩ := quotedF_inv s _ _ _ _ hb
      have := quotedF_le s _ _ _ _ hb
      rw [List.drop_zero, List.drop_eq_nil_of_le (by rw [size_list]; omega)] at e1
      exact ⟨by rw [e1]; simp, rfl⟩
end Go.Proofs.YtmiipfdndgjndaaDoor
