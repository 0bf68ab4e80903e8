/- Up to the place that is told a text can be gone on with: values. -/
import Derived.Test.YtmiipfdndgjndaaDoorX6
namespace Go.Proofs.YtmiipfdndgjndaaDoor
theorem seg_digits_scan (s : ByteArray) (most : Nat) : ∀ (f : Nat) (b : Bool) (n k q : Nat), numLoop s most f b n k = .error q → k ≤ s.size →
    k ≤ q ∧ q < s.size ∧ digitI (bAt s q) = true ∧ (∀ c ∈ seg s k q, 48 ≤ (c.toNat : Int) ∧ (c.toNat : Int) ≤ 57) ∧
    ∀ (s' : ByteArray) (k0 f' : Nat) (r : List UInt8), s'.data.toList.drop k0 = seg s k q ++ r → s'.size < k0 + f' → NoDigit s' (k0 + (seg s k q).length) → ∃ m, numLoop s' most f' b n k0 = .ok (m, k0 + (seg s k q).length) := by
  intro f
  induction f with
  | zero => intro b n k q h; rw [numLoop] at h; cases h
  | succ f ih =>
    intro b n k q h hk
    rw [numLoop] at h
    split at h
    · rename_i hd
      split at h
      · injection h with h
        subst h
        refine ⟨Nat.le_refl _, hd.1, hd.2, by rw [seg_nil]; simp, ?_⟩
        intro s' k0 f' r h1 h2 h3
        rw [seg_nil] at h3 ⊢
        exact ⟨n, numLoop_stop _ _ _ _ _ _ h3⟩
      · rename_i hb
        obtain ⟨g1, g2, g0, g3, g4⟩ := ih _ _ _ _ h (by omega)
        have hseg := seg_cons s k q (by omega) (by omega)
        have hd2 := (digitI_iff _).1 hd.2
        have hu : ((u8 (bAt s k)).toNat : Int) = bAt s k := u8_toNat _ (by omega) (by omega)
        refine ⟨by omega, g2, g0, ?_, ?_⟩
        · intro c hc
          rw [hseg, List.mem_cons] at hc
          rcases hc with hc | hc
          · subst hc; rw [hu]; exact hd2
          · exact g3 c hc
        · intro s' k0 f' r h1 h2 h3
          rw [hseg] at h1 h3 ⊢
          obtain ⟨a1, a2, a3⟩ := rest_cons (show s'.data.toList.drop k0 = u8 (bAt s k) :: (seg s (k + 1) q ++ r) from h1)
          rw [hu] at a2
          obtain ⟨f', rfl⟩ : ∃ m, f' = m + 1 := ⟨f' - 1, by omega⟩
          obtain ⟨m, hm⟩ := g4 s' (k0 + 1) f' r a3 (by omega) (by rw [List.length_cons] at h3; rw [show k0 + 1 + (seg s (k + 1) q).length = k0 + ((seg s (k + 1) q).length + 1) by omega]; exact h3)
          rw [numLoop, a2, if_pos ⟨a1, hd.2⟩, if_neg hb, hm]
          exact ⟨m, by congr 2; simp; omega⟩
    · cases h
/-- What is gone on with: a head, and so many brackets. -/
structure Goes (s : ByteArray) (d p k q : Nat) (rv : ByteArray → Nat → Nat → Except Nat (V × Nat × Nat)) : Prop where
  ge : k ≤ q
  le : q ≤ s.size
  ex : ∃ hd ∈ heads, ∃ j, j ≤ d ∧ (∃ c r, seg s k q ++ hd = c :: r ∧ ¬ (c.toNat : Int) = 93) ∧ (∀ pv o : Int, (scanL pv (o, false, 0) (seg s k q)).1 = o + j) ∧
    ∀ (s' : ByteArray) (k0 : Nat) (r : List UInt8), s'.data.toList.drop k0 = seg s k q ++ (hd ++ (List.replicate j 93 ++ r)) → NoDigit s' (k0 + (seg s k q).length + hd.length + j) → ∃ v p', rv s' p k0 = .ok (v, k0 + (seg s k q).length + hd.length + j, p') ∧ p < p'
theorem replicate_noDigit (s : ByteArray) (k j : Nat) (r : List UInt8) (h : s.data.toList.drop k = List.replicate j 93 ++ r) (hn : NoDigit s (k + j)) : NoDigit s k := by
  cases j with
  | zero => exact hn
  | succ j => exact noDigit_of (c := 93) (r := List.replicate j 93 ++ r) (by rw [h]; rfl) (by decide)
theorem behindF_err (s : ByteArray) (most k q : Nat) (hm : 9 ≤ most) (h : behindF s most k = .error q) (hk : k ≤ s.size) :
    k ≤ q ∧ q ≤ s.size ∧ ∃ hd ∈ heads, (∀ pv o : Int, (scanL pv (o, false, 0) (seg s k q)) = (o, false, 0)) ∧
    ∀ (s' : ByteArray) (k0 : Nat) (r : List UInt8), s'.data.toList.drop k0 = seg s k q ++ (hd ++ r) → NoDigit s' (k0 + (seg s k q).length + hd.length) → ∃ m, behindF s' most k0 = .ok (m, k0 + (seg s k q).length + hd.length) := by
  have stop : q = k → k ≤ q ∧ q ≤ s.size ∧ ∃ hd ∈ heads, (∀ pv o : Int, (scanL pv (o, false, 0) (seg s k q)) = (o, false, 0)) ∧
      ∀ (s' : ByteArray) (k0 : Nat) (r : List UInt8), s'.data.toList.drop k0 = seg s k q ++ (hd ++ r) → NoDigit s' (k0 + (seg s k q).length + hd.length) → ∃ m, behindF s' most k0 = .ok (m, k0 + (seg s k q).length + hd.length) := by
    intro hq
    subst hq
    rw [seg_nil]
    refine ⟨Nat.le_refl _, hk, [49], by decide, fun pv o => rfl, ?_⟩
    intro s' k0 r h1 h2
    have dd : Lib.decDigits 1 = [49] := by rw [Lib.decDigits, dif_pos (by omega)]; rfl
    have := behindF_write s' most 1 k0 r (by omega) (by omega) (by rw [h1, dd]; rfl) (by rw [dd]; exact h2)
    rw [dd] at this
    exact ⟨1, this⟩
  unfold behindF at h
  split at h
  · rename_i hlt
    split at h
    · rename_i hd
      obtain ⟨g1, g2, g0, g3, g4⟩ := seg_digits_scan s most _ _ _ _ _ h hk
      refine ⟨g1, by omega, [], by decide, fun pv o => scan_plain _ _ _ (fun c hc => by have := g3 c hc; omega), ?_⟩
      intro s' k0 r h1 h2
      have hkq : k < q := by
        rcases Nat.lt_or_ge k q with hh | hh
        · exact hh
        · exfalso
          have : k = q := by omega
          subst this
          rw [numLoop, if_pos ⟨hlt, g0⟩, if_neg (by simp)] at h
          have := (seg_digits_scan s most _ _ _ _ _ h (by omega)).1
          omega
      have hseg := seg_cons s k q hkq (by omega)
      have hd' := h1
      rw [hseg] at hd'
      obtain ⟨a1, a2, a3⟩ := rest_cons (show s'.data.toList.drop k0 = u8 (bAt s k) :: (seg s (k + 1) q ++ ([] ++ r)) from hd')
      rw [u8_toNat _ (by omega) (by omega)] at a2
      obtain ⟨m, hm⟩ := g4 s' k0 (s'.size + 1) ([] ++ r) h1 (by omega) h2
      exact ⟨m, by rw [behindF, if_pos a1, if_pos (by rw [a2]; exact hd), hm]; rfl⟩
    · injection h with h
      exact stop h.symm
  · injection h with h
    exact stop (by omega)
def nextL (s : ByteArray) (rv : Nat → Nat → Except Nat (V × Nat × Nat)) (g : Nat) (acc : List V) : Except Nat (V × Nat × Nat) → Except Nat (List V × Nat × Nat)
  | .error q => .error q
  | .ok (v, k', p') => listF s rv g p' k' (acc ++ [v])
/-- A list that goes wrong. -/
theorem listF_err (s : ByteArray) (d : Nat) (rv : ByteArray → Nat → Nat → Except Nat (V × Nat × Nat)) (hok : ReadOk s d (rv s)) (hgo : ∀ p k q, rv s p k = .error q → p < 512 → k ≤ s.size → Goes s d p k q rv)
    (hwr : ∀ (s' : ByteArray) (v : V) (p p' k0 : Nat) (r : List UInt8), takeV v (512 - p) d = some (512 - p') → v.fits → p < 512 → p' ≤ 512 → s'.data.toList.drop k0 = textL v ++ r → NoDigit s' (k0 + (textL v).length) → rv s' p k0 = .ok (v, k0 + (textL v).length, p')) :
    ∀ (f p k : Nat) (acc : List V) (q : Nat), listF s (rv s) f p k acc = .error q → s.size < k + f → p ≤ 512 → k ≤ s.size →
    k ≤ q ∧ q ≤ s.size ∧ ∃ hd ∈ heads, ∃ j, j ≤ d ∧ (acc ≠ [] → ∃ c r, seg s k q ++ (hd ++ List.replicate (j + 1) 93) = c :: r ∧ digitI (c.toNat : Int) = false) ∧ (∀ pv o : Int, (scanL pv (o, false, 0) (seg s k q)).1 = o + j) ∧
    ∀ (s' : ByteArray) (k0 f' : Nat) (r : List UInt8), s'.data.toList.drop k0 = seg s k q ++ (hd ++ (List.replicate (j + 1) 93 ++ r)) → s'.size < k0 + f' → ∃ l p', listF s' (rv s') f' p k0 acc = .ok (l, k0 + (seg s k q).length + hd.length + (j + 1), p') ∧ p ≤ p' := by
  intro f
  induction f with
  | zero => intro p k acc q h hf hp hk; omega
  | succ f ih =>
    intro p k acc q h hf hp hk
    have stop : q = k → k ≤ q ∧ q ≤ s.size ∧ ∃ hd ∈ heads, ∃ j, j ≤ d ∧ (acc ≠ [] → ∃ c r, seg s k q ++ (hd ++ List.replicate (j + 1) 93) = c :: r ∧ digitI (c.toNat : Int) = false) ∧ (∀ pv o : Int, (scanL pv (o, false, 0) (seg s k q)).1 = o + j) ∧
        ∀ (s' : ByteArray) (k0 f' : Nat) (r : List UInt8), s'.data.toList.drop k0 = seg s k q ++ (hd ++ (List.replicate (j + 1) 93 ++ r)) → s'.size < k0 + f' → ∃ l p', listF s' (rv s') f' p k0 acc = .ok (l, k0 + (seg s k q).length + hd.length + (j + 1), p') ∧ p ≤ p' := by
      intro hq
      subst hq
      rw [seg_nil]
      refine ⟨Nat.le_refl _, hk, [], by decide, 0, Nat.zero_le _, fun _ => ⟨93, [], rfl, by decide⟩, fun pv o => by simp [scanL], ?_⟩
      intro s' k0 f' r h1 h2
      obtain ⟨a1, a2, _⟩ := rest_cons (show s'.data.toList.drop k0 = 93 :: r from h1)
      obtain ⟨f', rfl⟩ : ∃ m, f' = m + 1 := ⟨f' - 1, by omega⟩
      exact ⟨acc, p, by rw [listF, if_pos a1, if_pos (by rw [a2]; decide)]; rfl, Nat.le_refl _⟩
    rw [listF] at h
    split at h
    · rename_i hlt
      split at h
      · cases h
      · rename_i c93
        split at h
        · injection h with h; exact stop h.symm
        · rename_i hp5
          split at h
          · injection h with h; exact stop h.symm
          · rename_i hc
            -- where the element begins
            obtain ⟨ke, sp, hke, hkle, hske, hsp, hsc, hscan, hcomp⟩ : ∃ (ke : Nat) (sp : List UInt8), (if acc = [] then k else k + 1) = ke ∧ k ≤ ke ∧ ke ≤ s.size ∧ (acc ≠ [] → sp = [32]) ∧ (∀ q, ke ≤ q → q ≤ s.size → seg s k q = sp ++ seg s ke q) ∧
                (∀ (pv o : Int) (l : List UInt8), scanL pv (o, false, 0) (sp ++ l) = scanL pv (o, false, 0) l) ∧
                (∀ (s' : ByteArray) (k0 f' : Nat) (rest : List UInt8), s'.data.toList.drop k0 = sp ++ rest → s'.size < k0 + f' → (∃ c r, rest = c :: r ∧ ¬ (c.toNat : Int) = 93) →
                  ∃ g, f' = g + 1 ∧ listF s' (rv s') f' p k0 acc = nextL s' (rv s') g acc (rv s' p (k0 + sp.length))) := by
              by_cases ha : acc = []
              · subst ha
                refine ⟨k, [], by rw [if_pos rfl], Nat.le_refl _, hk, fun h => absurd rfl h, fun q _ _ => rfl, fun _ _ _ => rfl, ?_⟩
                intro s' k0 f' rest h1 h2 ⟨c, r, e, hc93⟩
                subst e
                obtain ⟨a1, a2, _⟩ := rest_cons (show s'.data.toList.drop k0 = c :: r from h1)
                obtain ⟨f', rfl⟩ : ∃ m, f' = m + 1 := ⟨f' - 1, by omega⟩
                refine ⟨f', rfl, ?_⟩
                rw [listF, if_pos a1, if_neg (by rw [a2]; exact hc93), if_neg hp5, if_neg (by simp), if_pos rfl]
                show _ = nextL s' (rv s') f' [] (rv s' p k0)
                rcases rv s' p k0 with q | ⟨v, k', p'⟩ <;> rfl
              · have h32 : bAt s k = 32 := by
                  rcases Decidable.em (bAt s k = 32) with hx | hx
                  · exact hx
                  · exact absurd ⟨ha, hx⟩ hc
                refine ⟨k + 1, [32], by rw [if_neg ha], by omega, by omega, fun _ => rfl, fun q h1 h2 => by rw [seg_cons s k q (by omega) h2, h32]; rfl, fun pv o l => scanL_prev 32 pv o false l, ?_⟩
                intro s' k0 f' rest h1 h2 _
                obtain ⟨a1, a2, _⟩ := rest_cons (show s'.data.toList.drop k0 = 32 :: rest from h1)
                obtain ⟨f', rfl⟩ : ∃ m, f' = m + 1 := ⟨f' - 1, by omega⟩
                refine ⟨f', rfl, ?_⟩
                rw [listF, if_pos a1, if_neg (by rw [a2]; decide), if_neg hp5, if_neg (by rw [a2]; simp), if_neg ha]
                show _ = nextL s' (rv s') f' acc (rv s' p (k0 + 1))
                rcases rv s' p (k0 + 1) with q | ⟨v, k', p'⟩ <;> rfl
            rw [hke] at h
            split at h
            · rename_i q' hq
              injection h with h
              subst h
              have hG := hgo p ke q' hq (by omega) hske
              obtain ⟨hd, g3, j, g4, ⟨c, rr, ec, hc93⟩, g5, g6⟩ := hG.ex
              have g1 := hG.ge
              have g2 := hG.le
              have hseg := hsc q' g1 g2
              refine ⟨by omega, g2, hd, g3, j, g4, ?_, fun pv o => by rw [hseg, hscan]; exact g5 pv o, ?_⟩
              · intro ha
                rw [hseg, hsp ha]
                exact ⟨32, _, rfl, by decide⟩
              intro s' k0 f' r h1 h2
              rw [hseg, List.append_assoc] at h1
              have hrest : s'.data.toList.drop (k0 + sp.length) = seg s ke q' ++ (hd ++ (List.replicate j 93 ++ (93 :: r))) := by
                rw [rest_append h1, show List.replicate (j + 1) (93 : UInt8) = List.replicate j 93 ++ [93] by rw [List.replicate_succ']]
                simp
              obtain ⟨g, hg, hl⟩ := hcomp s' k0 f' _ h1 h2 ⟨c, rr ++ (List.replicate (j + 1) 93 ++ r), by rw [← List.append_assoc, ec]; rfl, hc93⟩
              have h93 : s'.data.toList.drop (k0 + sp.length + (seg s ke q').length + hd.length + j) = 93 :: r := by
                have := rest_append (rest_append (rest_append hrest))
                rw [List.length_replicate] at this
                exact this
              obtain ⟨v, p', hv, hpp⟩ := g6 s' _ _ hrest (noDigit_of (c := 93) h93 (by decide))
              rw [hl, hv]
              dsimp only [nextL]
              obtain ⟨a1, a2, _⟩ := rest_cons h93
              have hne : 1 ≤ (seg s ke q').length + hd.length := by
                have := congrArg List.length ec
                simp at this
                omega
              obtain ⟨g, rfl⟩ : ∃ m, g = m + 1 := ⟨g - 1, by omega⟩
              refine ⟨acc ++ [v], p', ?_, by omega⟩
              rw [listF, if_pos a1, if_pos (by rw [a2]; decide), hseg]
              congr 2
              simp
              omega
            · rename_i v k2 p2 hv
              obtain ⟨e1, e2, e3, e4, e5, e6, e7⟩ := hok _ _ _ _ _ hv (by omega) hske
              obtain ⟨g1, g2, hd, g3, j, g4, gn, g5, g6⟩ := ih _ _ _ _ h (by omega) e5 e2
              have hseg1 := hsc q (by omega) g2
              have hseg2 := seg_append s ke k2 q _ e1 hske e2 g1
              refine ⟨by omega, g2, hd, g3, j, g4, ?_, ?_, ?_⟩
              · intro ha
                rw [hseg1, hsp ha]
                exact ⟨32, _, rfl, by decide⟩
              · intro pv o
                rw [hseg1, hscan, hseg2, scanL_append _ o o false false _ _ (scan_text v _ _)]
                exact g5 pv o
              · intro s' k0 f' r h1 h2
                rw [hseg1, hseg2, List.append_assoc, List.append_assoc] at h1
                obtain ⟨c, rr, ec, hc1, hc2⟩ := textL_head e6
                have hrest := rest_append h1
                obtain ⟨g, hg, hl⟩ := hcomp s' k0 f' _ h1 h2 ⟨c, rr ++ (seg s k2 q ++ (hd ++ (List.replicate (j + 1) 93 ++ r))), by rw [ec]; rfl, fun hx => hc1 (UInt8.toNat_inj.1 (by simpa using (Int.ofNat.inj hx)))⟩
                have hnext := rest_append hrest
                -- no digit behind the element
                have hnd : NoDigit s' (k0 + sp.length + (textL v).length) := by
                  obtain ⟨c', r', ec', hc'⟩ := gn (by simp)
                  refine noDigit_of (c := c') (r := r' ++ r) ?_ hc'
                  rw [hnext, ← List.append_assoc hd, ← List.append_assoc, ec']
                  rfl
                rw [hl, hwr s' v p p2 _ _ e6 e7 (by omega) e5 hrest hnd]
                dsimp only [nextL]
                obtain ⟨l, p', hl', hpp⟩ := g6 s' _ g r hnext (by
                  have : 1 ≤ (textL v).length := by rw [ec]; simp
                  omega)
                rw [hl']
                refine ⟨l, p', ?_, by omega⟩
                rw [hseg1, hseg2]
                congr 2
                simp
                omega
    · injection h with h
      exact stop (by omega)
/-- What is asked of a reader of elements. -/
structure Elem (s : ByteArray) (d : Nat) (rv : ByteArray → Nat → Nat → Except Nat (V × Nat × Nat)) : Prop where
  ok : ReadOk s d (rv s)
  go : ∀ p k q, rv s p k = .error q → p < 512 → k ≤ s.size → Goes s d p k q rv
  wr : ∀ (s' : ByteArray) (v : V) (p p' k0 : Nat) (r : List UInt8), takeV v (512 - p) d = some (512 - p') → v.fits → p < 512 → p' ≤ 512 → s'.data.toList.drop k0 = textL v ++ r → NoDigit s' (k0 + (textL v).length) → rv s' p k0 = .ok (v, k0 + (textL v).length, p')
theorem headF_err (s : ByteArray) (d : Nat) (rvs : ByteArray → Option (Nat → Nat → Except Nat (V × Nat × Nat))) (hrec : (∀ s', rvs s' = none) ∨ (0 < d ∧ ∃ g : ByteArray → Nat → Nat → Except Nat (V × Nat × Nat), (∀ s', rvs s' = some (g s')) ∧ Elem s (d - 1) g))
    (p k q : Nat) (h : headF s (rvs s) p k = .error q) (hp : p < 512) (hk : k ≤ s.size) : Goes s d p k q (fun s' => headF s' (rvs s')) := by
  have stop : q = k → Goes s d p k q (fun s' => headF s' (rvs s')) := by
    intro hq
    subst hq
    refine ⟨Nat.le_refl _, hk, [95], by decide, 0, Nat.zero_le _, ?_, ?_, ?_⟩
    · rw [seg_nil]; exact ⟨95, [], rfl, by decide⟩
    · intro pv o; rw [seg_nil]; simp [scanL]
    · intro s' k0 r h1 h2
      rw [seg_nil] at h1 ⊢
      obtain ⟨a1, a2, _⟩ := rest_cons (show s'.data.toList.drop k0 = 95 :: r from h1)
      exact ⟨.nothing, p + 1, by rw [headF.eq_def, if_pos a1, if_pos (by rw [a2]; decide)]; rfl, by omega⟩
  -- the head and then a part of its own, with no bracket
  have tail : ∀ (c : UInt8) (hd : List UInt8), k < q → q ≤ s.size → (c.toNat : Int) = bAt s k → hd ∈ heads → ¬ (c.toNat : Int) = 93 → (∀ pv o : Int, (scanL pv (o, false, 0) (c :: seg s (k + 1) q)).1 = o) →
      (∀ (s' : ByteArray) (k0 : Nat) (r : List UInt8), k0 < s'.size → bAt s' k0 = bAt s k → s'.data.toList.drop (k0 + 1) = seg s (k + 1) q ++ (hd ++ r) → s'.data.toList.drop k0 = c :: (seg s (k + 1) q ++ (hd ++ r)) → NoDigit s' (k0 + 1 + (seg s (k + 1) q).length + hd.length) → ∃ v p', headF s' (rvs s') p k0 = .ok (v, k0 + 1 + (seg s (k + 1) q).length + hd.length, p') ∧ p < p') →
      Goes s d p k q (fun s' => headF s' (rvs s')) := by
    intro c hd h1 h2 hc h3 h4 h5 h6
    have hseg : seg s k q = c :: seg s (k + 1) q := by rw [seg_cons s k q h1 h2, ← hc, u8_nat]
    refine ⟨by omega, h2, hd, h3, 0, Nat.zero_le _, ?_, ?_, ?_⟩
    · rw [hseg]; exact ⟨c, _, rfl, h4⟩
    · intro pv o; rw [hseg, h5]; simp
    · intro s' k0 r g1 g2
      rw [hseg] at g1 g2 ⊢
      obtain ⟨a1, a2, a3⟩ := rest_cons (show s'.data.toList.drop k0 = c :: (seg s (k + 1) q ++ (hd ++ r)) from g1)
      have e : k0 + 1 + (seg s (k + 1) q).length + hd.length = k0 + (c :: seg s (k + 1) q).length + hd.length + 0 := by simp; omega
      obtain ⟨v, p', hv, hpp⟩ := h6 s' k0 r a1 (by rw [a2, hc]) a3 g1 (by rw [e]; exact g2)
      exact ⟨v, p', by rw [← e]; exact hv, hpp⟩
  rw [headF.eq_def] at h
  split at h
  · rename_i hlt
    split at h
    · cases h
    · rename_i c1
      split at h
      · rename_i c2
        split at h
        · rename_i q' hq
          injection h with h
          subst h
          obtain ⟨g1, g2, hd, g3, g4, g5⟩ := behindF_err s mostN (k + 1) q' (by decide) hq (by omega)
          refine tail 45 hd (by omega) g2 (by rw [c2]; rfl) g3 (by decide) (fun pv o => congrArg Prod.fst (g4 45 o)) ?_
          intro s' k0 r a1 a2 a3 _ hn
          obtain ⟨m, hm⟩ := g5 s' (k0 + 1) r a3 hn
          exact ⟨.number (-(m : Int)), p + 1, by rw [headF.eq_def, if_pos a1, a2, if_neg c1, if_pos c2, hm], by omega⟩
        · cases h
      · rename_i c2
        split at h
        · rename_i c3
          split at h
          · rename_i q' hq
            injection h with h
            subst h
            have hkq : k < q' := by
              rw [numLoop, if_pos ⟨hlt, c3⟩, if_neg (by simp)] at hq
              have := (seg_digits_scan s _ _ _ _ _ _ hq (by omega)).1
              omega
            obtain ⟨g1, g2, g0, g3, g4⟩ := seg_digits_scan s _ _ _ _ _ _ hq hk
            have c3' := (digitI_iff _).1 c3
            have hu : ((u8 (bAt s k)).toNat : Int) = bAt s k := u8_toNat _ (by omega) (by omega)
            have hseg := seg_cons s k q' hkq (by omega)
            refine tail (u8 (bAt s k)) [] hkq (by omega) hu (by decide) (by rw [hu]; omega) (fun pv o => congrArg Prod.fst (scan_plain _ _ _ (fun c hc => by rw [← hseg] at hc; have := g3 c hc; omega))) ?_
            intro s' k0 r a1 a2 a3 a4 hn
            have hlen : k0 + 1 + (seg s (k + 1) q').length + ([] : List UInt8).length = k0 + (seg s k q').length := by rw [hseg]; simp; omega
            rw [hlen] at hn ⊢
            obtain ⟨m, hm⟩ := g4 s' k0 (s'.size + 1) ([] ++ r) (by rw [a4, hseg]; rfl) (by omega) hn
            exact ⟨.number (m : Int), p + 1, by rw [headF.eq_def, if_pos a1, a2, if_neg c1, if_neg c2, if_pos c3, hm], by omega⟩
          · cases h
        · rename_i c3
          split at h
          · rename_i c4
            split at h
            · rename_i q' hq
              injection h with h
              subst h
              obtain ⟨g1, g2, hd, g3, g4, g5⟩ := behindF_err s mostP (k + 1) q' (by decide) hq (by omega)
              refine tail 35 hd (by omega) g2 (by rw [c4]; rfl) g3 (by decide) (fun pv o => congrArg Prod.fst (g4 35 o)) ?_
              intro s' k0 r a1 a2 a3 _ hn
              obtain ⟨m, hm⟩ := g5 s' (k0 + 1) r a3 hn
              exact ⟨.refer (m : Int), p + 1, by rw [headF.eq_def, if_pos a1, a2, if_neg c1, if_neg c2, if_neg c3, if_pos c4, hm], by omega⟩
            · cases h
          · rename_i c4
            split at h
            · rename_i c5
              split at h
              · rename_i q' hq
                injection h with h
                subst h
                unfold quotedF at hq
                rw [if_pos hlt, if_pos c5] at hq
                obtain ⟨g1, g2, hd, g3, g4, g5⟩ := qF_err s _ _ _ _ _ hq (by omega) (by omega)
                refine tail 34 hd (by omega) g2 (by rw [c5]; rfl) (qHeads_sub _ g3) (by decide) (fun pv o => g4 34 o) ?_
                intro s' k0 r a1 a2 a3 _ hn
                obtain ⟨b, hb⟩ := g5 s' (k0 + 1) (s'.size + 1) r a3 (by omega)
                refine ⟨.text ⟨b.toArray⟩, p + 1, ?_, by omega⟩
                rw [headF.eq_def, if_pos a1, a2, if_neg c1, if_neg c2, if_neg c3, if_neg c4, if_pos c5]
                unfold quotedF
                rw [if_pos a1, a2, if_pos c5, hb]
              · cases h
            · rename_i c5
              split at h
              · rename_i c6
                rcases hrec with hnone | ⟨hd0, g, hg, hel⟩
                · rw [hnone] at h
                  injection h with h
                  exact stop h.symm
                · rw [hg] at h
                  dsimp only at h
                  split at h
                  · rename_i q' hq
                    injection h with h
                    subst h
                    obtain ⟨g1, g2, hd, g3, j, g4, gn, g5, g6⟩ := listF_err s (d - 1) g hel.ok hel.go hel.wr _ _ _ _ _ hq (by omega) (by omega) (by omega)
                    have hseg : seg s k q' = 91 :: seg s (k + 1) q' := by rw [seg_cons s k q' (by omega) g2, c6]; rfl
                    refine ⟨by omega, g2, hd, g3, j + 1, by omega, ?_, ?_, ?_⟩
                    · rw [hseg]; exact ⟨91, _, rfl, by decide⟩
                    · intro pv o
                      rw [hseg]
                      show (scanL 91 (o + 1, false, 0) _).1 = _
                      rw [g5]
                      omega
                    · intro s' k0 r h1 h2
                      rw [hseg] at h1 ⊢
                      obtain ⟨a1, a2, a3⟩ := rest_cons (show s'.data.toList.drop k0 = 91 :: (seg s (k + 1) q' ++ (hd ++ (List.replicate (j + 1) 93 ++ r))) from h1)
                      obtain ⟨l, p', hl, hpp⟩ := g6 s' (k0 + 1) (s'.size + 1) r a3 (by omega)
                      refine ⟨.list l, p', ?_, by omega⟩
                      show headF s' (rvs s') p k0 = _
                      rw [headF.eq_def, if_pos a1, if_neg (by rw [a2]; decide), if_neg (by rw [a2]; decide), if_neg (by rw [a2]; decide), if_neg (by rw [a2]; decide), if_neg (by rw [a2]; decide), if_pos (by rw [a2]; decide), hg]
                      dsimp only
                      rw [hl]
                      dsimp only
                      congr 2
                      simp
                      omega
                  · cases h
              · injection h with h
                exact stop h.symm
  · injection h with h
    exact stop (by omega)
theorem valF_elem (s : ByteArray) : ∀ d, Elem s d (fun s' => valF s' d) := by
  have hwr : ∀ (d : Nat) (s' : ByteArray) (v : V) (p p' k0 : Nat) (r : List UInt8), takeV v (512 - p) d = some (512 - p') → v.fits → p < 512 → p' ≤ 512 → s'.data.toList.drop k0 = textL v ++ r → NoDigit s' (k0 + (textL v).length) → valF s' d p k0 = .ok (v, k0 + (textL v).length, p') := by
    intro d s' v p p' k0 r h1 h2 h3 h4 h5 h6
    have := read_text s' v (512 - p) d (512 - p') k0 r h1 h2 (by omega) h5 h6
    rw [show 512 - (512 - p) = p by omega, show 512 - (512 - p') = p' by omega] at this
    exact this
  intro d
  induction d with
  | zero => exact ⟨valF_ok s 0, fun p k q h hp hk => headF_err s 0 (fun _ => none) (.inl fun _ => rfl) p k q h hp hk, hwr 0⟩
  | succ d ih => exact ⟨valF_ok s (d + 1), fun p k q h hp hk => headF_err s (d + 1) (fun s' => some (valF s' d)) (.inr ⟨by omega, fun s' => valF s' d, fun _ => rfl, ih⟩) p k q h hp hk, hwr (d + 1)⟩
/-- Up to the place that is told a text can be gone on with: by a head and by closing what is open. -/
theorem readF_well (s : ByteArray) (h : (readF s).2.2 = 30) :
    ∃ hd ∈ heads, ∃ j : Nat, j ≤ 16 ∧ (scanL 0 (0, false, 0) (s.data.toList.take (readF s).2.1)).1 = (j : Int) ∧
      ∀ s' : ByteArray, s'.data.toList = s.data.toList.take (readF s).2.1 ++ (hd ++ List.replicate j 93) → (readF s').2.2 = 0 := by
  have hpl := readF_place s
  have hq : ∃ q, (readF s).2.1 = q := ⟨_, rfl⟩
  obtain ⟨q, hq⟩ := hq
  rw [hq] at hpl ⊢
  have hseg : seg s 0 q = s.data.toList.take q := rfl
  rw [← hseg]
  have fin : ∀ (s' : ByteArray) (v : V) (p' : Nat), valF s' 16 0 0 = .ok (v, s'.size, p') → (readF s').2.2 = 0 := by
    intro s' v p' hv
    unfold readF
    rw [hv]
    dsimp only
    rw [if_neg (by omega)]
  rcases (readF_err s q).1 ⟨h, hq⟩ with he | ⟨v, p, hv, hlt⟩
  · obtain ⟨hd, g3, j, g4, _, g5, g6⟩ := ((valF_elem s 16).go 0 0 q he (by omega) (by omega)).ex
    refine ⟨hd, g3, j, g4, by rw [g5]; omega, ?_⟩
    intro s' hs'
    have hsz : s'.size = 0 + (seg s 0 q).length + hd.length + j := by
      rw [← size_list, hs']
      simp
      omega
    obtain ⟨v, p', hv, _⟩ := g6 s' 0 [] (by rw [List.drop_zero, hs']; simp) (by rw [← hsz]; intro ⟨hh, _⟩; omega)
    rw [← hsz] at hv
    exact fin s' v p' hv
  · obtain ⟨e1, e2, e3, e4, e5, e6, e7⟩ := valF_ok s 16 0 0 v q p hv (by omega) (by omega)
    have hs0 : seg s 0 q = textL v := by
      have := seg_append s 0 q q _ e1 (by omega) e2 (Nat.le_refl _)
      rw [this, seg_nil, List.append_nil]
    refine ⟨[], by decide, 0, by omega, ?_, ?_⟩
    · rw [hs0, scan_text]; rfl
    · intro s' hs'
      have hsz : s'.size = 0 + (textL v).length := by
        rw [← size_list, hs', hs0]
        simp
      have := (valF_elem s 16).wr s' v 0 p 0 [] e6 e7 (by omega) e5 (by rw [List.drop_zero, hs', hs0]; simp) (by rw [← hsz]; intro ⟨hh, _⟩; omega)
      rw [← hsz] at this
      exact fin s' v p this
end Go.Proofs.YtmiipfdndgjndaaDoor
