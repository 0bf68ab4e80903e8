/- Up to the place that is told a text can be gone on with. -/
import Derived.Test.YtmiipfdndgjndaaDoorX5
namespace Go.Proofs.YtmiipfdndgjndaaDoor
/-- What the law's own look at a text holds: how many lists are open; within a quoted form; how many bytes of an escape come. -/
def scanB (st : Int × Bool × Nat) (prev c : Int) : Int × Bool × Nat :=
  if 0 < st.2.2 then (st.1, st.2.1, if st.2.2 - 1 = 0 ∧ c = 120 ∧ prev = 92 then 2 else st.2.2 - 1)
  else if st.2.1 = true ∧ c = 92 then (st.1, st.2.1, 1)
  else if c = 34 then (st.1, !st.2.1, 0)
  else if st.2.1 = false ∧ c = 91 then (st.1 + 1, st.2.1, 0)
  else if st.2.1 = false ∧ c = 93 then (st.1 - 1, st.2.1, 0)
  else (st.1, st.2.1, 0)
def scanL (prev : Int) (st : Int × Bool × Nat) : List UInt8 → Int × Bool × Nat
  | [] => st
  | c :: l => scanL (c.toNat : Int) (scanB st prev (c.toNat : Int)) l
theorem scanL_prev (p p' o : Int) (i : Bool) (l : List UInt8) : scanL p (o, i, 0) l = scanL p' (o, i, 0) l := by
  cases l with
  | nil => rfl
  | cons c l => rfl
theorem scanL_append (p o o' : Int) (i i' : Bool) (a b : List UInt8) (h : scanL p (o, i, 0) a = (o', i', 0)) : scanL p (o, i, 0) (a ++ b) = scanL p (o', i', 0) b := by
  have : ∀ (a : List UInt8) (p : Int) (st : Int × Bool × Nat), scanL p st a = (o', i', 0) → scanL p st (a ++ b) = scanL p (o', i', 0) b := by
    intro a
    induction a with
    | nil => intro p st h; rw [← h]; rfl
    | cons c a ih =>
      intro p st h
      show scanL _ _ (a ++ b) = _
      rw [ih _ _ h]
      exact scanL_prev _ _ _ _ _
  exact this a p _ h
def scanFact (n : Nat) : Bool := (List.all [(true : Bool)] fun i => scanL 0 (0, i, 0) (quoteI (n : Int)) == (0, i, 0))
theorem scanFacts : ((List.range 256).all scanFact) = true := by decide +kernel
theorem scanL_shift (o d : Int) (l : List UInt8) : ∀ (p : Int) (i : Bool) (e : Nat), scanL p (o + d, i, e) l = ((scanL p (o, i, e) l).1 + d, (scanL p (o, i, e) l).2) := by
  induction l generalizing o with
  | nil => intro p i e; rfl
  | cons c l ih =>
    intro p i e
    have hb : scanB (o + d, i, e) p (c.toNat : Int) = ((scanB (o, i, e) p (c.toNat : Int)).1 + d, (scanB (o, i, e) p (c.toNat : Int)).2) := by
      unfold scanB
      dsimp only
      repeat' split
      all_goals first
        | rfl
        | (refine Prod.ext ?_ rfl; dsimp only; omega)
    show scanL _ (scanB (o + d, i, e) p _) l = ((scanL _ (scanB (o, i, e) p _) l).1 + d, (scanL _ (scanB (o, i, e) p _) l).2)
    rw [hb]
    generalize scanB (o, i, e) p (c.toNat : Int) = st
    obtain ⟨o2, i2, e2⟩ := st
    exact ih o2 _ i2 e2
theorem scan_quoteI (c : UInt8) (p o : Int) : scanL p (o, true, 0) (quoteI (c.toNat : Int)) = (o, true, 0) := by
  have h := List.all_eq_true.1 scanFacts c.toNat (List.mem_range.2 c.toNat_lt)
  simp only [scanFact, List.all_cons, List.all_nil, Bool.and_true, beq_iff_eq] at h
  have := scanL_shift 0 o (quoteI (c.toNat : Int)) p true 0
  rw [scanL_prev p 0 0, h] at this
  simpa using this
theorem scan_quoteM (p o : Int) (l : List UInt8) : scanL p (o, true, 0) (quoteM l) = (o, true, 0) := by
  induction l with
  | nil => rfl
  | cons c l ih => rw [quoteM_cons, scanL_append p o o true true _ _ (scan_quoteI c p o), ih]
theorem scan_quoteL (p o : Int) (l : List UInt8) : scanL p (o, false, 0) (quoteL l) = (o, false, 0) := by
  show scanL 34 (o, true, 0) (quoteM l ++ [34]) = _
  rw [scanL_append _ o o true true _ _ (scan_quoteM _ _ _)]
  rfl
theorem scan_plain (p o : Int) (l : List UInt8) (h : ∀ c ∈ l, (c.toNat : Int) ≠ 34 ∧ (c.toNat : Int) ≠ 91 ∧ (c.toNat : Int) ≠ 93) : scanL p (o, false, 0) l = (o, false, 0) := by
  induction l generalizing p with
  | nil => rfl
  | cons c l ih =>
    obtain ⟨h1, h2, h3⟩ := h c (by simp)
    have hb : scanB (o, false, 0) p (c.toNat : Int) = (o, false, 0) := by
      unfold scanB
      dsimp only
      rw [if_neg (by omega), if_neg (by simp), if_neg h1, if_neg (by simp [h2]), if_neg (by simp [h3])]
    show scanL _ (scanB (o, false, 0) p _) l = _
    rw [hb]
    exact ih _ (fun c hc => h c (by simp [hc]))
theorem decDigits_all (u : Nat) : ∀ c ∈ Lib.decDigits u, 48 ≤ (c.toNat : Int) ∧ (c.toNat : Int) ≤ 57 := by
  induction u using Nat.strongRecOn with
  | _ u ih =>
    intro c hc
    rw [Lib.decDigits] at hc
    split at hc
    · rename_i hu
      rw [List.mem_singleton] at hc
      subst hc
      rw [dig_digit u hu]
      omega
    · simp only [List.mem_append, List.mem_singleton] at hc
      rcases hc with hc | hc
      · exact ih _ (by omega) c hc
      · subst hc
        rw [dig_digit (u % 10) (by omega)]
        omega
theorem itoa_all (n : Int) : ∀ c ∈ Lib.itoa n, (c.toNat : Int) ≠ 34 ∧ (c.toNat : Int) ≠ 91 ∧ (c.toNat : Int) ≠ 93 := by
  intro c hc
  unfold Lib.itoa at hc
  split at hc
  · simp only [List.mem_cons] at hc
    rcases hc with hc | hc
    · subst hc; decide
    · have := decDigits_all _ c hc
      omega
  · have := decDigits_all _ c hc
    omega
mutual
theorem scan_text : (v : V) → ∀ (p o : Int), scanL p (o, false, 0) (textL v) = (o, false, 0)
  | .mk k n s l r => by
    intro p o
    rw [textL]
    split
    · exact scan_plain _ _ _ (itoa_all n)
    · split
      · exact scan_quoteL _ _ _
      · split
        · exact scan_plain _ _ _ (fun c hc => by
            simp only [List.mem_cons] at hc
            rcases hc with hc | hc
            · subst hc; decide
            · exact itoa_all r c hc)
        · split
          · show scanL 91 (o + 1, false, 0) (rowL true l ++ [93]) = _
            rw [scanL_append _ (o + 1) (o + 1) false false _ _ (scan_row l true _ _)]
            show (o + 1 - 1, false, 0) = _
            rw [Int.add_sub_cancel]
          · rfl
theorem scan_row : (l : List V) → ∀ (b : Bool) (p o : Int), scanL p (o, false, 0) (rowL b l) = (o, false, 0)
  | [] => by intro b p o; rfl
  | v :: l => by
    intro b p o
    rw [rowL]
    cases b with
    | true =>
      show scanL p (o, false, 0) (textL v ++ rowL false l) = _
      rw [scanL_append _ o o false false _ _ (scan_text v _ _)]
      exact scan_row l false _ _
    | false =>
      show scanL 32 (o, false, 0) (textL v ++ rowL false l) = _
      rw [scanL_append _ o o false false _ _ (scan_text v _ _)]
      exact scan_row l false _ _
end
/-- What lies between two places. -/
def seg (s : ByteArray) (k q : Nat) : List UInt8 := (s.data.toList.drop k).take (q - k)
theorem seg_nil (s : ByteArray) (k : Nat) : seg s k k = [] := by simp [seg]
theorem seg_cons (s : ByteArray) (k q : Nat) (h : k < q) (hq : q ≤ s.size) : seg s k q = u8 (bAt s k) :: seg s (k + 1) q := by
  unfold seg
  rw [rest_at (by omega), show q - k = q - (k + 1) + 1 by omega, List.take_succ_cons]
theorem seg_append (s : ByteArray) (k k' q : Nat) (a : List UInt8) (h : s.data.toList.drop k = a ++ s.data.toList.drop k') (hk : k ≤ s.size) (hk' : k' ≤ s.size) (hq : k' ≤ q) : seg s k q = a ++ seg s k' q := by
  have := rest_lt h hk hk'
  unfold seg
  rw [h, List.take_append, show q - k - a.length = q - k' by omega, List.take_of_length_le (by omega)]
theorem seg_len (s : ByteArray) (k q : Nat) (h : k ≤ q) (hq : q ≤ s.size) : (seg s k q).length = q - k := by
  unfold seg
  rw [List.length_take, List.length_drop, size_list]
  omega
def qHeads : List (List UInt8) := [[34], [48, 34], [48, 48, 34], [102, 34], [110, 34]]
def heads : List (List UInt8) := [[], [95], [49], [34], [48, 34], [48, 48, 34], [102, 34], [110, 34], [120, 48, 48, 34]]
theorem qHeads_sub : ∀ h ∈ qHeads, h ∈ heads := by decide
/-- A backslash with what may stand behind it is read. -/
theorem qF_escape (s : ByteArray) (full : Nat → Bool) (f k : Nat) (b : List UInt8) (h1 : k < s.size) (h2 : bAt s k = 92) (h3 : full b.length = false) : qF s full (f + 1) k b = (match escF s (k + 1) with | .error q => .error q | .ok (x, k') => qF s full f k' (b ++ [u8 x])) := by
  rw [qF, if_pos h1, if_neg (by rw [h2]; decide), h3, if_neg (by simp), if_neg (by rw [h2]; decide), if_neg (by rw [h2]; decide), if_pos h2]
  rcases escF s (k + 1) with q | ⟨x, k'⟩ <;> rfl
theorem qF_close (s : ByteArray) (full : Nat → Bool) (f k : Nat) (b r : List UInt8) (h : s.data.toList.drop k = 34 :: r) (hf : s.size < k + f) : qF s full f k b = .ok (b, k + 1) := by
  obtain ⟨a1, a2, _⟩ := rest_cons h
  obtain ⟨f, rfl⟩ : ∃ m, f = m + 1 := ⟨f - 1, by omega⟩
  rw [qF, if_pos a1, if_pos (by rw [a2]; decide)]
theorem escF_n (s : ByteArray) (k : Nat) (r : List UInt8) (h : s.data.toList.drop k = 110 :: r) : escF s k = .ok (10, k + 1) := by
  obtain ⟨a1, a2, _⟩ := rest_cons h
  rw [escF, if_pos a1, if_neg (by rw [a2]; decide), if_pos (by rw [a2]; decide)]
theorem escF_x (s : ByteArray) (k : Nat) (a b : UInt8) (r : List UInt8) (v l : Nat) (h : s.data.toList.drop k = 120 :: a :: b :: r) (hv : hexI (a.toNat : Int) = some v) (hl : hexI (b.toNat : Int) = some l) (h1 : ¬ (2 ≤ v ∧ v ≤ 6)) (h2 : ¬ (v = 0 ∧ l = 10 ∨ v = 7 ∧ l ≠ 15)) :
    escF s k = .ok (((16 * v + l : Nat) : Int), k + 3) := by
  obtain ⟨a1, a2, a3⟩ := rest_cons h
  obtain ⟨b1, b2, b3⟩ := rest_cons a3
  obtain ⟨c1, c2, c3⟩ := rest_cons b3
  rw [escF, if_pos a1, if_neg (by rw [a2]; decide), if_neg (by rw [a2]; decide), if_pos (by rw [a2]; decide), if_pos b1, b2, hv]
  dsimp only
  rw [if_neg h1, if_pos c1, c2, hl]
  dsimp only
  rw [if_neg h2]
/-- Of an escape that goes wrong: what is well of it, and how it is gone on with. -/
theorem escF_err (s : ByteArray) (k q : Nat) (h : escF s (k + 1) = .error q) (hk : k < s.size) (h92 : bAt s k = 92) :
    k < q ∧ q ≤ s.size ∧ ∃ hd ∈ qHeads, (∀ p o : Int, (scanL p (o, true, 0) (seg s k q)).1 = o) ∧
    ∀ (s' : ByteArray) (k0 f' : Nat) (b r : List UInt8) (full : Nat → Bool), s'.data.toList.drop k0 = seg s k q ++ (hd ++ r) → s'.size < k0 + f' → full b.length = false → ∃ b', qF s' full f' k0 b = .ok (b', k0 + (seg s k q).length + hd.length) := by
  have hg := (escF_ge s (k + 1) (by omega))
  rw [h] at hg
  simp only [place2] at hg
  -- one byte alone
  have one : q = k + 1 → k < q ∧ q ≤ s.size ∧ ∃ hd ∈ qHeads, (∀ p o : Int, (scanL p (o, true, 0) (seg s k q)).1 = o) ∧
      ∀ (s' : ByteArray) (k0 f' : Nat) (b r : List UInt8) (full : Nat → Bool), s'.data.toList.drop k0 = seg s k q ++ (hd ++ r) → s'.size < k0 + f' → full b.length = false → ∃ b', qF s' full f' k0 b = .ok (b', k0 + (seg s k q).length + hd.length) := by
    intro hq
    subst hq
    have hs : seg s k (k + 1) = [92] := by rw [seg_cons s k _ (by omega) hg.2, seg_nil, h92]; rfl
    rw [hs]
    refine ⟨by omega, hg.2, [110, 34], by decide, fun p o => rfl, ?_⟩
    intro s' k0 f' b r full hd hf hfull
    obtain ⟨a1, a2, a3⟩ := rest_cons (show s'.data.toList.drop k0 = 92 :: (110 :: 34 :: r) from hd)
    obtain ⟨b1, b2, b3⟩ := rest_cons a3
    obtain ⟨f', rfl⟩ : ∃ m, f' = m + 1 := ⟨f' - 1, by omega⟩
    rw [qF_escape s' full f' k0 b a1 (by rw [a2]; decide) hfull, escF_n s' _ _ a3]
    dsimp only
    rw [qF_close s' full f' (k0 + 1 + 1) _ r b3 (by omega)]
    exact ⟨_, rfl⟩
  unfold escF at h
  split at h
  · rename_i k1
    split at h
    · cases h
    · split at h
      · cases h
      · split at h
        · rename_i c120
          have h120 : seg s k q = 92 :: seg s (k + 1) q := by rw [seg_cons s k q (by omega) hg.2, h92]; rfl
          -- two bytes alone
          have two : q = k + 1 + 1 → k < q ∧ q ≤ s.size ∧ ∃ hd ∈ qHeads, (∀ p o : Int, (scanL p (o, true, 0) (seg s k q)).1 = o) ∧
              ∀ (s' : ByteArray) (k0 f' : Nat) (b r : List UInt8) (full : Nat → Bool), s'.data.toList.drop k0 = seg s k q ++ (hd ++ r) → s'.size < k0 + f' → full b.length = false → ∃ b', qF s' full f' k0 b = .ok (b', k0 + (seg s k q).length + hd.length) := by
            intro hq
            subst hq
            have hs : seg s k (k + 1 + 1) = [92, 120] := by rw [h120, seg_cons s (k + 1) _ (by omega) hg.2, seg_nil, c120]; rfl
            rw [hs]
            refine ⟨by omega, hg.2, [48, 48, 34], by decide, fun p o => rfl, ?_⟩
            intro s' k0 f' b r full hd hf hfull
            obtain ⟨a1, a2, a3⟩ := rest_cons (show s'.data.toList.drop k0 = 92 :: (120 :: 48 :: 48 :: 34 :: r) from hd)
            obtain ⟨f', rfl⟩ : ∃ m, f' = m + 1 := ⟨f' - 1, by omega⟩
            rw [qF_escape s' full f' k0 b a1 (by rw [a2]; decide) hfull, escF_x s' _ 48 48 _ 0 0 a3 (by decide) (by decide) (by decide) (by decide)]
            dsimp only
            rw [qF_close s' full f' (k0 + 1 + 3) _ r (by rw [← List.drop_drop, a3]; rfl) (by omega)]
            exact ⟨_, rfl⟩
          split at h
          · rename_i k2
            split at h
            · injection h with h
              exact two h.symm
            · rename_i v hv
              split at h
              · injection h with h
                exact two h.symm
              · rename_i hv26
                have v16 := hexI_lt _ v hv
                have ev := hexI_only _ v hv
                obtain ⟨x0, x1⟩ := bAt_range s (k + 1 + 1)
                -- three bytes
                have three : q = k + 1 + 2 → k < q ∧ q ≤ s.size ∧ ∃ hd ∈ qHeads, (∀ p o : Int, (scanL p (o, true, 0) (seg s k q)).1 = o) ∧
                    ∀ (s' : ByteArray) (k0 f' : Nat) (b r : List UInt8) (full : Nat → Bool), s'.data.toList.drop k0 = seg s k q ++ (hd ++ r) → s'.size < k0 + f' → full b.length = false → ∃ b', qF s' full f' k0 b = .ok (b', k0 + (seg s k q).length + hd.length) := by
                  intro hq
                  subst hq
                  have hs : seg s k (k + 1 + 2) = [92, 120, u8 (bAt s (k + 1 + 1))] := by rw [h120, seg_cons s (k + 1) _ (by omega) hg.2, seg_cons s (k + 1 + 1) _ (by omega) hg.2, seg_nil, c120]; rfl
                  rw [hs]
                  have hv' : hexI ((u8 (bAt s (k + 1 + 1))).toNat : Int) = some v := by rw [u8_toNat _ x0 x1]; exact hv
                  by_cases h7 : v = 7
                  · refine ⟨by omega, hg.2, [102, 34], by decide, fun p o => rfl, ?_⟩
                    intro s' k0 f' b r full hd hf hfull
                    obtain ⟨a1, a2, a3⟩ := rest_cons (show s'.data.toList.drop k0 = 92 :: (120 :: u8 (bAt s (k + 1 + 1)) :: 102 :: 34 :: r) from hd)
                    obtain ⟨f', rfl⟩ : ∃ m, f' = m + 1 := ⟨f' - 1, by omega⟩
                    rw [qF_escape s' full f' k0 b a1 (by rw [a2]; decide) hfull, escF_x s' _ _ 102 _ v 15 a3 hv' (by decide) hv26 (by omega)]
                    dsimp only
                    rw [qF_close s' full f' (k0 + 1 + 3) _ r (by rw [← List.drop_drop, a3]; rfl) (by omega)]
                    exact ⟨_, rfl⟩
                  · refine ⟨by omega, hg.2, [48, 34], by decide, fun p o => rfl, ?_⟩
                    intro s' k0 f' b r full hd hf hfull
                    obtain ⟨a1, a2, a3⟩ := rest_cons (show s'.data.toList.drop k0 = 92 :: (120 :: u8 (bAt s (k + 1 + 1)) :: 48 :: 34 :: r) from hd)
                    obtain ⟨f', rfl⟩ : ∃ m, f' = m + 1 := ⟨f' - 1, by omega⟩
                    rw [qF_escape s' full f' k0 b a1 (by rw [a2]; decide) hfull, escF_x s' _ _ 48 _ v 0 a3 hv' (by decide) hv26 (by omega)]
                    dsimp only
                    rw [qF_close s' full f' (k0 + 1 + 3) _ r (by rw [← List.drop_drop, a3]; rfl) (by omega)]
                    exact ⟨_, rfl⟩
                split at h
                · rename_i k3
                  split at h
                  · injection h with h
                    exact three h.symm
                  · split at h
                    · injection h with h
                      exact three h.symm
                    · cases h
                · injection h with h
                  exact three (by omega)
          · injection h with h
            exact two (by omega)
        · injection h with h
          exact one h.symm
  · injection h with h
    exact one (by omega)
theorem qF_err (s : ByteArray) (full : Nat → Bool) : ∀ (f k : Nat) (b : List UInt8) (q : Nat), qF s full f k b = .error q → s.size < k + f → k ≤ s.size →
    k ≤ q ∧ q ≤ s.size ∧ ∃ hd ∈ qHeads, (∀ p o : Int, (scanL p (o, true, 0) (seg s k q)).1 = o) ∧
    ∀ (s' : ByteArray) (k0 f' : Nat) (r : List UInt8), s'.data.toList.drop k0 = seg s k q ++ (hd ++ r) → s'.size < k0 + f' → ∃ b', qF s' full f' k0 b = .ok (b', k0 + (seg s k q).length + hd.length) := by
  intro f
  induction f with
  | zero => intro k b q h hf hk; omega
  | succ f ih =>
    intro k b q h hf hk
    -- nothing more
    have stop : q = k → k ≤ q ∧ q ≤ s.size ∧ ∃ hd ∈ qHeads, (∀ p o : Int, (scanL p (o, true, 0) (seg s k q)).1 = o) ∧
        ∀ (s' : ByteArray) (k0 f' : Nat) (r : List UInt8), s'.data.toList.drop k0 = seg s k q ++ (hd ++ r) → s'.size < k0 + f' → ∃ b', qF s' full f' k0 b = .ok (b', k0 + (seg s k q).length + hd.length) := by
      intro hq
      subst hq
      rw [seg_nil]
      refine ⟨Nat.le_refl _, hk, [34], by decide, fun p o => rfl, ?_⟩
      intro s' k0 f' r hd hf'
      exact ⟨b, qF_close s' full f' k0 b r hd hf'⟩
    rw [qF] at h
    split at h
    · rename_i hlt
      split at h
      · cases h
      · rename_i c1
        split at h
        · injection h with h; exact stop h.symm
        · rename_i c2
          have c2' : full b.length = false := by simpa using c2
          split at h
          · injection h with h; exact stop h.symm
          · rename_i c3
            split at h
            · injection h with h; exact stop h.symm
            · rename_i c4
              split at h
              · rename_i c5
                split at h
                · rename_i q' hE
                  injection h with h
                  subst h
                  obtain ⟨g1, g2, hd, g3, g4, g5⟩ := escF_err s k q' hE hlt c5
                  exact ⟨by omega, g2, hd, g3, g4, fun s' k0 f' r h1 h2 => g5 s' k0 f' b r full h1 h2 c2'⟩
                · rename_i x k2 hE
                  obtain ⟨x0, x1, x2, x3⟩ := escF_ok s _ x k2 hE
                  obtain ⟨g1, g2, hd, g3, g4, g5⟩ := ih _ _ _ h (by omega) x3
                  have hinv := escF_inv s k x k2 hE hlt c5
                  have hseg := seg_append s k k2 q _ hinv hk x3 g1
                  have hx : quoteI x = quoteI ((u8 x).toNat : Int) := by rw [u8_toNat x x0 x1]
                  refine ⟨by omega, g2, hd, g3, ?_, ?_⟩
                  · intro p o
                    rw [hseg, hx, scanL_append p o o true true _ _ (scan_quoteI _ p o)]
                    exact g4 p o
                  · intro s' k0 f' r h1 h2
                    obtain ⟨f', rfl⟩ : ∃ m, f' = m + 1 := ⟨f' - 1, by
                      have : k0 < s'.size := by
                        rcases Nat.lt_or_ge k0 s'.size with hh | hh
                        · exact hh
                        · rw [List.drop_eq_nil_of_le (by rw [size_list]; exact hh), hseg] at h1
                          have := congrArg List.length h1
                          have hne : 1 ≤ (quoteI x).length := by unfold quoteI; repeat' split
                                                                 all_goals simp
                          simp at this
                          omega
                      omega⟩
                    rw [hseg, List.append_assoc, hx] at h1
                    rcases escF_quote s' k0 (u8 x) _ h1 with ⟨q1, q2, q3, q4, q5, q6, q7⟩ | ⟨q2, q3, q4⟩
                    · exfalso
                      -- what stands for itself is not behind a backslash
                      rw [hx, q1] at hinv
                      obtain ⟨_, e2, _⟩ := rest_cons hinv
                      rw [c5] at e2
                      rw [q3] at q5
                      exact q5 e2.symm
                    · rw [qF_escape s' full f' k0 b q2 q3 c2', q4]
                      dsimp only
                      rw [u8_nat]
                      obtain ⟨b', hb'⟩ := g5 s' (k0 + (quoteI ((u8 x).toNat : Int)).length) f' r (rest_append h1) (by
                        have : 1 ≤ (quoteI ((u8 x).toNat : Int)).length := by unfold quoteI; repeat' split
                                                                              all_goals simp
                        omega)
                      rw [hb', hseg, hx]
                      exact ⟨b', by congr 2; simp; omega⟩
              · rename_i c5
                obtain ⟨x0, x1⟩ := bAt_range s k
                obtain ⟨g1, g2, hd, g3, g4, g5⟩ := ih _ _ _ h (by omega) (by omega)
                have hseg := seg_cons s k q (by omega) g2
                refine ⟨by omega, g2, hd, g3, ?_, ?_⟩
                · intro p o
                  have hb : scanB (o, true, 0) p ((u8 (bAt s k)).toNat : Int) = (o, true, 0) := by
                    rw [u8_toNat _ x0 x1]
                    unfold scanB
                    dsimp only
                    rw [if_neg (by omega), if_neg (by simp [c5]), if_neg c1, if_neg (by simp), if_neg (by simp)]
                  rw [hseg]
                  show (scanL _ (scanB (o, true, 0) p _) _).1 = o
                  rw [hb]
                  exact g4 _ o
                · intro s' k0 f' r h1 h2
                  rw [hseg] at h1
                  obtain ⟨a1, a2, a3⟩ := rest_cons (show s'.data.toList.drop k0 = u8 (bAt s k) :: (seg s (k + 1) q ++ (hd ++ r)) from h1)
                  rw [u8_toNat _ x0 x1] at a2
                  obtain ⟨f', rfl⟩ : ∃ m, f' = m + 1 := ⟨f' - 1, by omega⟩
                  obtain ⟨b', hb'⟩ := g5 s' (k0 + 1) f' r a3 (by omega)
                  rw [qF, if_pos a1, a2, if_neg c1, c2', if_neg (by simp), if_neg c3, if_neg c4, if_neg c5, hb', hseg]
                  exact ⟨b', by congr 2; simp; omega⟩
    · injection h with h
      exact stop (by omega)
end Go.Proofs.YtmiipfdndgjndaaDoor
