/- The readers look no further than the place that they tell. -/
import Derived.Test.YtmiipfdndgjndaaDoorX4
namespace Go.Proofs.YtmiipfdndgjndaaDoor
/-- Two texts are the same up to a place that both have, and at it. -/
structure Same (s s' : ByteArray) (q : Nat) : Prop where
  lt : q < s.size
  lt' : q < s'.size
  eq : ∀ i, i ≤ q → bAt s' i = bAt s i
theorem Same.mono {s s' : ByteArray} {q k : Nat} (h : Same s s' q) (hk : k ≤ q) : Same s s' k :=
  ⟨by have := h.lt; omega, by have := h.lt'; omega, fun i hi => h.eq i (by omega)⟩
def place2 {α : Type} : Except Nat (α × Nat) → Nat | .ok (_, k) => k | .error q => q
def place3 {α : Type} : Except Nat (α × Nat × Nat) → Nat | .ok (_, k, _) => k | .error q => q
theorem numLoop_ge (s : ByteArray) (most : Nat) : ∀ (f : Nat) (b : Bool) (n k : Nat), k ≤ s.size → k ≤ place2 (numLoop s most f b n k) ∧ place2 (numLoop s most f b n k) ≤ s.size := by
  intro f
  induction f with
  | zero => intro b n k h; exact ⟨Nat.le_refl _, h⟩
  | succ f ih =>
    intro b n k h
    rw [numLoop]
    split
    · rename_i hd
      split
      · exact ⟨Nat.le_refl _, h⟩
      · have := ih true (n * 10 + (bAt s k - 48).toNat) (k + 1) (by omega)
        omega
    · exact ⟨Nat.le_refl _, h⟩
theorem numLoop_loc (s s' : ByteArray) (most : Nat) : ∀ (f f' : Nat) (b : Bool) (n k : Nat), s.size < k + f → s'.size < k + f' → Same s s' (place2 (numLoop s most f b n k)) → numLoop s' most f' b n k = numLoop s most f b n k := by
  intro f
  induction f with
  | zero =>
    intro f' b n k h1 h2 hs
    have := hs.lt
    rw [numLoop] at this
    simp [place2] at this
    omega
  | succ f ih =>
    intro f' b n k h1 h2 hs
    rcases Nat.lt_or_ge s.size k with hk | hk
    · have := hs.lt
      rw [numLoop_stop s most _ b n k (by omega)] at this
      simp [place2] at this
      omega
    have hge := (numLoop_ge s most (f + 1) b n k hk).1
    have hsk := hs.mono hge
    obtain ⟨f', rfl⟩ : ∃ m, f' = m + 1 := ⟨f' - 1, by have := hsk.lt'; omega⟩
    rw [numLoop] at hs ⊢
    rw [numLoop, hsk.eq k (Nat.le_refl _)]
    have hc : (k < s'.size ∧ digitI (bAt s k) = true) ↔ (k < s.size ∧ digitI (bAt s k) = true) := by
      have := hsk.lt; have := hsk.lt'
      constructor <;> intro h <;> exact ⟨by omega, h.2⟩
    by_cases hd : k < s.size ∧ digitI (bAt s k) = true
    · rw [if_pos hd] at hs ⊢
      rw [if_pos (hc.2 hd)]
      split
      · rfl
      · rename_i hb
        rw [if_neg hb] at hs
        exact ih f' true _ (k + 1) (by omega) (by omega) hs
    · rw [if_neg hd, if_neg (fun h => hd (hc.1 h))]
theorem behindF_ge (s : ByteArray) (most k : Nat) (hk : k ≤ s.size) : k ≤ place2 (behindF s most k) ∧ place2 (behindF s most k) ≤ s.size := by
  unfold behindF
  split
  · split
    · exact numLoop_ge s most _ _ _ _ hk
    · exact ⟨Nat.le_refl _, hk⟩
  · exact ⟨hk, Nat.le_refl _⟩
theorem behindF_loc (s s' : ByteArray) (most k : Nat) (hk : k ≤ s.size) (hs : Same s s' (place2 (behindF s most k))) : behindF s' most k = behindF s most k := by
  have hsk := hs.mono (behindF_ge s most k hk).1
  have h1 := hsk.lt
  have h2 := hsk.lt'
  unfold behindF at hs ⊢
  rw [if_pos h1] at hs ⊢
  rw [if_pos h2, hsk.eq k (Nat.le_refl _)]
  split
  · rename_i hd
    rw [if_pos hd] at hs
    exact numLoop_loc s s' most _ _ _ _ _ (by omega) (by omega) hs
  · rfl
theorem escF_ge (s : ByteArray) (k : Nat) (hk : k ≤ s.size) : k ≤ place2 (escF s k) ∧ place2 (escF s k) ≤ s.size := by
  unfold escF
  repeat' split
  all_goals simp only [place2]
  all_goals omega
theorem escF_loc (s s' : ByteArray) (k : Nat) (hk : k ≤ s.size) (hs : Same s s' (place2 (escF s k))) : escF s' k = escF s k := by
  have hsk := hs.mono (escF_ge s k hk).1
  have h1 := hsk.lt
  have h2 := hsk.lt'
  unfold escF at hs ⊢
  rw [if_pos h1] at hs ⊢
  rw [if_pos h2, hsk.eq k (Nat.le_refl _)]
  by_cases c1 : bAt s k = 34 ∨ bAt s k = 92
  · rw [if_pos c1]
    rw [if_pos c1]
  · rw [if_neg c1] at hs ⊢
    rw [if_neg c1]
    by_cases c2 : bAt s k = 110
    · rw [if_pos c2]
      rw [if_pos c2]
    · rw [if_neg c2] at hs ⊢
      rw [if_neg c2]
      by_cases c3 : bAt s k = 120
      · rw [if_pos c3] at hs ⊢
        rw [if_pos c3]
        by_cases k1 : k + 1 < s.size
        · rw [if_pos k1] at hs ⊢
          have hk1 : k + 1 ≤ place2 (match hexI (bAt s (k + 1)) with
            | none => .error (k + 1)
            | some v =>
              if 2 ≤ v ∧ v ≤ 6 then .error (k + 1)
              else if k + 2 < s.size then
                match hexI (bAt s (k + 2)) with
                | none => .error (k + 2)
                | some l => if v = 0 ∧ l = 10 ∨ v = 7 ∧ l ≠ 15 then .error (k + 2) else .ok (((16 * v + l : Nat) : Int), k + 3)
              else .error s.size : Except Nat (Int × Nat)) := by
            repeat' split
            all_goals simp only [place2]
            all_goals omega
          have e1 := (hs.mono hk1)
          rw [if_pos e1.lt', e1.eq (k + 1) (Nat.le_refl _)]
          cases hv : hexI (bAt s (k + 1)) with
          | none => rfl
          | some v =>
            rw [hv] at hs
            dsimp only at hs ⊢
            by_cases c4 : 2 ≤ v ∧ v ≤ 6
            · rw [if_pos c4, if_pos c4]
            · rw [if_neg c4] at hs ⊢
              rw [if_neg c4]
              by_cases k2 : k + 2 < s.size
              · rw [if_pos k2] at hs ⊢
                have hk2 : k + 2 ≤ place2 (match hexI (bAt s (k + 2)) with
                  | none => .error (k + 2)
                  | some l => if v = 0 ∧ l = 10 ∨ v = 7 ∧ l ≠ 15 then .error (k + 2) else .ok (((16 * v + l : Nat) : Int), k + 3) : Except Nat (Int × Nat)) := by
                  repeat' split
                  all_goals simp only [place2]
                  all_goals omega
                have e2 := (hs.mono hk2)
                rw [if_pos e2.lt', e2.eq (k + 2) (Nat.le_refl _)]
              · rw [if_neg k2] at hs
                have := hs.lt
                simp [place2] at this
        · rw [if_neg k1] at hs
          have := hs.lt
          simp [place2] at this
      · rw [if_neg c3]
        rw [if_neg c3]
theorem qF_ge (s : ByteArray) (full : Nat → Bool) : ∀ (f k : Nat) (b : List UInt8), k ≤ s.size → k ≤ place2 (qF s full f k b) ∧ place2 (qF s full f k b) ≤ s.size := by
  intro f
  induction f with
  | zero => intro k b h; exact ⟨h, Nat.le_refl _⟩
  | succ f ih =>
    intro k b h
    rw [qF]
    split
    · split
      · simp only [place2]; omega
      · split
        · simp only [place2]; omega
        · split
          · simp only [place2]; omega
          · split
            · simp only [place2]; omega
            · split
              · have he := escF_ge s (k + 1) (by omega)
                split
                · rename_i hE
                  rw [hE] at he
                  simp only [place2] at he ⊢
                  omega
                · rename_i x k2 hE
                  rw [hE] at he
                  simp only [place2] at he
                  have := ih k2 (b ++ [u8 x]) (by omega)
                  omega
              · have := ih (k + 1) (b ++ [u8 (bAt s k)]) (by omega)
                omega
    · simp only [place2]; omega
theorem qF_loc (s s' : ByteArray) (full : Nat → Bool) : ∀ (f f' k : Nat) (b : List UInt8), s.size < k + f → s'.size < k + f' → k ≤ s.size → Same s s' (place2 (qF s full f k b)) → qF s' full f' k b = qF s full f k b := by
  intro f
  induction f with
  | zero =>
    intro f' k b h1 h2 h3 hs
    omega
  | succ f ih =>
    intro f' k b h1 h2 h3 hs
    have hsk := hs.mono (qF_ge s full (f + 1) k b h3).1
    obtain ⟨f', rfl⟩ : ∃ m, f' = m + 1 := ⟨f' - 1, by have := hsk.lt'; omega⟩
    rw [qF, if_pos hsk.lt] at hs
    rw [qF, qF, if_pos hsk.lt, if_pos hsk.lt', hsk.eq k (Nat.le_refl _)]
    split
    · rfl
    · rename_i c1
      rw [if_neg c1] at hs
      split
      · rfl
      · rename_i c2
        rw [if_neg c2] at hs
        split
        · rfl
        · rename_i c3
          rw [if_neg c3] at hs
          split
          · rfl
          · rename_i c4
            rw [if_neg c4] at hs
            split
            · rename_i c5
              rw [if_pos c5] at hs
              cases hE : escF s (k + 1) with
              | error q =>
                rw [hE] at hs
                rw [escF_loc s s' (k + 1) (by have := hsk.lt; omega) (by rw [hE]; exact hs), hE]
              | ok r =>
                obtain ⟨x, k2⟩ := r
                rw [hE] at hs
                dsimp only at hs
                have he := escF_ok s _ x k2 hE
                have hq := (qF_ge s full f k2 (b ++ [u8 x]) (by omega)).1
                rw [escF_loc s s' (k + 1) (by have := hsk.lt; omega) (by rw [hE]; exact hs.mono hq), hE]
                exact ih f' k2 _ (by omega) (by omega) (by omega) hs
            · rename_i c5
              rw [if_neg c5] at hs
              exact ih f' (k + 1) _ (by omega) (by omega) (by have := hsk.lt; omega) hs
theorem quotedF_ge (s : ByteArray) (full : Nat → Bool) (k : Nat) (hk : k ≤ s.size) : k ≤ place2 (quotedF s full k) ∧ place2 (quotedF s full k) ≤ s.size := by
  unfold quotedF
  split
  · split
    · have := qF_ge s full (s.size + 1) (k + 1) [] (by omega)
      omega
    · simp only [place2]; omega
  · simp only [place2]; omega
theorem quotedF_loc (s s' : ByteArray) (full : Nat → Bool) (k : Nat) (hk : k ≤ s.size) (hs : Same s s' (place2 (quotedF s full k))) : quotedF s' full k = quotedF s full k := by
  have hsk := hs.mono (quotedF_ge s full k hk).1
  have h1 := hsk.lt
  have h2 := hsk.lt'
  unfold quotedF at hs ⊢
  rw [if_pos h1] at hs ⊢
  rw [if_pos h2, hsk.eq k (Nat.le_refl _)]
  split
  · rename_i hd
    rw [if_pos hd] at hs
    exact qF_loc s s' full _ _ _ _ (by omega) (by omega) (by omega) hs
  · rfl
def GeOk (s : ByteArray) (rv : Nat → Nat → Except Nat (V × Nat × Nat)) : Prop := ∀ p k, k ≤ s.size → k ≤ place3 (rv p k) ∧ place3 (rv p k) ≤ s.size ∧ (∀ r, rv p k = .ok r → k < r.2.1)
def LocOk (s s' : ByteArray) (rv rv' : Nat → Nat → Except Nat (V × Nat × Nat)) : Prop := ∀ p k, k ≤ s.size → Same s s' (place3 (rv p k)) → rv' p k = rv p k
theorem listF_ge (s : ByteArray) (rv : Nat → Nat → Except Nat (V × Nat × Nat)) (hrv : GeOk s rv) : ∀ (f p k : Nat) (l : List V), k ≤ s.size → k ≤ place3 (listF s rv f p k l) ∧ place3 (listF s rv f p k l) ≤ s.size ∧ (∀ r, listF s rv f p k l = .ok r → k < r.2.1) := by
  intro f
  induction f with
  | zero => intro p k l h; exact ⟨h, Nat.le_refl _, fun r hr => by cases hr⟩
  | succ f ih =>
    intro p k l h
    rw [listF]
    split
    · rename_i hk
      split
      · exact ⟨by simp only [place3]; omega, by simp only [place3]; omega, fun r hr => by injection hr with hr; subst hr; exact Nat.lt_succ_self k⟩
      · split
        · exact ⟨Nat.le_refl _, h, fun r hr => by cases hr⟩
        · split
          · exact ⟨Nat.le_refl _, h, fun r hr => by cases hr⟩
          · have hle : k ≤ (if l = [] then k else k + 1) ∧ (if l = [] then k else k + 1) ≤ s.size := by split <;> omega
            obtain ⟨g1, g2, g3⟩ := hrv p _ hle.2
            split
            · rename_i q hq
              rw [hq] at g1 g2
              simp only [place3] at g1 g2 ⊢
              exact ⟨by omega, g2, fun r hr => by cases hr⟩
            · rename_i v k2 p2 hq
              rw [hq] at g1 g2
              simp only [place3] at g1 g2
              obtain ⟨i1, i2, i3⟩ := ih p2 k2 (l ++ [v]) g2
              exact ⟨by omega, i2, fun r hr => by have := i3 r hr; omega⟩
    · exact ⟨h, Nat.le_refl _, fun r hr => by cases hr⟩
theorem listF_loc (s s' : ByteArray) (rv rv' : Nat → Nat → Except Nat (V × Nat × Nat)) (hrv : GeOk s rv) (hl : LocOk s s' rv rv') : ∀ (f f' p k : Nat) (l : List V), s.size < k + f → s'.size < k + f' → k ≤ s.size → Same s s' (place3 (listF s rv f p k l)) → listF s' rv' f' p k l = listF s rv f p k l := by
  intro f
  induction f with
  | zero => intro f' p k l h1 h2 h3 hs; omega
  | succ f ih =>
    intro f' p k l h1 h2 h3 hs
    have hsk := hs.mono (listF_ge s rv hrv (f + 1) p k l h3).1
    obtain ⟨f', rfl⟩ : ∃ m, f' = m + 1 := ⟨f' - 1, by have := hsk.lt'; omega⟩
    rw [listF, if_pos hsk.lt] at hs
    rw [listF, listF, if_pos hsk.lt, if_pos hsk.lt', hsk.eq k (Nat.le_refl _)]
    split
    · rfl
    · rename_i c1
      rw [if_neg c1] at hs
      split
      · rfl
      · rename_i c2
        rw [if_neg c2] at hs
        split
        · rfl
        · rename_i c3
          rw [if_neg c3] at hs
          have hle : k ≤ (if l = [] then k else k + 1) ∧ (if l = [] then k else k + 1) ≤ s.size := by have := hsk.lt; split <;> omega
          obtain ⟨g1, g2, g3⟩ := hrv p _ hle.2
          cases hv : rv p (if l = [] then k else k + 1) with
          | error q =>
            rw [hv] at hs
            rw [hl p _ hle.2 (by rw [hv]; exact hs), hv]
          | ok r =>
            obtain ⟨v, k2, p2⟩ := r
            rw [hv] at hs g2
            dsimp only at hs
            have g4 := g3 _ hv
            simp only [place3] at g2 g4
            have hq := (listF_ge s rv hrv f p2 k2 (l ++ [v]) g2).1
            rw [hl p _ hle.2 (by rw [hv]; exact hs.mono hq), hv]
            exact ih f' p2 k2 _ (by omega) (by omega) g2 hs
theorem headF_ge (s : ByteArray) (rv : Option (Nat → Nat → Except Nat (V × Nat × Nat))) (hrv : ∀ g, rv = some g → GeOk s g) : GeOk s (headF s rv) := by
  intro p k hk
  rw [headF.eq_def]
  split
  · rename_i hlt
    split
    · exact ⟨by simp only [place3]; omega, by simp only [place3]; omega, fun r hr => by injection hr with hr; subst hr; exact Nat.lt_succ_self k⟩
    · split
      · have hb := behindF_ge s mostN (k + 1) (by omega)
        split
        · rename_i q hq
          rw [hq] at hb
          simp only [place2, place3] at hb ⊢
          exact ⟨by omega, hb.2, fun r hr => by cases hr⟩
        · rename_i n k2 hq
          rw [hq] at hb
          simp only [place2, place3] at hb ⊢
          exact ⟨by omega, hb.2, fun r hr => by injection hr with hr; subst hr; show k < k2; omega⟩
      · split
        · rename_i hd
          have hb := numLoop_ge s mostP (s.size + 1) false 0 k hk
          split
          · rename_i q hq
            rw [hq] at hb
            simp only [place2, place3] at hb ⊢
            exact ⟨by omega, hb.2, fun r hr => by cases hr⟩
          · rename_i n k2 hq
            have hi := numLoop_inv0 s _ _ _ _ (by decide) hq hlt hd
            rw [hq] at hb
            simp only [place2, place3] at hb ⊢
            exact ⟨by omega, hb.2, fun r hr => by injection hr with hr; subst hr; show k < k2; omega⟩
        · split
          · have hb := behindF_ge s mostP (k + 1) (by omega)
            split
            · rename_i q hq
              rw [hq] at hb
              simp only [place2, place3] at hb ⊢
              exact ⟨by omega, hb.2, fun r hr => by cases hr⟩
            · rename_i n k2 hq
              rw [hq] at hb
              simp only [place2, place3] at hb ⊢
              exact ⟨by omega, hb.2, fun r hr => by injection hr with hr; subst hr; show k < k2; omega⟩
          · split
            · have hb := quotedF_ge s (fun n => decide ((256 : Int) ≤ (n : Int))) k hk
              split
              · rename_i q hq
                rw [hq] at hb
                simp only [place2, place3] at hb ⊢
                exact ⟨by omega, hb.2, fun r hr => by cases hr⟩
              · rename_i n k2 hq
                have := quotedF_le s _ _ _ _ hq
                simp only [place3]
                exact ⟨by omega, by omega, fun r hr => by injection hr with hr; subst hr; show k < k2; omega⟩
            · split
              · split
                · exact ⟨by simp only [place3]; omega, by simp only [place3]; omega, fun r hr => by cases hr⟩
                · rename_i g
                  obtain ⟨b1, b2, b3⟩ := listF_ge s g (hrv g rfl) (s.size + 1) (p + 1) (k + 1) [] (by omega)
                  split
                  · rename_i q hq
                    rw [hq] at b1 b2
                    simp only [place3] at b1 b2 ⊢
                    exact ⟨by omega, b2, fun r hr => by cases hr⟩
                  · rename_i l k2 p2 hq
                    have b4 := b3 _ hq
                    rw [hq] at b1 b2
                    simp only [place3] at b1 b2 b4 ⊢
                    exact ⟨by omega, b2, fun r hr => by injection hr with hr; subst hr; show k < k2; omega⟩
              · exact ⟨by simp only [place3]; omega, by simp only [place3]; omega, fun r hr => by cases hr⟩
  · exact ⟨by simp only [place3]; omega, by simp only [place3]; omega, fun r hr => by cases hr⟩
theorem headF_loc (s s' : ByteArray) (rv rv' : Option (Nat → Nat → Except Nat (V × Nat × Nat))) (hrv : ∀ g, rv = some g → GeOk s g) (hn : rv = none ↔ rv' = none) (hl : ∀ g g', rv = some g → rv' = some g' → LocOk s s' g g') : LocOk s s' (headF s rv) (headF s' rv') := by
  intro p k hk hs
  have hsk := hs.mono (headF_ge s rv hrv p k hk).1
  have h1 := hsk.lt
  have h2 := hsk.lt'
  rw [headF.eq_def] at hs ⊢
  rw [headF.eq_def]
  rw [if_pos h1] at hs ⊢
  rw [if_pos h2, hsk.eq k (Nat.le_refl _)]
  by_cases c1 : bAt s k = 95
  · rw [if_pos c1]
    rw [if_pos c1]
  rw [if_neg c1] at hs ⊢
  rw [if_neg c1]
  by_cases c2 : bAt s k = 45
  · rw [if_pos c2] at hs ⊢
    rw [if_pos c2]
    cases hq : behindF s mostN (k + 1) with
    | error q => rw [hq] at hs; rw [behindF_loc s s' _ _ (by omega) (by rw [hq]; exact hs), hq]
    | ok r => obtain ⟨n, k2⟩ := r; rw [hq] at hs; rw [behindF_loc s s' _ _ (by omega) (by rw [hq]; exact hs), hq]
  rw [if_neg c2] at hs ⊢
  rw [if_neg c2]
  by_cases c3 : digitI (bAt s k) = true
  · rw [if_pos c3] at hs ⊢
    rw [if_pos c3]
    cases hq : numLoop s mostP (s.size + 1) false 0 k with
    | error q => rw [hq] at hs; rw [numLoop_loc s s' _ (s.size + 1) _ _ _ _ (by omega) (by omega) (by rw [hq]; exact hs), hq]
    | ok r => obtain ⟨n, k2⟩ := r; rw [hq] at hs; rw [numLoop_loc s s' _ (s.size + 1) _ _ _ _ (by omega) (by omega) (by rw [hq]; exact hs), hq]
  rw [if_neg c3] at hs ⊢
  rw [if_neg c3]
  by_cases c4 : bAt s k = 35
  · rw [if_pos c4] at hs ⊢
    rw [if_pos c4]
    cases hq : behindF s mostP (k + 1) with
    | error q => rw [hq] at hs; rw [behindF_loc s s' _ _ (by omega) (by rw [hq]; exact hs), hq]
    | ok r => obtain ⟨n, k2⟩ := r; rw [hq] at hs; rw [behindF_loc s s' _ _ (by omega) (by rw [hq]; exact hs), hq]
  rw [if_neg c4] at hs ⊢
  rw [if_neg c4]
  by_cases c5 : bAt s k = 34
  · rw [if_pos c5] at hs ⊢
    rw [if_pos c5]
    cases hq : quotedF s (fun n => decide ((256 : Int) ≤ (n : Int))) k with
    | error q => rw [hq] at hs; rw [quotedF_loc s s' _ _ (by omega) (by rw [hq]; exact hs), hq]
    | ok r => obtain ⟨n, k2⟩ := r; rw [hq] at hs; rw [quotedF_loc s s' _ _ (by omega) (by rw [hq]; exact hs), hq]
  rw [if_neg c5] at hs ⊢
  rw [if_neg c5]
  by_cases c6 : bAt s k = 91
  · rw [if_pos c6] at hs ⊢
    rw [if_pos c6]
    cases rv with
    | none => rw [hn.1 rfl]
    | some g =>
      cases rv' with
      | none => exact absurd (hn.2 rfl) (by simp)
      | some g' =>
        dsimp only at hs ⊢
        cases hq : listF s g (s.size + 1) (p + 1) (k + 1) [] with
        | error q => rw [hq] at hs; rw [listF_loc s s' g g' (hrv g rfl) (hl g g' rfl rfl) (s.size + 1) _ _ _ _ (by omega) (by omega) (by omega) (by rw [hq]; exact hs), hq]
        | ok r => obtain ⟨l, k2, p2⟩ := r; rw [hq] at hs; rw [listF_loc s s' g g' (hrv g rfl) (hl g g' rfl rfl) (s.size + 1) _ _ _ _ (by omega) (by omega) (by omega) (by rw [hq]; exact hs), hq]
  · rw [if_neg c6]
    rw [if_neg c6]
theorem valF_ge (s : ByteArray) : ∀ d, GeOk s (valF s d) := by
  intro d
  induction d with
  | zero => exact headF_ge s none (fun g hg => by cases hg)
  | succ d ih => exact headF_ge s _ (fun g hg => by injection hg with hg; subst hg; exact ih)
theorem valF_loc (s s' : ByteArray) : ∀ d, LocOk s s' (valF s d) (valF s' d) := by
  intro d
  induction d with
  | zero => exact headF_loc s s' none none (fun g hg => by cases hg) Iff.rfl (fun g g' hg => by cases hg)
  | succ d ih => exact headF_loc s s' _ _ (fun g hg => by injection hg with hg; subst hg; exact valF_ge s d) (by simp) (fun g g' hg hg' => by injection hg with hg; injection hg' with hg'; subst hg; subst hg'; exact ih)
theorem readF_err (s : ByteArray) (q : Nat) : ((readF s).2.2 = 30 ∧ (readF s).2.1 = q) ↔ (valF s 16 0 0 = .error q ∨ (∃ v p, valF s 16 0 0 = .ok (v, q, p) ∧ q < s.size)) := by
  unfold readF
  split
  · rename_i q' hq
    simp only [true_and]
    constructor
    · intro h; subst h; exact .inl hq
    · rintro (h | ⟨v, p, h, _⟩)
      · rw [hq] at h; injection h
      · rw [hq] at h; cases h
  · rename_i v k p hq
    split
    · rename_i hk
      simp only [true_and]
      constructor
      · intro h; subst h; exact .inr ⟨v, p, hq, hk⟩
      · rintro (h | ⟨v', p', h, _⟩)
        · rw [hq] at h; cases h
        · rw [hq] at h; injection h with h; injection h with h1 h2; injection h2 with h2 h3
    · rename_i hk
      constructor
      · rintro ⟨h, _⟩; cases h
      · rintro (h | ⟨v', p', h, h2⟩)
        · rw [hq] at h; cases h
        · rw [hq] at h; injection h with h; injection h with h1 h3; injection h3 with h3 h4; omega
theorem readF_cases (s : ByteArray) : (readF s).2.2 = 0 ∨ (readF s).2.2 = 30 := by
  unfold readF
  repeat' split
  all_goals simp
theorem readF_place (s : ByteArray) : (readF s).2.1 ≤ s.size := by
  have hg := (valF_ge s 16 0 0 (by omega)).2.1
  unfold readF
  split
  · rename_i q hq
    rw [hq] at hg
    exact hg
  · split
    · dsimp only; omega
    · dsimp only; omega
/-- Told again, the place is the same, whatever stands behind it. -/
theorem readF_again (s s' : ByteArray) (q : Nat) (h : (readF s).2.2 = 30) (hq : (readF s).2.1 = q) (hs : Same s s' q) : (readF s').2.2 = 30 ∧ (readF s').2.1 = q := by
  have h1 := (readF_err s q).1 ⟨h, hq⟩
  refine (readF_err s' q).2 ?_
  rcases h1 with h1 | ⟨v, p, h1, h2⟩
  · exact .inl (by rw [valF_loc s s' 16 0 0 (by omega) (by rw [h1]; exact hs), h1])
  · exact .inr ⟨v, p, by rw [valF_loc s s' 16 0 0 (by omega) (by rw [h1]; exact hs), h1], hs.lt'⟩
end Go.Proofs.YtmiipfdndgjndaaDoor
