/- Quoting and reading what is quoted undo each other. -/
import Derived.Test.YtmiipfdndgjndaaDoorY
namespace Go.Proofs.YtmiipfdndgjndaaDoor
theorem size_list (s : ByteArray) : s.data.toList.length = s.size := Array.length_toList
theorem rest_cons {s : ByteArray} {k : Nat} {c : UInt8} {r : List UInt8} (h : s.data.toList.drop k = c :: r) : k < s.size ∧ bAt s k = (c.toNat : Int) ∧ s.data.toList.drop (k + 1) = r := by
  have hk : k < s.data.toList.length := by
    rcases Nat.lt_or_ge k s.data.toList.length with h1 | h1
    · exact h1
    · rw [List.drop_eq_nil_of_le h1] at h; cases h
  have hk' : k < s.size := by rw [← size_list]; exact hk
  rw [List.drop_eq_getElem_cons hk] at h
  injection h with h1 h2
  refine ⟨hk', ?_, h2⟩
  rw [← bAt_eq s k hk', ← h1]
  rfl
theorem rest_nil {s : ByteArray} {k : Nat} (h : s.data.toList.drop k = []) : ¬ k < s.size := by
  rw [List.drop_eq_nil_iff, size_list] at h
  omega
theorem rest_at {s : ByteArray} {k : Nat} (h : k < s.size) : s.data.toList.drop k = u8 (bAt s k) :: s.data.toList.drop (k + 1) := by
  rw [List.drop_eq_getElem_cons (by rw [size_list]; exact h), ← bAt_eq s k h]
  congr 1
  unfold u8
  rw [Int.toNat_natCast, UInt8.ofNat_toNat]
  rfl
theorem rest_append {s : ByteArray} {k : Nat} {a r : List UInt8} (h : s.data.toList.drop k = a ++ r) : s.data.toList.drop (k + a.length) = r := by
  rw [← List.drop_drop, h]
  simp
theorem u8_nat (c : UInt8) : u8 (c.toNat : Int) = c := by simp [u8]
def escFact (c : Nat) : Bool :=
  (c == 34 || c == 92 || c == 10 || (decide (32 ≤ c) && decide (c ≤ 126))) ||
  (hexI ((u8 (digs[((c : Int) / 16).toNat]?.getD 0)).toNat : Int) == some (c / 16) && hexI ((u8 (digs[((c : Int) % 16).toNat]?.getD 0)).toNat : Int) == some (c % 16)
    && !(decide (2 ≤ c / 16) && decide (c / 16 ≤ 6)) && !((c / 16 == 0 && c % 16 == 10) || (c / 16 == 7 && c % 16 != 15)))
theorem escFacts : ((List.range 256).all escFact) = true := by decide +kernel
theorem escFact_at (c : UInt8) (_h : ¬ ((c.toNat : Int) = 34 ∨ (c.toNat : Int) = 92)) (h10 : ¬ (c.toNat : Int) = 10) (hx : (c.toNat : Int) < 32 ∨ 126 < (c.toNat : Int)) :
    hexI ((u8 (digs[((c.toNat : Int) / 16).toNat]?.getD 0)).toNat : Int) = some (c.toNat / 16) ∧ hexI ((u8 (digs[((c.toNat : Int) % 16).toNat]?.getD 0)).toNat : Int) = some (c.toNat % 16)
    ∧ ¬ (2 ≤ c.toNat / 16 ∧ c.toNat / 16 ≤ 6) ∧ ¬ (c.toNat / 16 = 0 ∧ c.toNat % 16 = 10 ∨ c.toNat / 16 = 7 ∧ c.toNat % 16 ≠ 15) := by
  have hf := List.all_eq_true.1 escFacts c.toNat (List.mem_range.2 c.toNat_lt)
  unfold escFact at hf
  rw [Bool.or_eq_true] at hf
  rcases hf with hf | hf
  · exfalso
    simp only [Bool.or_eq_true, beq_iff_eq, Bool.and_eq_true, decide_eq_true_eq] at hf
    omega
  · simp only [Bool.and_eq_true, beq_iff_eq, Bool.not_eq_true', Bool.and_eq_false_iff, decide_eq_false_iff_not, Bool.or_eq_false_iff, beq_eq_false_iff_ne, bne_eq_false_iff_eq] at hf
    obtain ⟨⟨⟨f1, f2⟩, f3⟩, f4⟩ := hf
    refine ⟨f1, f2, ?_, ?_⟩
    · omega
    · omega
theorem escF_quote (s : ByteArray) (k : Nat) (c : UInt8) (r : List UInt8) (h : s.data.toList.drop k = quoteI (c.toNat : Int) ++ r) :
    (quoteI (c.toNat : Int) = [c] ∧ k < s.size ∧ bAt s k = (c.toNat : Int) ∧ ¬ bAt s k = 34 ∧ ¬ bAt s k = 92 ∧ ¬ bAt s k < 32 ∧ ¬ 126 < bAt s k) ∨
    (k < s.size ∧ bAt s k = 92 ∧ escF s (k + 1) = .ok ((c.toNat : Int), k + (quoteI (c.toNat : Int)).length)) := by
  unfold quoteI at h ⊢
  by_cases h1 : (c.toNat : Int) = 34 ∨ (c.toNat : Int) = 92
  · rw [if_pos h1, u8_nat] at h
    rw [if_pos h1]
    refine .inr ?_
    obtain ⟨a1, a2, a3⟩ := rest_cons h
    obtain ⟨b1, b2, b3⟩ := rest_cons a3
    refine ⟨a1, a2, ?_⟩
    unfold escF
    rw [if_pos b1, if_pos (by rw [b2]; exact h1), b2]
    rfl
  · rw [if_neg h1] at h
    rw [if_neg h1]
    by_cases h2 : (c.toNat : Int) = 10
    · rw [if_pos h2] at h
      rw [if_pos h2]
      refine .inr ?_
      obtain ⟨a1, a2, a3⟩ := rest_cons h
      obtain ⟨b1, b2, b3⟩ := rest_cons a3
      refine ⟨a1, a2, ?_⟩
      unfold escF
      rw [if_pos b1, if_neg (by rw [b2]; decide), if_pos (by rw [b2]; decide), h2]
      rfl
    · rw [if_neg h2] at h
      rw [if_neg h2]
      by_cases h3 : (c.toNat : Int) < 32 ∨ 126 < (c.toNat : Int)
      · rw [if_pos h3] at h
        rw [if_pos h3]
        refine .inr ?_
        obtain ⟨f1, f2, f3, f4⟩ := escFact_at c h1 h2 h3
        obtain ⟨a1, a2, a3⟩ := rest_cons h
        obtain ⟨b1, b2, b3⟩ := rest_cons a3
        obtain ⟨c1, c2, c3⟩ := rest_cons b3
        obtain ⟨d1, d2, d3⟩ := rest_cons c3
        refine ⟨a1, a2, ?_⟩
        unfold escF
        rw [if_pos b1, if_neg (by rw [b2]; decide), if_neg (by rw [b2]; decide), if_pos (by rw [b2]; decide), if_pos c1, c2, f1]
        dsimp only
        rw [if_neg f3, if_pos d1, d2, f2]
        dsimp only
        rw [if_neg f4]
        congr 2
        omega
      · rw [if_neg h3, u8_nat] at h
        rw [if_neg h3, u8_nat]
        obtain ⟨a1, a2, a3⟩ := rest_cons h
        refine .inl ⟨rfl, a1, a2, ?_, ?_, ?_, ?_⟩ <;> rw [a2] <;> omega
theorem quoteM_cons (c : UInt8) (l : List UInt8) : quoteM (c :: l) = quoteI (c.toNat : Int) ++ quoteM l := by simp [quoteM]
/-- What is quoted is read as it. -/
theorem qF_quote (s : ByteArray) (full : Nat → Bool) : ∀ (l : List UInt8) (f k : Nat) (b r : List UInt8), s.data.toList.drop k = quoteM l ++ 34 :: r → l.length < f → (∀ n, n < b.length + l.length → full n = false) →
    qF s full f k b = .ok (b ++ l, k + (quoteM l).length + 1) := by
  intro l
  induction l with
  | nil =>
    intro f k b r h hf _
    obtain ⟨f, rfl⟩ : ∃ m, f = m + 1 := ⟨f - 1, by simp at hf; omega⟩
    obtain ⟨a1, a2, _⟩ := rest_cons h
    rw [qF, if_pos a1, if_pos (by rw [a2]; decide)]
    simp [quoteM]
  | cons c l ih =>
    intro f k b r h hf hfull
    obtain ⟨f, rfl⟩ : ∃ m, f = m + 1 := ⟨f - 1, by simp at hf; omega⟩
    rw [quoteM_cons, List.append_assoc] at h
    have hn := rest_append h
    have hfl := hfull b.length (by simp)
    have hrec := ih f (k + (quoteI (c.toNat : Int)).length) (b ++ [c]) r hn (by simp at hf; omega) (fun n hlt => hfull n (by simp at hlt ⊢; omega))
    rcases escF_quote s k c _ h with ⟨q1, q2, q3, q4, q5, q6, q7⟩ | ⟨q2, q3, q4⟩
    · rw [qF, if_pos q2, if_neg q4, hfl, if_neg (by simp), if_neg q6, if_neg q7, if_neg q5, q3, u8_nat]
      rw [q1] at hrec
      rw [show k + [c].length = k + 1 from rfl] at hrec
      rw [hrec, quoteM_cons, q1]
      simp
      omega
    · rw [qF, if_pos q2, if_neg (by rw [q3]; decide), hfl, if_neg (by simp), if_neg (by rw [q3]; decide), if_neg (by rw [q3]; decide), if_pos q3, q4]
      dsimp only
      rw [u8_nat, hrec, quoteM_cons]
      simp
      omega
theorem quoteM_length (l : List UInt8) : l.length ≤ (quoteM l).length := by
  induction l with
  | nil => simp
  | cons c l ih =>
    rw [quoteM_cons, List.length_append, List.length_cons]
    have : 1 ≤ (quoteI (c.toNat : Int)).length := by
      unfold quoteI
      repeat' split
      all_goals simp
    omega
theorem quotedF_quote (s : ByteArray) (full : Nat → Bool) (l r : List UInt8) (k : Nat) (h : s.data.toList.drop k = quoteL l ++ r) (hfull : ∀ n, n < l.length → full n = false) :
    quotedF s full k = .ok (l, k + (quoteL l).length) := by
  unfold quoteL at h ⊢
  rw [List.cons_append, List.append_assoc] at h
  obtain ⟨a1, a2, a3⟩ := rest_cons h
  have hl : l.length < s.size + 1 := by
    have h1 : (s.data.toList.drop (k + 1)).length = s.size - (k + 1) := by rw [List.length_drop, size_list]
    rw [a3] at h1
    simp at h1
    have := quoteM_length l
    omega
  unfold quotedF
  rw [if_pos a1, if_pos (by rw [a2]; decide), qF_quote s full l (s.size + 1) (k + 1) [] r a3 hl (fun n hn => hfull n (by simpa using hn))]
  simp
  omega
theorem hexI_only (a : Int) (v : Nat) (h : hexI a = some v) : a = digs[v]?.getD 0 := by
  unfold hexI digitI at h
  split at h
  · rename_i h1
    simp only [Bool.and_eq_true, decide_eq_true_eq] at h1
    injection h with h
    obtain ⟨n, rfl⟩ : ∃ n : Fin 10, a = 48 + (n.val : Int) := ⟨⟨(a - 48).toNat, by omega⟩, by simp; omega⟩
    have : v = n.val := by omega
    subst this
    revert n; decide
  · split at h
    · rename_i h1
      simp only [Bool.and_eq_true, decide_eq_true_eq] at h1
      injection h with h
      obtain ⟨n, rfl⟩ : ∃ n : Fin 6, a = 97 + (n.val : Int) := ⟨⟨(a - 97).toNat, by omega⟩, by simp; omega⟩
      have : v = 10 + n.val := by omega
      subst this
      revert n; decide
    · cases h
/-- What is read behind a backslash is what quoting writes. -/
theorem escF_inv (s : ByteArray) (k : Nat) (x : Int) (k' : Nat) (h : escF s (k + 1) = .ok (x, k')) (hk : k < s.size) (h92 : bAt s k = 92) :
    s.data.toList.drop k = quoteI x ++ s.data.toList.drop k' := by
  rw [rest_at hk, h92]
  unfold escF at h
  split at h
  · rename_i g1
    rw [rest_at g1]
    split at h
    · rename_i g2
      injection h with h; injection h with h1 h2
      subst h1; subst h2
      unfold quoteI
      rw [if_pos g2]
      rfl
    · rename_i g2
      split at h
      · rename_i g3
        injection h with h; injection h with h1 h2
        subst h1; subst h2
        rw [g3]
        rfl
      · rename_i g3
        split at h
        · rename_i g4
          split at h
          · rename_i g5
            rw [rest_at g5]
            split at h
            · cases h
            · rename_i v hv
              split at h
              · cases h
              · rename_i g6
                split at h
                · rename_i g7
                  rw [rest_at g7]
                  split at h
                  · cases h
                  · rename_i l hl
                    split at h
                    · cases h
                    · rename_i g8
                      injection h with h; injection h with h1 h2
                      subst h1; subst h2
                      have e1 := hexI_only _ v hv
                      have e2 := hexI_only _ l hl
                      have v16 := hexI_lt _ v hv
                      have l16 := hexI_lt _ l hl
                      rw [g4, e1, e2]
                      have hq : quoteI ((16 * v + l : Nat) : Int) = [92, 120, u8 (digs[v]?.getD 0), u8 (digs[l]?.getD 0)] := by
                        unfold quoteI
                        rw [if_neg (by omega), if_neg (by omega), if_pos (by omega), show (((16 * v + l : Nat) : Int) / 16).toNat = v by omega, show (((16 * v + l : Nat) : Int) % 16).toNat = l by omega]
                      rw [hq]
                      rfl
                · cases h
          · cases h
        · cases h
  · cases h
theorem qF_inv (s : ByteArray) (full : Nat → Bool) : ∀ (f k : Nat) (b b' : List UInt8) (k' : Nat), qF s full f k b = .ok (b', k') →
    ∃ l, b' = b ++ l ∧ s.data.toList.drop k = quoteM l ++ 34 :: s.data.toList.drop k' ∧ (∀ n, b.length ≤ n → n < b.length + l.length → full n = false) := by
  intro f
  induction f with
  | zero => intro k b b' k' h; cases h
  | succ f ih =>
    intro k b b' k' h
    rw [qF] at h
    split at h
    · rename_i hk
      split at h
      · rename_i h34
        injection h with h; injection h with h1 h2
        subst h1; subst h2
        exact ⟨[], by simp, by rw [rest_at hk, h34]; rfl, fun n h1 h2 => by simp at h2; omega⟩
      · split at h
        · cases h
        · rename_i hfl
          split at h
          · cases h
          · split at h
            · cases h
            · split at h
              · rename_i h92
                split at h
                · cases h
                · rename_i x k2 hE
                  obtain ⟨x0, x1, _, _⟩ := escF_ok s _ x k2 hE
                  obtain ⟨l, e1, e2, e3⟩ := ih _ _ _ _ h
                  refine ⟨u8 x :: l, by rw [e1]; simp, ?_, fun n h1 h2 => ?_⟩
                  · rw [escF_inv s k x k2 hE hk h92, e2, quoteM_cons, u8_toNat x x0 x1]
                    simp
                  · by_cases hn : n = b.length
                    · subst hn; simpa using hfl
                    · exact e3 n (by simp; omega) (by simp at h2 ⊢; omega)
              · rename_i h34 h32 h126 h92
                obtain ⟨x0, x1⟩ := bAt_range s k
                obtain ⟨l, e1, e2, e3⟩ := ih _ _ _ _ h
                refine ⟨u8 (bAt s k) :: l, by rw [e1]; simp, ?_, fun n h1 h2 => ?_⟩
                · rw [rest_at hk, e2, quoteM_cons, u8_toNat _ x0 x1]
                  unfold quoteI
                  rw [if_neg (by omega), if_neg (by omega), if_neg (by omega)]
                  simp
                · by_cases hn : n = b.length
                  · subst hn; simpa using hfl
                  · exact e3 n (by simp; omega) (by simp at h2 ⊢; omega)
    · cases h
/-- What is read as a quoted form is the quoted form of what is told. -/
theorem quotedF_inv (s : ByteArray) (full : Nat → Bool) (k : Nat) (b : List UInt8) (k' : Nat) (h : quotedF s full k = .ok (b, k')) :
    s.data.toList.drop k = quoteL b ++ s.data.toList.drop k' ∧ (∀ n, n < b.length → full n = false) := by
  unfold quotedF at h
  split at h
  · rename_i hk
    split at h
    · rename_i h34
      obtain ⟨l, e1, e2, e3⟩ := qF_inv s full _ _ _ _ _ h
      have : b = l := by simpa using e1
      subst this
      refine ⟨?_, fun n hn => e3 n (by simp) (by simpa using hn)⟩
      rw [rest_at hk, h34, e2]
      simp [quoteL, u8]
    · cases h
  · cases h
end Go.Proofs.YtmiipfdndgjndaaDoor
