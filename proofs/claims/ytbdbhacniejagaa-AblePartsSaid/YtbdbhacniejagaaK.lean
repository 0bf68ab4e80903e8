/- Plain facts on sets as numbers: what able's bit tricks come to, and what the reference reckons place by place. -/
import Derived.Test.YtbdbhacniejagaaH
namespace Go.Proofs.Ytbdbhacniejagaa
open Go.RowKit

theorem ofInt8 (a : Nat) (ha : a < 256) : (BitVec.ofInt 8 (a : Int)).toNat = a := by simp; omega
theorem wrap8 (n : Nat) (h : n < 256) : IntKind.u8.wrap (n : Int) = (n : Int) := by
  simp only [IntKind.wrap_u8]
  omega
theorem bits_and (a b : Nat) (ha : a < 256) (hb : b < 256) : bits .and .u8 (a : Int) (b : Int) = ((a &&& b : Nat) : Int) := by
  have h : a &&& b < 256 := Nat.lt_of_le_of_lt Nat.and_le_left ha
  show IntKind.u8.wrap (((BitVec.ofInt 8 (a : Int)) &&& (BitVec.ofInt 8 (b : Int)) : BitVec 8).toNat : Int) = _
  rw [BitVec.toNat_and, ofInt8 a ha, ofInt8 b hb, wrap8 _ h]
theorem bits_or (a b : Nat) (ha : a < 256) (hb : b < 256) : bits .or .u8 (a : Int) (b : Int) = ((a ||| b : Nat) : Int) := by
  have h : a ||| b < 2 ^ 8 := Nat.or_lt_two_pow ha hb
  show IntKind.u8.wrap (((BitVec.ofInt 8 (a : Int)) ||| (BitVec.ofInt 8 (b : Int)) : BitVec 8).toNat : Int) = _
  rw [BitVec.toNat_or, ofInt8 a ha, ofInt8 b hb, wrap8 _ h]
theorem bits_andNot (a b : Nat) (ha : a < 256) (hb : b < 256) : bits .andNot .u8 (a : Int) (b : Int) = ((a &&& (2 ^ 8 - (b + 1)) : Nat) : Int) := by
  have h : a &&& (2 ^ 8 - (b + 1)) < 256 := Nat.lt_of_le_of_lt Nat.and_le_left ha
  show IntKind.u8.wrap (((BitVec.ofInt 8 (a : Int)) &&& ~~~(BitVec.ofInt 8 (b : Int)) : BitVec 8).toNat : Int) = _
  rw [BitVec.toNat_and, BitVec.toNat_not, ofInt8 a ha, ofInt8 b hb, show 2 ^ 8 - 1 - b = 2 ^ 8 - (b + 1) by omega, wrap8 _ h]
theorem inB_bit (a k : Nat) (ha : a < 256) (hk : k < 6) : inB (a : Int) k = a.testBit k := by
  have h : ((List.range 256).all fun a => (List.range 6).all fun k => inB (a : Int) k == a.testBit k) = true := by decide +kernel
  rw [List.all_eq_true] at h
  have h2 := h a (by simpa using ha)
  rw [List.all_eq_true] at h2
  simpa using h2 k (by simpa using hk)
theorem sumP_bit (p : Nat → Bool) (n k : Nat) : (sumP p n).testBit k = (decide (k < n) && p k) := by
  induction n with
  | zero => simp [sumP]
  | succ n ih =>
    have hl := sumP_lt p n
    simp only [sumP]
    rcases Nat.lt_trichotomy k n with hk | hk | hk
    · have h1 : decide (k < n) = true := by simpa using hk
      have h2 : decide (k < n + 1) = true := by simp; omega
      rw [h1] at ih
      rw [h2]
      split
      · rw [Nat.add_comm, Nat.testBit_two_pow_add_gt hk, ih]
      · exact ih
    · subst hk
      have h1 : (sumP p k).testBit k = false := Nat.testBit_lt_two_pow hl
      have h2 : decide (k < k + 1) = true := by simp
      rw [h2]
      split
      · rename_i hp
        rw [Nat.add_comm, Nat.testBit_two_pow_add_eq, h1, hp]; rfl
      · rename_i hp
        rw [h1]; simp at hp; rw [hp]; rfl
    · have h2 : decide (k < n + 1) = false := by simp; omega
      rw [h2, Bool.false_and]
      have hp2 : 2 ^ (n + 1) ≤ 2 ^ k := Nat.pow_le_pow_right (by omega) (by omega)
      have hp3 : 2 ^ (n + 1) = 2 ^ n * 2 := Nat.pow_succ ..
      exact Nat.testBit_lt_two_pow (by split <;> omega)
/-- A number below 64 is fixed by its six bits. -/
theorem eq_sum (x : Nat) (hx : x < 64) (p : Nat → Bool) (h : ∀ k, k < 6 → x.testBit k = p k) : x = sumP p 6 := by
  refine Nat.eq_of_testBit_eq fun k => ?_
  rw [sumP_bit]
  by_cases hk : k < 6
  · rw [h k hk]; simp [hk]
  · have hp : 2 ^ 6 ≤ 2 ^ k := Nat.pow_le_pow_right (by omega) (by omega)
    rw [Nat.testBit_lt_two_pow (by omega : x < 2 ^ k)]
    simp [hk]
theorem lt_of_sum {x y : Nat} (h : x &&& 63 = y) : y < 64 := by
  have := @Nat.and_le_right x 63
  omega
theorem bit63 (k : Nat) (hk : k < 6) : (63 : Nat).testBit k = true := by
  rcases (show k = 0 ∨ k = 1 ∨ k = 2 ∨ k = 3 ∨ k = 4 ∨ k = 5 by omega) with rfl | rfl | rfl | rfl | rfl | rfl <;> decide
theorem less_nat (a b : Nat) (ha : a < 256) (hb : b < 256) : bits .and .u8 (bits .andNot .u8 (a : Int) (b : Int)) 63 = ((sumP (fun k => inB (a : Int) k && !inB (b : Int) k) 6 : Nat) : Int) := by
  have h1 : a &&& (2 ^ 8 - (b + 1)) < 256 := Nat.lt_of_le_of_lt Nat.and_le_left ha
  rw [bits_andNot a b ha hb]
  have := bits_and (a &&& (2 ^ 8 - (b + 1))) 63 h1 (by omega)
  rw [show ((63 : Nat) : Int) = 63 from rfl] at this
  rw [this]
  congr 1
  refine eq_sum _ (lt_of_sum rfl) _ fun k hk => ?_
  rw [Nat.testBit_and, Nat.testBit_and, Nat.testBit_two_pow_sub_succ hb, bit63 k hk, inB_bit a k ha hk, inB_bit b k hb hk]
  simp [show k < 8 by omega]
theorem hasFrom_all (a b : Int) (d : Nat) : ∀ k, k + d = 6 → hasFrom a b d k = ((List.range d).all fun i => !(inB b (k + i) && !inB a (k + i))) := by
  induction d with
  | zero => intro k _; simp [hasFrom]
  | succ d ih =>
    intro k hk
    simp only [hasFrom]
    rw [ih (k + 1) (by omega), List.range_succ_eq_map, List.all_cons, List.all_map]
    simp only [Nat.add_zero, Function.comp_def]
    have hf : (fun i => !(inB b (k + 1 + i) && !inB a (k + 1 + i))) = (fun i => !(inB b (k + (i + 1)) && !inB a (k + (i + 1)))) := by
      funext i; rw [show k + 1 + i = k + (i + 1) by omega]
    rw [hf]
    cases inB b k && !inB a k <;> simp
theorem has_nat (a b : Nat) (ha : a < 256) (hb : b < 256) : (bits .and .u8 (bits .andNot .u8 (b : Int) (a : Int)) 63 == 0) = hasFrom (a : Int) (b : Int) 6 0 := by
  rw [less_nat b a hb ha, hasFrom_all _ _ 6 0 rfl]
  simp only [Nat.zero_add]
  rw [Bool.eq_iff_iff]
  constructor
  · intro h
    have h0 : sumP (fun k => inB (b : Int) k && !inB (a : Int) k) 6 = 0 := by simpa using h
    rw [List.all_eq_true]
    intro i hi
    have hi6 : i < 6 := by simpa using hi
    have := sumP_bit (fun k => inB (b : Int) k && !inB (a : Int) k) 6 i
    rw [h0] at this
    simp only [Nat.zero_testBit, hi6, decide_true, Bool.true_and] at this
    rw [← this]; rfl
  · intro h
    rw [List.all_eq_true] at h
    have h0 : 0 = sumP (fun k => inB (b : Int) k && !inB (a : Int) k) 6 := by
      refine eq_sum 0 (by omega) _ fun k hk => ?_
      have := h k (by simpa using hk)
      simp only [Nat.zero_testBit]
      revert this
      cases inB (b : Int) k <;> cases inB (a : Int) k <;> decide
    rw [← h0]; rfl
/-- The numbers of a list of sets. -/
theorem ints_nat (xs : List Int) (h : ∀ x ∈ xs, 0 ≤ x ∧ x ≤ 255) : xs = (xs.map Int.toNat).map Int.ofNat := by
  rw [List.map_map]
  conv => lhs; rw [← List.map_id xs]
  refine List.map_congr_left fun x hx => ?_
  have := h x hx
  simp
  omega
theorem fold_and (ns : List Nat) (h : ∀ n ∈ ns, n < 256) : ∀ (o : Nat), o < 256 → (ns.map Int.ofNat).foldl (fun o a => bits .and .u8 o a) (o : Int) = ((ns.foldl (· &&& ·) o : Nat) : Int) := by
  induction ns with
  | nil => intro o _; rfl
  | cons n ns ih =>
    intro o ho
    simp only [List.map_cons, List.foldl_cons]
    rw [show (Int.ofNat n) = (n : Int) from rfl, bits_and o n ho (h n (by simp))]
    exact ih (fun m hm => h m (by simp [hm])) _ (Nat.lt_of_le_of_lt Nat.and_le_left ho)
theorem fold_and_bit (ns : List Nat) (k : Nat) : ∀ o : Nat, (ns.foldl (· &&& ·) o).testBit k = (o.testBit k && ns.all (·.testBit k)) := by
  induction ns with
  | nil => intro o; simp
  | cons n ns ih => intro o; simp only [List.foldl_cons, List.all_cons]; rw [ih, Nat.testBit_and, Bool.and_assoc]
theorem fold_and_le (ns : List Nat) : ∀ o : Nat, ns.foldl (· &&& ·) o ≤ o := by
  induction ns with
  | nil => intro o; simp
  | cons n ns ih => intro o; simp only [List.foldl_cons]; exact Nat.le_trans (ih _) Nat.and_le_left
theorem meet_nat (xs : List Int) (h : ∀ x ∈ xs, 0 ≤ x ∧ x ≤ 255) : meetL xs = ((sumP (fun k => xs.all fun x => inB x k) 6 : Nat) : Int) := by
  have hx := ints_nat xs h
  have hn : ∀ n ∈ xs.map Int.toNat, n < 256 := by
    intro n hn
    obtain ⟨x, hx, rfl⟩ := List.mem_map.1 hn
    have := h x hx
    omega
  generalize xs.map Int.toNat = ns at *
  subst hx
  have := fold_and ns hn 63 (by omega)
  rw [show ((63 : Nat) : Int) = 63 from rfl] at this
  unfold meetL
  rw [this]
  congr 1
  have hle := fold_and_le ns 63
  refine eq_sum _ (by omega) _ fun k hk => ?_
  rw [fold_and_bit, bit63 k hk, Bool.true_and, List.all_map]
  rw [Bool.eq_iff_iff, List.all_eq_true, List.all_eq_true]
  constructor
  · intro g n hm
    rw [Function.comp_apply, show (Int.ofNat n) = (n : Int) from rfl, inB_bit n k (hn n hm) hk]
    exact g n hm
  · intro g n hm
    have := g n hm
    rw [Function.comp_apply, show (Int.ofNat n) = (n : Int) from rfl, inB_bit n k (hn n hm) hk] at this
    exact this
theorem fold_or (ns : List Nat) (h : ∀ n ∈ ns, n < 256) : ∀ (o : Nat), o < 64 → (ns.map Int.ofNat).foldl (fun o a => bits .or .u8 o (a % 64)) (o : Int) = ((ns.foldl (fun o n => o ||| n % 64) o : Nat) : Int) := by
  induction ns with
  | nil => intro o _; rfl
  | cons n ns ih =>
    intro o ho
    simp only [List.map_cons, List.foldl_cons]
    rw [show (Int.ofNat n) % 64 = ((n % 64 : Nat) : Int) from by simp, bits_or o (n % 64) (by omega) (by omega)]
    exact ih (fun m hm => h m (by simp [hm])) _ (Nat.or_lt_two_pow (n := 6) ho (by omega))
theorem fold_or_bit (ns : List Nat) (k : Nat) (hk : k < 6) : ∀ o : Nat, (ns.foldl (fun o n => o ||| n % 64) o).testBit k = (o.testBit k || ns.any (·.testBit k)) := by
  induction ns with
  | nil => intro o; simp
  | cons n ns ih =>
    intro o; simp only [List.foldl_cons, List.any_cons]
    rw [ih, Nat.testBit_or, show (64 : Nat) = 2 ^ 6 from rfl, Nat.testBit_mod_two_pow, Bool.or_assoc]
    simp [hk]
theorem fold_or_lt (ns : List Nat) : ∀ o : Nat, o < 64 → ns.foldl (fun o n => o ||| n % 64) o < 64 := by
  induction ns with
  | nil => intro o h; simpa using h
  | cons n ns ih => intro o h; simp only [List.foldl_cons]; exact ih _ (Nat.or_lt_two_pow (n := 6) h (by omega))
theorem join_nat (xs : List Int) (h : ∀ x ∈ xs, 0 ≤ x ∧ x ≤ 255) : joinL xs = ((sumP (fun k => xs.any fun x => inB x k) 6 : Nat) : Int) := by
  have hx := ints_nat xs h
  have hn : ∀ n ∈ xs.map Int.toNat, n < 256 := by
    intro n hn
    obtain ⟨x, hx, rfl⟩ := List.mem_map.1 hn
    have := h x hx
    omega
  generalize xs.map Int.toNat = ns at *
  subst hx
  have := fold_or ns hn 0 (by omega)
  rw [show ((0 : Nat) : Int) = 0 from rfl] at this
  unfold joinL
  rw [this]
  congr 1
  refine eq_sum _ (fold_or_lt ns 0 (by omega)) _ fun k hk => ?_
  rw [fold_or_bit ns k hk, Nat.zero_testBit, Bool.false_or, List.any_map]
  rw [Bool.eq_iff_iff, List.any_eq_true, List.any_eq_true]
  constructor
  · rintro ⟨n, hm, g⟩
    exact ⟨n, hm, by rw [Function.comp_apply, show (Int.ofNat n) = (n : Int) from rfl, inB_bit n k (hn n hm) hk]; exact g⟩
  · rintro ⟨n, hm, g⟩
    rw [Function.comp_apply, show (Int.ofNat n) = (n : Int) from rfl, inB_bit n k (hn n hm) hk] at g
    exact ⟨n, hm, g⟩
def factB (a : Nat) : Bool :=
  ((bits .andNot .u8 (a : Int) 63 == 0) == decide ((a : Int) < 64)) && (oneB a == refOneB a) && (cntB ((a : Int) % 64) == (cntP (inB a) 6 : Nat)) &&
  (decide (placeFrom a 6 0 = if oneB a then some (placeB a).toNat else none)) && decide (0 ≤ placeB a)
theorem factBs : ((List.range 256).all factB) = true := by decide +kernel
theorem fact_at (a : Int) (h0 : 0 ≤ a) (h1 : a ≤ 255) : (bits .andNot .u8 a 63 == 0) = decide (a < 64) ∧ oneB a = refOneB a ∧ cntB (a % 64) = (cntP (inB a) 6 : Nat) ∧
    (placeFrom a 6 0 = if oneB a then some (placeB a).toNat else none) ∧ 0 ≤ placeB a := by
  have h := factBs
  rw [List.all_eq_true] at h
  have := h a.toNat (by simp; omega)
  unfold factB at this
  rw [show ((a.toNat : Nat) : Int) = a by omega] at this
  simp only [Bool.and_eq_true, beq_iff_eq, decide_eq_true_eq] at this
  exact ⟨this.1.1.1.1, this.1.1.1.2, this.1.1.2, this.1.2, this.2⟩
end Go.Proofs.Ytbdbhacniejagaa
