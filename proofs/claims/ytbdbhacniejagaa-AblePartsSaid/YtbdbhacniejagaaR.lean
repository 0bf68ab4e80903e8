/- Plain facts and contracts for the law of the parts. -/
import Derived.Test.YtbdbhacniejagaaM
import Derived.Test.YtbdbhacniejagaaP
namespace Go.Proofs.Ytbdbhacniejagaa
open Go.RowKit Go.Shelf
set_option maxHeartbeats 1000000
def okSubs (m : Nat) : Int → List (Fin 64) → Bool
  | _, [] => true
  | l, x :: t => decide (l < (x.val : Int)) && Nat.beq (Nat.land x.val m) x.val && okSubs m (x.val : Int) t
def lastOf (l : Int) (pre : List (Fin 64)) : Int := pre.foldl (fun _ x => (x.val : Int)) l
def metQ (q : Nat) (pre : List (Fin 64)) : Bool := pre.any fun x => (x.val : Int) == (q : Int)
def okUpto : Nat → Nat → List (Fin 6) → Bool
  | _, _, [] => true
  | a, nx, x :: t => decide (nx ≤ x.val) && Nat.beq (a &&& 2 ^ x.val) 0 && okUpto (a ||| 2 ^ x.val) (x.val + 1) t
def allOf (a : Nat) (pre : List (Fin 6)) : Nat := pre.foldl (fun a x => a ||| 2 ^ x.val) a
def nextOf (n : Nat) (pre : List (Fin 6)) : Nat := pre.foldl (fun _ x => x.val + 1) n
theorem lastOf_snoc (l : Int) (pre : List (Fin 64)) (x : Fin 64) : lastOf l (pre ++ [x]) = x.val := by simp [lastOf]
theorem metQ_snoc (q : Nat) (pre : List (Fin 64)) (x : Fin 64) : metQ q (pre ++ [x]) = (metQ q pre || (x.val : Int) == (q : Int)) := by simp [metQ]
theorem allOf_snoc (a : Nat) (pre : List (Fin 6)) (x : Fin 6) : allOf a (pre ++ [x]) = allOf a pre ||| 2 ^ x.val := by simp [allOf]
theorem nextOf_snoc (n : Nat) (pre : List (Fin 6)) (x : Fin 6) : nextOf n (pre ++ [x]) = x.val + 1 := by simp [nextOf]
theorem okSubs_at (m : Nat) (x : Fin 64) (t : List (Fin 64)) : ∀ (pre : List (Fin 64)) (l : Int), okSubs m l (pre ++ x :: t) = true → lastOf l pre < x.val ∧ Nat.beq (Nat.land x.val m) x.val = true
  | [], l, h => by simp only [List.nil_append, okSubs, Bool.and_eq_true, decide_eq_true_eq] at h; exact ⟨h.1.1, h.1.2⟩
  | y :: p, l, h => by
    simp only [List.cons_append, okSubs, Bool.and_eq_true] at h
    exact okSubs_at m x t p (y.val : Int) h.2
theorem okUpto_at (x : Fin 6) (t : List (Fin 6)) : ∀ (pre : List (Fin 6)) (a n : Nat), okUpto a n (pre ++ x :: t) = true → nextOf n pre ≤ x.val ∧ allOf a pre &&& 2 ^ x.val = 0
  | [], a, n, h => by simp only [List.nil_append, okUpto, Bool.and_eq_true, decide_eq_true_eq] at h; exact ⟨h.1.1, Nat.eq_of_beq_eq_true h.1.2⟩
  | y :: p, a, n, h => by
    simp only [List.cons_append, okUpto, Bool.and_eq_true] at h
    exact okUpto_at x t p (a ||| 2 ^ y.val) (y.val + 1) h.2
theorem partsFacts : ((List.range 64).all fun m => okSubs m (-1) (subs m 64) && decide (0 ≤ cntB ((m : Int) % 64)) && decide (cntB ((m : Int) % 64) ≤ 6) && Nat.beq (subs m 64).length (2 ^ (cntB ((m : Int) % 64)).toNat) && okUpto 0 0 (upto m 6) && Nat.beq (allOf 0 (upto m 6)) m) = true := by decide +kernel
theorem metFacts : ((List.range 64).all fun m => (List.range 64).all fun q => metQ q (subs m 64) == Nat.beq (Nat.land q m) q) = true := by decide +kernel
theorem parts_at (m : Nat) (hm : m < 64) : okSubs m (-1) (subs m 64) = true ∧ 0 ≤ cntB ((m : Int) % 64) ∧ cntB ((m : Int) % 64) ≤ 6 ∧ (subs m 64).length = 2 ^ (cntB ((m : Int) % 64)).toNat ∧ okUpto 0 0 (upto m 6) = true ∧ allOf 0 (upto m 6) = m := by
  have h := all64 partsFacts m hm
  simp only [Bool.and_eq_true, decide_eq_true_eq] at h
  exact ⟨h.1.1.1.1.1, h.1.1.1.1.2, h.1.1.1.2, Nat.eq_of_beq_eq_true h.1.1.2, h.1.2, Nat.eq_of_beq_eq_true h.2⟩
theorem met_at (m q : Nat) (hm : m < 64) (hq : q < 64) : metQ q (subs m 64) = Nat.beq (Nat.land q m) q := by
  have h := all64 (p := fun q => metQ q (subs m 64) == Nat.beq (Nat.land q m) q) (all64 (p := fun m => (List.range 64).all fun q => metQ q (subs m 64) == Nat.beq (Nat.land q m) q) metFacts m hm) q hq
  exact beq_iff_eq.1 h
theorem subs_next (m : Nat) (hm : m < 64) {pre : List (Fin 64)} {x : Fin 64} (h : pre ++ [x] <+: subs m 64) : lastOf (-1) pre < x.val ∧ Nat.beq (Nat.land x.val m) x.val = true := by
  obtain ⟨t, ht⟩ := h
  exact okSubs_at m x t pre (-1) (by have := (parts_at m hm).1; rwa [← ht, List.append_assoc] at this)
theorem upto_next (m : Nat) (hm : m < 64) {pre : List (Fin 6)} {x : Fin 6} (h : pre ++ [x] <+: upto m 6) : nextOf 0 pre ≤ x.val ∧ allOf 0 pre &&& 2 ^ x.val = 0 := by
  obtain ⟨t, ht⟩ := h
  exact okUpto_at x t pre 0 0 (by have := (parts_at m hm).2.2.2.2.1; rwa [← ht, List.append_assoc] at this)
theorem allOf_lt (pre : List (Fin 6)) : ∀ a : Nat, a < 64 → allOf a pre < 64 := by
  induction pre with
  | nil => intro a h; exact h
  | cons x t ih => intro a h; exact ih _ (or_lt a _ h (Nat.lt_of_lt_of_le (Nat.pow_lt_pow_right (by omega) x.isLt) (by omega)))
theorem one_facts : ∀ k : Fin 6, oneB (2 ^ k.val) = true ∧ placeB (2 ^ k.val) = k.val := by decide +kernel
theorem has_m (m x : Nat) (hm : m < 64) (hx : x < 64) (w : World) : Calls Try.prog 31 #[.int .u8 (m : Int), .int .u8 (x : Int)] w fun e w' => e = .returned (.bool (Nat.beq (Nat.land x m) x)) ∧ w = w' :=
  (has_any m x w).mono fun e w' ⟨he, hw⟩ => ⟨he.trans (by rw [has_nat m x (by omega) (by omega), has_subs m m x (by omega) (by omega) (by omega) hx]), hw⟩
theorem meetW (x y : Nat) (hx : x < 64) (hy : y < 64) (W : World) : Calls Try.prog 24 #[.slice (some ⟨W.heap.size, 0, none⟩) 2 2] (W.alloc (.cells #[.int .u8 (x : Int), .int .u8 (y : Int)] 22)) fun e w' => e = .returned (.int .u8 ((x &&& y : Nat) : Int)) ∧ W.alloc (.cells #[.int .u8 (x : Int), .int .u8 (y : Int)] 22) = w' :=
  (meet_any (some ⟨W.heap.size, 0, none⟩) 2 2 [(x : Int), (y : Int)] rfl _ (reads_new W [(x : Int), (y : Int)] (by simp) (by intro z hz; simp at hz; omega))).mono fun e w' ⟨he, hw⟩ => ⟨he.trans (by rw [meetL2 x y hx hy]), hw⟩
theorem joinW (x y : Nat) (hx : x < 64) (hy : y < 64) (W : World) : Calls Try.prog 26 #[.slice (some ⟨W.heap.size, 0, none⟩) 2 2] (W.alloc (.cells #[.int .u8 (x : Int), .int .u8 (y : Int)] 22)) fun e w' => e = .returned (.int .u8 ((x ||| y : Nat) : Int)) ∧ W.alloc (.cells #[.int .u8 (x : Int), .int .u8 (y : Int)] 22) = w' :=
  (join_any' (some ⟨W.heap.size, 0, none⟩) 2 2 [(x : Int), (y : Int)] rfl _ (reads_new W [(x : Int), (y : Int)] (by simp) (by intro z hz; simp at hz; omega))).mono fun e w' ⟨he, hw⟩ => ⟨he.trans (by rw [joinL2 x y hx hy]), hw⟩
theorem count_m (m : Nat) (hm : m < 64) (w : World) : Calls Try.prog 21 #[.int .u8 (m : Int)] w fun e w' => e = .returned (.int .i64 (cntB ((m : Int) % 64))) ∧ w = w' := count_any m (by omega) (by omega) w
theorem place_pow (k : Fin 6) (w : World) : Calls Try.prog 15 #[.int .u8 (2 ^ k.val)] w fun e w' => e = .returned (.tuple #[.int .i64 (k.val : Int), .int .i64 0]) ∧ w = w' := by
  have h := place_yes (2 ^ k.val) (Int.le_of_lt (Int.pow_pos (by omega))) (by revert k; decide) (one_facts k).1 w
  rwa [(one_facts k).2] at h
theorem one_pow' (k : Fin 6) (w : World) : Calls Try.prog 19 #[.int .u8 (2 ^ k.val)] w fun e w' => e = .returned (.bool true) ∧ w = w' := by
  have h := one_any (2 ^ k.val) (Int.le_of_lt (Int.pow_pos (by omega))) (by revert k; decide) w
  rwa [(one_facts k).1] at h
end Go.Proofs.Ytbdbhacniejagaa
