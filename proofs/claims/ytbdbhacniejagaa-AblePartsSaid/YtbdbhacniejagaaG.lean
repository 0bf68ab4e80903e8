/- Contracts of the reference's functions: May, Count, One, Place, Less, Has, Meet, Join. -/
import Derived.Test.YtbdbhacniejagaaF
namespace Go.Proofs.Ytbdbhacniejagaa
open Go.RowKit Go.Shelf
set_option maxHeartbeats 1000000

theorem refMay_any (a : Int) (w : World) : Calls Try.prog 18 #[.int .u8 a] w fun e w' => e = .returned (.bool (decide (a < 64))) ∧ w = w' := by
  go_enter Try.func18, Try.ntmps18
  go_wp2
  go_ret
  exact ⟨rfl, rfl⟩
/-- How many of the first k places p has. -/
def cntP (p : Nat → Bool) : Nat → Nat
  | 0 => 0
  | k + 1 => if p k then cntP p k + 1 else cntP p k
theorem cntP_le (p : Nat → Bool) (k : Nat) : cntP p k ≤ k := by
  induction k with
  | zero => simp [cntP]
  | succ k ih => simp only [cntP]; split <;> omega
/-- The sum of the bits that p has among the first k. -/
def sumP (p : Nat → Bool) : Nat → Nat
  | 0 => 0
  | k + 1 => if p k then sumP p k + 2 ^ k else sumP p k
theorem sumP_lt (p : Nat → Bool) (k : Nat) : sumP p k < 2 ^ k := by
  induction k with
  | zero => simp [sumP]
  | succ k ih => simp only [sumP]; rw [Nat.pow_succ]; split <;> omega
theorem refCount_any (a : Int) (w : World) : Calls Try.prog 22 #[.int .u8 a] w fun e w' => e = .returned (.int .i64 (cntP (inB a) 6 : Nat)) ∧ w = w' := by
  go_enter Try.func22, Try.ntmps22
  go_wp2
  go_loop [3, 4] (fun n i => ∃ k : Nat, k ≤ 6 ∧ i = .int .i64 k ∧ n = .int .i64 (cntP (inB a) k : Nat)) (fun _ i => 6 - (intOf i).toNat)
  case atStart => exact ⟨0, by omega, rfl, rfl⟩
  case round =>
    obtain ⟨k, hk, rfl, rfl⟩ := hrel
    have hb := cntP_le (inB a) k
    by_cases hlt : k < 6
    · cases hin : inB a k with
      | true =>
        have Hn := Lib.hid (show cntP (inB a) (k + 1) = cntP (inB a) k + 1 by simp [cntP, hin])
        go_wp2_with (go_at_call 43; refine (refIn_any a k hlt _).mono ?_; rintro e w' ⟨rfl, rfl⟩)
        refine ⟨⟨k + 1, by omega, by go_num, by rw [Hn.out]; go_num⟩, by simp [intOf]; omega⟩
      | false =>
        have Hn := Lib.hid (show cntP (inB a) (k + 1) = cntP (inB a) k by simp [cntP, hin])
        go_wp2_with (go_at_call 43; refine (refIn_any a k hlt _).mono ?_; rintro e w' ⟨rfl, rfl⟩)
        refine ⟨⟨k + 1, by omega, by go_num, by rw [Hn.out]⟩, by simp [intOf]; omega⟩
    · obtain rfl : k = 6 := by omega
      go_wp2
      go_ret
      exact ⟨rfl, rfl⟩
def refOneB (a : Int) : Bool := decide (a < 64) && decide (cntP (inB a) 6 = 1)
theorem refOne_any (a : Int) (w : World) : Calls Try.prog 20 #[.int .u8 a] w fun e w' => e = .returned (.bool (refOneB a)) ∧ w = w' := by
  by_cases h : a < 64
  · cases hc : ((cntP (inB a) 6 : Nat) : Int) == 1 with
    | true =>
      have h1 : ((cntP (inB a) 6 : Nat) : Int) = 1 := by simpa using hc
      have h2 : refOneB a = true := by simp [refOneB, h]; omega
      have HR := Lib.hid h2
      clear h1 h2
      go_enter Try.func20, Try.ntmps20
      go_wp2_with (first | (go_at_call 18; refine (refMay_any _ _).mono ?_; rintro e w' ⟨rfl, rfl⟩) | (go_at_call 22; refine (refCount_any _ _).mono ?_; rintro e w' ⟨rfl, rfl⟩))
      go_ret
      exact ⟨by rw [HR.out]; rfl, rfl⟩
    | false =>
      have h1 : ¬ ((cntP (inB a) 6 : Nat) : Int) = 1 := by simpa using hc
      have h2 : refOneB a = false := by simp [refOneB, h]; omega
      have HR := Lib.hid h2
      clear h1 h2
      go_enter Try.func20, Try.ntmps20
      go_wp2_with (first | (go_at_call 18; refine (refMay_any _ _).mono ?_; rintro e w' ⟨rfl, rfl⟩) | (go_at_call 22; refine (refCount_any _ _).mono ?_; rintro e w' ⟨rfl, rfl⟩))
      go_ret
      exact ⟨by rw [HR.out]; rfl, rfl⟩
  · have HR := Lib.hid (show refOneB a = false by simp [refOneB, h])
    have hd : decide (a < 64) = false := by simpa using h
    go_enter Try.func20, Try.ntmps20
    go_wp2_with (first | (go_at_call 18; refine (refMay_any _ _).mono ?_; rintro e w' ⟨rfl, rfl⟩) | (go_at_call 22; refine (refCount_any _ _).mono ?_; rintro e w' ⟨rfl, rfl⟩))
    go_ret
    exact ⟨by rw [HR.out]; rfl, rfl⟩
/-- The first place, from k on, whose bit is a. -/
def placeFrom (a : Int) : Nat → Nat → Option Nat
  | 0, _ => none
  | d + 1, k => if a == 2 ^ k then some k else placeFrom a d (k + 1)
def placeV (a : Int) : Value := match placeFrom a 6 0 with | some k => .tuple #[.int .i64 k, .bool true] | none => .tuple #[.int .i64 0, .bool false]
theorem refPlace_any (a : Int) (w : World) : Calls Try.prog 16 #[.int .u8 a] w fun e w' => e = .returned (placeV a) ∧ w = w' := by
  go_enter Try.func16, Try.ntmps16
  go_wp2
  go_loop [4] (fun i => ∃ k : Nat, k ≤ 6 ∧ i = .int .i64 k ∧ placeFrom a 6 0 = placeFrom a (6 - k) k) (fun i => 6 - (intOf i).toNat)
  case atStart => exact ⟨0, by omega, rfl, rfl⟩
  case round =>
    obtain ⟨k, hk, rfl, hr⟩ := hrel
    have Hr := Lib.hid hr
    clear hr
    by_cases hlt : k < 6
    · have hstep : placeFrom a (6 - k) k = if a == 2 ^ k then some k else placeFrom a (6 - (k + 1)) (k + 1) := by
        rw [show 6 - k = (6 - (k + 1)) + 1 by omega]; rfl
      have Hs := Lib.hid hstep
      clear hstep
      cases heq : (a == 2 ^ k) with
      | true =>
        go_wp2_with (go_at_call 41; refine (refbit_any k hlt _).mono ?_; rintro e w' ⟨rfl, rfl⟩)
        go_ret2
        refine ⟨?_, rfl⟩
        unfold placeV
        rw [Hr.out, Hs.out, heq]
        rfl
      | false =>
        go_wp2_with (go_at_call 41; refine (refbit_any k hlt _).mono ?_; rintro e w' ⟨rfl, rfl⟩)
        refine ⟨⟨k + 1, by omega, by go_num, by rw [Hr.out, Hs.out, heq]; rfl⟩, by simp [intOf]; omega⟩
    · obtain rfl : k = 6 := by omega
      go_wp2
      go_ret2
      refine ⟨?_, rfl⟩
      unfold placeV
      rw [Hr.out]
      rfl

theorem pow_facts (k : Nat) (h : k < 6) : 1 ≤ (2 : Int) ^ k ∧ (2 : Int) ^ k ≤ 32 := by
  rcases (show k = 0 ∨ k = 1 ∨ k = 2 ∨ k = 3 ∨ k = 4 ∨ k = 5 by omega) with rfl | rfl | rfl | rfl | rfl | rfl <;> decide
theorem sumP_le (p : Nat → Bool) (k : Nat) (h : k ≤ 6) : sumP p k ≤ 63 := by
  have h1 := sumP_lt p k
  have h2 : 2 ^ k ≤ 2 ^ 6 := Nat.pow_le_pow_right (by omega) h
  omega
theorem sumP_hit (p : Nat → Bool) (k : Nat) (h : p k = true) : ((sumP p (k + 1) : Nat) : Int) = (sumP p k : Nat) + 2 ^ k := by
  simp [sumP, h]
theorem sumP_miss (p : Nat → Bool) (k : Nat) (h : p k = false) : sumP p (k + 1) = sumP p k := by simp [sumP, h]

set_option maxRecDepth 100000 in
theorem refLess_any (a b : Int) (w : World) : Calls Try.prog 30 #[.int .u8 a, .int .u8 b] w fun e w' => e = .returned (.int .u8 (sumP (fun k => inB a k && !inB b k) 6 : Nat)) ∧ w = w' := by
  go_enter Try.func30, Try.ntmps30
  go_wp2
  go_loop [5, 6] (fun n i => ∃ k : Nat, k ≤ 6 ∧ i = .int .i64 k ∧ n = .int .u8 (sumP (fun k => inB a k && !inB b k) k : Nat)) (fun _ i => 6 - (intOf i).toNat)
  case atStart => exact ⟨0, by omega, rfl, rfl⟩
  case round =>
    obtain ⟨k, hk, rfl, rfl⟩ := hrel
    have hb := sumP_le (fun k => inB a k && !inB b k) k hk
    by_cases hlt : k < 6
    · obtain ⟨hp1, hp2⟩ := pow_facts k hlt
      cases hin : inB a k with
      | true =>
        cases hin2 : inB b k with
        | false =>
          have Hn := Lib.hid (sumP_hit (fun k => inB a k && !inB b k) k (by simp [hin, hin2]))
          go_wp2_with (first | (go_at_call_of 43 a; refine (refIn_any a k hlt _).mono ?_; rintro e w' ⟨rfl, rfl⟩) | (go_at_call_of 43 b; refine (refIn_any b k hlt _).mono ?_; rintro e w' ⟨rfl, rfl⟩) | (go_at_call 41; refine (refbit_any k hlt _).mono ?_; rintro e w' ⟨rfl, rfl⟩))
          refine ⟨⟨k + 1, by omega, by go_num, by rw [Hn.out]⟩, by simp [intOf]; omega⟩
        | true =>
          have Hn := Lib.hid (sumP_miss (fun k => inB a k && !inB b k) k (by simp [hin, hin2]))
          go_wp2_with (first | (go_at_call_of 43 a; refine (refIn_any a k hlt _).mono ?_; rintro e w' ⟨rfl, rfl⟩) | (go_at_call_of 43 b; refine (refIn_any b k hlt _).mono ?_; rintro e w' ⟨rfl, rfl⟩))
          refine ⟨⟨k + 1, by omega, by go_num, by rw [Hn.out]⟩, by simp [intOf]; omega⟩
      | false =>
        have Hn := Lib.hid (sumP_miss (fun k => inB a k && !inB b k) k (by simp [hin]))
        go_wp2_with (first | (go_at_call_of 43 a; refine (refIn_any a k hlt _).mono ?_; rintro e w' ⟨rfl, rfl⟩))
        refine ⟨⟨k + 1, by omega, by go_num, by rw [Hn.out]⟩, by simp [intOf]; omega⟩
    · obtain rfl : k = 6 := by omega
      go_wp2
      go_ret
      exact ⟨rfl, rfl⟩
/-- Are all of b's abilities, from k on, in a? -/
def hasFrom (a b : Int) : Nat → Nat → Bool
  | 0, _ => true
  | d + 1, k => if inB b k && !inB a k then false else hasFrom a b d (k + 1)
set_option maxRecDepth 100000 in
theorem refHas_any (a b : Int) (w : World) : Calls Try.prog 32 #[.int .u8 a, .int .u8 b] w fun e w' => e = .returned (.bool (hasFrom a b 6 0)) ∧ w = w' := by
  go_enter Try.func32, Try.ntmps32
  go_wp2
  go_loop [5] (fun i => ∃ k : Nat, k ≤ 6 ∧ i = .int .i64 k ∧ hasFrom a b 6 0 = hasFrom a b (6 - k) k) (fun i => 6 - (intOf i).toNat)
  case atStart => exact ⟨0, by omega, rfl, rfl⟩
  case round =>
    obtain ⟨k, hk, rfl, hr⟩ := hrel
    have Hr := Lib.hid hr
    clear hr
    by_cases hlt : k < 6
    · have hstep : hasFrom a b (6 - k) k = if inB b k && !inB a k then false else hasFrom a b (6 - (k + 1)) (k + 1) := by
        rw [show 6 - k = (6 - (k + 1)) + 1 by omega]; rfl
      have Hs := Lib.hid hstep
      clear hstep
      cases hin : inB b k with
      | true =>
        cases hin2 : inB a k with
        | false =>
          go_wp2_with (first | (go_at_call_of 43 a; refine (refIn_any a k hlt _).mono ?_; rintro e w' ⟨rfl, rfl⟩) | (go_at_call_of 43 b; refine (refIn_any b k hlt _).mono ?_; rintro e w' ⟨rfl, rfl⟩))
          go_ret
          exact ⟨by rw [Hr.out, Hs.out, hin, hin2]; rfl, rfl⟩
        | true =>
          go_wp2_with (first | (go_at_call_of 43 a; refine (refIn_any a k hlt _).mono ?_; rintro e w' ⟨rfl, rfl⟩) | (go_at_call_of 43 b; refine (refIn_any b k hlt _).mono ?_; rintro e w' ⟨rfl, rfl⟩))
          refine ⟨⟨k + 1, by omega, by go_num, by rw [Hr.out, Hs.out, hin, hin2]; rfl⟩, by simp [intOf]; omega⟩
      | false =>
        go_wp2_with (first | (go_at_call_of 43 b; refine (refIn_any b k hlt _).mono ?_; rintro e w' ⟨rfl, rfl⟩))
        refine ⟨⟨k + 1, by omega, by go_num, by rw [Hr.out, Hs.out, hin]; rfl⟩, by simp [intOf]; omega⟩
    · obtain rfl : k = 6 := by omega
      go_wp2
      go_ret
      exact ⟨by rw [Hr.out]; rfl, rfl⟩
end Go.Proofs.Ytbdbhacniejagaa
