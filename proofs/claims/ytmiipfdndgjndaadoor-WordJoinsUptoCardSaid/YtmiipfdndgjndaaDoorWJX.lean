/- The contract of the reference's MayToken: printed by gen_mt.py. -/
import Derived.Test.YtmiipfdndgjndaaDoorNPX
import Derived.Test.YtmiipfdndgjndaaDoorT2
import Derived.Test.YtmiipfdndgjndaaDoorNJ
import Derived.Test.YtmiipfdndgjndaaDoorWQ
import Derived.Laws.Concat
import Derived.Lib.ItoaLen
import Derived.Test.YtmiipfdndgjndaaDoorWCX
import Derived.Test.YtmiipfdndgjndaaDoorVT
namespace Go.Proofs.YtmiipfdndgjndaaDoor
open Go.RowKit Go.Lib
set_option maxHeartbeats 1000000
def rmayRes (t : T) (w : World) (e : Ending) (w' : World) : Prop := e = .returned (.bool (mayT t)) ∧ Below w.heap.size w w'
set_option maxRecDepth 100000 in
theorem rmay_one (p n : Int) (s : ByteArray) (r : Int) (w : World) (hs : s.size ≤ 140737488351232) : Calls Tryd.prog 58 #[.agg #[.int .u8 1, .int .i64 p, .int .i64 n, .string s, .int .i64 r]] w (rmayRes ⟨1, p, n, s, r⟩ w) := by
  have HB := Lib.hid ((Below.refl w.heap.size w).alloc (Nat.le_refl _) (.cells #[.int .u8 1, .int .i64 p, .int .i64 n, .string s, .int .i64 r] 56))
  unfold rmayRes
  cases hn : (n != 0) with
  | true =>
    cases hr : (r != 0) with
    | true =>
      have n0 : (n == 0) = false := by simpa using hn
      have r0 : (r == 0) = false := by simpa using hr
      have HM : Hid (mayT ⟨1, p, n, s, r⟩ = false) := Lib.hid (by unfold mayT; simp [n0, r0])
      clear n0 r0
      go_enter Tryd.func58, Tryd.ntmps58
      go_wp2_with fail
      go_ret
      exact ⟨by rw [HM.out]; rfl, HB.out⟩
    | false =>
      have n0 : (n == 0) = false := by simpa using hn
      have r0 : (r == 0) = true := by simpa using hr
      have HM : Hid (mayT ⟨1, p, n, s, r⟩ = false) := Lib.hid (by unfold mayT; simp [n0, r0])
      clear n0 r0
      go_enter Tryd.func58, Tryd.ntmps58
      go_wp2_with fail
      go_ret
      exact ⟨by rw [HM.out]; rfl, HB.out⟩
  | false =>
    cases hr : (r != 0) with
    | true =>
      have n0 : (n == 0) = true := by simpa using hn
      have r0 : (r == 0) = false := by simpa using hr
      have HM : Hid (mayT ⟨1, p, n, s, r⟩ = false) := Lib.hid (by unfold mayT; simp [n0, r0])
      clear n0 r0
      go_enter Tryd.func58, Tryd.ntmps58
      go_wp2_with fail
      go_ret
      exact ⟨by rw [HM.out]; rfl, HB.out⟩
    | false =>
      have n0 : (n == 0) = true := by simpa using hn
      have r0 : (r == 0) = true := by simpa using hr
      have HM : Hid (mayT ⟨1, p, n, s, r⟩ = namedL s) := Lib.hid (by unfold mayT; simp [n0, r0])
      clear n0 r0
      have NA := Lib.hid (fun W => name_any s W hs)
      go_enter Tryd.func58, Tryd.ntmps58
      go_wp2_with fail
      refine (NA.out _).mono ?_
      rintro e w' ⟨rfl, rfl⟩
      go_wp2_with fail
      go_ret
      exact ⟨by rw [HM.out]; rfl, HB.out⟩

set_option maxRecDepth 100000 in
theorem rmay_two (p n : Int) (s : ByteArray) (r : Int) (w : World) (hs : s.size ≤ 140737488351232) : Calls Tryd.prog 58 #[.agg #[.int .u8 2, .int .i64 p, .int .i64 n, .string s, .int .i64 r]] w (rmayRes ⟨2, p, n, s, r⟩ w) := by
  have HB := Lib.hid ((Below.refl w.heap.size w).alloc (Nat.le_refl _) (.cells #[.int .u8 2, .int .i64 p, .int .i64 n, .string s, .int .i64 r] 56))
  unfold rmayRes
  cases hn : (n != 0) with
  | true =>
    cases hr : (r != 0) with
    | true =>
      have n0 : (n == 0) = false := by simpa using hn
      have r0 : (r == 0) = false := by simpa using hr
      have HM : Hid (mayT ⟨2, p, n, s, r⟩ = false) := Lib.hid (by unfold mayT; simp [r0])
      clear n0 r0
      go_enter Tryd.func58, Tryd.ntmps58
      go_wp2_with fail
      go_ret
      exact ⟨by rw [HM.out]; rfl, HB.out⟩
    | false =>
      have n0 : (n == 0) = false := by simpa using hn
      have r0 : (r == 0) = true := by simpa using hr
      by_cases hz : s.toList = []
      · have z3 : (s.size == 0) = true := by have := empty_of hz; subst this; rfl
        have HM : Hid (mayT ⟨2, p, n, s, r⟩ = true) := Lib.hid (by unfold mayT; simp only [z3, r0]; rfl)
        clear n0 r0 z3
        go_enter Tryd.func58, Tryd.ntmps58
        go_wp2_with fail
        go_ret
        exact ⟨by rw [HM.out]; rfl, HB.out⟩
      · have z2b : s.toList.isEmpty = false := by cases hx : s.toList with | nil => exact absurd hx hz | cons a b => rfl
        have z2c : (s.toList == []) = false := by cases hx : s.toList with | nil => exact absurd hx hz | cons a b => rfl
        have z3 : (s.size == 0) = false := by cases hx : (s.size == 0) with | false => rfl | true => exact absurd ((size_nil' s).1 (by simpa using hx)) hz
        have HM : Hid (mayT ⟨2, p, n, s, r⟩ = false) := Lib.hid (by unfold mayT; simp only [z3, r0]; rfl)
        clear n0 r0 z3
        go_enter Tryd.func58, Tryd.ntmps58
        go_wp2_with fail
        go_ret
        exact ⟨by rw [HM.out]; rfl, HB.out⟩
  | false =>
    cases hr : (r != 0) with
    | true =>
      have n0 : (n == 0) = true := by simpa using hn
      have r0 : (r == 0) = false := by simpa using hr
      have HM : Hid (mayT ⟨2, p, n, s, r⟩ = false) := Lib.hid (by unfold mayT; simp [r0])
      clear n0 r0
      go_enter Tryd.func58, Tryd.ntmps58
      go_wp2_with fail
      go_ret
      exact ⟨by rw [HM.out]; rfl, HB.out⟩
    | false =>
      have n0 : (n == 0) = true := by simpa using hn
      have r0 : (r == 0) = true := by simpa using hr
      by_cases hz : s.toList = []
      · have z3 : (s.size == 0) = true := by have := empty_of hz; subst this; rfl
        have HM : Hid (mayT ⟨2, p, n, s, r⟩ = true) := Lib.hid (by unfold mayT; simp only [z3, r0]; rfl)
        clear n0 r0 z3
        go_enter Tryd.func58, Tryd.ntmps58
        go_wp2_with fail
        go_ret
        exact ⟨by rw [HM.out]; rfl, HB.out⟩
      · have z2b : s.toList.isEmpty = false := by cases hx : s.toList with | nil => exact absurd hx hz | cons a b => rfl
        have z2c : (s.toList == []) = false := by cases hx : s.toList with | nil => exact absurd hx hz | cons a b => rfl
        have z3 : (s.size == 0) = false := by cases hx : (s.size == 0) with | false => rfl | true => exact absurd ((size_nil' s).1 (by simpa using hx)) hz
        have HM : Hid (mayT ⟨2, p, n, s, r⟩ = false) := Lib.hid (by unfold mayT; simp only [z3, r0]; rfl)
        clear n0 r0 z3
        go_enter Tryd.func58, Tryd.ntmps58
        go_wp2_with fail
        go_ret
        exact ⟨by rw [HM.out]; rfl, HB.out⟩

set_option maxRecDepth 100000 in
theorem rmay_three (p n : Int) (s : ByteArray) (r : Int) (w : World) (_hs : s.size ≤ 140737488351232) : Calls Tryd.prog 58 #[.agg #[.int .u8 3, .int .i64 p, .int .i64 n, .string s, .int .i64 r]] w (rmayRes ⟨3, p, n, s, r⟩ w) := by
  have HB := Lib.hid ((Below.refl w.heap.size w).alloc (Nat.le_refl _) (.cells #[.int .u8 3, .int .i64 p, .int .i64 n, .string s, .int .i64 r] 56))
  unfold rmayRes
  cases hn : (n != 0) with
  | true =>
    cases hr : (r != 0) with
    | true =>
      have n0 : (n == 0) = false := by simpa using hn
      have r0 : (r == 0) = false := by simpa using hr
      have HM : Hid (mayT ⟨3, p, n, s, r⟩ = false) := Lib.hid (by unfold mayT; simp [n0, r0])
      clear n0 r0
      go_enter Tryd.func58, Tryd.ntmps58
      go_wp2_with fail
      go_ret
      exact ⟨by rw [HM.out]; rfl, HB.out⟩
    | false =>
      have n0 : (n == 0) = false := by simpa using hn
      have r0 : (r == 0) = true := by simpa using hr
      have HM : Hid (mayT ⟨3, p, n, s, r⟩ = false) := Lib.hid (by unfold mayT; simp [n0, r0])
      clear n0 r0
      go_enter Tryd.func58, Tryd.ntmps58
      go_wp2_with fail
      go_ret
      exact ⟨by rw [HM.out]; rfl, HB.out⟩
  | false =>
    cases hr : (r != 0) with
    | true =>
      have n0 : (n == 0) = true := by simpa using hn
      have r0 : (r == 0) = false := by simpa using hr
      have HM : Hid (mayT ⟨3, p, n, s, r⟩ = false) := Lib.hid (by unfold mayT; simp [n0, r0])
      clear n0 r0
      go_enter Tryd.func58, Tryd.ntmps58
      go_wp2_with fail
      go_ret
      exact ⟨by rw [HM.out]; rfl, HB.out⟩
    | false =>
      have n0 : (n == 0) = true := by simpa using hn
      have r0 : (r == 0) = true := by simpa using hr
      have HM : Hid (mayT ⟨3, p, n, s, r⟩ = true) := Lib.hid (by unfold mayT; simp [n0, r0])
      clear n0 r0
      go_enter Tryd.func58, Tryd.ntmps58
      go_wp2_with fail
      go_ret
      exact ⟨by rw [HM.out]; rfl, HB.out⟩

set_option maxRecDepth 100000 in
theorem rmay_four (p n : Int) (s : ByteArray) (r : Int) (w : World) (hs : s.size ≤ 140737488351232) : Calls Tryd.prog 58 #[.agg #[.int .u8 4, .int .i64 p, .int .i64 n, .string s, .int .i64 r]] w (rmayRes ⟨4, p, n, s, r⟩ w) := by
  have HB := Lib.hid ((Below.refl w.heap.size w).alloc (Nat.le_refl _) (.cells #[.int .u8 4, .int .i64 p, .int .i64 n, .string s, .int .i64 r] 56))
  unfold rmayRes
  cases hn : (n != 0) with
  | true =>
    cases hr : (r != 0) with
    | true =>
      have n0 : (n == 0) = false := by simpa using hn
      have r0 : (r == 0) = false := by simpa using hr
      have HM : Hid (mayT ⟨4, p, n, s, r⟩ = false) := Lib.hid (by unfold mayT; simp [n0])
      clear n0 r0
      go_enter Tryd.func58, Tryd.ntmps58
      go_wp2_with fail
      go_ret
      exact ⟨by rw [HM.out]; rfl, HB.out⟩
    | false =>
      have n0 : (n == 0) = false := by simpa using hn
      have r0 : (r == 0) = true := by simpa using hr
      have HM : Hid (mayT ⟨4, p, n, s, r⟩ = false) := Lib.hid (by unfold mayT; simp [n0])
      clear n0 r0
      go_enter Tryd.func58, Tryd.ntmps58
      go_wp2_with fail
      go_ret
      exact ⟨by rw [HM.out]; rfl, HB.out⟩
  | false =>
    cases hr : (r != 0) with
    | true =>
      have n0 : (n == 0) = true := by simpa using hn
      have r0 : (r == 0) = false := by simpa using hr
      by_cases hz : s.toList = []
      · have z3 : (s.size == 0) = true := by have := empty_of hz; subst this; rfl
        by_cases h1 : 1 ≤ r
        · have t9 : decide (1 ≤ r) = true := by simpa using h1
          have HM : Hid (mayT ⟨4, p, n, s, r⟩ = true) := Lib.hid (by unfold mayT; simp only [z3, n0, t9]; rfl)
          clear n0 r0 z3 h1
          go_enter Tryd.func58, Tryd.ntmps58
          go_wp2_with fail
          go_ret
          exact ⟨by rw [HM.out]; rfl, HB.out⟩
        · have t9 : decide (1 ≤ r) = false := by simpa using h1
          have HM : Hid (mayT ⟨4, p, n, s, r⟩ = false) := Lib.hid (by unfold mayT; simp only [z3, n0, t9]; rfl)
          clear n0 r0 z3 h1
          go_enter Tryd.func58, Tryd.ntmps58
          go_wp2_with fail
          go_ret
          exact ⟨by rw [HM.out]; rfl, HB.out⟩
      · have z2b : s.toList.isEmpty = false := by cases hx : s.toList with | nil => exact absurd hx hz | cons a b => rfl
        have z2c : (s.toList == []) = false := by cases hx : s.toList with | nil => exact absurd hx hz | cons a b => rfl
        have z3 : (s.size == 0) = false := by cases hx : (s.size == 0) with | false => rfl | true => exact absurd ((size_nil' s).1 (by simpa using hx)) hz
        have HM : Hid (mayT ⟨4, p, n, s, r⟩ = false) := Lib.hid (by unfold mayT; simp only [z3, n0]; rfl)
        clear n0 r0 z3
        go_enter Tryd.func58, Tryd.ntmps58
        go_wp2_with fail
        go_ret
        exact ⟨by rw [HM.out]; rfl, HB.out⟩
    | false =>
      have n0 : (n == 0) = true := by simpa using hn
      have r0 : (r == 0) = true := by simpa using hr
      by_cases hz : s.toList = []
      · have z3 : (s.size == 0) = true := by have := empty_of hz; subst this; rfl
        by_cases h1 : 1 ≤ r
        · have t9 : decide (1 ≤ r) = true := by simpa using h1
          have HM : Hid (mayT ⟨4, p, n, s, r⟩ = true) := Lib.hid (by unfold mayT; simp only [z3, n0, t9]; rfl)
          clear n0 r0 z3 h1
          go_enter Tryd.func58, Tryd.ntmps58
          go_wp2_with fail
          go_ret
          exact ⟨by rw [HM.out]; rfl, HB.out⟩
        · have t9 : decide (1 ≤ r) = false := by simpa using h1
          have HM : Hid (mayT ⟨4, p, n, s, r⟩ = false) := Lib.hid (by unfold mayT; simp only [z3, n0, t9]; rfl)
          clear n0 r0 z3 h1
          go_enter Tryd.func58, Tryd.ntmps58
          go_wp2_with fail
          go_ret
          exact ⟨by rw [HM.out]; rfl, HB.out⟩
      · have z2b : s.toList.isEmpty = false := by cases hx : s.toList with | nil => exact absurd hx hz | cons a b => rfl
        have z2c : (s.toList == []) = false := by cases hx : s.toList with | nil => exact absurd hx hz | cons a b => rfl
        have z3 : (s.size == 0) = false := by cases hx : (s.size == 0) with | false => rfl | true => exact absurd ((size_nil' s).1 (by simpa using hx)) hz
        have HM : Hid (mayT ⟨4, p, n, s, r⟩ = false) := Lib.hid (by unfold mayT; simp only [z3, n0]; rfl)
        clear n0 r0 z3
        go_enter Tryd.func58, Tryd.ntmps58
        go_wp2_with fail
        go_ret
        exact ⟨by rw [HM.out]; rfl, HB.out⟩

set_option maxRecDepth 100000 in
theorem rmay_five (p n : Int) (s : ByteArray) (r : Int) (w : World) (_hs : s.size ≤ 140737488351232) : Calls Tryd.prog 58 #[.agg #[.int .u8 5, .int .i64 p, .int .i64 n, .string s, .int .i64 r]] w (rmayRes ⟨5, p, n, s, r⟩ w) := by
  have HB := Lib.hid ((Below.refl w.heap.size w).alloc (Nat.le_refl _) (.cells #[.int .u8 5, .int .i64 p, .int .i64 n, .string s, .int .i64 r] 56))
  unfold rmayRes
  cases hn : (n != 0) with
  | true =>
    cases hr : (r != 0) with
    | true =>
      have n0 : (n == 0) = false := by simpa using hn
      have r0 : (r == 0) = false := by simpa using hr
      have HM : Hid (mayT ⟨5, p, n, s, r⟩ = false) := Lib.hid (by unfold mayT; simp [n0, r0])
      clear n0 r0
      go_enter Tryd.func58, Tryd.ntmps58
      go_wp2_with fail
      go_ret
      exact ⟨by rw [HM.out]; rfl, HB.out⟩
    | false =>
      have n0 : (n == 0) = false := by simpa using hn
      have r0 : (r == 0) = true := by simpa using hr
      have HM : Hid (mayT ⟨5, p, n, s, r⟩ = false) := Lib.hid (by unfold mayT; simp [n0, r0])
      clear n0 r0
      go_enter Tryd.func58, Tryd.ntmps58
      go_wp2_with fail
      go_ret
      exact ⟨by rw [HM.out]; rfl, HB.out⟩
  | false =>
    cases hr : (r != 0) with
    | true =>
      have n0 : (n == 0) = true := by simpa using hn
      have r0 : (r == 0) = false := by simpa using hr
      have HM : Hid (mayT ⟨5, p, n, s, r⟩ = false) := Lib.hid (by unfold mayT; simp [n0, r0])
      clear n0 r0
      go_enter Tryd.func58, Tryd.ntmps58
      go_wp2_with fail
      go_ret
      exact ⟨by rw [HM.out]; rfl, HB.out⟩
    | false =>
      have n0 : (n == 0) = true := by simpa using hn
      have r0 : (r == 0) = true := by simpa using hr
      by_cases hz : s.size = 1
      · have hz0 : 0 < s.size := by omega
        have hbe := bAt_eq s 0 hz0
        have SG := Lib.hid (fun W => refSign_any (bAt s 0) W)
        have HM : Hid (mayT ⟨5, p, n, s, r⟩ = signI (bAt s 0)) := Lib.hid (by unfold mayT; simp [n0, r0, hz])
        have g1 : (0 : Int) < (s.size : Int) := by omega
        have t9 : ((s.size : Int) == 1) = true := by simp; omega
        generalize bAt s 0 = c at hbe SG HM
        clear n0 r0 hz
        go_enter Tryd.func58, Tryd.ntmps58
        go_wp2_with fail
        refine (SG.out _).mono ?_
        rintro e w' ⟨rfl, rfl⟩
        go_wp2_with fail
        go_ret
        exact ⟨by rw [HM.out]; rfl, HB.out⟩
      · have HM : Hid (mayT ⟨5, p, n, s, r⟩ = false) := Lib.hid (by unfold mayT; simp [hz])
        have t9 : ((s.size : Int) == 1) = false := by simp; omega
        clear n0 r0 hz
        go_enter Tryd.func58, Tryd.ntmps58
        go_wp2_with fail
        go_ret
        exact ⟨by rw [HM.out]; rfl, HB.out⟩

set_option maxRecDepth 100000 in
theorem rmay_rest (k : Int) (p n : Int) (s : ByteArray) (r : Int) (w : World) (_hs : s.size ≤ 140737488351232) (h1 : k ≠ 1) (h2 : k ≠ 2) (h3 : k ≠ 3) (h4 : k ≠ 4) (h5 : k ≠ 5) : Calls Tryd.prog 58 #[.agg #[.int .u8 k, .int .i64 p, .int .i64 n, .string s, .int .i64 r]] w (rmayRes ⟨k, p, n, s, r⟩ w) := by
  have HB := Lib.hid ((Below.refl w.heap.size w).alloc (Nat.le_refl _) (.cells #[.int .u8 k, .int .i64 p, .int .i64 n, .string s, .int .i64 r] 56))
  unfold rmayRes
  have k1 : (k == 1) = false := by simpa using h1
  have k2 : (k == 2) = false := by simpa using h2
  have k3 : (k == 3) = false := by simpa using h3
  have k4 : (k == 4) = false := by simpa using h4
  have k5 : (k == 5) = false := by simpa using h5
  have kn2 : (k != 2) = true := by simpa using h2
  have kn4 : (k != 4) = true := by simpa using h4
  have HM : Hid (mayT ⟨k, p, n, s, r⟩ = false) := Lib.hid (by unfold mayT; dsimp only; rw [if_neg h1, if_neg h2, if_neg h3, if_neg h4, if_neg h5])
  clear h1 h2 h3 h4 h5
  cases hn : (n != 0) with
  | true =>
    cases hr : (r != 0) with
    | true =>
      have n0 : (n == 0) = false := by simpa using hn
      have r0 : (r == 0) = false := by simpa using hr
      clear n0 r0
      go_enter Tryd.func58, Tryd.ntmps58
      go_wp2_with fail
      go_ret
      exact ⟨by rw [HM.out]; rfl, HB.out⟩
    | false =>
      have n0 : (n == 0) = false := by simpa using hn
      have r0 : (r == 0) = true := by simpa using hr
      clear n0 r0
      go_enter Tryd.func58, Tryd.ntmps58
      go_wp2_with fail
      go_ret
      exact ⟨by rw [HM.out]; rfl, HB.out⟩
  | false =>
    cases hr : (r != 0) with
    | true =>
      have n0 : (n == 0) = true := by simpa using hn
      have r0 : (r == 0) = false := by simpa using hr
      clear n0 r0
      go_enter Tryd.func58, Tryd.ntmps58
      go_wp2_with fail
      go_ret
      exact ⟨by rw [HM.out]; rfl, HB.out⟩
    | false =>
      have n0 : (n == 0) = true := by simpa using hn
      have r0 : (r == 0) = true := by simpa using hr
      clear n0 r0
      go_enter Tryd.func58, Tryd.ntmps58
      go_wp2_with fail
      go_ret
      exact ⟨by rw [HM.out]; rfl, HB.out⟩

theorem rmay_any (t : T) (w : World) (hs : t.s.size ≤ 140737488351232) : Calls Tryd.prog 58 #[tokV t] w (rmayRes t w) := by
  obtain ⟨k, p, n, s, r⟩ := t
  by_cases h1 : k = 1
  · subst h1; exact rmay_one p n s r w hs
  by_cases h2 : k = 2
  · subst h2; exact rmay_two p n s r w hs
  by_cases h3 : k = 3
  · subst h3; exact rmay_three p n s r w hs
  by_cases h4 : k = 4
  · subst h4; exact rmay_four p n s r w hs
  by_cases h5 : k = 5
  · subst h5; exact rmay_five p n s r w hs
  exact rmay_rest k p n s r w hs h1 h2 h3 h4 h5
end Go.Proofs.YtmiipfdndgjndaaDoor
/- The contract of the reference's form. -/
namespace Go.Proofs.YtmiipfdndgjndaaDoor
open Go.RowKit Go.Lib
set_option maxHeartbeats 1000000
theorem app_lists (a b : List UInt8) : (⟨a.toArray⟩ : ByteArray) ++ ⟨b.toArray⟩ = ⟨(a ++ b).toArray⟩ := by
  apply ByteArray.ext
  apply Array.ext'
  simp
theorem lit_app (b : List UInt8) : (⟨#[35]⟩ : ByteArray) ++ ⟨b.toArray⟩ = ⟨(35 :: b).toArray⟩ := app_lists [35] b
set_option maxRecDepth 100000 in
theorem form_any (t : T) (w : World) (hf : t.fits) (hq : t.kind = 3 → (quoteL t.s.data.toList).length ≤ 140737488355328) (htab : Tab w.heap.size w) :
    Calls Tryd.prog 59 #[tokV t] w fun e w' => e = .returned (.string ⟨(formT t).toArray⟩) ∧ Below w.heap.size w w' := by
  obtain ⟨k, p, n, s, r⟩ := t
  obtain ⟨n0, n1, r0, r1, hs⟩ := hf
  dsimp only at n0 n1 r0 r1 hs hq
  unfold tokV
  dsimp only
  have hB : Below w.heap.size w (w.alloc (.cells #[.int .u8 k, .int .i64 p, .int .i64 n, .string s, .int .i64 r] 56)) := (Below.refl _ w).alloc (Nat.le_refl _) _
  have htb := (tab_at htab hB).here
  have FI := Lib.hid (Tryd.strconv_FormatInt_10 n n0 n1 _ htb)
  have IT := Lib.hid (Tryd.strconv_Itoa r r0 r1 _ htb)
  have hil := Lib.hid (itoa_length_le r r0 r1)
  have HB := Lib.hid hB
  clear hB htb
  by_cases h2 : k = 2
  · subst h2
    have HF : Hid (formT ⟨2, p, n, s, r⟩ = Lib.itoa n) := Lib.hid rfl
    rw [HF.out]
    clear hq HF
    go_enter Tryd.func59, Tryd.ntmps59
    go_wp2_with fail
    refine FI.out.mono ?_
    rintro e w' ⟨rfl, k1, os, rfl⟩
    go_wp2
    go_ret
    exact ⟨rfl, HB.out.trans (Lib.below_grow _ _ (by have := HB.out.size; omega) _ _)⟩
  have k2 : (k == 2) = false := by simpa using h2
  by_cases h4 : k = 4
  · subst h4
    have HF : Hid (formT ⟨4, p, n, s, r⟩ = 35 :: Lib.itoa r) := Lib.hid rfl
    rw [HF.out, ← lit_app]
    obtain ⟨x, hx⟩ : ∃ x : ByteArray, x = ⟨(Lib.itoa r).toArray⟩ := ⟨_, rfl⟩
    have hxs : x.size ≤ 1099511627776 := by rw [hx, size_arr]; have := hil.out; omega
    rw [← hx] at IT ⊢
    clear hx hq HF h2
    go_enter Tryd.func59, Tryd.ntmps59
    go_wp2_with fail
    refine IT.out.mono ?_
    rintro e w' ⟨rfl, k1, os, rfl⟩
    go_wp2
    go_ret
    exact ⟨rfl, HB.out.trans (Lib.below_grow _ _ (by have := HB.out.size; omega) _ _)⟩
  have k4 : (k == 4) = false := by simpa using h4
  by_cases h3 : k = 3
  · subst h3
    have HF : Hid (formT ⟨3, p, n, s, r⟩ = quoteL s.data.toList) := Lib.hid rfl
    have QU := Lib.hid (fun W => refQuote_any s W (hq rfl))
    rw [HF.out]
    clear hq HF h2 h4
    go_enter Tryd.func59, Tryd.ntmps59
    go_wp2_with fail
    refine (QU.out _).mono ?_
    rintro e w' ⟨rfl, hb⟩
    go_wp2
    go_ret
    exact ⟨rfl, HB.out.trans (hb.mono HB.out.size)⟩
  have k3 : (k == 3) = false := by simpa using h3
  have HF : Hid ((⟨(formT ⟨k, p, n, s, r⟩).toArray⟩ : ByteArray) = s) := Lib.hid (by unfold formT; dsimp only; rw [if_neg h2, if_neg h3, if_neg h4])
  rw [HF.out]
  clear hq HF h2 h3 h4
  go_enter Tryd.func59, Tryd.ntmps59
  go_wp2_with fail
  go_ret
  exact ⟨rfl, HB.out⟩
end Go.Proofs.YtmiipfdndgjndaaDoor
/- The contract of the reference's Join: printed by gen_rjoin.py. -/
namespace Go.Proofs.YtmiipfdndgjndaaDoor
open Go.RowKit Go.Lib
set_option maxHeartbeats 2000000
theorem form_len (t : T) (h : t.fits) : (formT t).length ≤ 4398046511106 := by
  obtain ⟨n0, n1, r0, r1, hs⟩ := h
  have h1 := itoa_length_le t.n n0 n1
  have h2 := itoa_length_le t.r r0 r1
  have h3 := quote_len t.s hs
  have h4 := size_list t.s
  unfold formT
  repeat' split
  all_goals first | omega | (simp only [List.length_cons]; omega)
theorem below_own {w w2 w3 : World} {base : Nat} {e : TypeId} {size n : Nat} {v : Value} {xs : List Value} (h : Below w.heap.size w w2) (ho : w2.ownsRow base e size v n xs) (hb : w.heap.size ≤ base) (hg : w2.grownBy w3 v.ownBlock) : Below w.heap.size w w3 :=
  h.trans ⟨hg.os, hg.tape, hg.output, hg.size, fun i hi => hg.block i (by have := h.size; omega) (fun e => by have := (ho.lt _ e.symm).1; omega)⟩
set_option maxRecDepth 100000 in
theorem refJoin_any (l : List T) (A : Option Addr) (cap : Nat) (S : Nat → Prop) (w : World) (hin : TokIn w S A l) (hS : ∀ b, S b → b < w.heap.size) (hfit : ∀ t ∈ l, t.fits) (hlen : l.length ≤ 140737488351232) (htab : Tab w.heap.size w) :
    Calls Tryd.prog 29 #[.slice A l.length cap] w (joinRes l w) := by
  obtain ⟨nr, hnr⟩ : ∃ nr, nr = joinRes l w := ⟨_, rfl⟩
  rw [← hnr]
  have Hnr := Lib.hid hnr
  clear hnr
  have Hin := Lib.hid hin
  have HS := Lib.hid hS
  have Hfit := Lib.hid hfit
  have Htab := Lib.hid htab
  clear hin hS hfit htab
  obtain ⟨i0, hi, hz0, hz1, hz2⟩ := info_parts info5
  go_enter Tryd.func29, Tryd.ntmps29
  go_wp2_with fail
  go_loopw [4] (fun b wr => ∃ k : Nat, b = .int .i64 k ∧ k ≤ l.length ∧ Below w.heap.size w wr ∧ (∀ i t, i < k → l[i]? = some t → mayT t = true)) (fun b _ => l.length - (Go.RowKit.intOf b).toNat)
  case atStart => exact ⟨0, rfl, by omega, Below.refl _ _, fun i t hi => absurd hi (Nat.not_lt_zero _)⟩
  case round =>
    obtain ⟨k, rfl, hk, hbw, hok⟩ := hrel
    have Hok := Lib.hid hok
    have Hbw := Lib.hid hbw
    have hsz := hbw.size
    clear hok hbw
    by_cases hlt : k < l.length
    · have hkI : decide ((k : Int) < (l.length : Int)) = true := by simp; omega
      obtain ⟨t, ht⟩ : ∃ t, l[k]? = some t := ⟨l[k], List.getElem?_eq_getElem hlt⟩
      obtain ⟨b3, o3, rfl, hb3, d0, d1, d2, d3, d4⟩ := tok_facts Hin.out HS.out Hbw.out k t ht
      have hfk := Hfit.out t (List.mem_of_getElem? ht)
      have hc := rmay_any t wr (by have := hfk.2.2.2.2; omega)
      unfold tokV at hc
      have HC := Lib.hid hc
      have Ht := Lib.hid ht
      clear hc ht hfk
      have hmm : mayT t = true ∨ mayT t = false := by cases mayT t <;> simp
      rcases hmm with hm | hm
      · have Hm := Lib.hid hm
        go_wp2_with fail
        refine HC.out.mono ?_
        rintro e w2 ⟨rfl, hb2⟩
        have Hb3 := Lib.hid (Hbw.out.trans (hb2.mono hsz))
        rw [Hm.out]
        clear hb2 hm
        go_wp2_with fail
        refine ⟨⟨k + 1, by simp, by omega, Hb3.out, fun i t' hi ht' => ?_⟩, by simp [Go.RowKit.intOf]; omega⟩
        by_cases e : i = k
        · subst e; rw [Ht.out] at ht'; injection ht' with e2; rw [← e2]; exact Hm.out
        · exact Hok.out i t' (by omega) ht'
      · have Hm := Lib.hid hm
        go_wp2_with fail
        refine HC.out.mono ?_
        rintro e w2 ⟨rfl, hb2⟩
        have Hb3 := Lib.hid (Hbw.out.trans (hb2.mono hsz))
        rw [Hm.out]
        clear hb2 hm
        go_wp2
        rw [Hnr.out]
        refine ⟨?_, Hb3.out⟩
        have : l.all mayT = false := by
          rw [List.all_eq_false]
          exact ⟨t, List.mem_of_getElem? Ht.out, by rw [Hm.out]; simp⟩
        unfold joinF
        rw [this]
        rfl
    · have hkI : decide ((k : Int) < (l.length : Int)) = false := by simp; omega
      obtain rfl : k = l.length := by omega
      have hall : l.all mayT = true := by
        rw [List.all_eq_true]
        intro t ht
        obtain ⟨i, hi, e⟩ := List.getElem_of_mem ht
        exact Hok.out i t hi (by rw [List.getElem?_eq_getElem hi, e])
      obtain ⟨R, hR⟩ : ∃ R, joinL l [] true = R := ⟨_, rfl⟩
      have hj : joinF l = joinOut R := by
        unfold joinF
        rw [if_pos hall, hR]
        cases R <;> rfl
      have HJ := Lib.hid hj
      have HR := Lib.hid hR
      clear hj hR hall Hok hlt hk
      go_wp2_with fail
      go_loopw [5, 6] (fun b i w2 => ∃ (k : Nat) (cur : List UInt8), i = .int .i64 k ∧ k ≤ l.length ∧ w2.ownsRow w.heap.size 5 1 b cur.length (byteCells cur) ∧ Below w.heap.size w w2 ∧ cur.length ≤ 1048576 ∧ joinL (l.drop k) cur (k == 0) = R) (fun _ i _ => l.length - (Go.RowKit.intOf i).toNat)
      case atStart => exact ⟨0, [], rfl, by omega, World.ownsRow_nil _ _ _ _, Hbw.out, by simp, by simpa using HR.out⟩
      case round =>
        clear HR Hbw hsz hkI
        obtain ⟨k, cur, rfl, hk, hown, hbw, hcl, hjl⟩ := hrel
        obtain ⟨ad, cap2, rfl⟩ := own_slice hown
        have hsz := hbw.size
        have HO := Lib.hid hown
        have HBW := Lib.hid hbw
        have HJL := Lib.hid hjl
        clear hown hbw hjl
        by_cases hlt : k < l.length
        · have hkI : decide ((k : Int) < (l.length : Int)) = true := by simp; omega
          obtain ⟨t, ht⟩ : ∃ t, l[k]? = some t := ⟨l[k], List.getElem?_eq_getElem hlt⟩
          have hfk := Hfit.out t (List.mem_of_getElem? ht)
          have hfl := form_len t hfk
          obtain ⟨stp, hstp⟩ : ∃ stp, stp = step (k == 0) cur t := ⟨_, rfl⟩
          have hjs : (if 1048576 < stp.length then none else joinL (l.drop (k + 1)) stp false) = R := by
            rw [← HJL.out, hstp, ← joinL_step]
            congr 1
            obtain ⟨h1, rfl⟩ := List.getElem?_eq_some_iff.mp ht
            exact (List.drop_eq_getElem_cons h1).symm
          have Hjs := Lib.hid hjs
          have Ht := Lib.hid ht
          have HFK := Lib.hid hfk
          have HQ := Lib.hid (quote_len t.s hfk.2.2.2.2)
          obtain ⟨frm, hfrm⟩ : ∃ frm, frm = formT t := ⟨_, rfl⟩
          have FRM := Lib.hid (fun (W : World) (X : Below w.heap.size w W) => form_any t W hfk (fun _ => by have := HQ.out; omega) (tab_at Htab.out X))
          rw [← hfrm] at hfl FRM
          unfold tokV at FRM
          have HFRM := Lib.hid hfrm
          clear hjs ht hfk HJL hfrm
          by_cases hk0 : k = 0
          · subst hk0
            obtain ⟨b3, o3, rfl, hb3, d0, d1, d2, d3, d4⟩ := tok_facts Hin.out HS.out HBW.out 0 t Ht.out
            simp only [Nat.zero_mul, Nat.add_zero] at d0 d1 d2 d3 d4
            obtain ⟨cu, hcu2⟩ : ∃ cu, cu = cur := ⟨_, rfl⟩
            have hcu : stp = cu ++ frm := by rw [hstp, HFRM.out, hcu2]; simp [step]
            rw [← hcu2] at HO hcl
            rw [← hcu2]
            have Hcu := Lib.hid hcu
            clear hcu hcu2 hstp
            go_wp2_with fail
            refine (FRM.out _ HBW.out).mono ?_
            rintro e w4 ⟨rfl, hb4⟩
            have HO4 := Lib.hid (own_of_block HO.out (fun g hg => hb4.block g ((HO.out).lt g hg).2))
            have HB4 := Lib.hid (below_next HBW.out hb4)
            clear hb4
            have hs4 := HB4.out.size
            by_cases hlong : 1048576 < stp.length
            · have tl : decide ((1048576 : Int) < (stp.length : Int)) = true := by simp; omega
              go_wp2_with (at_builtin; refine wpList_append_own_string _ rfl _ _ 83 9 rfl w.heap.size 5 i0 Tryd.underlying83 Tryd.underlying9 hi hz0 hz1 hz2 _ cu.length (byteCells cu) rfl (by exact HO4.out) ⟨frm.toArray⟩ rfl (by unfold maxLen; rw [size_arr]; omega) (by rw [size_arr]; omega) (by omega) ?_; intro v5 w5 ho5 hgrow5 hnil5; have hb5 := below_own HB4.out HO4.out (Nat.le_refl _) hgrow5; have ho6 := (by rw [Hcu.out, List.length_append, byteCells_append]; exact ho5 : w5.ownsRow w.heap.size 5 1 v5 stp.length (byteCells stp)); obtain ⟨ad5, cap5, rfl⟩ := own_slice ho6; have HO5 := Lib.hid ho6; have HB5 := Lib.hid hb5; clear ho5 hgrow5 hnil5 hb5 ho6)
              go_wp2_with fail
              rw [Hnr.out]
              refine ⟨?_, HB5.out⟩
              have hj := Hjs.out
              rw [if_pos hlong] at hj
              rw [HJ.out, ← hj]
              rfl
            · have tl : decide ((1048576 : Int) < (stp.length : Int)) = false := by simp; omega
              go_wp2_with (at_builtin; refine wpList_append_own_string _ rfl _ _ 83 9 rfl w.heap.size 5 i0 Tryd.underlying83 Tryd.underlying9 hi hz0 hz1 hz2 _ cu.length (byteCells cu) rfl (by exact HO4.out) ⟨frm.toArray⟩ rfl (by unfold maxLen; rw [size_arr]; omega) (by rw [size_arr]; omega) (by omega) ?_; intro v5 w5 ho5 hgrow5 hnil5; have hb5 := below_own HB4.out HO4.out (Nat.le_refl _) hgrow5; have ho6 := (by rw [Hcu.out, List.length_append, byteCells_append]; exact ho5 : w5.ownsRow w.heap.size 5 1 v5 stp.length (byteCells stp)); obtain ⟨ad5, cap5, rfl⟩ := own_slice ho6; have HO5 := Lib.hid ho6; have HB5 := Lib.hid hb5; clear ho5 hgrow5 hnil5 hb5 ho6)
              go_wp2_with fail
              refine ⟨⟨0 + 1, stp, by simp, by omega, HO5.out, HB5.out, by omega, ?_⟩, by simp [Go.RowKit.intOf]; omega⟩
              have hj := Hjs.out
              rw [if_neg hlong] at hj
              rw [show (0 + 1 == 0) = false by simp]
              exact hj
          · have tk : decide ((0 : Int) < (k : Int)) = true := by simp; omega
            obtain ⟨cu, hcu2⟩ : ∃ cu, cu = cur ++ [32] := ⟨_, rfl⟩
            have hcul : cu.length ≤ 1048577 := by rw [hcu2]; simp; omega
            have hcu : stp = cu ++ frm := by rw [hstp, HFRM.out, hcu2]; simp [step, hk0]
            have Hcu2 := Lib.hid hcu2
            have Hcu := Lib.hid hcu
            clear hcu hcu2 hstp
            go_wp2_with (at_builtin; refine wpList_append_own _ rfl _ _ 83 rfl w.heap.size 5 i0 (.int .u8 0) 1 1 Tryd.underlying83 hi hz0 hz1 hz2 rfl (by decide) _ cur.length (byteCells cur) rfl (by exact HO.out.alloc _) _ 1 1 _ rfl rfl (cells_at _ _ (by simp) #[.int .u8 32] _) (by simp [Value.oneCell']) (by unfold maxLen; omega) (by omega) (by simp; omega) ?_; intro v3 w3 hown3 hgrow3 _; have hb3w := below_own (HBW.out.alloc hsz (.cells #[.int .u8 32] 5)) (HO.out.alloc _) (Nat.le_refl _) hgrow3; have ho3 := (by rw [Hcu2.out, List.length_append, byteCells_append]; exact hown3 : w3.ownsRow w.heap.size 5 1 v3 cu.length (byteCells cu)); obtain ⟨b3, o3, rfl, hb3, d0, d1, d2, d3, d4⟩ := tok_facts Hin.out HS.out hb3w k t Ht.out; obtain ⟨ad3, cap3, rfl⟩ := own_slice ho3; have HO3 := Lib.hid ho3; have HB3 := Lib.hid hb3w; clear hown3 hgrow3 hb3w ho3; refine Hid.out ?_)
            refine Lib.hid ?_
            go_wp2_with fail
            refine (FRM.out _ HB3.out).mono ?_
            rintro e w4 ⟨rfl, hb4⟩
            have HO4 := Lib.hid (own_of_block HO3.out (fun g hg => hb4.block g ((HO3.out).lt g hg).2))
            have HB4 := Lib.hid (below_next HB3.out hb4)
            clear hb4
            have hs4 := HB4.out.size
            by_cases hlong : 1048576 < stp.length
            · have tl : decide ((1048576 : Int) < (stp.length : Int)) = true := by simp; omega
              go_wp2_with (at_builtin; refine wpList_append_own_string _ rfl _ _ 83 9 rfl w.heap.size 5 i0 Tryd.underlying83 Tryd.underlying9 hi hz0 hz1 hz2 _ cu.length (byteCells cu) rfl (by exact HO4.out) ⟨frm.toArray⟩ rfl (by unfold maxLen; rw [size_arr]; omega) (by rw [size_arr]; omega) (by omega) ?_; intro v5 w5 ho5 hgrow5 hnil5; have hb5 := below_own HB4.out HO4.out (Nat.le_refl _) hgrow5; have ho6 := (by rw [Hcu.out, List.length_append, byteCells_append]; exact ho5 : w5.ownsRow w.heap.size 5 1 v5 stp.length (byteCells stp)); obtain ⟨ad5, cap5, rfl⟩ := own_slice ho6; have HO5 := Lib.hid ho6; have HB5 := Lib.hid hb5; clear ho5 hgrow5 hnil5 hb5 ho6)
              go_wp2_with fail
              rw [Hnr.out]
              refine ⟨?_, HB5.out⟩
              have hj := Hjs.out
              rw [if_pos hlong] at hj
              rw [HJ.out, ← hj]
              rfl
            · have tl : decide ((1048576 : Int) < (stp.length : Int)) = false := by simp; omega
              go_wp2_with (at_builtin; refine wpList_append_own_string _ rfl _ _ 83 9 rfl w.heap.size 5 i0 Tryd.underlying83 Tryd.underlying9 hi hz0 hz1 hz2 _ cu.length (byteCells cu) rfl (by exact HO4.out) ⟨frm.toArray⟩ rfl (by unfold maxLen; rw [size_arr]; omega) (by rw [size_arr]; omega) (by omega) ?_; intro v5 w5 ho5 hgrow5 hnil5; have hb5 := below_own HB4.out HO4.out (Nat.le_refl _) hgrow5; have ho6 := (by rw [Hcu.out, List.length_append, byteCells_append]; exact ho5 : w5.ownsRow w.heap.size 5 1 v5 stp.length (byteCells stp)); obtain ⟨ad5, cap5, rfl⟩ := own_slice ho6; have HO5 := Lib.hid ho6; have HB5 := Lib.hid hb5; clear ho5 hgrow5 hnil5 hb5 ho6)
              go_wp2_with fail
              refine ⟨⟨k + 1, stp, by simp, by omega, HO5.out, HB5.out, by omega, ?_⟩, by simp [Go.RowKit.intOf]; omega⟩
              have hj := Hjs.out
              rw [if_neg hlong] at hj
              rw [show (k + 1 == 0) = false by simp]
              exact hj
        · have hkI : decide ((k : Int) < (l.length : Int)) = false := by simp; omega
          obtain rfl : k = l.length := by omega
          have hR2 : R = some cur := by
            rw [← HJL.out, List.drop_length]
            rfl
          subst hR2
          have hcv := conv_own cur rfl HO.out
          go_wp2
          rw [Hnr.out]
          refine ⟨?_, HBW.out⟩
          rw [HJ.out]
          rfl
end Go.Proofs.YtmiipfdndgjndaaDoor
/- The contract of the law's handed. -/
namespace Go.Proofs.YtmiipfdndgjndaaDoor
open Go.RowKit Go.Lib
set_option maxHeartbeats 1000000
theorem tokCs_at : ∀ (l : List T) (j : Nat) (u : Value), (tokCs l)[j]? = some u → ∃ (k : Nat) (t : T) (i : Nat), j = k * 5 + i ∧ l[k]? = some t ∧ (tokC t)[i]? = some u := by
  intro l
  induction l with
  | nil => intro j u h; simp [tokCs] at h
  | cons x l ih =>
    intro j u h
    have h5 : (tokC x).length = 5 := by cases x; rfl
    have he : tokCs (x :: l) = tokC x ++ tokCs l := by simp [tokCs]
    rw [he] at h
    by_cases hj : j < 5
    · rw [List.getElem?_append_left (by omega)] at h
      exact ⟨0, x, j, by omega, rfl, h⟩
    · rw [List.getElem?_append_right (by omega), h5] at h
      obtain ⟨k, t, i, e1, e2, e3⟩ := ih _ _ h
      exact ⟨k + 1, t, i, by omega, by simpa using e2, e3⟩
theorem tokCs_len (l : List T) : (tokCs l).length = l.length * 5 := by
  induction l with
  | nil => rfl
  | cons x l ih =>
    have h5 : (tokC x).length = 5 := by cases x; rfl
    have he : tokCs (x :: l) = tokC x ++ tokCs l := by simp [tokCs]
    rw [he, List.length_append, h5, ih, List.length_cons]
    omega
theorem tokCs_one (l : List T) : ∀ u ∈ tokCs l, u.oneCell' = true := by
  induction l with
  | nil => intro u h; simp [tokCs] at h
  | cons x l ih =>
    intro u h
    have he : tokCs (x :: l) = tokC x ++ tokCs l := by simp [tokCs]
    rw [he, List.mem_append] at h
    rcases h with h | h
    · cases x
      simp [tokC] at h
      rcases h with h | h | h | h | h <;> subst h <;> rfl
    · exact ih u h
theorem add_at (b o j : Nat) : (⟨b, o, none⟩ : Addr).add j = ⟨b, o + j, none⟩ := by unfold Addr.add; split <;> simp_all
/-- A row with nothing in it. -/
theorem own_empty (w : World) : (w.alloc (.cells #[] 56)).ownsRow w.heap.size 56 5 (.slice (some ⟨w.heap.size, 0, none⟩) 0 0) 0 [] :=
  ⟨rfl, .inr ⟨w.heap.size, 0, #[], rfl, Nat.le_refl _, heap_alloc_new w _, Nat.le_refl _, Nat.zero_le _, rfl, rfl⟩⟩
theorem below_own' {w w2 w3 : World} {base : Nat} {e : TypeId} {size n : Nat} {v : Value} {xs : List Value} (h : Below w.heap.size w w2) (ho : w2.ownsRow base e size v n xs) (hb : w.heap.size ≤ base) (hg : w2.grownBy w3 v.ownBlock) : Below w.heap.size w w3 :=
  h.trans ⟨hg.os, hg.tape, hg.output, hg.size, fun i hi => hg.block i (by have := h.size; omega) (fun e => by have := (ho.lt _ e.symm).1; omega)⟩
theorem own_cap {w : World} {base : Nat} {e : TypeId} {size n g cap : Nat} {xs : List Value} (h : w.ownsRow base e size (.slice (some ⟨g, 0, none⟩) n cap) n xs) : n ≤ cap := by
  rcases h.2 with ⟨h1, _⟩ | ⟨g', cap', cur, h1, _, _, h2, _⟩
  · cases h1
  · injection h1 with _ _ h3
    subst h3
    exact h2
def markC : List Value := [.int .u8 77, .int .i64 0, .int .i64 0, .string ⟨#[]⟩, .int .i64 0]
set_option maxRecDepth 100000 in
theorem handed_any (l : List T) (A : Option Addr) (cap : Nat) (S : Nat → Prop) (w : World) (hin : TokIn w S A l) (hS : ∀ b, S b → b < w.heap.size) (hlen : l.length ≤ 100000) (hnil : A = none → l.length = 0 ∧ cap = 0) :
    Calls Tryd.prog 27 #[.slice A l.length cap] w fun e w' => (∃ (g c : Nat), e = .returned (.slice (some ⟨g, 0, none⟩) l.length c) ∧ w'.ownsRow w.heap.size 56 5 (.slice (some ⟨g, 0, none⟩) (l.length + 1) c) (l.length + 1) (tokCs l ++ markC)) ∧ Below w.heap.size w w' := by
  obtain ⟨i0, hi, hz0, hz1, hz2⟩ := info_parts info56
  have HE := Lib.hid (own_empty w)
  have HB0 := Lib.hid ((Below.refl w.heap.size w).alloc (Nat.le_refl _) (.cells #[] 56))
  have HCL := Lib.hid (tokCs_len l)
  have HON := Lib.hid (tokCs_one l)
  by_cases hl : l = []
  · subst hl
    clear hin
    go_enter Tryd.func27, Tryd.ntmps27
    go_wp2_with (at_builtin; first
      | (refine wpList_append_lies _ rfl _ _ 40 rfl w.heap.size 56 i0 (.agg #[.int .u8 0, .int .i64 0, .int .i64 0, .string ⟨#[]⟩, .int .i64 0]) 5 48 Tryd.underlying40 hi hz0 hz1 hz2 rfl (by decide) _ 0 (tokCs []) rfl (by exact HO1.out.alloc _) _ 1 1 markC rfl rfl (cells_at _ _ (by simp) #[.int .u8 77, .int .i64 0, .int .i64 0, .string ⟨#[]⟩, .int .i64 0] _) (by simp [Value.oneCell', markC]) (by decide) (by unfold maxLen; omega) (by omega) (by simp; omega) _ rfl ?_; intro g2 cap2 w2 hown2 hgrow2 hat2 hlt2; have hb2 := below_own' (HB1.out.alloc (by omega) _) (HO1.out.alloc _) (Nat.le_refl _) hgrow2; have hc2 : 1 ≤ cap2 := own_cap hown2; have HO2 := Lib.hid hown2; have HB2 := Lib.hid hb2; clear hown2 hgrow2 hat2 hlt2 hb2)
      | (refine wpList_append_fits_any _ rfl _ _ 40 rfl w.heap.size 56 i0 5 Tryd.underlying40 hi hz1 w.heap.size 0 0 [] rfl (by exact HE.out) A 0 cap [] rfl rfl (fun h => ⟨rfl, (hnil h).2⟩) (fun _ _ j u h => by simp at h) (fun u h => by cases h) (by omega) ?_; intro w1 hown1 hgrow1; have hb1 := below_own' HB0.out HE.out (Nat.le_refl _) hgrow1; have hs1 := hb1.size; have HO1 := Lib.hid hown1; have HB1 := Lib.hid hb1; clear hown1 hgrow1 hb1))
    go_ret
    exact ⟨⟨g2, cap2, rfl, HO2.out⟩, HB2.out⟩
  · have hl0 : 0 < l.length := List.length_pos_iff.2 hl
    obtain ⟨b, o, rfl, hSb, _⟩ := hin 0 l[0] (List.getElem?_eq_getElem hl0)
    have hblt := hS b hSb
    have hn : ∀ j u, (tokCs l)[j]? = some u → (w.alloc (.cells #[] 56)).cell? ((⟨b, o, none⟩ : Addr).add j) = some u := by
      intro j u hu
      obtain ⟨k, t, i, rfl, h2, h3⟩ := tokCs_at l j u hu
      obtain ⟨b', o', e, _, h4⟩ := hin k t h2
      injection e with e
      injection e with e1 e2 _
      subst e1 e2
      rw [add_at, ← Nat.add_assoc]
      exact (World.cell?_of_block (Below.heap_alloc w _ b hblt)).trans (h4 i u h3)
    have HN := Lib.hid hn
    clear hin hS hn hnil hSb
    go_enter Tryd.func27, Tryd.ntmps27
    go_wp2_with (at_builtin; first
      | (refine wpList_append_lies _ rfl _ _ 40 rfl w.heap.size 56 i0 (.agg #[.int .u8 0, .int .i64 0, .int .i64 0, .string ⟨#[]⟩, .int .i64 0]) 5 48 Tryd.underlying40 hi hz0 hz1 hz2 rfl (by decide) _ l.length (tokCs l) rfl (by exact HO1.out.alloc _) _ 1 1 markC rfl rfl (cells_at _ _ (by simp) #[.int .u8 77, .int .i64 0, .int .i64 0, .string ⟨#[]⟩, .int .i64 0] _) (by simp [Value.oneCell', markC]) (by decide) (by unfold maxLen; omega) (by omega) (by simp; omega) _ rfl ?_; intro g2 cap2 w2 hown2 hgrow2 hat2 hlt2; have hb2 := below_own' (HB1.out.alloc (by omega) _) (HO1.out.alloc _) (Nat.le_refl _) hgrow2; have hc2 : l.length + 1 ≤ cap2 := own_cap hown2; have HO2 := Lib.hid hown2; have HB2 := Lib.hid hb2; clear hown2 hgrow2 hat2 hlt2 hb2)
      | (refine wpList_append_lies _ rfl _ _ 40 rfl w.heap.size 56 i0 (.agg #[.int .u8 0, .int .i64 0, .int .i64 0, .string ⟨#[]⟩, .int .i64 0]) 5 48 Tryd.underlying40 hi hz0 hz1 hz2 rfl (by decide) _ 0 [] rfl (by exact HE.out) ⟨b, o, none⟩ l.length cap (tokCs l) rfl HCL.out HN.out HON.out hl0 (by unfold maxLen; omega) (by omega) (by simp) _ rfl ?_; intro g1 cap1 w1 hown1 hgrow1 hat1 hlt1; rw [Nat.zero_add, List.nil_append] at hown1; have hb1 := below_own' HB0.out HE.out (Nat.le_refl _) hgrow1; have hs1 := hb1.size; have HO1 := Lib.hid hown1; have HB1 := Lib.hid hb1; clear hown1 hgrow1 hat1 hlt1 hb1))
    go_ret
    exact ⟨⟨g2, cap2, rfl, HO2.out⟩, HB2.out⟩
end Go.Proofs.YtmiipfdndgjndaaDoor
/- The law's left, and the walk of WordJoins. -/
namespace Go.Proofs.YtmiipfdndgjndaaDoor
open Go.RowKit Go.Lib
set_option maxHeartbeats 1000000
theorem marked_tokin {w : World} {base g c : Nat} {l : List T} (h : w.ownsRow base 56 5 (.slice (some ⟨g, 0, none⟩) (l.length + 1) c) (l.length + 1) (tokCs l ++ markC)) : TokIn w (fun b => base ≤ b ∧ b < w.heap.size) (some ⟨g, 0, none⟩) l ∧ w.cell? ⟨g, l.length * 5, none⟩ = some (.int .u8 77) ∧ l.length + 1 ≤ c := by
  have hcells := @World.ownsRow.cells _ _ _ _ _ _ _ h
  have hlt := h.lt g rfl
  refine ⟨fun k t ht => ⟨g, 0, rfl, hlt, fun j u hu => ?_⟩, ?_, own_cap h⟩
  · have h1 := tokCs_get l k t j u ht hu
    have := hcells (g := g) rfl (k * 5 + j) u (by rw [List.getElem?_append_left (List.getElem?_eq_some_iff.1 h1).1]; exact h1)
    rw [add_zero_block] at this
    rw [show 0 + k * 5 + j = k * 5 + j by omega]
    exact this
  · have := hcells (g := g) rfl (l.length * 5) (.int .u8 77) (by rw [List.getElem?_append_right (by rw [tokCs_len]; omega), tokCs_len, Nat.sub_self]; rfl)
    rw [add_zero_block] at this
    exact this
set_option maxRecDepth 100000 in
theorem left_any (l : List T) (A : Option Addr) (g c cap base : Nat) (S : Nat → Prop) (w : World) (hin : TokIn w S A l) (hS : ∀ b, S b → b < w.heap.size) (hlen : l.length ≤ 100000)
    (ho : w.ownsRow base 56 5 (.slice (some ⟨g, 0, none⟩) (l.length + 1) c) (l.length + 1) (tokCs l ++ markC)) :
    Calls Tryd.prog 30 #[.slice (some ⟨g, 0, none⟩) l.length c, .slice A l.length cap] w fun e w' => e = .returned (.bool true) ∧ Below w.heap.size w w' := by
  obtain ⟨h1, h2, h3⟩ := marked_tokin ho
  have hg := (ho.lt g rfl).2
  have SMT := Lib.hid (sameTok_true l (some ⟨g, 0, none⟩) A c cap _ S w (by omega) h1 hin (fun b h => h.2) hS)
  have H2 := Lib.hid h2
  clear h1 h2 hin hS ho
  go_enter Tryd.func30, Tryd.ntmps30
  go_wp2_with fail
  refine SMT.out.mono ?_
  rintro e w1 ⟨rfl, hb⟩
  have hc := (World.cell?_of_block (a := ⟨g, l.length * 5, none⟩) (hb.block g hg)).trans H2.out
  have HB := Lib.hid hb
  clear hb
  go_wp2
  go_ret
  exact ⟨rfl, HB.out⟩
def sumS (l : List T) : Nat := (l.map fun t => t.s.size).sum
theorem sumS_take (l : List T) (k : Nat) (t : T) (h : l[k]? = some t) : sumS (l.take (k + 1)) = sumS (l.take k) + t.s.size := by
  unfold sumS
  rw [List.take_add_one, h]
  simp
theorem sumS_le (l : List T) (k : Nat) : sumS (l.take k) ≤ sumS l := by
  have h : sumS l = sumS (l.take k) + sumS (l.drop k) := by
    unfold sumS
    rw [← List.sum_append, ← List.map_append, List.take_append_drop]
  omega
set_option maxRecDepth 100000 in
theorem joins_any (l : List T) (A : Option Addr) (cap : Nat) (S : Nat → Prop) (w : World) (hin : TokIn w S A l) (hS : ∀ b, S b → b < w.heap.size) (hfit : ∀ t ∈ l, t.fits) (hlen : l.length ≤ 1048576) (hsum : sumS l ≤ 1048576) (hnil : A = none → l.length = 0 ∧ cap = 0) (htab : Tab w.heap.size w) (hE : ErrVar w) :
    Calls Tryd.prog 9 #[.slice A l.length cap] w fun e w' => e = .returned (.bool true) ∧ Below w.heap.size w w' := by
  have AW := Lib.hid (fun (W : World) (X : Below w.heap.size w W) => awake_any W (tab_at htab X) (err_at hE X))
  have Hin := Lib.hid hin
  have HS := Lib.hid hS
  have Hfit := Lib.hid hfit
  have Htab := Lib.hid htab
  have Hnil := Lib.hid hnil
  clear hin hS hfit htab hE hnil
  go_enter Tryd.func9, Tryd.ntmps9
  go_wp2_with fail
  go_loopw [3, 4] (fun nv iv wr => ∃ k : Nat, nv = .int .i64 (sumS (l.take k)) ∧ iv = .int .i64 k ∧ k ≤ l.length ∧ wr = w) (fun _ iv _ => l.length - (Go.RowKit.intOf iv).toNat)
  case atStart => exact ⟨0, rfl, rfl, by omega, rfl⟩
  case round =>
    obtain ⟨k, rfl, rfl, hk, rfl⟩ := hrel
    by_cases hlt : k < l.length
    · have hkI : decide ((k : Int) < (l.length : Int)) = true := by simp; omega
      obtain ⟨t, ht⟩ : ∃ t, l[k]? = some t := ⟨l[k], List.getElem?_eq_getElem hlt⟩
      obtain ⟨b3, o3, rfl, hb3, d0, d1, d2, d3, d4⟩ := tok_facts Hin.out HS.out (Below.refl _ _) k t ht
      have hst := sumS_take l k t ht
      have hle := sumS_le l (k + 1)
      obtain ⟨a, ha⟩ : ∃ a, a = sumS (l.take k) := ⟨_, rfl⟩
      obtain ⟨b, hb⟩ : ∃ b, b = sumS (l.take (k + 1)) := ⟨_, rfl⟩
      rw [← ha, ← hb] at hst
      rw [← hb] at hle
      rw [← ha]
      have Hb := Lib.hid hb
      have Hst := Lib.hid hst
      have hal : a ≤ 1048576 := by omega
      have hts : t.s.size ≤ 1048576 := by omega
      clear ht ha hb hst
      go_wp2_with fail
      exact ⟨⟨k + 1, (by rw [← Hb.out, Hst.out]; simp), by simp, by omega, trivial⟩, by simp [Go.RowKit.intOf]; omega⟩
    · have hkI : decide ((k : Int) < (l.length : Int)) = false := by simp; omega
      obtain rfl : k = l.length := by omega
      rw [List.take_length]
      obtain ⟨a, ha⟩ : ∃ a, a = sumS l := ⟨_, rfl⟩
      rw [← ha]
      rw [← ha] at hsum
      clear ha hlt hk
      by_cases hbig : 524288 < a
      · have t1 : decide ((524288 : Int) < (a : Int)) = true := by simp; omega
        go_wp2_with fail
        refine (AW.out _ (Below.refl _ _)).mono ?_
        rintro e w2 ⟨rfl, hb⟩
        have HB := Lib.hid hb
        clear hb
        go_wp2
        go_ret
        exact ⟨rfl, HB.out⟩
      have t1 : decide ((524288 : Int) < (a : Int)) = false := by simp; omega
      by_cases hlong : 100000 < l.length
      · have t2 : decide ((100000 : Int) < (l.length : Int)) = true := by simp; omega
        go_wp2_with fail
        refine (AW.out _ (Below.refl _ _)).mono ?_
        rintro e w2 ⟨rfl, hb⟩
        have HB := Lib.hid hb
        clear hb
        go_wp2
        go_ret
        exact ⟨rfl, HB.out⟩
      have t2 : decide ((100000 : Int) < (l.length : Int)) = false := by simp; omega
      go_wp2_with fail
      refine (handed_any l A cap S _ Hin.out HS.out (by omega) Hnil.out).mono ?_
      rintro e w1 ⟨⟨g, c, rfl, ho1⟩, hb1⟩
      have hsz1 := hb1.size
      have X1 := Lib.hid hb1
      have HO1 := Lib.hid ho1
      have J1 := Lib.hid (Join_any l (some ⟨g, 0, none⟩) c _ w1 (marked_tokin ho1).1 (fun b h => h.2) Hfit.out (by omega) (tab_at Htab.out hb1))
      have J2 := Lib.hid (fun (W : World) (X : Below _ _ W) => refJoin_any l A cap S W (Hin.out.keep (fun b h => ⟨h, X.block b (HS.out b h)⟩)) (fun b h => by have := HS.out b h; have := X.size; omega) Hfit.out (by omega) (tab_at Htab.out X))
      unfold joinRes at J1 J2
      obtain ⟨js, hjs⟩ : ∃ js : ByteArray, js = ⟨(joinF l).1.toArray⟩ := ⟨_, rfl⟩
      obtain ⟨je, hje⟩ : ∃ je : Int, je = (joinF l).2 := ⟨_, rfl⟩
      rw [← hjs, ← hje] at J1 J2
      clear hjs hje ho1 hb1
      go_wp2_with fail
      refine J1.out.mono ?_
      rintro e w2 ⟨rfl, hb2⟩
      have X2 := Lib.hid (below_next X1.out hb2)
      have HO2 := Lib.hid (own_of_block HO1.out (fun g' hg' => hb2.block g' (HO1.out.lt g' hg').2))
      clear hb2
      go_wp2_with fail
      refine (J2.out _ X2.out).mono ?_
      rintro e w3 ⟨rfl, hb3⟩
      have X3 := Lib.hid (below_next X2.out hb3)
      have HO3 := Lib.hid (own_of_block HO2.out (fun g' hg' => hb3.block g' (HO2.out.lt g' hg').2))
      clear hb3
      have LF := Lib.hid (left_any l A g c cap _ S w3 (Hin.out.keep (fun b h => ⟨h, X3.out.block b (HS.out b h)⟩)) (fun b h => by have := HS.out b h; have := X3.out.size; omega) (by omega) HO3.out)
      go_wp2_with fail
      refine LF.out.mono ?_
      rintro e w4 ⟨rfl, hb4⟩
      have X4 := Lib.hid (below_next X3.out hb4)
      clear hb4
      go_wp2_with fail
      refine (AW.out _ X4.out).mono ?_
      rintro e w5 ⟨rfl, hb5⟩
      have X5 := Lib.hid (below_next X4.out hb5)
      clear hb5
      go_wp2
      go_ret
      exact ⟨rfl, X5.out⟩
end Go.Proofs.YtmiipfdndgjndaaDoor
/- Tokens that an argument reads as, in memory. -/
namespace Go.Proofs.YtmiipfdndgjndaaDoor
open Go.RowKit Go.Lib
theorem cells56 : Tryd.prog.cellsOf 56 = 5 := by kernel_rfl
theorem cells54 : Tryd.prog.cellsOf 54 = 1 := by kernel_rfl
theorem cells3' : Tryd.prog.cellsOf 3 = 1 := by kernel_rfl
theorem bulkAll_drop {H : Type} (l : List (DataW H)) (i : Nat) (x : DataW H) (h : l[i]? = some x) : Rows.uptoBulkAll (l.drop i) = Rows.uptoBulk x + Rows.uptoBulkAll (l.drop (i + 1)) := by
  obtain ⟨h1, rfl⟩ := List.getElem?_eq_some_iff.mp h
  rw [List.drop_eq_getElem_cons h1, Rows.uptoBulkAll]
section
variable {H : Type} {enc : TypeId × Value → H} {W : World} {base : Nat} {sp : Nat → Bool} {held : Bool}
theorem tok_of_trod (fuel : Nat) (cs : List Value) (x : DataW H × List MemPlace) (h : DataW.trod enc Tryd.prog W base sp held fuel 56 cs = some x) :
    ∃ t : T, cs = tokC t ∧ -9223372036854775808 ≤ t.n ∧ t.n ≤ 9223372036854775807 ∧ -9223372036854775808 ≤ t.r ∧ t.r ≤ 9223372036854775807 ∧ t.s.size + 1 ≤ Rows.uptoBulk x.1 := by
  cases fuel with
  | zero => simp [DataW.trod] at h
  | succ m =>
    obtain ⟨xs, n, hn, rfl, hl, hlen, hf⟩ := DataW.trod_struct Tryd.underlying56 h
    obtain rfl : m = n := by omega
    rw [cells56] at hl
    obtain ⟨a, b, c, d, e, rfl⟩ := five_cells hl
    have f0 : DataW.trod enc Tryd.prog W base sp held m 54 (([a, b, c, d, e].drop 0).take (Tryd.prog.cellsOf 54)) = xs[0]? := hf 0 { name := "Kind", type := 54, offset := 0, embedded := false, tag := "", pkgPath := "", byteOffset := 0 } rfl
    have f1 : DataW.trod enc Tryd.prog W base sp held m 3 (([a, b, c, d, e].drop 1).take (Tryd.prog.cellsOf 3)) = xs[1]? := hf 1 { name := "At", type := 3, offset := 1, embedded := false, tag := "", pkgPath := "", byteOffset := 8 } rfl
    have f2 : DataW.trod enc Tryd.prog W base sp held m 2 (([a, b, c, d, e].drop 2).take (Tryd.prog.cellsOf 2)) = xs[2]? := hf 2 { name := "N", type := 2, offset := 2, embedded := false, tag := "", pkgPath := "", byteOffset := 16 } rfl
    have f3 : DataW.trod enc Tryd.prog W base sp held m 9 (([a, b, c, d, e].drop 3).take (Tryd.prog.cellsOf 9)) = xs[3]? := hf 3 { name := "S", type := 9, offset := 3, embedded := false, tag := "", pkgPath := "", byteOffset := 24 } rfl
    have f4 : DataW.trod enc Tryd.prog W base sp held m 24 (([a, b, c, d, e].drop 4).take (Tryd.prog.cellsOf 24)) = xs[4]? := hf 4 { name := "R", type := 24, offset := 4, embedded := false, tag := "", pkgPath := "", byteOffset := 40 } rfl
    rw [cells54] at f0
    rw [cells3'] at f1
    rw [cells2'] at f2
    rw [cells9'] at f3
    rw [cells24] at f4
    simp only [List.drop_succ_cons, List.drop_zero, List.take_succ_cons, List.take_zero] at f0 f1 f2 f3 f4
    match xs, hlen with
    | [y0, y1, y2, y3, y4], _ =>
      simp only [List.getElem?_cons_zero, List.getElem?_cons_succ] at f0 f1 f2 f3 f4
      obtain ⟨k, e0, rfl, _⟩ := DataW.trod_int Tryd.underlying54 f0
      obtain ⟨p, e1, rfl, _⟩ := DataW.trod_int Tryd.underlying3 f1
      obtain ⟨z, e2, rfl, hz⟩ := DataW.trod_int Tryd.underlying2 f2
      obtain ⟨s, e3, rfl, _⟩ := DataW.trod_string Tryd.underlying9 f3
      obtain ⟨r, e4, rfl, hr⟩ := DataW.trod_int Tryd.underlying24 f4
      simp only [List.cons.injEq, and_true] at e0 e1 e2 e3 e4
      subst e0 e1 e2 e3 e4
      have hz2 : -9223372036854775808 ≤ z ∧ z ≤ 9223372036854775807 := by simpa [Lit.wf, IntKind.min, IntKind.signed, IntKind.bits] using hz
      have hr2 : -9223372036854775808 ≤ r ∧ r ≤ 9223372036854775807 := by simpa [Lit.wf, IntKind.min, IntKind.signed, IntKind.bits] using hr
      refine ⟨⟨k, p, z, s, r⟩, rfl, hz2.1, hz2.2, hr2.1, hr2.2, ?_⟩
      have h2 := size_list s
      simp only [List.map_cons, List.map_nil, Rows.uptoBulk, Rows.uptoBulkAll]
      omega
theorem toks_of_trod (fuel : Nat) (cs : List Value) (x : DataW H × List MemPlace) (h : DataW.trod enc Tryd.prog W base sp held fuel 40 cs = some x) (hbulk : Rows.uptoBulk x.1 ≤ 1048576) :
    ∃ (l : List T) (A : Option Addr) (cap : Nat), cs = [.slice A l.length cap] ∧ TokIn W (fun b => b < W.heap.size) A l ∧ (∀ t ∈ l, t.fits) ∧ l.length ≤ 1048576 ∧ sumS l ≤ 1048576 ∧ (A = none → l.length = 0 ∧ cap = 0) := by
  rcases DataW.trod_slice Tryd.underlying40 h with ⟨rfl, rfl⟩ | ⟨ad, len, cap, elems, rest, n2, rfl, rfl, rfl, hb, hlc, hcm, hel, hget, -, -⟩
  · exact ⟨[], none, 0, rfl, (fun k t ht => by simp at ht), (fun t ht => by cases ht), by simp, by simp [sumS], fun _ => ⟨rfl, rfl⟩⟩
  · rw [Rows.uptoBulk] at hbulk
    have hlen2 : len ≤ 1048576 := by
      have := bulkAll_len (elems.map (·.1))
      rw [List.length_map, hel] at this
      omega
    by_cases h0 : len = 0
    · subst h0
      exact ⟨[], some ad, cap, rfl, (fun k t ht => by simp at ht), (fun t ht => by cases ht), by simp, by simp [sumS], (fun h => by cases h)⟩
    · rw [cells56] at hget
      have hel' : ∀ i, i < len → ∃ cs y, W.cells? base (ad.add (i * 5)) 5 = some cs ∧ DataW.trod enc Tryd.prog W base sp held n2 56 cs = some y ∧ elems[i]? = some y := by
        intro i hi
        have h1 := hget i hi
        obtain ⟨y, hy⟩ : ∃ y, elems[i]? = some y := ⟨elems[i], List.getElem?_eq_getElem (by omega)⟩
        rw [hy] at h1
        obtain ⟨cs, h2, h3⟩ := Option.bind_eq_some_iff.mp h1
        exact ⟨cs, y, h2, h3, hy⟩
      obtain ⟨cs0, y00, g0, g1, _⟩ := hel' 0 (by omega)
      have hc0 : ∃ v, W.cell? ad = some v := by
        unfold World.cells? at g0
        split at g0
        · cases hc : W.cell? ad with
          | some v => exact ⟨v, rfl⟩
          | none =>
            have : W.cell? ((ad.add (0 * 5)).add 0) = none := by simpa [Addr.add] using hc
            simp [List.range, List.range.loop, this] at g0
        · cases g0
      obtain ⟨v0, hc0⟩ := hc0
      have hspot := spot_none hc0
      have hlt : ad.block < W.heap.size := cell_lt hc0
      have had : ad = ⟨ad.block, ad.off, none⟩ := by cases ad; simp_all
      have build : ∀ j i, i + j = len → ∃ l : List T, l.length = j ∧ (∀ k t, l[k]? = some t → ∀ m u, (tokC t)[m]? = some u → W.cell? ⟨ad.block, ad.off + (i + k) * 5 + m, none⟩ = some u) ∧ (∀ t ∈ l, t.fits) ∧ sumS l ≤ Rows.uptoBulkAll ((elems.map (·.1)).drop i) := by
        intro j
        induction j with
        | zero => intro i _; exact ⟨[], rfl, (fun k t ht => by simp at ht), (fun t ht => by cases ht), by simp [sumS]⟩
        | succ j ihj =>
          intro i hij
          obtain ⟨l, e1, e2, e3, e4⟩ := ihj (i + 1) (by omega)
          obtain ⟨cs, y, h2, h3, h4⟩ := hel' i (by omega)
          obtain ⟨t, rfl, n0, n1, r0, r1, hs⟩ := tok_of_trod n2 cs y h3
          have hy : (elems.map (·.1))[i]? = some y.1 := by rw [List.getElem?_map, h4]; rfl
          have hbd := bulkAll_drop _ i _ hy
          have hsmall : Rows.uptoBulk y.1 ≤ 1048576 := by
            have := bulkAll_le (List.mem_of_getElem? hy)
            omega
          refine ⟨t :: l, by simp [e1], fun k t' ht' => ?_, fun t' ht' => ?_, ?_⟩
          · cases k with
            | zero =>
              simp at ht'
              subst ht'
              rw [Nat.add_zero]
              exact row_at h2 hspot
            | succ k =>
              rw [show i + (k + 1) = i + 1 + k by omega]
              exact e2 k t' (by simpa using ht')
          · rcases List.mem_cons.1 ht' with e | e
            · subst e
              exact ⟨n0, n1, r0, r1, by omega⟩
            · exact e3 t' e
          · have : sumS (t :: l) = t.s.size + sumS l := by simp [sumS]
            omega
      obtain ⟨l, e1, e2, e3, e4⟩ := build len 0 (by omega)
      refine ⟨l, some ⟨ad.block, ad.off, none⟩, cap, by rw [e1, ← had], fun k t ht => ⟨ad.block, ad.off, rfl, hlt, fun m u hu => ?_⟩, e3, by omega, ?_, fun h => by cases h⟩
      · have := e2 k t ht m u hu
        rw [Nat.zero_add] at this
        exact this
      · rw [List.drop_zero] at e4
        omega
end
end Go.Proofs.YtmiipfdndgjndaaDoor
