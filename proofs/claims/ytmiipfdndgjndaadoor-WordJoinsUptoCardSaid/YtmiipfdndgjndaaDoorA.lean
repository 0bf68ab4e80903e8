/- Contracts of the bytes' kinds and of the readers' first steps. -/
import Derived.Test.YtmiipfdndgjndaaDoorProg
import Derived.Test.YtmiipfdndgjndaaDoorZ
import Derived.WalkKit
import Derived.Lib.Hide
import Derived.BigQuiet
import Derived.WalkLawsBesides
import Derived.Below
namespace Go.Proofs.YtmiipfdndgjndaaDoor
open Go.RowKit
theorem letter_any (c : Int) (w : World) : Calls Tryd.prog 72 #[.int .u8 c] w fun e w' => e = .returned (.bool (letterI c)) ∧ w = w' := by
  unfold letterI
  cases h1 : decide (97 ≤ c)
  · go_enter Tryd.func72, Tryd.ntmps72
    go_wp2
    go_ret
    exact ⟨by simp, rfl⟩
  · go_enter Tryd.func72, Tryd.ntmps72
    go_wp2
    go_ret
    exact ⟨by simp, rfl⟩
theorem digit_any (c : Int) (w : World) : Calls Tryd.prog 73 #[.int .u8 c] w fun e w' => e = .returned (.bool (digitI c)) ∧ w = w' := by
  unfold digitI
  cases h1 : decide (48 ≤ c)
  · go_enter Tryd.func73, Tryd.ntmps73
    go_wp2
    go_ret
    exact ⟨by simp, rfl⟩
  · go_enter Tryd.func73, Tryd.ntmps73
    go_wp2
    go_ret
    exact ⟨by simp, rfl⟩
theorem refLetter_any (c : Int) (w : World) : Calls Tryd.prog 75 #[.int .u8 c] w fun e w' => e = .returned (.bool (letterI c)) ∧ w = w' := by
  unfold letterI
  cases h1 : decide (97 ≤ c)
  · go_enter Tryd.func75, Tryd.ntmps75
    go_wp2
    go_ret
    exact ⟨by simp, rfl⟩
  · go_enter Tryd.func75, Tryd.ntmps75
    go_wp2
    go_ret
    exact ⟨by simp, rfl⟩
theorem refDigit_any (c : Int) (w : World) : Calls Tryd.prog 78 #[.int .u8 c] w fun e w' => e = .returned (.bool (digitI c)) ∧ w = w' := by
  unfold digitI
  cases h1 : decide (48 ≤ c)
  · go_enter Tryd.func78, Tryd.ntmps78
    go_wp2
    go_ret
    exact ⟨by simp, rfl⟩
  · go_enter Tryd.func78, Tryd.ntmps78
    go_wp2
    go_ret
    exact ⟨by simp, rfl⟩
theorem plain_any (c : Int) (w : World) : Calls Tryd.prog 47 #[.int .u8 c] w fun e w' => e = .returned (.bool (plainI c)) ∧ w = w' := by
  unfold plainI
  cases h1 : decide (32 ≤ c)
  · go_enter Tryd.func47, Tryd.ntmps47
    go_wp2
    go_ret
    exact ⟨by simp, rfl⟩
  · cases h2 : decide (c ≤ 126)
    · go_enter Tryd.func47, Tryd.ntmps47
      go_wp2
      go_ret
      exact ⟨by simp, rfl⟩
    · cases h3 : c != 34
      · go_enter Tryd.func47, Tryd.ntmps47
        go_wp2
        go_ret
        exact ⟨by simp, rfl⟩
      · go_enter Tryd.func47, Tryd.ntmps47
        go_wp2
        go_ret
        exact ⟨by simp, rfl⟩
def signsB : ByteArray := ⟨#[91, 93, 40, 41, 123, 125, 61, 58, 59, 44, 46, 43, 60, 62, 95, 63]⟩
def digsB : ByteArray := ⟨#[48, 49, 50, 51, 52, 53, 54, 55, 56, 57, 97, 98, 99, 100, 101, 102]⟩
theorem signs_at (k : Nat) (hk : k < 16) : (((⟨#[91, 93, 40, 41, 123, 125, 61, 58, 59, 44, 46, 43, 60, 62, 95, 63]⟩ : ByteArray)[k]'(hk)).toNat : Int) = signs[k]?.getD 0 := by
  have h : ∀ k : Fin 16, (((⟨#[91, 93, 40, 41, 123, 125, 61, 58, 59, 44, 46, 43, 60, 62, 95, 63]⟩ : ByteArray)[k.val]'(k.isLt)).toNat : Int) = signs[k.val]?.getD 0 := by decide +kernel
  exact h ⟨k, hk⟩
theorem digs_at (k : Nat) (hk : k < 16) : (((⟨#[48, 49, 50, 51, 52, 53, 54, 55, 56, 57, 97, 98, 99, 100, 101, 102]⟩ : ByteArray)[k]'(hk)).toNat : Int) = digs[k]?.getD 0 := by
  have h : ∀ k : Fin 16, (((⟨#[48, 49, 50, 51, 52, 53, 54, 55, 56, 57, 97, 98, 99, 100, 101, 102]⟩ : ByteArray)[k.val]'(k.isLt)).toNat : Int) = digs[k.val]?.getD 0 := by decide +kernel
  exact h ⟨k, hk⟩
set_option maxRecDepth 20000 in
theorem sign_any (c : Int) (w : World) : Calls Tryd.prog 49 #[.int .u8 c] w fun e w' => e = .returned (.bool (signI c)) ∧ w = w' := by
  go_enter Tryd.func49, Tryd.ntmps49
  go_wp2
  go_loop [4] (fun i => ∃ k : Nat, k ≤ 16 ∧ i = .int .i64 k ∧ signI c = (signs.drop k).any (· == c)) (fun i => 16 - (intOf i).toNat)
  case atStart => exact ⟨0, by omega, rfl, rfl⟩
  case round =>
    obtain ⟨k, hk, rfl, hr⟩ := hrel
    by_cases hlt : k < 16
    · rw [any_drop signs c k hlt, ← signs_at k hlt] at hr
      have Hr := Lib.hid hr
      clear hr
      cases he : (((⟨#[91, 93, 40, 41, 123, 125, 61, 58, 59, 44, 46, 43, 60, 62, 95, 63]⟩ : ByteArray)[k]'(hlt)).toNat : Int) == c
      · rw [he] at Hr
        go_wp2
        exact ⟨⟨k + 1, by omega, rfl, by rw [Hr.out]; rfl⟩, by simp only [intOf]; omega⟩
      · rw [he] at Hr
        go_wp2
        go_ret
        exact ⟨by rw [Hr.out]; rfl, rfl⟩
    · obtain rfl : k = 16 := by omega
      have Hr := Lib.hid hr
      clear hr
      go_wp2
      go_ret
      exact ⟨by rw [Hr.out]; rfl, rfl⟩
set_option maxRecDepth 20000 in
theorem refSign_any (c : Int) (w : World) : Calls Tryd.prog 80 #[.int .u8 c] w fun e w' => e = .returned (.bool (signI c)) ∧ w = w' := by
  go_enter Tryd.func80, Tryd.ntmps80
  go_wp2
  go_loop [3] (fun i => ∃ k : Nat, k ≤ 16 ∧ i = .int .i64 k ∧ signI c = (signs.drop k).any (· == c)) (fun i => 16 - (intOf i).toNat)
  case atStart => exact ⟨0, by omega, rfl, rfl⟩
  case round =>
    obtain ⟨k, hk, rfl, hr⟩ := hrel
    by_cases hlt : k < 16
    · rw [any_drop signs c k hlt, ← signs_at k hlt] at hr
      have Hr := Lib.hid hr
      clear hr
      cases he : (((⟨#[91, 93, 40, 41, 123, 125, 61, 58, 59, 44, 46, 43, 60, 62, 95, 63]⟩ : ByteArray)[k]'(hlt)).toNat : Int) == c
      · rw [he] at Hr
        go_wp2
        exact ⟨⟨k + 1, by omega, rfl, by rw [Hr.out]; rfl⟩, by simp only [intOf]; omega⟩
      · rw [he] at Hr
        go_wp2
        go_ret
        exact ⟨by rw [Hr.out]; rfl, rfl⟩
    · obtain rfl : k = 16 := by omega
      have Hr := Lib.hid hr
      clear hr
      go_wp2
      go_ret
      exact ⟨by rw [Hr.out]; rfl, rfl⟩
set_option maxRecDepth 20000 in
theorem low_any (c : Int) (w : World) : Calls Tryd.prog 71 #[.int .u8 c] w fun e w' => e = .returned (.int .i64 (lowI c : Nat)) ∧ w = w' := by
  go_enter Tryd.func71, Tryd.ntmps71
  go_wp2
  go_loop [3] (fun i => ∃ k : Nat, k ≤ 16 ∧ i = .int .i64 k ∧ lowI c = lowFrom c (16 - k) k) (fun i => 16 - (intOf i).toNat)
  case atStart => exact ⟨0, by omega, rfl, rfl⟩
  case round =>
    obtain ⟨k, hk, rfl, hr⟩ := hrel
    by_cases hlt : k < 16
    · rw [show 16 - k = (16 - (k + 1)) + 1 by omega, lowFrom, ← digs_at k hlt] at hr
      have Hr := Lib.hid hr
      clear hr
      cases he : (((⟨#[48, 49, 50, 51, 52, 53, 54, 55, 56, 57, 97, 98, 99, 100, 101, 102]⟩ : ByteArray)[k]'(hlt)).toNat : Int) == c
      · rw [he] at Hr
        go_wp2
        exact ⟨⟨k + 1, by omega, rfl, by rw [Hr.out]; rfl⟩, by simp only [intOf]; omega⟩
      · rw [he] at Hr
        go_wp2
        go_ret
        exact ⟨by rw [Hr.out]; rfl, rfl⟩
    · obtain rfl : k = 16 := by omega
      have Hr := Lib.hid hr
      clear hr
      go_wp2
      go_ret
      exact ⟨by rw [Hr.out]; rfl, rfl⟩
end Go.Proofs.YtmiipfdndgjndaaDoor
