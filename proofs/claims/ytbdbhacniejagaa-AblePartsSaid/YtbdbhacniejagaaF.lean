/- The walk of AbleBack. -/
import Derived.Test.YtbdbhacniejagaaE
namespace Go.Proofs.Ytbdbhacniejagaa
open Go.RowKit Go.Shelf
set_option maxHeartbeats 1000000

theorem wf_u8 {a : Int} (h : (Lit.int .u8 a).wf = true) : 0 ≤ a ∧ a ≤ 255 := by
  simp [Lit.wf, IntKind.min, IntKind.max, IntKind.bits, IntKind.signed] at h
  omega
theorem backs : ((List.range 64).all fun n => decide (readFrom (textS (n : Int)) 64 0 = some n)) = true := by decide +kernel
theorem back_at (n : Nat) (h : n < 64) : readFrom (textS (n : Int)) 64 0 = some n := by
  have := all64 (p := fun n => decide (readFrom (textS (n : Int)) 64 0 = some n)) backs n h
  simpa using this
theorem readFrom_some (s : ByteArray) (d : Nat) : ∀ a c : Nat, readFrom s d a = some c → a ≤ c ∧ c < a + d ∧ ((textS (c : Int)).toList == s.toList) = true := by
  induction d with
  | zero => intro a c h; simp [readFrom] at h
  | succ d ih =>
    intro a c h
    simp only [readFrom] at h
    split at h
    · rename_i he
      obtain rfl : a = c := by simpa using h
      exact ⟨by omega, by omega, he⟩
    · obtain ⟨h1, h2, h3⟩ := ih (a + 1) c h
      exact ⟨by omega, by omega, h3⟩
theorem read_some (s : ByteArray) (c : Nat) (h : readFrom s 64 0 = some c) (w : World) : Calls Try.prog 10 #[.string s] w fun e w' => e = .returned (.tuple #[.int .u8 c, .int .i64 0]) ∧ Below w.heap.size w w' := by
  have := read_any s w; unfold readV at this; rw [h] at this; exact this
theorem read_none (s : ByteArray) (h : readFrom s 64 0 = none) (w : World) : Calls Try.prog 10 #[.string s] w fun e w' => e = .returned (.tuple #[.int .u8 0, .int .i64 10]) ∧ Below w.heap.size w w' := by
  have := read_any s w; unfold readV at this; rw [h] at this; exact this
theorem text_nat (n : Nat) (h : n < 64) (w : World) : Calls Try.prog 13 #[.int .u8 n] w fun e w' => e = .returned (.tuple #[.string (textS n), .int .i64 0]) ∧ Below w.heap.size w w' :=
  text_yes n (by omega) (by omega) (mayB_lt n h) w

set_option maxRecDepth 100000 in
theorem back_walk (a : Int) (s : ByteArray) (wa : (Lit.int .u8 a).wf = true) (_ : s.size ≤ maxLen) (w : World) :
    Calls Try.prog 5 #[.int .u8 a, .string s] w fun e w' => e = .returned (.bool true) ∧ Below w.heap.size w w' := by
  obtain ⟨h0, h1⟩ := wf_u8 wa
  clear wa
  have hm : a % 64 = (((a % 64).toNat : Nat) : Int) := by omega
  have hlt : (a % 64).toNat < 64 := by omega
  generalize (a % 64).toNat = n at *
  have hne : ((n : Int) != a % 64) = false := by rw [hm]; simp
  have HM := Lib.hid hm
  clear hm
  have HB := Lib.hid (back_at n hlt)
  rcases hr : readFrom s 64 0 with _ | c
  · have HR := Lib.hid hr
    clear hr
    go_enter Try.func5, Try.ntmps5
    go_wp2_with fail
    rw [HM.out]
    refine (text_nat n hlt _).mono ?_
    rintro e w1 ⟨rfl, hb1⟩
    go_wp2_with fail
    refine (read_some _ n HB.out _).mono ?_
    rintro e w2 ⟨rfl, hb2⟩
    go_wp2_with fail
    refine (read_none s HR.out _).mono ?_
    rintro e w3 ⟨rfl, hb3⟩
    go_wp2_with fail
    refine (lives_any _).mono ?_
    rintro e w4 ⟨rfl, hb4⟩
    go_wp2_with fail
    go_ret
    exact ⟨rfl, ((hb1.trans (hb2.mono hb1.size)).trans (hb3.mono (Nat.le_trans hb1.size hb2.size))).trans (hb4.mono (Nat.le_trans hb1.size (Nat.le_trans hb2.size hb3.size)))⟩
  · obtain ⟨_, hc, heq⟩ := readFrom_some s 64 0 c hr
    have HR := Lib.hid hr
    clear hr
    go_enter Try.func5, Try.ntmps5
    go_wp2_with fail
    rw [HM.out]
    refine (text_nat n hlt _).mono ?_
    rintro e w1 ⟨rfl, hb1⟩
    go_wp2_with fail
    refine (read_some _ n HB.out _).mono ?_
    rintro e w2 ⟨rfl, hb2⟩
    go_wp2_with fail
    refine (read_some s c HR.out _).mono ?_
    rintro e w3 ⟨rfl, hb3⟩
    go_wp2_with fail
    refine (text_nat c (by omega) _).mono ?_
    rintro e w4 ⟨rfl, hb4⟩
    go_wp2_with fail
    refine (lives_any _).mono ?_
    rintro e w5 ⟨rfl, hb5⟩
    go_wp2_with fail
    go_ret
    exact ⟨rfl, (((hb1.trans (hb2.mono hb1.size)).trans (hb3.mono (Nat.le_trans hb1.size hb2.size))).trans (hb4.mono (Nat.le_trans hb1.size (Nat.le_trans hb2.size hb3.size)))).trans (hb5.mono (Nat.le_trans hb1.size (Nat.le_trans hb2.size (Nat.le_trans hb3.size hb4.size))))⟩
end Go.Proofs.Ytbdbhacniejagaa
