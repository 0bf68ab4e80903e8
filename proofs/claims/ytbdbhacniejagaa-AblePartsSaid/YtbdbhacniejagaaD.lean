/- Contracts of able.Read and of the law's own small functions. -/
import Derived.Test.YtbdbhacniejagaaC
namespace Go.Proofs.Ytbdbhacniejagaa
open Go.RowKit Go.Shelf
set_option maxHeartbeats 1000000

theorem mayB_lt (a : Nat) (h : a < 64) : (bits .andNot .u8 (a : Int) 63 == 0) = true := by
  have h' : ((List.range 64).all fun n => (bits .andNot .u8 (n : Int) 63 == 0)) = true := by decide +kernel
  exact all64 (p := fun n => (bits .andNot .u8 (n : Int) 63 == 0)) h' a h
/-- The first set, from a on, whose text is s. -/
def readFrom (s : ByteArray) : Nat → Nat → Option Nat
  | 0, _ => none
  | d + 1, a => if (textS a).toList == s.toList then some a else readFrom s d (a + 1)
def readV (s : ByteArray) : Value := match readFrom s 64 0 with | some a => .tuple #[.int .u8 a, .int .i64 0] | none => .tuple #[.int .u8 0, .int .i64 10]
set_option maxRecDepth 100000 in
theorem read_any (s : ByteArray) (w : World) :
    Calls Try.prog 10 #[.string s] w fun e w' => e = .returned (readV s) ∧ Below w.heap.size w w' := by
  go_enter Try.func10, Try.ntmps10
  go_wp2
  go_loopw [4] (fun a wr => ∃ k : Nat, k ≤ 64 ∧ a = .int .u8 k ∧ readFrom s 64 0 = readFrom s (64 - k) k ∧ Below w.heap.size w wr) (fun a _ => 64 - (intOf a).toNat)
  case atStart => exact ⟨0, by omega, rfl, rfl, Below.refl _ _⟩
  case round =>
    obtain ⟨k, hk, rfl, hr, hB⟩ := hrel
    have Hr := Lib.hid hr
    clear hr
    by_cases hlt : k < 64
    · have hstep : readFrom s (64 - k) k = if (textS k).toList == s.toList then some k else readFrom s (64 - (k + 1)) (k + 1) := by
        rw [show 64 - k = (64 - (k + 1)) + 1 by omega]; rfl
      have Hs := Lib.hid hstep
      clear hstep
      cases heq : ((textS k).toList == s.toList) with
      | true =>
        go_wp2_with (go_at_call 13; refine (text_yes k (by omega) (by omega) (mayB_lt k hlt) _).mono ?_; rintro e w' ⟨rfl, hb'⟩)
        go_ret2
        refine ⟨?_, hB.trans (hb'.mono hB.size)⟩
        unfold readV
        rw [Hr.out, Hs.out, heq]
        rfl
      | false =>
        go_wp2_with (go_at_call 13; refine (text_yes k (by omega) (by omega) (mayB_lt k hlt) _).mono ?_; rintro e w' ⟨rfl, hb'⟩)
        refine ⟨⟨k + 1, by omega, rfl, by rw [Hr.out, Hs.out, heq]; rfl, hB.trans (hb'.mono hB.size)⟩, by simp [intOf]; omega⟩
    · obtain rfl : k = 64 := by omega
      go_wp2
      go_ret2
      refine ⟨?_, hB⟩
      unfold readV
      rw [Hr.out]
      rfl

def getPut : ByteArray := ⟨#[103, 101, 116, 43, 112, 117, 116, 43, 116, 97, 107, 101, 43, 103, 105, 118, 101]⟩
def getTake : ByteArray := ⟨#[103, 101, 116, 43, 116, 97, 107, 101]⟩
def takeGet : ByteArray := ⟨#[116, 97, 107, 101, 43, 103, 101, 116]⟩
theorem text15 : textS 15 = getPut := by decide +kernel
/-- A slice of sets that reads as xs. -/
def ReadsU8 (w : World) (a : Option Addr) (xs : List Int) : Prop :=
  xs.length ≤ 9223372036854775807 ∧ ∀ j, j < xs.length → ∃ b o, a = some ⟨b, o, none⟩ ∧ w.cell? ⟨b, o + j, none⟩ = some (.int .u8 (xs[j]?.getD 0)) ∧ 0 ≤ xs[j]?.getD 0 ∧ xs[j]?.getD 0 ≤ 255
def meetL (xs : List Int) : Int := xs.foldl (fun o a => bits .and .u8 o a) 63
def joinL (xs : List Int) : Int := xs.foldl (fun o a => bits .or .u8 o (a % 64)) 0
theorem take_snocI (xs : List Int) (k : Nat) (h : k < xs.length) : xs.take (k + 1) = xs.take k ++ [xs[k]?.getD 0] := by
  rw [List.take_succ_eq_append_getElem h, List.getElem?_eq_getElem h]; rfl
theorem meetL_snoc (xs : List Int) (a : Int) : meetL (xs ++ [a]) = bits .and .u8 (meetL xs) a := by simp [meetL]
theorem joinL_snoc (xs : List Int) (a : Int) : joinL (xs ++ [a]) = bits .or .u8 (joinL xs) (a % 64) := by simp [joinL]
theorem meet_any (a : Option Addr) (n c : Nat) (xs : List Int) (hn : xs.length = n) (w : World) (h : ReadsU8 w a xs) : Calls Try.prog 24 #[.slice a n c] w fun e w' => e = .returned (.int .u8 (meetL xs)) ∧ w = w' := by
  obtain ⟨hm, hc⟩ := h
  subst hn
  have HC := Lib.hid hc
  clear hc
  go_enter Try.func24, Try.ntmps24
  go_wp2
  go_loop [3, 5, 8] (fun o _ i => ∃ k : Nat, k ≤ xs.length ∧ i = .int .i64 k ∧ o = .int .u8 (meetL (xs.take k))) (fun _ _ i => xs.length - (intOf i).toNat)
  case atStart => exact ⟨0, by omega, rfl, rfl⟩
  case round =>
    obtain ⟨k, hk, rfl, rfl⟩ := hrel
    by_cases hlt : k < xs.length
    · obtain ⟨b, o, rfl, hcell, hb0, hb1⟩ := HC.out k hlt
      have HS := Lib.hid (take_snocI xs k hlt)
      clear HC
      generalize xs[k]?.getD 0 = x at *
      go_wp2
      go_round
      case rel => exact ⟨k + 1, by omega, by go_num, by rw [HS.out, meetL_snoc]⟩
      case measure => simp [intOf]; omega
    · go_wp2
      go_ret
      exact ⟨by rw [List.take_of_length_le (by omega)]; rfl, rfl⟩
theorem join_any' (a : Option Addr) (n c : Nat) (xs : List Int) (hn : xs.length = n) (w : World) (h : ReadsU8 w a xs) : Calls Try.prog 26 #[.slice a n c] w fun e w' => e = .returned (.int .u8 (joinL xs)) ∧ w = w' := by
  obtain ⟨hm, hc⟩ := h
  subst hn
  have HC := Lib.hid hc
  clear hc
  go_enter Try.func26, Try.ntmps26
  go_wp2
  go_loop [3, 5, 8] (fun o _ i => ∃ k : Nat, k ≤ xs.length ∧ i = .int .i64 k ∧ o = .int .u8 (joinL (xs.take k))) (fun _ _ i => xs.length - (intOf i).toNat)
  case atStart => exact ⟨0, by omega, rfl, rfl⟩
  case round =>
    obtain ⟨k, hk, rfl, rfl⟩ := hrel
    by_cases hlt : k < xs.length
    · obtain ⟨b, o, rfl, hcell, hb0, hb1⟩ := HC.out k hlt
      have HS := Lib.hid (take_snocI xs k hlt)
      clear HC
      generalize xs[k]?.getD 0 = x at *
      go_wp2
      go_round
      case rel => exact ⟨k + 1, by omega, by go_num, by rw [HS.out, joinL_snoc]⟩
      case measure => simp [intOf]; omega
    · go_wp2
      go_ret
      exact ⟨by rw [List.take_of_length_le (by omega)]; rfl, rfl⟩
theorem readsU8_nil (w : World) : ReadsU8 w none [] := ⟨by simp, fun j h => by simp at h⟩
theorem read5 : readV getTake = .tuple #[.int .u8 5, .int .i64 0] := by
  have h : readFrom getTake 64 0 = some 5 := by decide +kernel
  unfold readV; rw [h]; rfl
theorem read10 : readV takeGet = .tuple #[.int .u8 0, .int .i64 10] := by
  have h : readFrom takeGet 64 0 = none := by decide +kernel
  unfold readV; rw [h]
set_option maxRecDepth 100000 in
theorem lives_any (w : World) : Calls Try.prog 12 #[] w fun e w' => e = .returned (.bool true) ∧ Below w.heap.size w w' := by
  go_enter Try.func12, Try.ntmps12
  have t15 : ∀ w : World, Calls Try.prog 13 #[.int .u8 15] w fun e w' => e = .returned (.tuple #[.string getPut, .int .i64 0]) ∧ Below w.heap.size w w' := fun w => by
    have := text_yes 15 (by omega) (by omega) (by decide) w
    rw [text15] at this
    exact this
  have r5 : ∀ w : World, Calls Try.prog 10 #[.string getTake] w fun e w' => e = .returned (.tuple #[.int .u8 5, .int .i64 0]) ∧ Below w.heap.size w w' := fun w => by
    have := read_any getTake w
    rw [read5] at this
    exact this
  have r10 : ∀ w : World, Calls Try.prog 10 #[.string takeGet] w fun e w' => e = .returned (.tuple #[.int .u8 0, .int .i64 10]) ∧ Below w.heap.size w w' := fun w => by
    have := read_any takeGet w
    rw [read10] at this
    exact this
  have T15 := Lib.hid t15
  have R5 := Lib.hid r5
  have R10 := Lib.hid r10
  clear t15 r5 r10
  have m0 : ∀ w : World, Calls Try.prog 24 #[.slice none 0 0] w fun e w' => e = .returned (.int .u8 63) ∧ w = w' := fun w => meet_any none 0 0 [] rfl w (readsU8_nil w)
  have l2 : ∀ w : World, Calls Try.prog 29 #[.int .u8 7, .int .u8 5] w fun e w' => e = .returned (.int .u8 2) ∧ w = w' := fun w => (less_any 7 5 w).mono fun e w' ⟨he, hw⟩ => ⟨he.trans (by rw [show bits BinOp.and IntKind.u8 (bits BinOp.andNot IntKind.u8 7 5) 63 = 2 from by decide +kernel]), hw⟩
  have c2 : ∀ w : World, Calls Try.prog 21 #[.int .u8 69] w fun e w' => e = .returned (.int .i64 2) ∧ w = w' := fun w => (count_any 69 (by omega) (by omega) w).mono fun e w' ⟨he, hw⟩ => ⟨he.trans (by rw [show cntB (69 % 64) = 2 from by decide +kernel]), hw⟩
  have o0 : ∀ w : World, Calls Try.prog 19 #[.int .u8 68] w fun e w' => e = .returned (.bool false) ∧ w = w' := fun w => (one_any 68 (by omega) (by omega) w).mono fun e w' ⟨he, hw⟩ => ⟨he.trans (by rw [show oneB 68 = false from by decide +kernel]), hw⟩
  have M0 := Lib.hid m0
  have L2 := Lib.hid l2
  have C2 := Lib.hid c2
  have O0 := Lib.hid o0
  clear m0 l2 c2 o0
  go_wp2_with fail
  refine (T15.out _).mono ?_
  rintro e w1 ⟨rfl, hb1⟩
  go_wp2_with fail
  refine (R5.out _).mono ?_
  rintro e w2 ⟨rfl, hb2⟩
  go_wp2_with fail
  refine (R10.out _).mono ?_
  rintro e w3 ⟨rfl, hb3⟩
  have hgp : getPut.toList = [103, 101, 116, 43, 112, 117, 116, 43, 116, 97, 107, 101, 43, 103, 105, 118, 101] := by simp [getPut, go_sem]
  go_wp2_with fail
  refine (M0.out _).mono ?_
  rintro e w4 ⟨rfl, rfl⟩
  go_wp2_with fail
  refine (L2.out _).mono ?_
  rintro e w4 ⟨rfl, rfl⟩
  go_wp2_with fail
  refine (C2.out _).mono ?_
  rintro e w4 ⟨rfl, rfl⟩
  go_wp2_with fail
  refine (O0.out _).mono ?_
  rintro e w4 ⟨rfl, rfl⟩
  go_wp2_with fail
  go_ret
  exact ⟨rfl, (hb1.trans (hb2.mono hb1.size)).trans (hb3.mono (Nat.le_trans hb1.size hb2.size))⟩
end Go.Proofs.Ytbdbhacniejagaa
