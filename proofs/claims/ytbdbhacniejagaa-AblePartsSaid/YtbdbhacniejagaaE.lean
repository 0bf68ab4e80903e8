/- Contracts of the reference's functions on one set: bit, In, Names, Text, Read. -/
import Derived.Test.YtbdbhacniejagaaD
namespace Go.Proofs.Ytbdbhacniejagaa
open Go.RowKit Go.Shelf
set_option maxHeartbeats 1000000

theorem refbit_any (k : Nat) (hk : k < 6) (w : World) : Calls Try.prog 41 #[.int .i64 k] w fun e w' => e = .returned (.int .u8 (2 ^ k)) ∧ w = w' := by
  rcases (show k = 0 ∨ k = 1 ∨ k = 2 ∨ k = 3 ∨ k = 4 ∨ k = 5 by omega) with rfl | rfl | rfl | rfl | rfl | rfl <;>
    (go_enter Try.func41, Try.ntmps41
     go_wp2
     go_ret
     exact ⟨rfl, rfl⟩)
def inB (a : Int) (k : Nat) : Bool := !(bits .and .u8 a (2 ^ k) == 0)
theorem refIn_any (a : Int) (k : Nat) (hk : k < 6) (w : World) : Calls Try.prog 43 #[.int .u8 a, .int .i64 k] w fun e w' => e = .returned (.bool (inB a k)) ∧ w = w' := by
  go_enter Try.func43, Try.ntmps43
  go_wp2_with (go_at_call 41; refine (refbit_any k hk _).mono ?_; rintro e w' ⟨rfl, rfl⟩)
  go_ret
  exact ⟨rfl, rfl⟩
theorem refNames_any (w : World) : Calls Try.prog 44 #[] w fun e w' => e = .returned (.slice (some ⟨w.heap.size, 0, none⟩) 6 6) ∧ w.alloc (.cells #[.string (nameS 0), .string (nameS 1), .string (nameS 2), .string (nameS 3), .string (nameS 4), .string (nameS 5)] 9) = w' := by
  go_enter Try.func44, Try.ntmps44
  go_wp2
  go_ret
  exact ⟨rfl, rfl⟩
/-- The reference's text, the first k abilities being gone through. -/
def refL (a : Int) : Nat → List UInt8
  | 0 => []
  | k + 1 => if inB a k then (if refL a k = [] then [] else refL a k ++ [43]) ++ nameL k else refL a k
def refS (a : Int) (k : Nat) : ByteArray := ⟨(refL a k).toArray⟩
theorem below_alloc' {w W : World} (h : Below w.heap.size w W) (o : Obj) : Below w.heap.size w (W.alloc o) := h.alloc h.size o
def refT (a : Int) : ByteArray := if refL a 6 = [] then ⟨#[45]⟩ else refS a 6
theorem refS_ne (a : Int) (k : Nat) : (refS a k).toList = refL a k := by simp [refS]
theorem cell_new (w : World) (cs : Array Value) (t : TypeId) (j : Nat) (v : Value) (h : cs[j]? = some v) : (w.alloc (.cells cs t)).cell? ⟨w.heap.size, j, none⟩ = some v := by
  simp only [World.cell?, World.alloc_heap_new]
  simpa using h
theorem bytes_app (l m : List UInt8) : (⟨l.toArray⟩ : ByteArray) ++ ⟨m.toArray⟩ = ⟨(l ++ m).toArray⟩ := by
  apply ByteArray.ext
  simp
theorem nameL_len (k : Nat) : (nameL k).length ≤ 4 := by rcases k with _ | _ | _ | _ | _ | k <;> simp [nameL]
theorem refL_len (a : Int) (k : Nat) : (refL a k).length ≤ 5 * k := by
  induction k with
  | zero => simp [refL]
  | succ k ih =>
    have := nameL_len k
    simp only [refL]
    repeat' split
    all_goals simp
    all_goals omega
theorem nameS_size (k : Nat) : (nameS k).size ≤ 4 := by
  have := nameL_len k
  simpa [nameS, ByteArray.size] using this
theorem refS_size (a : Int) (k : Nat) : (refS a k).size ≤ 5 * k := by
  have := refL_len a k
  simpa [refS, ByteArray.size] using this
set_option maxRecDepth 100000 in
theorem refText_any (a : Int) (w : World) : Calls Try.prog 23 #[.int .u8 a] w fun e w' => e = .returned (.string (refT a)) ∧ Below w.heap.size w w' := by
  go_enter Try.func23, Try.ntmps23
  go_wp2
  go_loopw [3, 4] (fun s i wr => ∃ k : Nat, k ≤ 6 ∧ i = .int .i64 k ∧ s = .string (refS a k) ∧ Below w.heap.size w wr) (fun _ i _ => 6 - (intOf i).toNat)
  case atStart => exact ⟨0, by omega, rfl, rfl, Below.refl _ _⟩
  case round =>
    obtain ⟨k, hk, rfl, rfl, hB⟩ := hrel
    by_cases hlt : k < 6
    · cases hin : inB a k with
      | true =>
        have hc : (wr.alloc (.cells #[.string (nameS 0), .string (nameS 1), .string (nameS 2), .string (nameS 3), .string (nameS 4), .string (nameS 5)] 9)).cell? ⟨wr.heap.size, k, none⟩ = some (.string (nameS k)) := by
          rcases (show k = 0 ∨ k = 1 ∨ k = 2 ∨ k = 3 ∨ k = 4 ∨ k = 5 by omega) with rfl | rfl | rfl | rfl | rfl | rfl <;> exact cell_new _ _ _ _ _ rfl
        have hz1 := refS_size a k
        have hz2 := nameS_size k
        by_cases he : refL a k = []
        · have he1 : (refS a k).toList = [] := by rw [refS_ne, he]
          have he2 : (!(refS a k).toList.isEmpty) = false := by rw [he1]; rfl
          have he3 : (refS a k).toList.isEmpty = true := by rw [he1]; rfl
          have Hn := Lib.hid (show refL a (k + 1) = nameL k by simp [refL, hin, he])
          have HE := Lib.hid he
          clear he he1
          go_wp2_with (first | (go_at_call 43; refine (refIn_any a k hlt _).mono ?_; rintro e w' ⟨rfl, rfl⟩) | (go_at_call 44; refine (refNames_any _).mono ?_; rintro e w' ⟨rfl, rfl⟩))
          refine ⟨⟨k + 1, by omega, rfl, ?_, below_alloc' hB _⟩, by simp [intOf]; omega⟩
          unfold refS nameS
          rw [Hn.out, bytes_app, HE.out]; rfl
        · have he2 : (!(refS a k).toList.isEmpty) = true := by rw [refS_ne]; simp [he]
          have he3 : (refS a k).toList.isEmpty = false := by rw [refS_ne]; simp [he]
          have Hn := Lib.hid (show refL a (k + 1) = refL a k ++ [43] ++ nameL k by simp [refL, hin, he])
          clear he
          go_wp2_with (first | (go_at_call 43; refine (refIn_any a k hlt _).mono ?_; rintro e w' ⟨rfl, rfl⟩) | (go_at_call 44; refine (refNames_any _).mono ?_; rintro e w' ⟨rfl, rfl⟩))
          refine ⟨⟨k + 1, by omega, rfl, ?_, below_alloc' hB _⟩, by simp [intOf]; omega⟩
          unfold refS nameS
          rw [Hn.out, bytes_app, bytes_app]
      | false =>
        go_wp2_with (first | (go_at_call 43; refine (refIn_any a k hlt _).mono ?_; rintro e w' ⟨rfl, rfl⟩))
        exact ⟨⟨k + 1, by omega, rfl, by simp [refS, refL, hin], hB⟩, by simp [intOf]; omega⟩
    · obtain rfl : k = 6 := by omega
      by_cases he : refL a 6 = []
      · have he3 : (refS a 6).toList.isEmpty = true := by rw [refS_ne, he]; rfl
        have Hn := Lib.hid (show refT a = ⟨#[45]⟩ by simp [refT, he])
        clear he
        go_wp2
        go_ret
        exact ⟨by rw [Hn.out]; rfl, hB⟩
      · have he3 : (refS a 6).toList.isEmpty = false := by rw [refS_ne]; simp [he]
        have Hn := Lib.hid (show refT a = refS a 6 by simp [refT, he])
        clear he
        go_wp2
        go_ret
        exact ⟨by rw [Hn.out]; rfl, hB⟩

/-- The first set, from a on, whose text the reference gives as s. -/
def refFrom (s : ByteArray) : Nat → Nat → Option Nat
  | 0, _ => none
  | d + 1, a => if (refT a).toList == s.toList then some a else refFrom s d (a + 1)
def refV (s : ByteArray) : Value := match refFrom s 64 0 with | some a => .tuple #[.int .u8 a, .bool true] | none => .tuple #[.int .u8 0, .bool false]
set_option maxRecDepth 100000 in
theorem refRead_any (s : ByteArray) (w : World) :
    Calls Try.prog 11 #[.string s] w fun e w' => e = .returned (refV s) ∧ Below w.heap.size w w' := by
  go_enter Try.func11, Try.ntmps11
  go_wp2
  go_loopw [4] (fun a wr => ∃ k : Nat, k ≤ 64 ∧ a = .int .u8 k ∧ refFrom s 64 0 = refFrom s (64 - k) k ∧ Below w.heap.size w wr) (fun a _ => 64 - (intOf a).toNat)
  case atStart => exact ⟨0, by omega, rfl, rfl, Below.refl _ _⟩
  case round =>
    obtain ⟨k, hk, rfl, hr, hB⟩ := hrel
    have Hr := Lib.hid hr
    clear hr
    by_cases hlt : k < 64
    · have hstep : refFrom s (64 - k) k = if (refT k).toList == s.toList then some k else refFrom s (64 - (k + 1)) (k + 1) := by
        rw [show 64 - k = (64 - (k + 1)) + 1 by omega]; rfl
      have Hs := Lib.hid hstep
      clear hstep
      cases heq : ((refT k).toList == s.toList) with
      | true =>
        go_wp2_with (go_at_call 23; refine (refText_any k _).mono ?_; rintro e w' ⟨rfl, hb'⟩)
        go_ret2
        refine ⟨?_, hB.trans (hb'.mono hB.size)⟩
        unfold refV
        rw [Hr.out, Hs.out, heq]
        rfl
      | false =>
        go_wp2_with (go_at_call 23; refine (refText_any k _).mono ?_; rintro e w' ⟨rfl, hb'⟩)
        refine ⟨⟨k + 1, by omega, rfl, by rw [Hr.out, Hs.out, heq]; rfl, hB.trans (hb'.mono hB.size)⟩, by simp [intOf]; omega⟩
    · obtain rfl : k = 64 := by omega
      go_wp2
      go_ret2
      refine ⟨?_, hB⟩
      unfold refV
      rw [Hr.out]
      rfl
theorem texts_same : ((List.range 64).all fun n => decide (refT (n : Int) = textS (n : Int))) = true := by decide +kernel
theorem text_same (n : Nat) (h : n < 64) : refT (n : Int) = textS (n : Int) := by
  have := all64 (p := fun n => decide (refT (n : Int) = textS (n : Int))) texts_same n h
  simpa using this
theorem from_same (s : ByteArray) (d : Nat) : ∀ a : Nat, a + d = 64 → refFrom s d a = readFrom s d a := by
  induction d with
  | zero => intro a _; rfl
  | succ d ih =>
    intro a h
    simp only [refFrom, readFrom]
    rw [text_same a (by omega), ih (a + 1) (by omega)]

set_option maxRecDepth 100000 in
theorem texts_walk (s : ByteArray) (_ : s.size ≤ maxLen) (w : World) :
    Calls Try.prog 3 #[.string s] w fun e w' => e = .returned (.bool true) ∧ Below w.heap.size w w' := by
  have hs := from_same s 64 0 rfl
  rcases hr : readFrom s 64 0 with _ | a
  · have h1 : ∀ w : World, Calls Try.prog 10 #[.string s] w fun e w' => e = .returned (.tuple #[.int .u8 0, .int .i64 10]) ∧ Below w.heap.size w w' := fun w => by
      have := read_any s w; unfold readV at this; rw [hr] at this; exact this
    have h2 : ∀ w : World, Calls Try.prog 11 #[.string s] w fun e w' => e = .returned (.tuple #[.int .u8 0, .bool false]) ∧ Below w.heap.size w w' := fun w => by
      have := refRead_any s w; unfold refV at this; rw [hs, hr] at this; exact this
    have H1 := Lib.hid h1
    have H2 := Lib.hid h2
    clear h1 h2 hs hr
    go_enter Try.func3, Try.ntmps3
    go_wp2_with fail
    refine (H1.out _).mono ?_
    rintro e w1 ⟨rfl, hb1⟩
    go_wp2_with fail
    refine (H2.out _).mono ?_
    rintro e w2 ⟨rfl, hb2⟩
    go_wp2_with fail
    refine (lives_any _).mono ?_
    rintro e w3 ⟨rfl, hb3⟩
    go_wp2_with fail
    go_ret
    exact ⟨rfl, (hb1.trans (hb2.mono hb1.size)).trans (hb3.mono (Nat.le_trans hb1.size hb2.size))⟩
  · have h1 : ∀ w : World, Calls Try.prog 10 #[.string s] w fun e w' => e = .returned (.tuple #[.int .u8 a, .int .i64 0]) ∧ Below w.heap.size w w' := fun w => by
      have := read_any s w; unfold readV at this; rw [hr] at this; exact this
    have h2 : ∀ w : World, Calls Try.prog 11 #[.string s] w fun e w' => e = .returned (.tuple #[.int .u8 a, .bool true]) ∧ Below w.heap.size w w' := fun w => by
      have := refRead_any s w; unfold refV at this; rw [hs, hr] at this; exact this
    have H1 := Lib.hid h1
    have H2 := Lib.hid h2
    clear h1 h2 hs hr
    go_enter Try.func3, Try.ntmps3
    go_wp2_with fail
    refine (H1.out _).mono ?_
    rintro e w1 ⟨rfl, hb1⟩
    go_wp2_with fail
    refine (H2.out _).mono ?_
    rintro e w2 ⟨rfl, hb2⟩
    go_wp2_with fail
    refine (lives_any _).mono ?_
    rintro e w3 ⟨rfl, hb3⟩
    go_wp2_with fail
    go_ret
    exact ⟨rfl, (hb1.trans (hb2.mono hb1.size)).trans (hb3.mono (Nat.le_trans hb1.size hb2.size))⟩
end Go.Proofs.Ytbdbhacniejagaa
