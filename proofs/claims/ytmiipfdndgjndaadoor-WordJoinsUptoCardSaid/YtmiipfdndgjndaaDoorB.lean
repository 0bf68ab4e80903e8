/- Contracts of the program's reader: next, wrong, hex, escape. -/
import Derived.Test.YtmiipfdndgjndaaDoorA
namespace Go.Proofs.YtmiipfdndgjndaaDoor
open Go.RowKit
set_option maxHeartbeats 1000000
def Rd (W : World) (B : Nat) (s : ByteArray) (a p : Int) : Prop := W.heap[B]? = some (.cells #[.string s, .int .i64 a, .int .i64 p] 77 (0, 0))
theorem Rd.c0 {W : World} {B : Nat} {s : ByteArray} {a p : Int} (h : Rd W B s a p) : W.cell? ⟨B, 0, none⟩ = some (.string s) := by simp [World.cell?, show W.heap[B]? = _ from h]
theorem Rd.c1 {W : World} {B : Nat} {s : ByteArray} {a p : Int} (h : Rd W B s a p) : W.cell? ⟨B, 1, none⟩ = some (.int .i64 a) := by simp [World.cell?, show W.heap[B]? = _ from h]
theorem Rd.c2 {W : World} {B : Nat} {s : ByteArray} {a p : Int} (h : Rd W B s a p) : W.cell? ⟨B, 2, none⟩ = some (.int .i64 p) := by simp [World.cell?, show W.heap[B]? = _ from h]
theorem Rd.f {W : World} {B : Nat} {s : ByteArray} {a p : Int} (h : Rd W B s a p) (k : Nat) : W.frozen? ⟨B, k, none⟩ = false := by simp [World.frozen?, show W.heap[B]? = _ from h]
theorem Rd.lt {W : World} {B : Nat} {s : ByteArray} {a p : Int} (h : Rd W B s a p) : B < W.heap.size := (Array.getElem?_eq_some_iff.1 h).1
/-- Nothing that was there has turned but block B. -/
structure But (B : Nat) (w w' : World) : Prop where
  os : w'.os = w.os
  tape : w'.tape = w.tape
  output : w'.output = w.output
  size : w.heap.size ≤ w'.heap.size
  block : ∀ i, i < w.heap.size → i ≠ B → w'.heap[i]? = w.heap[i]?
theorem But.refl (B : Nat) (w : World) : But B w w := ⟨rfl, rfl, rfl, Nat.le_refl _, fun _ _ _ => rfl⟩
theorem But.trans {B : Nat} {a b c : World} (h : But B a b) (k : But B b c) : But B a c :=
  ⟨k.os.trans h.os, k.tape.trans h.tape, k.output.trans h.output, Nat.le_trans h.size k.size, fun i hi hn => (k.block i (Nat.lt_of_lt_of_le hi h.size) hn).trans (h.block i hi hn)⟩
theorem But.drewN {B : Nat} {a b : World} (h : But B a b) (q : Nat) : But B a (b.drewN q) := ⟨h.os, h.tape, h.output, h.size, h.block⟩
theorem But.setCell {B : Nat} {a b : World} (h : But B a b) (k : Nat) (v : Value) : But B a (b.setCell ⟨B, k, none⟩ v) :=
  h.trans ⟨rfl, rfl, rfl, by simp [World.setCell], fun i _ hn => Below.heap_setCell _ _ _ _ hn⟩
theorem But.below {B : Nat} {a b c : World} (h : But B a b) (k : Below b.heap.size b c) : But B a c :=
  h.trans ⟨k.os, k.tape, k.output, k.size, fun i hi _ => k.block i hi⟩
theorem But.alloc {B : Nat} {a b : World} (h : But B a b) (o : Obj) : But B a (b.alloc o) := h.below ((Below.refl _ _).alloc (Nat.le_refl _) o)
theorem Rd.drewN {W : World} {B : Nat} {s : ByteArray} {a p : Int} (h : Rd W B s a p) (q : Nat) : Rd (W.drewN q) B s a p := h
theorem Rd.set1 {W : World} {B : Nat} {s : ByteArray} {a p : Int} (h : Rd W B s a p) (v : Int) : Rd (W.setCell ⟨B, 1, none⟩ (.int .i64 v)) B s v p := by
  obtain ⟨hlt, hk⟩ := Array.getElem?_eq_some_iff.1 h
  show (W.heap.modify B _)[B]? = _
  rw [Array.getElem?_eq_getElem (by rw [Array.size_modify]; exact hlt), Array.getElem_modify_self, hk]
  rfl
theorem Rd.set2 {W : World} {B : Nat} {s : ByteArray} {a p : Int} (h : Rd W B s a p) (v : Int) : Rd (W.setCell ⟨B, 2, none⟩ (.int .i64 v)) B s a v := by
  obtain ⟨hlt, hk⟩ := Array.getElem?_eq_some_iff.1 h
  show (W.heap.modify B _)[B]? = _
  rw [Array.getElem?_eq_getElem (by rw [Array.size_modify]; exact hlt), Array.getElem_modify_self, hk]
  rfl
theorem drew2 (w : World) (a b : Nat) : (w.drewN a).drewN b = w.drewN (a + b) := by simp [World.drewN, Nat.add_assoc]
def stuckV (n : Int) : List PanicEntry := [{ v := .iface 73 (.int .i64 n), recovered := false }]
theorem wrong_any (B : Nat) (s : ByteArray) (a p : Int) (w : World) (h : Rd w B s a p) : Calls Tryd.prog 41 #[.pointer (some ⟨B, 0, none⟩)] w fun e w' => e = .panicked (stuckV a) ∧ w = w' := by
  have c1 := h.c1
  go_enter Tryd.func41, Tryd.ntmps41
  go_wp2
  exact ⟨rfl, rfl, rfl⟩
theorem next_ok (B : Nat) (s : ByteArray) (k : Nat) (p : Int) (w : World) (h : Rd w B s k p) (hk : k < s.size) : Calls Tryd.prog 64 #[.pointer (some ⟨B, 0, none⟩)] w fun e w' => e = .returned (.int .u8 (bAt s k)) ∧ ∃ q, w.drewN q = w' := by
  have c1 := h.c1
  have c0 := h.c0
  go_enter Tryd.func64, Tryd.ntmps64
  go_wp2
  go_quiet (fail)
  go_wp2
  go_quiet (fail)
  go_wp2
  go_ret
  exact ⟨by rw [← bAt_eq s k hk]; rfl, _, (drew2 _ _ _).symm⟩
theorem next_none (B : Nat) (s : ByteArray) (k : Nat) (p : Int) (w : World) (h : Rd w B s k p) (hk : ¬ k < s.size) : Calls Tryd.prog 64 #[.pointer (some ⟨B, 0, none⟩)] w fun e w' => e = .panicked (stuckV s.size) ∧ ∃ q, w.drewN q = w' := by
  have c1 := h.c1
  have c0 := h.c0
  go_enter Tryd.func64, Tryd.ntmps64
  go_wp2
  go_quiet (fail)
  go_wp2
  exact ⟨rfl, rfl, _, rfl⟩
theorem hex_none (B : Nat) (s : ByteArray) (k : Nat) (p : Int) (w : World) (h : Rd w B s k p) (hk : ¬ k < s.size) : Calls Tryd.prog 88 #[.pointer (some ⟨B, 0, none⟩)] w fun e w' => e = .panicked (stuckV s.size) ∧ ∃ q, w.drewN q = w' := by
  go_enter Tryd.func88, Tryd.ntmps88
  go_wp2_with fail
  refine (next_none B s k p _ h hk).mono ?_
  rintro e w' ⟨rfl, q, rfl⟩
  go_wp2
  exact ⟨rfl, rfl, _, rfl⟩
theorem hex_bad (B : Nat) (s : ByteArray) (k : Nat) (p : Int) (w : World) (h : Rd w B s k p) (hk : k < s.size) (hh : hexI (bAt s k) = none) : Calls Tryd.prog 88 #[.pointer (some ⟨B, 0, none⟩)] w fun e w' => e = .panicked (stuckV k) ∧ ∃ q, w.drewN q = w' := by
  have hn := next_ok B s k p w h hk
  generalize bAt s k = c at *
  have Hn := Lib.hid hn
  clear hn
  cases h1 : decide (48 ≤ c) <;> cases h2 : decide (c ≤ 57) <;> cases h3 : decide (97 ≤ c) <;> cases h4 : decide (c ≤ 102)
  all_goals simp only [hexI, digitI, h1, h2, h3, h4, Bool.and_false, Bool.and_true, Bool.and_self, if_true, if_false, Bool.false_eq_true, reduceCtorEq] at hh
  all_goals
    go_enter Tryd.func88, Tryd.ntmps88
    go_wp2_with (first
      | (go_at_call 64; refine Hn.out.mono ?_; rintro e w' ⟨rfl, q, rfl⟩)
      | (go_at_call 41; refine (wrong_any B s k p _ (h.drewN _)).mono ?_; rintro e w' ⟨rfl, rfl⟩))
    exact ⟨rfl, rfl, _, rfl⟩
theorem hex_ok (B : Nat) (s : ByteArray) (k : Nat) (p : Int) (v : Nat) (w : World) (h : Rd w B s k p) (hk : k < s.size) (hh : hexI (bAt s k) = some v) : Calls Tryd.prog 88 #[.pointer (some ⟨B, 0, none⟩)] w fun e w' => e = .returned (.int .i64 v) ∧ ∃ q, w.drewN q = w' := by
  have hn := next_ok B s k p w h hk
  have hr := bAt_range s k
  generalize bAt s k = c at *
  obtain ⟨r0, r1⟩ := hr
  have Hn := Lib.hid hn
  clear hn
  cases h1 : decide (48 ≤ c) <;> cases h2 : decide (c ≤ 57) <;> cases h3 : decide (97 ≤ c) <;> cases h4 : decide (c ≤ 102)
  all_goals simp only [hexI, digitI, h1, h2, h3, h4, Bool.and_false, Bool.and_true, Bool.and_self, if_true, if_false, Bool.false_eq_true, reduceCtorEq, Option.some.injEq] at hh
  all_goals
    go_enter Tryd.func88, Tryd.ntmps88
    go_wp2_with (go_at_call 64; refine Hn.out.mono ?_; rintro e w' ⟨rfl, q, rfl⟩)
    go_ret
    simp only [decide_eq_true_eq, decide_eq_false_iff_not] at h1 h2 h3 h4
    refine ⟨?_, _, rfl⟩
    first
      | exact congrArg (fun x : Int => Ending.returned (Value.int .i64 x)) (show (c - 97) % 256 + 10 = (v : Int) by omega)
      | exact congrArg (fun x : Int => Ending.returned (Value.int .i64 x)) (show (c - 48) % 256 = (v : Int) by omega)
end Go.Proofs.YtmiipfdndgjndaaDoor
