/- The reference's Unquote and the law's inputs: the plain part. -/
import Derived.Test.YtmiipfdndgjndaaDoorG
import Derived.OwnWalk
import Derived.Deep.QuietTactic
import Derived.BigQuiet
namespace Go.Proofs.YtmiipfdndgjndaaDoor
open Go.RowKit Go.Lib
theorem qF_free (s : ByteArray) (full full' : Nat → Bool) (h : ∀ n, n < s.size → full n = full' n) : ∀ (f k : Nat) (b : List UInt8), b.length < k → qF s full f k b = qF s full' f k b := by
  intro f
  induction f with
  | zero => intro k b _; rfl
  | succ f ih =>
    intro k b hb
    rw [qF, qF]
    by_cases hk : k < s.size
    · rw [if_pos hk, if_pos hk, h b.length (by omega)]
      cases he : escF s (k + 1) with
      | error q => rw [ih (k + 1) _ (by simp; omega)]
      | ok r =>
        obtain ⟨x, k'⟩ := r
        have := escF_ok s (k + 1) x k' he
        dsimp only
        rw [ih (k + 1) _ (by simp; omega), ih k' _ (by simp; omega)]
    · rw [if_neg hk, if_neg hk]
theorem quotedF_free (s : ByteArray) (full full' : Nat → Bool) (h : ∀ n, n < s.size → full n = full' n) (k : Nat) : quotedF s full k = quotedF s full' k := by
  unfold quotedF
  rw [qF_free s full full' h _ _ _ (by simp)]
theorem quotedF_any (s : ByteArray) (k : Nat) : quotedF s (fullL (-1)) k = quotedF s (fun n => decide ((s.size : Int) ≤ (n : Int))) k := by
  refine quotedF_free s _ _ (fun n hn => ?_) k
  unfold fullL
  simp
  omega
/-- A reader of the reference's, laid behind w. -/
theorem below_but {w w0 w' : World} {B : Nat} (h0 : Below w.heap.size w w0) (hB : w.heap.size ≤ B) (h : But B w0 w') : Below w.heap.size w w' :=
  h0.trans ⟨h.os, h.tape, h.output, h.size, fun i hi => h.block i (by have := h0.size; omega) (by omega)⟩
theorem below_drewN {B : Nat} {a b : World} (h : Below B a b) (q : Nat) : Below B a (b.drewN q) := ⟨h.os, h.tape, h.output, h.size, h.block⟩
set_option maxRecDepth 100000 in
theorem refUnquote_any (s : ByteArray) (w : World) (hS : s.size ≤ 140737488351232) :
    Calls Tryd.prog 17 #[.string s] w fun e w' => e = .returned (.tuple #[.string ⟨(unquoteF s).1.toArray⟩, .int .i64 ((unquoteF s).2.1 : Int), .int .i64 (unquoteF s).2.2]) ∧ Below w.heap.size w w' := by
  have b0 : Rr (w.alloc (.cells #[.string s, .int .i64 0, .bool false, .int .i64 0] 81)) w.heap.size s ((0 : Nat) : Int) false 0 := heap_alloc_new w _
  have hq := rquoted_any w.heap.size s 0 0 (-1) _ hS b0 (by omega)
  have hB0 : Below w.heap.size w (w.alloc (.cells #[.string s, .int .i64 0, .bool false, .int .i64 0] 81)) := (Below.refl _ w).alloc (Nat.le_refl _) _
  rw [quotedF_any] at hq
  have HB0 := Lib.hid hB0
  unfold unquoteF
  cases hQ : quotedF s (fun n => decide ((s.size : Int) ≤ (n : Int))) 0 with
  | error q =>
    rw [hQ] at hq
    have Hq := Lib.hid hq
    clear hq hB0
    go_enter Tryd.func17, Tryd.ntmps17
    go_wp2_with fail
    refine Hq.out.mono ?_
    rintro e w' ⟨⟨rfl, hr⟩, hb⟩
    have c0 := hr.c0
    have c1 := hr.c1
    have c2 := hr.c2
    have HF := Lib.hid (below_but HB0.out (Nat.le_refl _) hb)
    clear hr hb
    go_wp2
    go_quiet (fail)
    go_wp2
    go_ret3
    exact ⟨rfl, below_drewN HF.out _⟩
  | ok r =>
    obtain ⟨b, k⟩ := r
    rw [hQ] at hq
    have Hq := Lib.hid hq
    clear hq hB0
    dsimp only
    by_cases hk : k < s.size
    · have t1 : decide ((k : Int) < (s.size : Int)) = true := by simpa using hk
      rw [if_pos hk]
      go_enter Tryd.func17, Tryd.ntmps17
      go_wp2_with fail
      refine Hq.out.mono ?_
      rintro e w' ⟨⟨rfl, hr⟩, hb⟩
      have c0 := hr.c0
      have c1 := hr.c1
      have c2 := hr.c2
      have HF := Lib.hid (below_but HB0.out (Nat.le_refl _) hb)
      clear hr hb
      go_wp2
      go_quiet (fail)
      go_wp2
      go_ret3
      exact ⟨rfl, below_drewN HF.out _⟩
    · have t1 : decide ((k : Int) < (s.size : Int)) = false := by simpa using hk
      rw [if_neg hk]
      go_enter Tryd.func17, Tryd.ntmps17
      go_wp2_with fail
      refine Hq.out.mono ?_
      rintro e w' ⟨⟨rfl, hr⟩, hb⟩
      have c0 := hr.c0
      have c1 := hr.c1
      have c2 := hr.c2
      have HF := Lib.hid (below_but HB0.out (Nat.le_refl _) hb)
      clear hr hb
      go_wp2
      go_ret3
      exact ⟨rfl, HF.out⟩
end Go.Proofs.YtmiipfdndgjndaaDoor
