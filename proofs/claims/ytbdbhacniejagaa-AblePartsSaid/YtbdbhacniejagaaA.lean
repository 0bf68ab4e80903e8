/- Contracts of the iterators able.Each and able.Within, for whatever loop body keeps the captured variable. -/
import Derived.Test.YtbdbhacniejagaaRows
import Derived.RangeFuncNested
import Derived.RangeFuncBound
import Derived.RangeFuncCalls
import Derived.RangeFuncLeaves
import Derived.RangeFuncBox
import Derived.Shelf.Abstract
import Derived.Shelf.RegionOpen
import Derived.WalkKit
import Derived.OwnWalkIn
import Derived.TacticsInMore
import Derived.LoopNIn
import Derived.LoopIn
import Derived.Maps.AppendAt
import Derived.WalkSpells
import Derived.Lib.Hide
import Derived.WalkLawsBesides
namespace Go.Proofs.Ytbdbhacniejagaa
open Go.RowKit Go.Shelf
attribute [local go_sem] Oper.semAt_some

/-- The places below j that the set a has. -/
def upto (a : Int) (j : Nat) : List (Fin 6) := (List.finRange 6).filter fun k => decide (k.val < j) && !(bits .and .u8 a (2 ^ k.val) == 0)
theorem upto_zero (a : Int) : upto a 0 = [] := by simp [upto]
theorem upto_succ (a : Int) (j : Nat) (h : j < 6) : upto a (j + 1) = upto a j ++ (if bits .and .u8 a (2 ^ j) == 0 then [] else [⟨j, h⟩]) := by
  unfold upto
  rcases (show j = 0 ∨ j = 1 ∨ j = 2 ∨ j = 3 ∨ j = 4 ∨ j = 5 by omega) with rfl | rfl | rfl | rfl | rfl | rfl <;>
    (simp only [List.finRange, List.ofFn, Fin.foldr, Fin.foldr.loop, List.filter_cons, List.filter_nil]
     simp)
    <;> (repeat' split) <;> simp_all
theorem upto_len (a : Int) (j : Nat) (h : j ≤ 6) : (upto a j).length ≤ j := by
  induction j with
  | zero => simp [upto_zero]
  | succ j ih =>
    rw [upto_succ a j (by omega), List.length_append]
    have := ih (by omega)
    split <;> simp <;> omega
theorem upto_prefix (a : Int) (d : Nat) : ∀ j : Nat, j + d = 6 → upto a j <+: upto a 6 := by
  induction d with
  | zero => intro j h; obtain rfl : j = 6 := by omega
            exact List.prefix_refl _
  | succ d ih =>
    intro j h
    refine List.IsPrefix.trans ?_ (ih (j + 1) (by omega))
    rw [upto_succ a j (by omega)]
    exact List.prefix_append _ _
theorem upto_hit (a : Int) (j : Nat) (h : j < 6) {p : Int} (hp : 2 ^ j = p) (hb : (bits .and .u8 a p == 0) = false) : upto a (j + 1) = upto a j ++ [⟨j, h⟩] := by
  rw [upto_succ a j h, hp, if_neg (by simp [hb])]
theorem upto_miss (a : Int) (j : Nat) (h : j < 6) {p : Int} (hp : 2 ^ j = p) (hb : (bits .and .u8 a p == 0) = true) : upto a (j + 1) = upto a j := by
  rw [upto_succ a j h, hp, if_pos hb, List.append_nil]
/-- What the iterator asks the body to keep: the captured variable. -/
def KpB (B : Nat) (W W' : World) : Prop := ∀ v, W.cell? ⟨B, 0, none⟩ = some v → W'.cell? ⟨B, 0, none⟩ = some v
theorem KpB.t {B : Nat} {X Y Z : World} (h : KpB B X Y) (k : KpB B Y Z) : KpB B X Z := fun v hv => k v (h v hv)
theorem KpB.b {B : Nat} (W : World) (l : Nat) (o o' : Obj) (h : W.heap[l]? = some o) (hc : o.isCells = false) : KpB B W (W.putObj l o') := fun v hv =>
  cell_kept hv (grownBy_putObj' W l o') (fun r e => by cases e; exact ⟨o, h, hc⟩)

/-- The value that a round is handed: the set of one ability. -/
def enc6 (k : Fin 6) : Array Value := #[.int .u8 (2 ^ k.val)]

set_option maxRecDepth 100000 in
set_option maxHeartbeats 1000000 in
theorem each1_in (F : Fence) (n : Nat) (h47 : F.fn 47) (hro : F.round = none) (hn : 1 ≤ n) (l B : Nat) (a : Int) (J Jx : List (Fin 6) → World → Prop)
    (hY : ∀ pre x W, J pre W → pre.length < 6 → YieldAt F (n - 1) Try.prog l (enc6 x) W fun e W' =>
      (e = .returned (.bool true) ∧ J (pre ++ [x]) W' ∧ KpB B W W') ∨ (e = .returned (.bool false) ∧ Jx (pre ++ [x]) W'))
    (W : World) (hB : W.cell? ⟨B, 0, none⟩ = some (.int .u8 a)) (h0 : J [] W) :
    CallsIn F n Try.prog 47 #[.func (.yield l) #[] #[], .pointer (some ⟨B, 0, none⟩)] W fun e W' => (∃ v, e = .returned v) ∧
      ((∃ ys, ys = upto a 6 ∧ J ys W') ∨ (∃ pre, pre <+: upto a 6 ∧ Jx pre W')) := by
  refine callsIn_of_wp Try.func47 rfl h47 ?_ hro
  simp only [Try.ntmps47, List.size_toArray, List.length_cons, List.length_nil, Nat.reduceAdd, Nat.reduceSub, Array.replicate_succ, Array.replicate_zero, List.push_toArray, List.append_toArray, List.nil_append, List.cons_append]
  gi_wp2
  gi_loopw [3] (fun p wr => ∃ j : Nat, j ≤ 6 ∧ p = .int .u8 (2 ^ j) ∧ wr.cell? ⟨B, 0, none⟩ = some (.int .u8 a) ∧ J (upto a j) wr)
    (fun p wr => 64 - (intOf p).toNat)
  case atStart =>
    exact ⟨0, by omega, rfl, hB, by rw [upto_zero]; exact h0⟩
  case round =>
    obtain ⟨j, hj, rfl, hc, hJs⟩ := hrel
    by_cases hlt : j < 6
    · have hy := hY (upto a j) ⟨j, hlt⟩ wr hJs
      have hln : (upto a j).length < 6 ∨ True := .inr trivial
      have hp1 : (1 : Int) ≤ 2 ^ j := by
        rcases (show j = 0 ∨ j = 1 ∨ j = 2 ∨ j = 3 ∨ j = 4 ∨ j = 5 by omega) with rfl | rfl | rfl | rfl | rfl | rfl <;> decide
      have hp2 : (2 : Int) ^ j ≤ 32 := by
        rcases (show j = 0 ∨ j = 1 ∨ j = 2 ∨ j = 3 ∨ j = 4 ∨ j = 5 by omega) with rfl | rfl | rfl | rfl | rfl | rfl <;> decide
      simp only [enc6] at hy
      have hs : (2 : Int) ^ (j + 1) = 2 * 2 ^ j := by rw [Int.pow_succ]; omega
      have Hs := Lib.hid hs
      have Hy := Lib.hid hy
      clear hs hy
      generalize hpp : (2 : Int) ^ j = p at *
      have HP := Lib.hid hpp
      clear hpp
      clear hY
      by_cases hb : (bits .and .u8 a p == 0) = true
      · have hb2 : (bits .and .u8 a p != 0) = false := by simp [bne, hb]
        gi_wp2
        refine ⟨fun _ h => (by cases h), ?_⟩
        gi_wp2
        refine ⟨⟨j + 1, by omega, by rw [Hs.out, Int.mul_comm], hc, by rw [upto_miss a j hlt HP.out hb]; exact hJs⟩, by simp [intOf]; omega⟩
      · have hb1 : (bits .and .u8 a p == 0) = false := by simpa using hb
        have hb2 : (bits .and .u8 a p != 0) = true := by simp [bne, hb1]
        obtain ⟨fn, tmps, assign, body, hy1, hR⟩ := Hy.out (by have := upto_len a j hj; omega)
        gi_wp2
        refine hR.mono ?_
        rintro e W3 (⟨rfl, hJ3, hk3⟩ | ⟨rfl, hJx3⟩)
        · have hc3 := hk3 _ hc
          gi_wp2
          refine ⟨⟨j + 1, by omega, by rw [Hs.out, Int.mul_comm], hc3, by rw [upto_hit a j hlt HP.out hb1]; exact hJ3⟩, by simp [intOf]; omega⟩
        · gi_wp2
          refine bodyPost_ret (results_none rfl _ _ _) rfl ?_
          exact ⟨⟨_, rfl⟩, .inr ⟨_, by rw [← upto_hit a j hlt HP.out hb1]; exact upto_prefix a (5 - j) (j + 1) (by omega), hJx3⟩⟩
    · obtain rfl : j = 6 := by omega
      simp only [show ((2 : Int) ^ 6) = 64 from rfl]
      clear hY
      gi_wp2
      go_end0
      exact ⟨⟨_, rfl⟩, .inl ⟨_, rfl, hJs⟩⟩

/-- What able.Each hands back, as a sequence that may be stopped. -/
theorem each_stops (F : Fence) (n : Nat) (h47 : F.fn 47) (hro : F.round = none) (hn : 1 ≤ n) (B : Nat) (a : Int) (w : World) (hBw : B < w.heap.size)
    (hc : w.cell? ⟨B, 0, none⟩ = some (.int .u8 a)) :
    SeqStopsK F n Try.prog 47 #[.pointer (some ⟨B, 0, none⟩)] enc6 (KpB B) (fun ys => ys = upto a 6) (fun pre => pre <+: upto a 6) 6 w := fun l J Jx W hW _ _ hY h0 =>
  each1_in F n h47 hro hn l B a J Jx hY W ((hW.cell (p := ⟨B, 0, none⟩) hBw).trans hc) h0

/-- able.Each boxes its parameter and hands back a closure over the box. -/
theorem each_any (a : Int) (w : World) :
    Calls Try.prog 37 #[.int .u8 a] w fun e w' => e = .returned (.func (.func 47) #[] #[.pointer (some ⟨w.heap.size, 0, none⟩)]) ∧ w.alloc (.cells #[.int .u8 a] 22) = w' := by
  go_enter Try.func37, Try.ntmps37
  go_wp2
  go_ret
  exact ⟨rfl, rfl⟩
end Go.Proofs.Ytbdbhacniejagaa
