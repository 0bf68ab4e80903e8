/- The contracts of value.May and of word.Text. -/
import Derived.Test.YtmiipfdndgjndaaDoorJ
namespace Go.Proofs.YtmiipfdndgjndaaDoor
open Go.RowKit Go.Lib
set_option maxHeartbeats 1000000
theorem take_lt {v : V} {p d p' : Nat} (h : takeV v p d = some p') : p' < p := by
  obtain ⟨k, n, s, l, r⟩ := v
  obtain ⟨h0, hf⟩ := take_forms h
  rcases hf with ⟨_, e'⟩ | ⟨_, e'⟩ | ⟨_, _, e'⟩ | ⟨_, _, e'⟩ | ⟨_, _, _, e'⟩
  · omega
  · omega
  · omega
  · omega
  · have := takeL_le l _ _ _ e'
    omega
theorem VIn.below {w w' : World} {S : Nat → Prop} {v : V} {cs : List Value} (h : VIn w S v cs) (hb : Below w.heap.size w w') (hS : ∀ b, S b → b < w.heap.size) : VIn w' S v cs :=
  VIn.mono (fun b h => ⟨h, hb.block b (hS b h)⟩) v h
theorem but_below {B : Nat} {a b c : World} (h : Below a.heap.size a b) (hk : But B b c) (hB : a.heap.size ≤ B) : Below a.heap.size a c :=
  h.trans ⟨hk.os, hk.tape, hk.output, hk.size, fun i hi => hk.block i (by have := h.size; omega) (by omega)⟩
def measureV (v : V) : Nat := match takeV v 512 16 with | none => 0 | some p' => 512 - p'
set_option maxRecDepth 100000 in
theorem measure_any (v : V) (cs : List Value) (S : Nat → Prop) (w : World) (hv : VIn w S v cs) (hS : ∀ b, S b → b < w.heap.size) :
    Calls Tryd.prog 81 #[.agg cs.toArray] w fun e w' => e = .returned (.int .i64 (measureV v : Nat)) ∧ Below w.heap.size w w' := by
  obtain ⟨k, n, s, A, cap, r, -, rfl⟩ := hv.forms
  generalize v.lst.length = m at hv
  have hb0 : Below w.heap.size w ((w.alloc (.cells #[.int .u8 k, .int .i64 n, .string s, .slice A m cap, .int .i64 r] 26)).alloc (.cells #[.int .i64 512, .int .i64 16] 120)) := ((Below.refl _ w).alloc (Nat.le_refl _) _).alloc (by simp) _
  have hl : Left ((w.alloc (.cells #[.int .u8 k, .int .i64 n, .string s, .slice A m cap, .int .i64 r] 26)).alloc (.cells #[.int .i64 512, .int .i64 16] 120)) (w.heap.size + 1) ((512 : Nat) : Int) ((16 : Nat) : Int) := by
    have := heap_alloc_new (w.alloc (.cells #[.int .u8 k, .int .i64 n, .string s, .slice A m cap, .int .i64 r] 26)) (.cells #[.int .i64 512, .int .i64 16] 120)
    rw [World.size_alloc] at this
    exact this
  have hcall := take_any v (w.heap.size + 1) 512 16 _ S _ hl (hv.below hb0 hS) (fun b h => ⟨by have := hS b h; simp; omega, by have := hS b h; omega⟩) (by omega) (by omega)
  have HC := Lib.hid hcall
  have Hb0 := Lib.hid hb0
  clear hcall hl hb0
  cases hT : takeV v 512 16 with
  | none =>
    have hm : measureV v = 0 := by unfold measureV; rw [hT]
    rw [hm]
    have HT := Lib.hid hT
    clear hT hm
    go_enter Tryd.func81, Tryd.ntmps81
    go_wp2_with fail
    refine HC.out.mono ?_
    rintro e w2 ⟨he, _, hb2⟩
    rw [HT.out] at he
    subst he
    go_wp2
    go_ret
    exact ⟨rfl, but_below Hb0.out hb2 (by omega)⟩
  | some p' =>
    have hm : measureV v = 512 - p' := by unfold measureV; rw [hT]
    rw [hm]
    have hlt := take_lt hT
    have HT := Lib.hid hT
    clear hT hm
    go_enter Tryd.func81, Tryd.ntmps81
    go_wp2_with fail
    refine HC.out.mono ?_
    rintro e w2 ⟨he, hl2, hb2⟩
    rw [HT.out] at he
    subst he
    have c0 := (hl2 p' HT.out).c0
    clear hl2
    go_wp2
    go_ret
    exact ⟨congrArg (fun x : Int => Ending.returned (Value.int .i64 x)) (by omega), but_below Hb0.out hb2 (by omega)⟩
theorem mayV_iff (v : V) : mayV v = decide (0 < measureV v) := by
  unfold mayV measureV
  cases h : takeV v 512 16 with
  | none => rfl
  | some p' =>
    have := take_lt h
    simp
    omega
theorem may_any (v : V) (cs : List Value) (S : Nat → Prop) (w : World) (hv : VIn w S v cs) (hS : ∀ b, S b → b < w.heap.size) :
    Calls Tryd.prog 53 #[.agg cs.toArray] w fun e w' => e = .returned (.bool (mayV v)) ∧ Below w.heap.size w w' := by
  obtain ⟨k, n, s, A, cap, r, -, rfl⟩ := hv.forms
  generalize v.lst.length = m at hv
  have hb0 : Below w.heap.size w (w.alloc (.cells #[.int .u8 k, .int .i64 n, .string s, .slice A m cap, .int .i64 r] 26)) := (Below.refl _ w).alloc (Nat.le_refl _) _
  have hcall := measure_any v _ S _ (hv.below hb0 hS) (fun b h => by have := hS b h; simp; omega)
  have hm := mayV_iff v
  generalize measureV v = mm at hcall hm
  have HC := Lib.hid hcall
  have Hb0 := Lib.hid hb0
  have Hm := Lib.hid hm
  clear hcall hb0 hm
  go_enter Tryd.func53, Tryd.ntmps53
  go_wp2_with fail
  refine HC.out.mono ?_
  rintro e w2 ⟨rfl, hb2⟩
  go_wp2
  go_ret
  refine ⟨?_, Hb0.out.trans (hb2.mono (by simp))⟩
  rw [Hm.out]
  simp
theorem size_arr (l : List UInt8) : (⟨l.toArray⟩ : ByteArray).size = l.length := by simp [ByteArray.size]
set_option maxRecDepth 100000 in
theorem Text_any (v : V) (cs : List Value) (S : Nat → Prop) (w : World) (hv : VIn w S v cs) (hS : ∀ b, S b → b < w.heap.size) (hfit : v.fits) (hlim : mayV v = true → (textL v).length + 32 ≤ 140737488355328) (htab : Tab w.heap.size w) :
    Calls Tryd.prog 24 #[.agg cs.toArray] w fun e w' => e = .returned (if mayV v then .tuple #[.string ⟨(textL v).toArray⟩, .int .i64 0] else .tuple #[.string ⟨#[]⟩, .int .i64 2]) ∧ Below w.heap.size w w' := by
  obtain ⟨k, n, s, A, cap, r, -, rfl⟩ := hv.forms
  generalize v.lst.length = m at hv
  have hb0 : Below w.heap.size w (w.alloc (.cells #[.int .u8 k, .int .i64 n, .string s, .slice A m cap, .int .i64 r] 26)) := (Below.refl _ w).alloc (Nat.le_refl _) _
  have hcall := may_any v _ S _ (hv.below hb0 hS) (fun b h => by have := hS b h; simp; omega)
  have HC := Lib.hid hcall
  have Hb0 := Lib.hid hb0
  have hblk := heap_alloc_new w (.cells #[.int .u8 k, .int .i64 n, .string s, .slice A m cap, .int .i64 r] 26)
  have Hblk := Lib.hid hblk
  clear hcall hb0 hblk
  cases hm : mayV v with
  | false =>
    rw [hm] at HC
    go_enter Tryd.func24, Tryd.ntmps24
    go_wp2_with fail
    refine HC.out.mono ?_
    rintro e w2 ⟨rfl, hb2⟩
    go_wp2
    go_ret2
    exact ⟨rfl, Hb0.out.trans (hb2.mono (by simp))⟩
  | true =>
    rw [hm] at HC
    have hl := hlim hm
    have Hv := Lib.hid hv
    clear hm hlim hv
    go_enter Tryd.func24, Tryd.ntmps24
    go_wp2_with fail
    refine HC.out.mono ?_
    rintro e w2 ⟨rfl, hb2⟩
    have hw2 : Below w.heap.size w w2 := Hb0.out.trans (hb2.mono (by simp))
    have hblk2 := (hb2.block w.heap.size (by simp)).trans Hblk.out
    have e0 := blk_cell hblk2 0
    have e1 := blk_cell hblk2 1
    have e2 := blk_cell hblk2 2
    have e3 := blk_cell hblk2 3
    have e4 := blk_cell hblk2 4
    have htx := text_any v w2.heap.size 0 (.slice none 0 0) [] _ S w2 (World.ownsRow_nil _ _ _ _) (Nat.le_refl _) (Hv.out.below hw2 hS) (fun b h => by have := hS b h; have := hw2.size; omega) hfit (by omega) (tabBelow_of_tabIs (htab.on hw2).here)
    have HT := Lib.hid htx
    have Hw2 := Lib.hid hw2
    clear htx hw2 hb2 hblk2
    go_wp2_with fail
    refine HT.out.mono ?_
    rintro e w3 ⟨v3, rfl, ho, hg⟩
    have hcv := conv_own (textL v) (by omega) ho
    have Hg := Lib.hid hg
    clear e0 e1 e2 e3 e4 ho hg
    go_wp2
    go_ret2
    exact ⟨rfl, Hw2.out.trans (Hg.out.below.mono Hw2.out.size)⟩
end Go.Proofs.YtmiipfdndgjndaaDoor
