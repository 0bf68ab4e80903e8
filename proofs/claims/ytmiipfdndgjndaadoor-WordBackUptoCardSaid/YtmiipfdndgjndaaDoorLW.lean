/- The contracts of posternref02.May and of the law's may. -/
import Derived.Test.YtmiipfdndgjndaaDoorLK2
namespace Go.Proofs.YtmiipfdndgjndaaDoor
open Go.RowKit Go.Lib
set_option maxHeartbeats 1000000
theorem parts_may (v : V) : decide (0 < partsI v) = mayV v := by
  unfold partsI mayV
  cases h : takeV v 512 16 with
  | none => rw [lookI_none h]; rfl
  | some q =>
    have := take_lt h
    rw [lookI_some h]
    rw [if_neg (by omega)]
    simp
    omega
theorem refMay_any (v : V) (cs : List Value) (S : Nat → Prop) (w : World) (hv : VIn w S v cs) (hS : ∀ b, S b → b < w.heap.size) (hk : v.kindOk) :
    Calls Tryd.prog 55 #[.agg cs.toArray] w fun e w' => e = .returned (.bool (mayV v)) ∧ Below w.heap.size w w' := by
  obtain ⟨k, n, s, A, cap, r, -, rfl⟩ := hv.forms
  generalize v.lst.length = m at hv
  have hb0 : Below w.heap.size w (w.alloc (.cells #[.int .u8 k, .int .i64 n, .string s, .slice A m cap, .int .i64 r] 26)) := (Below.refl _ w).alloc (Nat.le_refl _) _
  have HC := Lib.hid (parts_any v _ S _ (hv.below hb0 hS) (fun b h => by have := hS b h; simp; omega) hk)
  have Hb0 := Lib.hid hb0
  clear hb0 hv
  rw [← parts_may]
  obtain ⟨it, hit⟩ : ∃ it, it = partsI v := ⟨_, rfl⟩
  rw [← hit]
  have Hit := Lib.hid hit
  clear hit
  go_enter Tryd.func55, Tryd.ntmps55
  go_wp2_with fail
  refine HC.out.mono ?_
  rintro e w2 ⟨rfl, hb2⟩
  rw [← Hit.out]
  go_wp2
  go_ret
  exact ⟨rfl, Hb0.out.trans (hb2.mono (by simp))⟩
def lawMay (v : V) : Bool := decide (0 ≤ greatV v 20000) && mayV v
theorem lawMay_any (v : V) (cs : List Value) (S : Nat → Prop) (w : World) (hv : VIn w S v cs) (hS : ∀ b, S b → b < w.heap.size) (hk : v.kindOk) :
    Calls Tryd.prog 25 #[.agg cs.toArray] w fun e w' => e = .returned (.bool (lawMay v)) ∧ Below w.heap.size w w' := by
  obtain ⟨k, n, s, A, cap, r, -, rfl⟩ := hv.forms
  generalize v.lst.length = m at hv
  have hb0 : Below w.heap.size w (w.alloc (.cells #[.int .u8 k, .int .i64 n, .string s, .slice A m cap, .int .i64 r] 26)) := (Below.refl _ w).alloc (Nat.le_refl _) _
  have Hb0 := Lib.hid hb0
  have hblk : (w.alloc (.cells #[.int .u8 k, .int .i64 n, .string s, .slice A m cap, .int .i64 r] 26)).heap[w.heap.size]? = some (.cells #[.int .u8 k, .int .i64 n, .string s, .slice A m cap, .int .i64 r] 26 (0, 0)) := heap_alloc_new w _
  have HC := Lib.hid (great_any v 20000 _ S _ (hv.below hb0 hS) (fun b h => by have := hS b h; simp; omega) (by omega))
  have HM := Lib.hid (fun w2 (hb : Below w.heap.size w w2) => refMay_any v _ S w2 (hv.below hb hS) (fun b h => by have := hS b h; have := hb.size; omega) hk)
  have Hblk := Lib.hid hblk
  clear hb0 hv hblk
  unfold lawMay
  obtain ⟨it, hit⟩ : ∃ it, it = greatV v 20000 := ⟨_, rfl⟩
  rw [← hit]
  have Hit := Lib.hid hit
  clear hit
  by_cases h0 : 0 ≤ it
  · have t0 : decide (0 ≤ it) = true := by simpa using h0
    go_enter Tryd.func25, Tryd.ntmps25
    go_wp2_with fail
    refine HC.out.mono ?_
    rintro e w2 ⟨rfl, hb2⟩
    rw [← Hit.out]
    have hb := hb2.block w.heap.size (by simp)
    have hblk2 := hb.trans Hblk.out
    have c0 : w2.cell? ⟨w.heap.size, 0, none⟩ = some (.int .u8 k) := blk_cell hblk2 0
    have c1 : w2.cell? ⟨w.heap.size, 1, none⟩ = some (.int .i64 n) := blk_cell hblk2 1
    have c2 : w2.cell? ⟨w.heap.size, 2, none⟩ = some (.string s) := blk_cell hblk2 2
    have c3 : w2.cell? ⟨w.heap.size, 3, none⟩ = some (.slice A m cap) := blk_cell hblk2 3
    have c4 : w2.cell? ⟨w.heap.size, 4, none⟩ = some (.int .i64 r) := blk_cell hblk2 4
    have HB := Lib.hid (Hb0.out.trans (hb2.mono (by simp)))
    have HM2 := Lib.hid (HM.out w2 HB.out)
    have hs2 := HB.out.size
    clear hb hb2 hblk2
    go_wp2_with fail
    refine HM2.out.mono ?_
    rintro e w3 ⟨rfl, hb3⟩
    have HB3 := Lib.hid (HB.out.trans (hb3.mono hs2))
    clear hb3
    go_wp2
    go_ret
    exact ⟨by simp [t0], HB3.out⟩
  · have t0 : decide (0 ≤ it) = false := by simpa using h0
    go_enter Tryd.func25, Tryd.ntmps25
    go_wp2_with fail
    refine HC.out.mono ?_
    rintro e w2 ⟨rfl, hb2⟩
    rw [← Hit.out]
    have HB := Lib.hid (Hb0.out.trans (hb2.mono (by simp)))
    clear hb2
    go_wp2
    go_ret
    exact ⟨by simp [t0], HB.out⟩
end Go.Proofs.YtmiipfdndgjndaaDoor
