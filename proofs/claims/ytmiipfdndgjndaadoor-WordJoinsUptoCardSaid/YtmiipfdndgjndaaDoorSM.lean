/- The contract of the law's same. -/
import Derived.Test.YtmiipfdndgjndaaDoorAL
import Derived.Test.YtmiipfdndgjndaaDoorO
namespace Go.Proofs.YtmiipfdndgjndaaDoor
open Go.RowKit Go.Lib
set_option maxHeartbeats 1000000
theorem set_keeps {W : World} {g : Nat} {cs : Array Value} {t : TypeId} {fz : Nat × Nat} (h : W.heap[g]? = some (.cells cs t fz)) (k : Nat) (v : Value) : ∃ cs' : Array Value, (W.setCell ⟨g, k, none⟩ v).heap[g]? = some (.cells cs' t fz) ∧ cs'.size = cs.size := by
  refine ⟨cs.setIfInBounds k v, ?_, by simp⟩
  simp [World.setCell, Array.getElem?_modify, h]
theorem set_keeps5 {W : World} {g : Nat} {cs : Array Value} {t : TypeId} {fz : Nat × Nat} (h : W.heap[g]? = some (.cells cs t fz)) (k0 k1 k2 k3 k4 : Nat) (v0 v1 v2 v3 v4 : Value) :
    ∃ cs' : Array Value, (((((W.setCell ⟨g, k0, none⟩ v0).setCell ⟨g, k1, none⟩ v1).setCell ⟨g, k2, none⟩ v2).setCell ⟨g, k3, none⟩ v3).setCell ⟨g, k4, none⟩ v4).heap[g]? = some (.cells cs' t fz) ∧ cs'.size = cs.size := by
  obtain ⟨a, ha, sa⟩ := set_keeps h k0 v0
  obtain ⟨b, hb, sb⟩ := set_keeps ha k1 v1
  obtain ⟨c, hc, sc⟩ := set_keeps hb k2 v2
  obtain ⟨d, hd, sd⟩ := set_keeps hc k3 v3
  obtain ⟨e, he, se⟩ := set_keeps hd k4 v4
  exact ⟨e, he, by omega⟩
theorem five_far5 (W : World) {b g : Nat} (hb : b ≠ g) (k0 k1 k2 k3 k4 : Nat) (y0 y1 y2 y3 y4 : Value) :
    (((((W.setCell ⟨g, k0, none⟩ y0).setCell ⟨g, k1, none⟩ y1).setCell ⟨g, k2, none⟩ y2).setCell ⟨g, k3, none⟩ y3).setCell ⟨g, k4, none⟩ y4).heap[b]? = W.heap[b]? :=
  (Below.heap_setCell _ _ _ b hb).trans ((Below.heap_setCell _ _ _ b hb).trans ((Below.heap_setCell _ _ _ b hb).trans ((Below.heap_setCell _ _ _ b hb).trans (Below.heap_setCell _ _ _ b hb))))
/-- Nothing turned but block g and what lies behind. -/
theorem But.set5k {w W : World} {g : Nat} (h : But g w W) (k0 k1 k2 k3 k4 : Nat) (y0 y1 y2 y3 y4 : Value) :
    But g w (((((W.setCell ⟨g, k0, none⟩ y0).setCell ⟨g, k1, none⟩ y1).setCell ⟨g, k2, none⟩ y2).setCell ⟨g, k3, none⟩ y3).setCell ⟨g, k4, none⟩ y4) :=
  ((((h.setCell _ _).setCell _ _).setCell _ _).setCell _ _).setCell _ _
theorem VIn.but {W W' : World} {S : Nat → Prop} {v : V} {cs : List Value} {g : Nat} (h : VIn W S v cs) (hb : But g W W') (hS : ∀ b, S b → b < W.heap.size ∧ b ≠ g) : VIn W' S v cs :=
  VIn.mono (fun b hb' => ⟨hb', hb.block b (hS b hb').1 (hS b hb').2⟩) v h
theorem alike_same {x : V} {cs cs2 : List Value} {S S2 : Nat → Prop} {w : World} (h1 : VIn w S x cs) (h2 : VIn w S2 x cs2) (hS : ∀ b, S b → b < w.heap.size) (hS2 : ∀ b, S2 b → b < w.heap.size) :
    Calls Tryd.prog 26 #[.agg cs.toArray, .agg cs2.toArray] w fun e w' => e = .returned (.bool true) ∧ Below w.heap.size w w' := by
  refine (alike_any x x cs cs2 S S2 w h1 h2 hS hS2).mono ?_
  rintro e w' ⟨⟨b, rfl, hb⟩, hw⟩
  exact ⟨by rw [hb.2 rfl], hw⟩
theorem below_of_but {base g : Nat} {w w' : World} (h : But g w w') (hg : base ≤ g) (hb : base ≤ w.heap.size) : Below base w w' := ⟨h.os, h.tape, h.output, h.size, fun i hi => h.block i (by omega) (by omega)⟩
set_option maxRecDepth 100000 in
theorem same_any (kk nn : Int) (ss : ByteArray) (l : List V) (rr : Int) (A1 A2 A3 : Option Addr) (c1 c2 c3 base mid : Nat) (w : World)
    (hv1 : VIn w (fun b => NewB base w b ∧ b < mid) (.mk kk nn ss l rr) [.int .u8 kk, .int .i64 nn, .string ss, .slice A1 l.length c1, .int .i64 rr]) (hv2 : VIn w (fun b => mid ≤ b ∧ b < w.heap.size) (.mk kk nn ss l rr) [.int .u8 kk, .int .i64 nn, .string ss, .slice A2 l.length c2, .int .i64 rr]) (hv3 : VIn w (fun b => mid ≤ b ∧ b < w.heap.size) (.mk kk nn ss l rr) [.int .u8 kk, .int .i64 nn, .string ss, .slice A3 l.length c3, .int .i64 rr])
    (hbm : base ≤ mid) (hmw : mid ≤ w.heap.size) :
    Calls Tryd.prog 14 #[.agg #[.int .u8 kk, .int .i64 nn, .string ss, .slice A1 l.length c1, .int .i64 rr], .agg #[.int .u8 kk, .int .i64 nn, .string ss, .slice A2 l.length c2, .int .i64 rr], .agg #[.int .u8 kk, .int .i64 nn, .string ss, .slice A3 l.length c3, .int .i64 rr]] w fun e w' => e = .returned (.bool true) ∧ Below base w w' := by
  have hll : l.length ≤ 140737488351232 := by
    obtain ⟨A, cap, h1, h2, h3, h4, h5⟩ := hv1
    exact h3
  have hlin : LIn w (fun b => NewB base w b ∧ b < mid) A1 l 0 := by
    obtain ⟨A, cap, h1, h2, h3, h4, h5⟩ := hv1
    injection h1 with _ h1
    injection h1 with _ h1
    injection h1 with _ h1
    injection h1 with h1 _
    injection h1 with h1 _ _
    subst h1
    exact h5
  have hS1 : ∀ b, (NewB base w b ∧ b < mid) → b < w.heap.size := fun b h => h.1.2.1
  have hw0 : Below w.heap.size w (((w.alloc (.cells #[.int .u8 kk, .int .i64 nn, .string ss, .slice A1 l.length c1, .int .i64 rr] 26)).alloc (.cells #[.int .u8 kk, .int .i64 nn, .string ss, .slice A2 l.length c2, .int .i64 rr] 26)).alloc (.cells #[.int .u8 kk, .int .i64 nn, .string ss, .slice A3 l.length c3, .int .i64 rr] 26)) := (((Below.refl _ w).alloc (Nat.le_refl _) _).alloc (by simp) _).alloc (by simp; omega) _
  have hx0 : (((w.alloc (.cells #[.int .u8 kk, .int .i64 nn, .string ss, .slice A1 l.length c1, .int .i64 rr] 26)).alloc (.cells #[.int .u8 kk, .int .i64 nn, .string ss, .slice A2 l.length c2, .int .i64 rr] 26)).alloc (.cells #[.int .u8 kk, .int .i64 nn, .string ss, .slice A3 l.length c3, .int .i64 rr] 26)).heap[w.heap.size]? = some (.cells #[.int .u8 kk, .int .i64 nn, .string ss, .slice A1 l.length c1, .int .i64 rr] 26 (0, 0)) := (Below.heap_alloc _ _ _ (by simp; omega)).trans ((Below.heap_alloc _ _ _ (by simp)).trans (heap_alloc_new w _))
  have hx1 : (((w.alloc (.cells #[.int .u8 kk, .int .i64 nn, .string ss, .slice A1 l.length c1, .int .i64 rr] 26)).alloc (.cells #[.int .u8 kk, .int .i64 nn, .string ss, .slice A2 l.length c2, .int .i64 rr] 26)).alloc (.cells #[.int .u8 kk, .int .i64 nn, .string ss, .slice A3 l.length c3, .int .i64 rr] 26)).heap[w.heap.size + 1]? = some (.cells #[.int .u8 kk, .int .i64 nn, .string ss, .slice A2 l.length c2, .int .i64 rr] 26 (0, 0)) := (Below.heap_alloc _ _ _ (by simp)).trans (by have := heap_alloc_new (w.alloc (.cells #[.int .u8 kk, .int .i64 nn, .string ss, .slice A1 l.length c1, .int .i64 rr] 26)) (.cells #[.int .u8 kk, .int .i64 nn, .string ss, .slice A2 l.length c2, .int .i64 rr] 26); rw [World.size_alloc] at this; exact this)
  have hx2 : (((w.alloc (.cells #[.int .u8 kk, .int .i64 nn, .string ss, .slice A1 l.length c1, .int .i64 rr] 26)).alloc (.cells #[.int .u8 kk, .int .i64 nn, .string ss, .slice A2 l.length c2, .int .i64 rr] 26)).alloc (.cells #[.int .u8 kk, .int .i64 nn, .string ss, .slice A3 l.length c3, .int .i64 rr] 26)).heap[w.heap.size + 1 + 1]? = some (.cells #[.int .u8 kk, .int .i64 nn, .string ss, .slice A3 l.length c3, .int .i64 rr] 26 (0, 0)) := by have := heap_alloc_new ((w.alloc (.cells #[.int .u8 kk, .int .i64 nn, .string ss, .slice A1 l.length c1, .int .i64 rr] 26)).alloc (.cells #[.int .u8 kk, .int .i64 nn, .string ss, .slice A2 l.length c2, .int .i64 rr] 26)) (.cells #[.int .u8 kk, .int .i64 nn, .string ss, .slice A3 l.length c3, .int .i64 rr] 26); rw [World.size_alloc, World.size_alloc] at this; exact this
  have hsz0 : (((w.alloc (.cells #[.int .u8 kk, .int .i64 nn, .string ss, .slice A1 l.length c1, .int .i64 rr] 26)).alloc (.cells #[.int .u8 kk, .int .i64 nn, .string ss, .slice A2 l.length c2, .int .i64 rr] 26)).alloc (.cells #[.int .u8 kk, .int .i64 nn, .string ss, .slice A3 l.length c3, .int .i64 rr] 26)).heap.size = w.heap.size + 3 := by simp
  have A1C := Lib.hid (alike_same (hv1.below hw0 hS1) (hv3.below hw0 (fun b h => h.2)) (fun b h => by have := hS1 b h; rw [hsz0]; omega) (fun b h => by have := h.2; rw [hsz0]; omega))
  have HW0 := Lib.hid hw0
  have HX0 := Lib.hid hx0
  have HX1 := Lib.hid hx1
  have HX2 := Lib.hid hx2
  have HS0 := Lib.hid hsz0
  have HV2 := Lib.hid hv2
  have HV3 := Lib.hid hv3
  have HLI := Lib.hid hlin
  clear hw0 hx0 hx1 hx2 hsz0 hv1 hv2 hv3 hlin
  go_enter Tryd.func14, Tryd.ntmps14
  go_wp2_with fail
  refine A1C.out.mono ?_
  rintro e w1 ⟨rfl, hb⟩
  have hs1 : w.heap.size + 3 ≤ w1.heap.size := Nat.le_trans (Nat.le_of_eq HS0.out.symm) hb.size
  have Y0 := Lib.hid ((hb.block w.heap.size (by rw [HS0.out]; omega)).trans HX0.out)
  have Y1 := Lib.hid ((hb.block (w.heap.size + 1) (by rw [HS0.out]; omega)).trans HX1.out)
  have Y2 := Lib.hid ((hb.block (w.heap.size + 1 + 1) (by rw [HS0.out]; omega)).trans HX2.out)
  have HB1 := Lib.hid (HW0.out.trans (hb.mono (by rw [HS0.out]; omega)))
  clear hb HX0 HX1 HX2 HW0 HS0 A1C
  have hgl : ∃ g o : Nat, base ≤ g ∧ (g < mid ∨ w1.heap.size ≤ g) ∧ (l ≠ [] → A1 = some ⟨g, o, none⟩ ∧ ∃ cs : Array Value, w1.heap[g]? = some (.cells cs 26 (0, 0)) ∧ o + l.length * 5 ≤ cs.size) := by
    by_cases hl : l = []
    · exact ⟨w1.heap.size, 0, by omega, .inr (Nat.le_refl _), fun h => absurd hl h⟩
    · have hlen : 0 < l.length := List.length_pos_iff.2 hl
      obtain ⟨b, o, cs, hA, hS, hc, hvl⟩ := HLI.out.get (l.length - 1) (l[l.length - 1]'(by omega)) (List.getElem?_eq_getElem (by omega))
      obtain ⟨⟨h1, h2, ca, h3⟩, h4⟩ := hS
      refine ⟨b, o, h1, .inl h4, fun _ => ⟨hA, ca, (HB1.out.block b h2).trans h3, ?_⟩⟩
      have h5 := hvl.len
      have h6 := hc 4 (cs[4]'(by omega)) (List.getElem?_eq_getElem (by omega))
      rw [World.cell?] at h6
      simp only [h3] at h6
      have h7 : o + (0 + (l.length - 1)) * 5 + 4 < ca.size := by
        by_cases hx : o + (0 + (l.length - 1)) * 5 + 4 < ca.size
        · exact hx
        · rw [Array.getElem?_eq_none (by omega)] at h6; cases h6
      omega
  obtain ⟨g, o, hg0, hg1, hg2⟩ := hgl
  have HG := Lib.hid hg2
  clear hg2
  have p0 : w1.cell? ⟨w.heap.size, 3, none⟩ = some (.slice A1 l.length c1) := blk_cell Y0.out 3
  go_wp2_with fail
  go_loopw [7] (fun i wr => ∃ k : Nat, i = .int .i64 k ∧ k ≤ l.length ∧ But g w1 wr ∧ (l ≠ [] → ∃ cs : Array Value, wr.heap[g]? = some (.cells cs 26 (0, 0)) ∧ o + l.length * 5 ≤ cs.size)) (fun i _ => l.length - (Go.RowKit.intOf i).toNat)
  case atStart => exact ⟨0, rfl, by omega, But.refl _ _, fun h => (HG.out h).2⟩
  case round =>
    obtain ⟨k, rfl, hk, hbt, hcs⟩ := hrel
    have Z0 := Lib.hid ((hbt.block w.heap.size (by omega) (by omega)).trans Y0.out)
    have Z1 := Lib.hid ((hbt.block (w.heap.size + 1) (by omega) (by omega)).trans Y1.out)
    have Z2 := Lib.hid ((hbt.block (w.heap.size + 1 + 1) (by omega) (by omega)).trans Y2.out)
    have hsr := hbt.size
    have HBT := Lib.hid hbt
    clear hbt p0
    by_cases hlt : k < l.length
    · have hne : l ≠ [] := fun e => by rw [e] at hlt; simp at hlt
      obtain ⟨cs, hcs, hbig⟩ := hcs hne
      have HGA := Lib.hid (HG.out hne).1
      have hkI : decide ((k : Int) < (l.length : Int)) = true := by simp; omega
      have q3 : wr.cell? ⟨w.heap.size, 3, none⟩ = some (.slice (some ⟨g, o, none⟩) l.length c1) := by rw [← HGA.out]; exact blk_cell Z0.out 3
      have hat : ∀ j, j < 5 → wr.cell? ⟨g, o + k * 5 + j, none⟩ = some (cs[o + k * 5 + j]?.getD undef) := by
        intro j hj
        rw [blk_cell hcs, Array.getElem?_eq_getElem (by omega)]
        rfl
      have d0 : wr.cell? ⟨g, o + k * 5, none⟩ = some (cs[o + k * 5 + 0]?.getD undef) := hat 0 (by omega)
      have d1 : wr.cell? ⟨g, o + k * 5 + 1, none⟩ = some (cs[o + k * 5 + 1]?.getD undef) := hat 1 (by omega)
      have d2 : wr.cell? ⟨g, o + k * 5 + 2, none⟩ = some (cs[o + k * 5 + 2]?.getD undef) := hat 2 (by omega)
      have d3 : wr.cell? ⟨g, o + k * 5 + 3, none⟩ = some (cs[o + k * 5 + 3]?.getD undef) := hat 3 (by omega)
      have d4 : wr.cell? ⟨g, o + k * 5 + 4, none⟩ = some (cs[o + k * 5 + 4]?.getD undef) := hat 4 (by omega)
      generalize cs[o + k * 5 + 0]?.getD undef = y0 at d0
      generalize cs[o + k * 5 + 1]?.getD undef = y1 at d1
      generalize cs[o + k * 5 + 2]?.getD undef = y2 at d2
      generalize cs[o + k * 5 + 3]?.getD undef = y3 at d3
      generalize cs[o + k * 5 + 4]?.getD undef = y4 at d4
      have f0 : wr.frozen? ⟨g, o + k * 5, none⟩ = false := blk_free hcs _
      have f1 : wr.frozen? ⟨g, o + k * 5 + 1, none⟩ = false := blk_free hcs _
      have f2 : wr.frozen? ⟨g, o + k * 5 + 2, none⟩ = false := blk_free hcs _
      have f3 : wr.frozen? ⟨g, o + k * 5 + 3, none⟩ = false := blk_free hcs _
      have f4 : wr.frozen? ⟨g, o + k * 5 + 4, none⟩ = false := blk_free hcs _
      have HCS := Lib.hid hcs
      clear hat hcs hne
      go_wp2_with fail
      refine ⟨⟨k + 1, by simp, by omega, HBT.out.set5k _ _ _ _ _ _ _ _ _ _, fun _ => ?_⟩, by simp [Go.RowKit.intOf]; omega⟩
      obtain ⟨cs', h1, h2⟩ := set_keeps5 HCS.out (o + k * 5) (o + k * 5 + 1) (o + k * 5 + 2) (o + k * 5 + 3) (o + k * 5 + 4) (.int .u8 99) (.int .i64 0) (.string ⟨#[]⟩) (.slice none 0 0) (.int .i64 0)
      exact ⟨cs', h1, by omega⟩
    · have hkI : decide ((k : Int) < (l.length : Int)) = false := by simp; omega
      obtain rfl : k = l.length := by omega
      have q3 : wr.cell? ⟨w.heap.size, 3, none⟩ = some (.slice A1 l.length c1) := blk_cell Z0.out 3
      have a0 : wr.cell? ⟨w.heap.size + 1, 0, none⟩ = some (.int .u8 kk) := blk_cell Z1.out 0
      have a1 : wr.cell? ⟨w.heap.size + 1, 1, none⟩ = some (.int .i64 nn) := blk_cell Z1.out 1
      have a2 : wr.cell? ⟨w.heap.size + 1, 2, none⟩ = some (.string ss) := blk_cell Z1.out 2
      have a3 : wr.cell? ⟨w.heap.size + 1, 3, none⟩ = some (.slice A2 l.length c2) := blk_cell Z1.out 3
      have a4 : wr.cell? ⟨w.heap.size + 1, 4, none⟩ = some (.int .i64 rr) := blk_cell Z1.out 4
      have b0 : wr.cell? ⟨w.heap.size + 1 + 1, 0, none⟩ = some (.int .u8 kk) := blk_cell Z2.out 0
      have b1 : wr.cell? ⟨w.heap.size + 1 + 1, 1, none⟩ = some (.int .i64 nn) := blk_cell Z2.out 1
      have b2 : wr.cell? ⟨w.heap.size + 1 + 1, 2, none⟩ = some (.string ss) := blk_cell Z2.out 2
      have b3 : wr.cell? ⟨w.heap.size + 1 + 1, 3, none⟩ = some (.slice A3 l.length c3) := blk_cell Z2.out 3
      have b4 : wr.cell? ⟨w.heap.size + 1 + 1, 4, none⟩ = some (.int .i64 rr) := blk_cell Z2.out 4
      have hfar : ∀ b, (mid ≤ b ∧ b < w.heap.size) → b < w1.heap.size ∧ b ≠ g := fun b h => ⟨by have := h.2; omega, by have := h.1; have := h.2; omega⟩
      have ALC := Lib.hid (alike_same ((HV2.out.below HB1.out (fun b h => h.2)).but HBT.out hfar) ((HV3.out.below HB1.out (fun b h => h.2)).but HBT.out hfar) (fun b h => by have := h.2; omega) (fun b h => by have := h.2; omega))
      clear hcs hfar
      go_wp2_with fail
      refine ALC.out.mono ?_
      rintro e w2 ⟨rfl, hb2⟩
      go_wp2
      go_ret
      exact ⟨rfl, ((HB1.out.mono (by omega)).trans (below_of_but HBT.out hg0 (by omega))).trans (hb2.mono (by omega))⟩
end Go.Proofs.YtmiipfdndgjndaaDoor
