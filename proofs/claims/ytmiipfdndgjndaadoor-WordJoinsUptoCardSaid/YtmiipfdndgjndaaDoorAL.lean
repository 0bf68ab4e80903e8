/- The contract of the law's alike. -/
import Derived.Test.YtmiipfdndgjndaaDoorGR
import Derived.Deep.RegionHeldLaw
namespace Go.Proofs.YtmiipfdndgjndaaDoor
open Go.RowKit Go.Lib
set_option maxHeartbeats 1000000
def alikeRes (v v2 : V) (w : World) (e : Ending) (w' : World) : Prop := (∃ b, e = .returned (.bool b) ∧ (b = true ↔ v = v2)) ∧ Below w.heap.size w w'
def AlikeOk (v : V) : Prop := ∀ (v2 : V) (cs cs2 : List Value) (S S2 : Nat → Prop) (w : World), VIn w S v cs → VIn w S2 v2 cs2 → (∀ b, S b → b < w.heap.size) → (∀ b, S2 b → b < w.heap.size) →
  Calls Tryd.prog 26 #[.agg cs.toArray, .agg cs2.toArray] w (alikeRes v v2 w)
theorem below_same {B : Nat} {a b b' : World} (h : Below B a b) (h1 : b'.os = b.os) (h2 : b'.tape = b.tape) (h3 : b'.output = b.output) (h4 : b'.heap = b.heap) : Below B a b' := ⟨h1.trans h.os, h2.trans h.tape, h3.trans h.output, by rw [h4]; exact h.size, fun i hi => by rw [h4]; exact h.block i hi⟩
theorem cell_lt' {W : World} {a : Addr} {v : Value} (h : W.cell? a = some v) : a.block < W.heap.size := by
  rcases Nat.lt_or_ge a.block W.heap.size with h2 | h2
  · exact h2
  · unfold World.cell? at h
    rw [Array.getElem?_eq_none h2] at h
    cases h
theorem eq_of_toList {a b : ByteArray} (h : a.toList = b.toList) : a = b := by
  rw [ByteArray.toList_eq, ByteArray.toList_eq] at h
  cases a with | mk x => cases b with | mk y => cases x with | mk l => cases y with | mk m => simp only at h; rw [h]
set_option maxRecDepth 100000 in
theorem alikeOk_of (kk nn : Int) (st : ByteArray) (l : List V) (rr : Int) (ih : ∀ v ∈ l, AlikeOk v) : AlikeOk (.mk kk nn st l rr) := by
  rintro ⟨k2, n2, s2, l2, r2⟩ cs cs2 S S2 w hv hv2 hS hS2
  obtain ⟨A, vc, rfl, hlc, hvc, hss, hin⟩ := hv
  obtain ⟨A2, vc2, rfl, hlc2, hvc2, hss2, hin2⟩ := hv2
  obtain ⟨nr, hnr⟩ : ∃ nr, nr = alikeRes (.mk kk nn st l rr) (.mk k2 n2 s2 l2 r2) w := ⟨_, rfl⟩
  rw [← hnr]
  have Hnr := Lib.hid hnr
  have Hin := Lib.hid hin
  have Hin2 := Lib.hid hin2
  have HS := Lib.hid hS
  have HS2 := Lib.hid hS2
  clear hnr hin hin2 hS hS2
  have hb0 := ((Below.refl w.heap.size w).alloc (Nat.le_refl _) (.cells #[.int .u8 kk, .int .i64 nn, .string st, .slice A l.length vc, .int .i64 rr] 26)).alloc (by simp) (.cells #[.int .u8 k2, .int .i64 n2, .string s2, .slice A2 l2.length vc2, .int .i64 r2] 26)
  have Hb0 := Lib.hid hb0
  clear hb0
  by_cases hk : ¬ kk = k2
  · have tk : (kk == k2) = false := by simpa using hk
    go_enter Tryd.func26, Tryd.ntmps26
    go_wp2
    rw [Hnr.out]
    exact ⟨⟨false, rfl, by simp only [Bool.false_eq_true, false_iff, V.mk.injEq]; rintro ⟨h1, h2, h3, h4, h5⟩; exact absurd h1 hk⟩, Hb0.out⟩
  replace hk := Decidable.not_not.mp hk
  subst hk
  by_cases hn : ¬ nn = n2
  · have tn : (nn == n2) = false := by simpa using hn
    go_enter Tryd.func26, Tryd.ntmps26
    go_wp2
    rw [Hnr.out]
    exact ⟨⟨false, rfl, by simp only [Bool.false_eq_true, false_iff, V.mk.injEq]; rintro ⟨h1, h2, h3, h4, h5⟩; exact absurd h2 hn⟩, Hb0.out⟩
  replace hn := Decidable.not_not.mp hn
  subst hn
  by_cases hs : ¬ st = s2
  · have ts : ¬ st.toList = s2.toList := fun e => hs (eq_of_toList e)
    go_enter Tryd.func26, Tryd.ntmps26
    go_wp2
    rw [Hnr.out]
    exact ⟨⟨false, rfl, by simp only [Bool.false_eq_true, false_iff, V.mk.injEq]; rintro ⟨h1, h2, h3, h4, h5⟩; exact absurd h3 hs⟩, Hb0.out⟩
  replace hs := Decidable.not_not.mp hs
  subst hs
  by_cases hr : ¬ rr = r2
  · have tr : (rr == r2) = false := by simpa using hr
    go_enter Tryd.func26, Tryd.ntmps26
    go_wp2
    rw [Hnr.out]
    exact ⟨⟨false, rfl, by simp only [Bool.false_eq_true, false_iff, V.mk.injEq]; rintro ⟨h1, h2, h3, h4, h5⟩; exact absurd h5 hr⟩, Hb0.out⟩
  replace hr := Decidable.not_not.mp hr
  subst hr
  by_cases hl : ¬ l.length = l2.length
  · have tl : ((l.length : Int) == (l2.length : Int)) = false := by simp; omega
    go_enter Tryd.func26, Tryd.ntmps26
    go_wp2
    rw [Hnr.out]
    exact ⟨⟨false, rfl, by simp only [Bool.false_eq_true, false_iff, V.mk.injEq]; rintro ⟨h1, h2, h3, h4, h5⟩; exact absurd (congrArg List.length h4) hl⟩, Hb0.out⟩
  replace hl := Decidable.not_not.mp hl
  have hblk : ∀ wr, Below (w.heap.size + 2) ((w.alloc (.cells #[.int .u8 kk, .int .i64 nn, .string st, .slice A l.length vc, .int .i64 rr] 26)).alloc (.cells #[.int .u8 kk, .int .i64 nn, .string st, .slice A2 l2.length vc2, .int .i64 rr] 26)) wr → wr.heap[w.heap.size]? = some (.cells #[.int .u8 kk, .int .i64 nn, .string st, .slice A l.length vc, .int .i64 rr] 26 (0, 0)) ∧ wr.heap[w.heap.size + 1]? = some (.cells #[.int .u8 kk, .int .i64 nn, .string st, .slice A2 l2.length vc2, .int .i64 rr] 26 (0, 0)) := by
    intro wr hb
    refine ⟨(hb.block _ (by omega)).trans ((Below.heap_alloc _ _ _ (by simp)).trans (heap_alloc_new w _)), (hb.block _ (by omega)).trans ?_⟩
    have := heap_alloc_new (w.alloc (.cells #[.int .u8 kk, .int .i64 nn, .string st, .slice A l.length vc, .int .i64 rr] 26)) (.cells #[.int .u8 kk, .int .i64 nn, .string st, .slice A2 l2.length vc2, .int .i64 rr] 26)
    rw [World.size_alloc] at this
    exact this
  have Hblk := Lib.hid hblk
  have tl : ((l.length : Int) == (l2.length : Int)) = true := by simp; omega
  have Hl := Lib.hid hl
  clear hblk hl
  go_enter Tryd.func26, Tryd.ntmps26
  go_wp2_with fail
  go_loopw [5] (fun q wr => ∃ (k : Nat), q = .int .i64 k ∧ k ≤ l.length ∧ l.take k = l2.take k ∧ Below (w.heap.size + 2) ((w.alloc (.cells #[.int .u8 kk, .int .i64 nn, .string st, .slice A l.length vc, .int .i64 rr] 26)).alloc (.cells #[.int .u8 kk, .int .i64 nn, .string st, .slice A2 l2.length vc2, .int .i64 rr] 26)) wr) (fun q _ => l.length - (Go.RowKit.intOf q).toNat)
  case atStart => exact ⟨0, rfl, by omega, by simp, Below.refl _ _⟩
  case round =>
    obtain ⟨k, rfl, hk, htk, hb⟩ := hrel
    obtain ⟨hb1, hb2⟩ := Hblk.out wr hb
    have c3 : wr.cell? ⟨w.heap.size, 3, none⟩ = some (.slice A l.length vc) := blk_cell hb1 3
    have c4 : wr.cell? ⟨w.heap.size + 1, 3, none⟩ = some (.slice A2 l2.length vc2) := blk_cell hb2 3
    have hs2 := hb.size
    simp only [World.size_alloc] at hs2
    have HP := Lib.hid (Hb0.out.trans (hb.mono (by omega)))
    have HB := Lib.hid hb
    have Htk := Lib.hid htk
    clear hb hb1 hb2 htk
    by_cases hlt : k < l.length
    · have hkI : decide ((k : Int) < (l.length : Int)) = true := by simp; omega
      have hkI2 : decide ((k : Int) < (l2.length : Int)) = true := by have := Hl.out; simp; omega
      have hlt2 : k < l2.length := by have := Hl.out; omega
      obtain ⟨v, hv⟩ : ∃ v, l[k]? = some v := ⟨l[k], List.getElem?_eq_getElem hlt⟩
      obtain ⟨v2, hv2⟩ : ∃ v2, l2[k]? = some v2 := ⟨l2[k], List.getElem?_eq_getElem hlt2⟩
      have hmem : v ∈ l := List.mem_of_getElem? hv
      obtain ⟨b3, o3, k', n', s', A', m', c', r', rfl, hvin, d0, d1, d2, d3, d4⟩ := child_facts Hin.out HS.out HP.out k v hv
      obtain ⟨b4, o4, k5, n5, s5, A5, m5, c5, r5, rfl, hvin2, e0, e1, e2, e3, e4⟩ := child_facts Hin2.out HS2.out HP.out k v2 hv2
      have HC := Lib.hid (ih v hmem v2 _ _ S S2 wr.drew (VIn.mono (W := wr) (W' := wr.drew) (S' := S) (fun b h => ⟨h, rfl⟩) v hvin) (VIn.mono (W := wr) (W' := wr.drew) (S' := S2) (fun b h => ⟨h, rfl⟩) v2 hvin2) (fun b hb => by have := HS.out b hb; show b < wr.heap.size; omega) (fun b hb => by have := HS2.out b hb; show b < wr.heap.size; omega))
      have Hv := Lib.hid hv
      have Hv2 := Lib.hid hv2
      clear hvin hvin2 hv hv2
      have lt3 := cell_lt' d0
      have lt4 := cell_lt' e0
      dsimp only at lt3 lt4
      have keep : ∀ w', Below wr.heap.size wr.drew w' → (w'.cell? ⟨w.heap.size, 3, none⟩ = some (.slice (some ⟨b3, o3, none⟩) l.length vc) ∧ w'.cell? ⟨w.heap.size + 1, 3, none⟩ = some (.slice (some ⟨b4, o4, none⟩) l2.length vc2) ∧ w'.cell? ⟨b3, o3 + k * 5, none⟩ = some (.int .u8 k') ∧ w'.cell? ⟨b3, o3 + k * 5 + 1, none⟩ = some (.int .i64 n') ∧ w'.cell? ⟨b3, o3 + k * 5 + 2, none⟩ = some (.string s') ∧ w'.cell? ⟨b3, o3 + k * 5 + 3, none⟩ = some (.slice A' m' c') ∧ w'.cell? ⟨b3, o3 + k * 5 + 4, none⟩ = some (.int .i64 r') ∧ w'.cell? ⟨b4, o4 + k * 5, none⟩ = some (.int .u8 k5) ∧ w'.cell? ⟨b4, o4 + k * 5 + 1, none⟩ = some (.int .i64 n5) ∧ w'.cell? ⟨b4, o4 + k * 5 + 2, none⟩ = some (.string s5) ∧ w'.cell? ⟨b4, o4 + k * 5 + 3, none⟩ = some (.slice A5 m5 c5) ∧ w'.cell? ⟨b4, o4 + k * 5 + 4, none⟩ = some (.int .i64 r5)) := fun w' hh => by
        have a : ∀ o, w'.cell? ⟨w.heap.size, o, none⟩ = wr.cell? ⟨w.heap.size, o, none⟩ := fun o => World.cell?_of_block (a := ⟨w.heap.size, o, none⟩) (hh.block w.heap.size (by show w.heap.size < wr.heap.size; omega))
        have b : ∀ o, w'.cell? ⟨w.heap.size + 1, o, none⟩ = wr.cell? ⟨w.heap.size + 1, o, none⟩ := fun o => World.cell?_of_block (a := ⟨w.heap.size + 1, o, none⟩) (hh.block (w.heap.size + 1) (by show w.heap.size + 1 < wr.heap.size; omega))
        have c : ∀ o, w'.cell? ⟨b3, o, none⟩ = wr.cell? ⟨b3, o, none⟩ := fun o => World.cell?_of_block (a := ⟨b3, o, none⟩) (hh.block b3 lt3)
        have d : ∀ o, w'.cell? ⟨b4, o, none⟩ = wr.cell? ⟨b4, o, none⟩ := fun o => World.cell?_of_block (a := ⟨b4, o, none⟩) (hh.block b4 lt4)
        exact ⟨(a _).trans c3, (b _).trans c4, (c _).trans d0, (c _).trans d1, (c _).trans d2, (c _).trans d3, (c _).trans d4, (d _).trans e0, (d _).trans e1, (d _).trans e2, (d _).trans e3, (d _).trans e4⟩
      have Keep := Lib.hid keep
      clear keep
      go_wp2_with fail
      go_region_held_law (fun w' => w'.cell? ⟨w.heap.size, 3, none⟩ = some (.slice (some ⟨b3, o3, none⟩) l.length vc) ∧ w'.cell? ⟨w.heap.size + 1, 3, none⟩ = some (.slice (some ⟨b4, o4, none⟩) l2.length vc2) ∧ w'.cell? ⟨b3, o3 + k * 5, none⟩ = some (.int .u8 k') ∧ w'.cell? ⟨b3, o3 + k * 5 + 1, none⟩ = some (.int .i64 n') ∧ w'.cell? ⟨b3, o3 + k * 5 + 2, none⟩ = some (.string s') ∧ w'.cell? ⟨b3, o3 + k * 5 + 3, none⟩ = some (.slice A' m' c') ∧ w'.cell? ⟨b3, o3 + k * 5 + 4, none⟩ = some (.int .i64 r') ∧ w'.cell? ⟨b4, o4 + k * 5, none⟩ = some (.int .u8 k5) ∧ w'.cell? ⟨b4, o4 + k * 5 + 1, none⟩ = some (.int .i64 n5) ∧ w'.cell? ⟨b4, o4 + k * 5 + 2, none⟩ = some (.string s5) ∧ w'.cell? ⟨b4, o4 + k * 5 + 3, none⟩ = some (.slice A5 m5 c5) ∧ w'.cell? ⟨b4, o4 + k * 5 + 4, none⟩ = some (.int .i64 r5)) (first | assumption | exact ⟨c3, c4, d0, d1, d2, d3, d4, e0, e1, e2, e3, e4⟩ | go_keep)
        ((go_simp; go_at_call 26; refine HC.out.mono ?_; rintro e w2 ⟨⟨bb, rfl, hbb⟩, hb2⟩; have hs3 := Keep.out w2 hb2; have HB2 := Lib.hid hb2; have HBB := Lib.hid hbb; clear hb2 hbb; dsimp only))
      have hbw : Below w.heap.size w w2 := HP.out.trans ((below_same (b' := wr.drew) (Below.refl wr.heap.size wr) rfl rfl rfl rfl).trans HB2.out |>.mono (by omega))
      have Hbw := Lib.hid hbw
      clear hs3 hbw
      cases bb with
      | false =>
        go_wp2
        rw [Hnr.out]
        refine ⟨⟨false, rfl, ?_⟩, Hbw.out⟩
        simp only [Bool.false_eq_true, false_iff, V.mk.injEq]
        rintro ⟨-, -, -, h4, -⟩
        have hne : ¬ v = v2 := fun e => by have := HBB.out.mpr e; cases this
        rw [h4] at Hv
        exact hne (Option.some.inj (Hv.out.symm.trans Hv2.out))
      | true =>
        go_wp2_with fail
        refine ⟨⟨k + 1, by simp, by omega, ?_, HB.out.trans ((below_same (b' := wr.drew) (Below.refl wr.heap.size wr) rfl rfl rfl rfl).trans HB2.out |>.mono (by omega))⟩, by simp [Go.RowKit.intOf]; omega⟩
        have he : v = v2 := HBB.out.mp trivial
        rw [List.take_add_one, List.take_add_one, Hv.out, Hv2.out, he, Htk.out]
    · have hkI : decide ((k : Int) < (l.length : Int)) = false := by simp; omega
      go_wp2
      rw [Hnr.out]
      refine ⟨⟨true, rfl, ?_⟩, HP.out⟩
      have h := Htk.out
      rw [show k = l.length by omega, List.take_length] at h
      rw [Hl.out, List.take_length] at h
      simp [h]
theorem alike_any (v : V) : AlikeOk v := V.induct alikeOk_of v
end Go.Proofs.YtmiipfdndgjndaaDoor
