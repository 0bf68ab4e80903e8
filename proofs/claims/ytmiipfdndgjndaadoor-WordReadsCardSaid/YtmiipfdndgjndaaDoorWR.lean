/- The walk of WordReads. -/
import Derived.Test.YtmiipfdndgjndaaDoorRV4
import Derived.Test.YtmiipfdndgjndaaDoorSM
import Derived.Test.YtmiipfdndgjndaaDoorWQ
import Derived.Test.YtmiipfdndgjndaaDoorP
namespace Go.Proofs.YtmiipfdndgjndaaDoor
open Go.RowKit Go.Lib
set_option maxHeartbeats 1000000
set_option maxRecDepth 100000 in
theorem reads_any (s : ByteArray) (w : World) (hs : s.size ≤ 140737488351232) (htab : Tab w.heap.size w) (hE : ErrVar w) :
    Calls Tryd.prog 3 #[.string s] w fun e w' => e = .returned (.bool true) ∧ Below w.heap.size w w' := by
  have A1 := Lib.hid (fun W => Read_new s W hs)
  have A3 := Lib.hid (fun W => refRead_any s W hs)
  have AW := Lib.hid (fun (W : World) (X : Below w.heap.size w W) => awake_any W (tab_at htab X) (err_at hE X))
  obtain ⟨⟨x, pl, er⟩, hr⟩ : ∃ r, readF s = r := ⟨_, rfl⟩
  obtain ⟨kk, nn, ss, l, rr⟩ := x
  rw [hr] at A1 A3
  clear hr
  go_enter Tryd.func3, Tryd.ntmps3
  go_wp2_with fail
  refine (A1.out _).mono ?_
  rintro e w1 ⟨⟨cs, rfl, hv1⟩, hb1⟩
  have hv1' := hv1
  obtain ⟨A1_, c1, e1, -⟩ := hv1'
  subst e1
  have HV1 := Lib.hid hv1
  have HB1 := Lib.hid hb1
  clear hv1 hb1
  go_wp2_with fail
  have X1 := Lib.hid (HB1.out.alloc HB1.out.size (.cells #[.int .u8 kk, .int .i64 nn, .string ss, .slice A1_ l.length c1, .int .i64 rr] 26))
  refine (A1.out _).mono ?_
  rintro e w2 ⟨⟨cs, rfl, hv2⟩, hb2⟩
  have hv2' := hv2
  obtain ⟨A2, c2, e2, -⟩ := hv2'
  subst e2
  have hs2 : w1.heap.size + 1 ≤ w2.heap.size := Nat.le_trans (Nat.le_of_eq (World.size_alloc w1 _).symm) hb2.size
  have HV2 := Lib.hid hv2
  have HB2 := Lib.hid hb2
  have K1 := Lib.hid ((hb2.block w1.heap.size (by simp)).trans (heap_alloc_new w1 (.cells #[.int .u8 kk, .int .i64 nn, .string ss, .slice A1_ l.length c1, .int .i64 rr] 26)))
  have Y2 := Lib.hid (below_next X1.out hb2)
  clear hv2 hb2
  go_wp2_with fail
  have X2 := Lib.hid (Y2.out.alloc Y2.out.size (.cells #[.int .u8 kk, .int .i64 nn, .string ss, .slice A2 l.length c2, .int .i64 rr] 26))
  refine (A3.out _).mono ?_
  rintro e w3 ⟨⟨cs, rfl, hv3⟩, hb3⟩
  have hv3' := hv3
  obtain ⟨A3_, c3, e3, -⟩ := hv3'
  subst e3
  have hs3 : w2.heap.size + 1 ≤ w3.heap.size := Nat.le_trans (Nat.le_of_eq (World.size_alloc w2 _).symm) hb3.size
  have HV3 := Lib.hid hv3
  have HB3 := Lib.hid hb3
  have L1 := Lib.hid ((Below.heap_alloc w3 (.cells #[.int .u8 kk, .int .i64 nn, .string ss, .slice A3_ l.length c3, .int .i64 rr] 26) w1.heap.size (by omega)).trans ((hb3.block w1.heap.size (by simp; omega)).trans ((Below.heap_alloc w2 (.cells #[.int .u8 kk, .int .i64 nn, .string ss, .slice A2 l.length c2, .int .i64 rr] 26) w1.heap.size (by omega)).trans K1.out)))
  have L2 := Lib.hid ((Below.heap_alloc w3 (.cells #[.int .u8 kk, .int .i64 nn, .string ss, .slice A3_ l.length c3, .int .i64 rr] 26) w2.heap.size (by omega)).trans ((hb3.block w2.heap.size (by simp)).trans (heap_alloc_new w2 (.cells #[.int .u8 kk, .int .i64 nn, .string ss, .slice A2 l.length c2, .int .i64 rr] 26))))
  have Y3 := Lib.hid (below_next X2.out hb3)
  have X3 := Lib.hid (Y3.out.alloc Y3.out.size (.cells #[.int .u8 kk, .int .i64 nn, .string ss, .slice A3_ l.length c3, .int .i64 rr] 26))
  have hs1 := HB1.out.size
  clear hv3 hb3
  have p0 : (w3.alloc (.cells #[.int .u8 kk, .int .i64 nn, .string ss, .slice A3_ l.length c3, .int .i64 rr] 26)).cell? ⟨w1.heap.size, 0, none⟩ = some (.int .u8 kk) := blk_cell L1.out 0
  have p1 : (w3.alloc (.cells #[.int .u8 kk, .int .i64 nn, .string ss, .slice A3_ l.length c3, .int .i64 rr] 26)).cell? ⟨w1.heap.size, 1, none⟩ = some (.int .i64 nn) := blk_cell L1.out 1
  have p2 : (w3.alloc (.cells #[.int .u8 kk, .int .i64 nn, .string ss, .slice A3_ l.length c3, .int .i64 rr] 26)).cell? ⟨w1.heap.size, 2, none⟩ = some (.string ss) := blk_cell L1.out 2
  have p3 : (w3.alloc (.cells #[.int .u8 kk, .int .i64 nn, .string ss, .slice A3_ l.length c3, .int .i64 rr] 26)).cell? ⟨w1.heap.size, 3, none⟩ = some (.slice A1_ l.length c1) := blk_cell L1.out 3
  have p4 : (w3.alloc (.cells #[.int .u8 kk, .int .i64 nn, .string ss, .slice A3_ l.length c3, .int .i64 rr] 26)).cell? ⟨w1.heap.size, 4, none⟩ = some (.int .i64 rr) := blk_cell L1.out 4
  have q0 : (w3.alloc (.cells #[.int .u8 kk, .int .i64 nn, .string ss, .slice A3_ l.length c3, .int .i64 rr] 26)).cell? ⟨w2.heap.size, 0, none⟩ = some (.int .u8 kk) := blk_cell L2.out 0
  have q1 : (w3.alloc (.cells #[.int .u8 kk, .int .i64 nn, .string ss, .slice A3_ l.length c3, .int .i64 rr] 26)).cell? ⟨w2.heap.size, 1, none⟩ = some (.int .i64 nn) := blk_cell L2.out 1
  have q2 : (w3.alloc (.cells #[.int .u8 kk, .int .i64 nn, .string ss, .slice A3_ l.length c3, .int .i64 rr] 26)).cell? ⟨w2.heap.size, 2, none⟩ = some (.string ss) := blk_cell L2.out 2
  have q3 : (w3.alloc (.cells #[.int .u8 kk, .int .i64 nn, .string ss, .slice A3_ l.length c3, .int .i64 rr] 26)).cell? ⟨w2.heap.size, 3, none⟩ = some (.slice A2 l.length c2) := blk_cell L2.out 3
  have q4 : (w3.alloc (.cells #[.int .u8 kk, .int .i64 nn, .string ss, .slice A3_ l.length c3, .int .i64 rr] 26)).cell? ⟨w2.heap.size, 4, none⟩ = some (.int .i64 rr) := blk_cell L2.out 4
  have B12 := Lib.hid (((Below.refl w1.heap.size w1).alloc (Nat.le_refl _) (.cells #[.int .u8 kk, .int .i64 nn, .string ss, .slice A1_ l.length c1, .int .i64 rr] 26)).trans (HB2.out.mono (by simp)))
  have B23 := Lib.hid (((Below.refl w2.heap.size w2).alloc (Nat.le_refl _) (.cells #[.int .u8 kk, .int .i64 nn, .string ss, .slice A2 l.length c2, .int .i64 rr] 26)).trans (HB3.out.mono (by simp)))
  have B3 := Lib.hid ((Below.refl w3.heap.size w3).alloc (Nat.le_refl _) (.cells #[.int .u8 kk, .int .i64 nn, .string ss, .slice A3_ l.length c3, .int .i64 rr] 26))
  have S1 : Hid (VIn (w3.alloc (.cells #[.int .u8 kk, .int .i64 nn, .string ss, .slice A3_ l.length c3, .int .i64 rr] 26)) (fun b => NewB w.heap.size (w3.alloc (.cells #[.int .u8 kk, .int .i64 nn, .string ss, .slice A3_ l.length c3, .int .i64 rr] 26)) b ∧ b < w1.heap.size) (.mk kk nn ss l rr) [.int .u8 kk, .int .i64 nn, .string ss, .slice A1_ l.length c1, .int .i64 rr]) := Lib.hid (VIn.mono (fun b h => by
    have he : (w3.alloc (.cells #[.int .u8 kk, .int .i64 nn, .string ss, .slice A3_ l.length c3, .int .i64 rr] 26)).heap[b]? = w1.heap[b]? := (B3.out.block b (by have := h.2.1; omega)).trans ((B23.out.block b (by have := h.2.1; omega)).trans (B12.out.block b h.2.1))
    exact ⟨⟨h.keep h.1 he, h.2.1⟩, he⟩) _ HV1.out)
  have S2 : Hid (VIn (w3.alloc (.cells #[.int .u8 kk, .int .i64 nn, .string ss, .slice A3_ l.length c3, .int .i64 rr] 26)) (fun b => w1.heap.size ≤ b ∧ b < (w3.alloc (.cells #[.int .u8 kk, .int .i64 nn, .string ss, .slice A3_ l.length c3, .int .i64 rr] 26)).heap.size) (.mk kk nn ss l rr) [.int .u8 kk, .int .i64 nn, .string ss, .slice A2 l.length c2, .int .i64 rr]) := Lib.hid (VIn.mono (fun b h => by
    have h1 := h.1
    have h2 := h.2.1
    rw [World.size_alloc] at h1
    exact ⟨⟨by omega, by rw [World.size_alloc]; omega⟩, (B3.out.block b (by omega)).trans (B23.out.block b h2)⟩) _ HV2.out)
  have S3 : Hid (VIn (w3.alloc (.cells #[.int .u8 kk, .int .i64 nn, .string ss, .slice A3_ l.length c3, .int .i64 rr] 26)) (fun b => w1.heap.size ≤ b ∧ b < (w3.alloc (.cells #[.int .u8 kk, .int .i64 nn, .string ss, .slice A3_ l.length c3, .int .i64 rr] 26)).heap.size) (.mk kk nn ss l rr) [.int .u8 kk, .int .i64 nn, .string ss, .slice A3_ l.length c3, .int .i64 rr]) := Lib.hid (VIn.mono (fun b h => by
    have h1 := h.1
    have h2 := h.2.1
    rw [World.size_alloc] at h1
    exact ⟨⟨by omega, by rw [World.size_alloc]; omega⟩, B3.out.block b h2⟩) _ HV3.out)
  have SAME := Lib.hid (same_any kk nn ss l rr A1_ A2 A3_ c1 c2 c3 w.heap.size w1.heap.size (w3.alloc (.cells #[.int .u8 kk, .int .i64 nn, .string ss, .slice A3_ l.length c3, .int .i64 rr] 26)) S1.out S2.out S3.out hs1 (by rw [World.size_alloc]; omega))
  go_wp2_with fail
  refine SAME.out.mono ?_
  rintro e w4 ⟨rfl, hb4⟩
  have X4 := Lib.hid (X3.out.trans hb4)
  clear hb4
  go_wp2_with fail
  refine (AW.out _ X4.out).mono ?_
  rintro e w5 ⟨rfl, hb⟩
  have X5 := Lib.hid (below_next X4.out hb)
  clear hb
  go_wp2
  go_ret
  exact ⟨rfl, X5.out⟩
end Go.Proofs.YtmiipfdndgjndaaDoor
