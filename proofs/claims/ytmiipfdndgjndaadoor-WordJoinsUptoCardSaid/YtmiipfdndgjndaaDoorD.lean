/- The contract of the program's quoted. -/
import Derived.Test.YtmiipfdndgjndaaDoorC
import Derived.OwnWalk
import Derived.Maps.AppendAt
import Derived.LoopTactic
import Derived.Lib.BufferRead
import Derived.Laws.IdiomStrings
import Derived.Laws.OwnMore
namespace Go.Proofs.YtmiipfdndgjndaaDoor
open Go.RowKit Go.Lib
set_option maxHeartbeats 1000000
theorem info5 : (Tryd.prog.info? 5).map (fun i => (i.zero, i.size, i.bytes)) = some (some (.int .u8 0), 1, 1) := by kernel_rfl
theorem own_of_block {w w' : World} {base : Nat} {e : TypeId} {size : Nat} {v : Value} {n : Nat} {xs : List Value} (h : w.ownsRow base e size v n xs) (hk : ∀ g, v.ownBlock = some g → w'.heap[g]? = w.heap[g]?) : w'.ownsRow base e size v n xs := by
  refine ⟨h.1, ?_⟩
  rcases h.2 with hn | ⟨g, cap, cur, rfl, hb, hg, rest⟩
  · exact .inl hn
  · exact .inr ⟨g, cap, cur, rfl, hb, (hk g rfl).trans hg, rest⟩
theorem own_but {w w' : World} {base : Nat} {e : TypeId} {size : Nat} {v : Value} {n : Nat} {xs : List Value} {B : Nat} (h : w.ownsRow base e size v n xs) (hB : B < base) (hb : But B w w') : w'.ownsRow base e size v n xs :=
  own_of_block h fun g hg => by
    obtain ⟨h1, h2⟩ := h.lt g hg
    exact hb.block g h2 (by omega)
theorem rd_grown {w w' : World} {base : Nat} {e : TypeId} {size : Nat} {v : Value} {n : Nat} {xs : List Value} {B : Nat} {s : ByteArray} {a p : Int} (h : w.ownsRow base e size v n xs) (hB : B < base) (hg : w.grownBy w' v.ownBlock) (hr : Rd w B s a p) : Rd w' B s a p :=
  (hg.block B hr.lt (fun e => by have := (h.lt B e.symm).1; omega)).trans hr
theorem but_grown {w w' : World} {base : Nat} {e : TypeId} {size : Nat} {v : Value} {n : Nat} {xs : List Value} {B : Nat} {w0 : World} (h : w.ownsRow base e size v n xs) (hb : But B w0 w) (hs : w0.heap.size ≤ base) (hg : w.grownBy w' v.ownBlock) : But B w0 w' :=
  ⟨hg.os.trans hb.os, hg.tape.trans hb.tape, hg.output.trans hb.output, Nat.le_trans hb.size hg.size, fun i hi hn => (hg.block i (Nat.lt_of_lt_of_le hi hb.size) (fun e => by have := (h.lt i e.symm).1; omega)).trans (hb.block i hi hn)⟩
theorem conv_own {w : World} {base n : Nat} {v : Value} (l : List UInt8) (hn : l.length = n) (h : w.ownsRow base 5 1 v n (byteCells l)) : (convert 83 9 v).run Tryd.prog w = .ok (.string ⟨l.toArray⟩) w := by
  subst hn
  rcases h.2 with ⟨rfl, h0⟩ | ⟨g, cap, cur, rfl, hb, hg, h1, h2, h3, h4⟩
  · obtain rfl : l = [] := List.length_eq_zero_iff.1 h0
    exact run_convert_nil_bytes w 83 9 5 0 Tryd.underlying83 Tryd.underlying5 Tryd.underlying9
  · exact run_convert_bytes_back w 83 9 5 ⟨g, 0, none⟩ cap l Tryd.underlying83 Tryd.underlying5 Tryd.underlying9 (bytes_of_row hg (by rw [Nat.mul_one] at h4; exact h4))
theorem byteCells_u8 (c : Int) (h0 : 0 ≤ c) (h1 : c ≤ 255) : byteCells [u8 c] = [.int .u8 c] := by
  simp only [byteCells, List.map_cons, List.map_nil, u8_toNat c h0 h1]
/-- The bytes of a quoted form behind its opening mark. -/
theorem own_slice {w : World} {base : Nat} {e : TypeId} {size : Nat} {v : Value} {n : Nat} {xs : List Value} (h : w.ownsRow base e size v n xs) : ∃ ad cap, v = .slice ad n cap := by
  rcases h.2 with ⟨rfl, rfl⟩ | ⟨g, cap, cur, rfl, _⟩
  · exact ⟨none, 0, rfl⟩
  · exact ⟨_, cap, rfl⟩
theorem Rd.alloc {W : World} {B : Nat} {s : ByteArray} {a p : Int} (h : Rd W B s a p) (o : Obj) : Rd (W.alloc o) B s a p := (Below.heap_alloc W o B h.lt).trans h
def atOf (B : Nat) (w : World) : Nat := match w.cell? ⟨B, 1, none⟩ with | some (.int _ n) => n.toNat | _ => 0
theorem atOf_rd {W : World} {B : Nat} {s : ByteArray} {k : Nat} {p : Int} (h : Rd W B s k p) : atOf B W = k := by unfold atOf; rw [h.c1]; rfl
set_option maxRecDepth 100000 in
theorem quoted_any (B : Nat) (s : ByteArray) (k : Nat) (p most : Int) (w : World) (hS : s.size ≤ 140737488351232) (h : Rd w B s k p) :
    Calls Tryd.prog 44 #[.pointer (some ⟨B, 0, none⟩), .int .i64 most] w fun e w' => (match quotedF s (fun n => decide (most ≤ (n : Int))) k with | .ok (b, k') => e = .returned (.string ⟨b.toArray⟩) ∧ Rd w' B s (k' : Int) p | .error q => e = .panicked (stuckV (q : Int))) ∧ But B w w' := by
  by_cases hk : k < s.size
  · by_cases hc : bAt s k = 34
    · rw [show quotedF s (fun n => decide (most ≤ (n : Int))) k = qF s (fun n => decide (most ≤ (n : Int))) (s.size + 1) (k + 1) [] by simp [quotedF, hk, hc]]
      obtain ⟨R, hR⟩ : ∃ R, qF s (fun n => decide (most ≤ (n : Int))) (s.size + 1) (k + 1) [] = R := ⟨_, rfl⟩
      rw [hR]
      obtain ⟨i0, hi, hz0, hz1, hz2⟩ := info_parts info5
      have HR := Lib.hid hR
      have hB := h.lt
      have c1 := h.c1
      have f1 := h.f 1
      clear hR
      go_enter Tryd.func44, Tryd.ntmps44
      go_wp2_with fail
      refine (next_ok B s k p _ h hk).mono ?_
      rw [hc]
      rintro e w' ⟨rfl, q, rfl⟩
      go_wp2_with fail
      go_loopw [5] (fun v wr => ∃ (k' n : Nat) (bs : List UInt8), Rd wr B s (k' : Int) p ∧ But B w wr ∧ wr.ownsRow w.heap.size 5 1 v bs.length (byteCells bs) ∧ s.size < k' + n ∧ qF s (fun n => decide (most ≤ (n : Int))) n k' bs = R ∧ bs.length ≤ k' ∧ k' ≤ s.size) (fun _ wr => s.size + 1 - atOf B wr)
      case atStart => exact ⟨k + 1, s.size + 1, [], Rd.at (Rd.set1 (Rd.drewN h q) _) (by omega), ((But.refl B w).drewN q).setCell 1 _, World.ownsRow_nil _ _ _ _, by omega, HR.out, by simp, by omega⟩
      case round =>
        obtain ⟨k', n, bs, hrd, hbt, hown, hn, hq, hbl, hks⟩ := hrel
        obtain ⟨n, rfl⟩ : ∃ m, n = m + 1 := ⟨n - 1, by omega⟩
        obtain ⟨ad, cap, rfl⟩ := own_slice hown
        have c1 := hrd.c1
        have f1 := hrd.f 1
        have hsz := hbt.size
        obtain ⟨r0, r1⟩ := bAt_range s k'
        clear HR
        rw [qF] at hq
        by_cases hk' : k' < s.size
        · rw [if_pos hk'] at hq
          by_cases d1 : bAt s k' = 34
          · rw [if_pos d1] at hq
            subst hq
            go_wp2_with fail
            refine (next_ok B s k' p _ hrd hk').mono ?_
            rw [d1]
            rintro e w' ⟨rfl, q2, rfl⟩
            have hcv := conv_own bs rfl (own_but hown hB (((But.refl B wr).drewN q2).setCell 1 (.int .i64 ((k' : Int) + 1))))
            go_wp2
            go_ret
            exact ⟨⟨rfl, Rd.at (Rd.set1 (Rd.drewN hrd q2) _) (by omega)⟩, (hbt.drewN q2).setCell 1 _⟩
          · rw [if_neg d1] at hq
            have d1b : (bAt s k' == 34) = false := by simpa using d1
            cases d2 : decide (most ≤ (bs.length : Int)) with
            | true =>
              rw [if_pos d2] at hq
              subst hq
              go_wp2_with fail
              refine (next_ok B s k' p _ hrd hk').mono ?_
              rintro e w' ⟨rfl, q2, rfl⟩
              go_wp2_with fail
              refine (wrong_any B s k' p _ (hrd.drewN q2)).mono ?_
              rintro e w' ⟨rfl, rfl⟩
              go_wp2
              exact ⟨rfl, rfl, hbt.drewN q2⟩
            | false =>
              rw [if_neg (by rw [d2]; simp)] at hq
              cases d3 : decide (bAt s k' < 32) with
              | true =>
                rw [if_pos (of_decide_eq_true d3)] at hq
                subst hq
                go_wp2_with fail
                refine (next_ok B s k' p _ hrd hk').mono ?_
                rintro e w' ⟨rfl, q2, rfl⟩
                go_wp2_with fail
                refine (wrong_any B s k' p _ (hrd.drewN q2)).mono ?_
                rintro e w' ⟨rfl, rfl⟩
                go_wp2
                exact ⟨rfl, rfl, hbt.drewN q2⟩
              | false =>
                rw [if_neg (of_decide_eq_false d3)] at hq
                cases d4 : decide (126 < bAt s k') with
                | true =>
                  rw [if_pos (of_decide_eq_true d4)] at hq
                  subst hq
                  go_wp2_with fail
                  refine (next_ok B s k' p _ hrd hk').mono ?_
                  rintro e w' ⟨rfl, q2, rfl⟩
                  go_wp2_with fail
                  refine (wrong_any B s k' p _ (hrd.drewN q2)).mono ?_
                  rintro e w' ⟨rfl, rfl⟩
                  go_wp2
                  exact ⟨rfl, rfl, hbt.drewN q2⟩
                | false =>
                  rw [if_neg (of_decide_eq_false d4)] at hq
                  by_cases d5 : bAt s k' = 92
                  · rw [if_pos d5] at hq
                    cases hE : escF s (k' + 1) with
                    | error qq =>
                      rw [hE] at hq
                      subst hq
                      have Hx := fun W hW => esc_any B s (k' + 1) p W (by omega) hW
                      rw [hE] at Hx
                      have HX := Lib.hid Hx
                      clear Hx
                      go_wp2_with fail
                      refine (next_ok B s k' p _ hrd hk').mono ?_
                      rw [d5]
                      rintro e w' ⟨rfl, q2, rfl⟩
                      go_wp2_with fail
                      refine (HX.out _ (Rd.at (Rd.set1 (Rd.drewN hrd q2) _) (by omega))).mono ?_
                      rintro e w' ⟨rfl, hb2⟩
                      go_wp2
                      exact ⟨rfl, rfl, ((hbt.drewN q2).setCell 1 _).trans hb2⟩
                    | ok r =>
                      obtain ⟨x, k2⟩ := r
                      rw [hE] at hq
                      obtain ⟨x0, x1, x2, x3⟩ := escF_ok s (k' + 1) x k2 hE
                      have Hx := fun W hW => esc_any B s (k' + 1) p W (by omega) hW
                      rw [hE] at Hx
                      have HX := Lib.hid Hx
                      have Hq := Lib.hid hq
                      clear Hx hq
                      go_wp2_with fail
                      refine (next_ok B s k' p _ hrd hk').mono ?_
                      rw [d5]
                      rintro e w' ⟨rfl, q2, rfl⟩
                      go_wp2_with fail
                      refine (HX.out _ (Rd.at (Rd.set1 (Rd.drewN hrd q2) _) (by omega))).mono ?_
                      rintro e w2 ⟨⟨rfl, hrd2⟩, hb2⟩
                      have hown2 := own_but hown hB (((But.refl B wr).drewN q2).setCell 1 (.int .i64 ((k' : Int) + 1)) |>.trans hb2)
                      have hbt2 := ((hbt.drewN q2).setCell 1 (.int .i64 ((k' : Int) + 1))).trans hb2
                      have hsz2 := hbt2.size
                      have Hown2 := Lib.hid hown2
                      have Hbt2 := Lib.hid hbt2
                      have Hrd2 := Lib.hid hrd2
                      clear hown2 hbt2 hrd2 hb2
                      go_wp2_with (at_builtin; refine wpList_append_own _ rfl _ _ 83 rfl w.heap.size 5 i0 (.int .u8 0) 1 1 Tryd.underlying83 hi hz0 hz1 hz2 rfl (by decide) _ bs.length (byteCells bs) rfl (Hown2.out.alloc _) ⟨w2.heap.size, 0, none⟩ 1 1 [.int .u8 (x)] rfl rfl (cell_one_new _ _ _) (by simp [Value.oneCell']) (by unfold maxLen; omega) (by omega) (by simp; omega) ?_; intro v' w1 hown1 hgrow1 _; have hrd1 := rd_grown (Hown2.out.alloc _) hB hgrow1 (Rd.alloc Hrd2.out _); have hbt1 := but_grown (Hown2.out.alloc _) (Hbt2.out.alloc _) (Nat.le_refl _) hgrow1; have c11 := hrd1.c1; have f11 := hrd1.f 1; have HO1 := Lib.hid hown1; have HB1 := Lib.hid hbt1; have HR1 := Lib.hid hrd1; clear hown1 hgrow1 hbt1 hrd1)
                      refine ⟨⟨k2, n, bs ++ [u8 x], HR1.out, HB1.out, ?_, by omega, Hq.out, by simp; omega, x3⟩, ?_⟩
                      · rw [List.length_append, byteCells_append, byteCells_u8 _ x0 x1]
                        exact HO1.out
                      · rw [atOf_rd HR1.out, atOf_rd hrd]; omega
                  · rw [if_neg d5] at hq
                    have d5b : (bAt s k' != 92) = true := by simpa using d5
                    have Hq := Lib.hid hq
                    clear hq
                    go_wp2_with fail
                    refine (next_ok B s k' p _ hrd hk').mono ?_
                    rintro e w' ⟨rfl, q2, rfl⟩
                    have hown2 : (wr.drewN q2).ownsRow w.heap.size 5 1 (.slice ad bs.length cap) bs.length (byteCells bs) := hown
                    have Hown2 := Lib.hid hown2
                    clear hown2
                    go_wp2_with (at_builtin; refine wpList_append_own _ rfl _ _ 83 rfl w.heap.size 5 i0 (.int .u8 0) 1 1 Tryd.underlying83 hi hz0 hz1 hz2 rfl (by decide) _ bs.length (byteCells bs) rfl (Hown2.out.alloc _) ⟨(wr.drewN q2).heap.size, 0, none⟩ 1 1 [.int .u8 (bAt s k')] rfl rfl (cell_one_new _ _ _) (by simp [Value.oneCell']) (by unfold maxLen; omega) (by omega) (by simp; omega) ?_; intro v' w1 hown1 hgrow1 _; have hrd1 := rd_grown (Hown2.out.alloc _) hB hgrow1 (Rd.alloc (Rd.drewN hrd q2) _); have hbt1 := but_grown (Hown2.out.alloc _) ((hbt.drewN q2).alloc _) (Nat.le_refl _) hgrow1; have c11 := hrd1.c1; have f11 := hrd1.f 1; have HO1 := Lib.hid hown1; have HB1 := Lib.hid hbt1; have HR1 := Lib.hid hrd1; clear hown1 hgrow1 hbt1 hrd1)
                    refine ⟨⟨k' + 1, n, bs ++ [u8 (bAt s k')], Rd.at (Rd.set1 HR1.out _) (by omega), HB1.out.setCell 1 _, ?_, by omega, Hq.out, by simp; omega, by omega⟩, ?_⟩
                    · rw [List.length_append, byteCells_append, byteCells_u8 _ r0 r1]
                      exact own_but HO1.out hB ((But.refl B _).setCell 1 _)
                    · rw [atOf_rd (k := k' + 1) (Rd.at (Rd.set1 HR1.out ((k' : Int) + 1)) (by omega)), atOf_rd hrd]; omega
        · rw [if_neg hk'] at hq
          subst hq
          go_wp2_with fail
          refine (next_none B s k' p _ hrd hk').mono ?_
          rintro e w' ⟨rfl, q2, rfl⟩
          go_wp2
          exact ⟨rfl, rfl, hbt.drewN q2⟩
    · rw [show quotedF s (fun n => decide (most ≤ (n : Int))) k = .error k by simp [quotedF, hk, hc]]
      have hc1 : (bAt s k != 34) = true := by simpa using hc
      go_enter Tryd.func44, Tryd.ntmps44
      go_wp2_with fail
      refine (next_ok B s k p _ h hk).mono ?_
      rintro e w' ⟨rfl, q, rfl⟩
      go_wp2_with fail
      refine (wrong_any B s k p _ (h.drewN q)).mono ?_
      rintro e w' ⟨rfl, rfl⟩
      go_wp2
      exact ⟨rfl, rfl, (But.refl B w).drewN q⟩
  · rw [show quotedF s (fun n => decide (most ≤ (n : Int))) k = .error s.size by simp [quotedF, hk]]
    go_enter Tryd.func44, Tryd.ntmps44
    go_wp2_with fail
    refine (next_none B s k p _ h hk).mono ?_
    rintro e w' ⟨rfl, q, rfl⟩
    go_wp2
    exact ⟨rfl, rfl, (But.refl B w).drewN q⟩
end Go.Proofs.YtmiipfdndgjndaaDoor
