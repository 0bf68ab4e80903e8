/- The contract of the reference's quoted: printed by gen_rquoted.py. -/
import Derived.Test.YtmiipfdndgjndaaDoorF
namespace Go.Proofs.YtmiipfdndgjndaaDoor
open Go.RowKit Go.Lib
set_option maxHeartbeats 2000000
theorem rr_grown {w w' : World} {base : Nat} {e : TypeId} {size : Nat} {v : Value} {n : Nat} {xs : List Value} {B : Nat} {s : ByteArray} {a r : Int} {st : Bool} (h : w.ownsRow base e size v n xs) (hB : B < base) (hg : w.grownBy w' v.ownBlock) (hr : Rr w B s a st r) : Rr w' B s a st r :=
  (hg.block B hr.lt (fun e => by have := (h.lt B e.symm).1; omega)).trans hr
theorem cell_one_at (W : World) (n : Nat) (hn : W.heap.size = n) (x : Value) (t : TypeId) : ∀ j u, [x][j]? = some u → (W.alloc (.cells #[x] t)).cell? ((⟨n, 0, none⟩ : Addr).add j) = some u := by
  subst hn
  exact cell_one_new W x t
theorem ratOf {W : World} {B : Nat} {s : ByteArray} {k : Nat} {st : Bool} {r : Int} (h : Rr W B s k st r) : atOf B W = k := by unfold atOf; rw [h.c1]; rfl
def fullL (limit : Int) (n : Nat) : Bool := decide (0 ≤ limit) && decide (limit ≤ (n : Int))
def lowOk (c : Int) : Bool := lowI c == (match hexI c with | some v => v | none => 16)
theorem lowFacts : ((List.range 256).all fun c => lowOk (c : Int)) = true := by decide +kernel
theorem low_at (c : Int) (h0 : 0 ≤ c) (h1 : c ≤ 255) : lowI c = (match hexI c with | some v => v | none => 16) := by
  have h := lowFacts
  rw [List.all_eq_true] at h
  have := h c.toNat (by simp; omega)
  rw [show ((c.toNat : Nat) : Int) = c by omega] at this
  exact beq_iff_eq.1 this
set_option maxRecDepth 100000 in
theorem rquoted_any (B : Nat) (s : ByteArray) (k : Nat) (r limit : Int) (w : World) (hS : s.size ≤ 140737488351232) (h : Rr w B s k false r) (hks : k ≤ s.size) :
    Calls Tryd.prog 45 #[.pointer (some ⟨B, 0, none⟩), .int .i64 limit] w fun e w' => (match quotedF s (fullL limit) k with | .ok (b, k') => e = .returned (.string ⟨b.toArray⟩) ∧ Rr w' B s (k' : Int) false r | .error q => e = .returned (.string ⟨#[]⟩) ∧ Rr w' B s (q : Int) true r) ∧ But B w w' := by
  obtain ⟨R, hR⟩ : ∃ R, quotedF s (fullL limit) k = R := ⟨_, rfl⟩
  rw [hR]
  obtain ⟨i0, hi, hz0, hz1, hz2⟩ := info_parts info5
  have hB := h.lt
  have c0 := h.c0
  have c1 := h.c1
  have c2 := h.c2
  unfold quotedF at hR
  have HR := Lib.hid hR
  clear hR
  by_cases hst : k < s.size ∧ bAt s k = 34
  · obtain ⟨hk, hc⟩ := hst
    have hq0 := HR.out
    rw [if_pos hk, if_pos hc] at hq0
    have Hq0 := Lib.hid hq0
    clear HR hq0
    go_enter Tryd.func45, Tryd.ntmps45
    go_wp2_with fail
    refine (rnext_any B s k r _ h).mono ?_
    rw [hc]
    rintro e w' ⟨rfl, p1, rfl⟩
    go_wp2_with fail
    refine (ron_yes B s k r _ (by omega) (Rr.drewN h p1) hk).mono ?_
    rintro e w' ⟨rfl, p2, rfl⟩
    go_wp2_with fail
    go_loopw [5] (fun v wr => ∃ (k' n : Nat) (bs : List UInt8), Rr wr B s (k' : Int) false r ∧ But B w wr ∧ wr.ownsRow w.heap.size 5 1 v bs.length (byteCells bs) ∧ s.size < k' + n ∧ qF s (fullL limit) n k' bs = R ∧ bs.length ≤ k' ∧ k' ≤ s.size) (fun _ wr => s.size + 1 - atOf B wr)
    case atStart => exact ⟨k + 1, s.size + 1, [], Rr.at (Rr.set1 (Rr.drewN h (p1 + p2)) _) (by omega), ((But.refl B w).drewN (p1 + p2)).setCell 1 _, World.ownsRow_nil _ _ _ _, by omega, Hq0.out, by simp, by omega⟩
    case round =>
      obtain ⟨k', n, bs, hrd, hbt, hown, hn, hq, hbl, hks⟩ := hrel
      obtain ⟨n, rfl⟩ : ∃ m, n = m + 1 := ⟨n - 1, by omega⟩
      obtain ⟨ad, cap, rfl⟩ := own_slice hown
      have c1 := hrd.c1
      have c2 := hrd.c2
      have f1 := hrd.f 1
      have f2 := hrd.f 2
      have hsz := hbt.size
      obtain ⟨r0, r1⟩ := bAt_range s k'
      clear Hq0
      rw [qF] at hq
      by_cases hk' : k' < s.size
      · rw [if_pos hk'] at hq
        by_cases d1 : bAt s k' = 34
        · rw [if_pos d1] at hq
          subst hq
          go_wp2_with fail
          refine (rnext_any B s k' r _ hrd).mono ?_
          rw [d1]
          rintro e w' ⟨rfl, p1, rfl⟩
          have hcv := conv_own bs rfl (own_but hown hB (((But.refl B wr).drewN p1).setCell 1 (.int .i64 ((k' : Int) + 1))))
          go_wp2
          go_ret
          exact ⟨⟨rfl, Rr.at (Rr.set1 (Rr.drewN hrd (p1)) _) (by omega)⟩, ((hbt).drewN (p1)).setCell 1 _⟩
        · rw [if_neg d1] at hq
          have d1b : (bAt s k' == 34) = false := by simpa using d1
          cases d2 : fullL limit bs.length with
          | true =>
            rw [if_pos d2] at hq
            subst hq
            have g1 : decide (0 ≤ limit) = true := by unfold fullL at d2; simp at d2; simpa using d2.1
            have g2 : decide (limit ≤ (bs.length : Int)) = true := by unfold fullL at d2; simp at d2; simpa using d2.2
            go_wp2_with fail
            refine (rnext_any B s k' r _ hrd).mono ?_
            rintro e w' ⟨rfl, p1, rfl⟩
            go_wp2
            go_ret
            exact ⟨⟨rfl, Rr.set2 (Rr.drewN hrd (p1)) true⟩, ((hbt).drewN (p1)).setCell 2 _⟩
          | false =>
            rw [if_neg (by rw [d2]; simp)] at hq
            have d2b : decide (0 ≤ limit) = false ∨ (decide (0 ≤ limit) = true ∧ decide (limit ≤ (bs.length : Int)) = false) := by unfold fullL at d2; cases h1 : decide (0 ≤ limit) <;> simp_all
            rcases d2b with g1 | ⟨g1, g2⟩
            · cases d3 : decide (bAt s k' < 32) with
              | true =>
                rw [if_pos (of_decide_eq_true d3)] at hq
                subst hq
                have hpl : plainI (bAt s k') = false := by unfold plainI; simp at d3 ⊢; omega
                have h92 : (bAt s k' == 92) = false := by simp at d3 ⊢; omega
                go_wp2_with fail
                refine (rnext_any B s k' r _ hrd).mono ?_
                rintro e w' ⟨rfl, p1, rfl⟩
                go_wp2_with fail
                refine (plain_any _ _).mono ?_
                rw [hpl]
                rintro e w' ⟨rfl, rfl⟩
                go_wp2_with fail
                refine (ron_no B s k' r _ (Rr.drewN hrd (p1))).mono ?_
                rintro e w' ⟨rfl, p2, rfl⟩
                go_wp2
                go_ret
                exact ⟨⟨rfl, (Rr.set2 (Rr.drewN hrd (p1 + p2)) true)⟩, ((hbt).drewN (p1 + p2)).setCell 2 _⟩
              | false =>
                rw [if_neg (of_decide_eq_false d3)] at hq
                cases d4 : decide (126 < bAt s k') with
                | true =>
                  rw [if_pos (of_decide_eq_true d4)] at hq
                  subst hq
                  have hpl : plainI (bAt s k') = false := by unfold plainI; simp at d4 ⊢; omega
                  have h92 : (bAt s k' == 92) = false := by simp at d4 ⊢; omega
                  go_wp2_with fail
                  refine (rnext_any B s k' r _ hrd).mono ?_
                  rintro e w' ⟨rfl, p1, rfl⟩
                  go_wp2_with fail
                  refine (plain_any _ _).mono ?_
                  rw [hpl]
                  rintro e w' ⟨rfl, rfl⟩
                  go_wp2_with fail
                  refine (ron_no B s k' r _ (Rr.drewN hrd (p1))).mono ?_
                  rintro e w' ⟨rfl, p2, rfl⟩
                  go_wp2
                  go_ret
                  exact ⟨⟨rfl, (Rr.set2 (Rr.drewN hrd (p1 + p2)) true)⟩, ((hbt).drewN (p1 + p2)).setCell 2 _⟩
                | false =>
                  rw [if_neg (of_decide_eq_false d4)] at hq
                  by_cases d5 : bAt s k' = 92
                  · skip
                    rw [if_pos d5] at hq
                    by_cases hk1 : k' + 1 < s.size
                    · by_cases x1 : bAt s (k' + 1) = 34
                      · rw [show escF s (k' + 1) = .ok (34, k' + 2) by simp [escF, hk1, x1]] at hq
                        have Hq := Lib.hid hq
                        clear hq
                        go_wp2_with fail
                        refine (rnext_any B s k' r _ hrd).mono ?_
                        rw [d5]
                        rintro e w' ⟨rfl, p1, rfl⟩
                        go_wp2_with fail
                        refine (plain_any _ _).mono ?_
                        rw [show plainI 92 = false from rfl]
                        rintro e w' ⟨rfl, rfl⟩
                        go_wp2_with fail
                        refine (ron_yes B s k' r _ (by omega) (Rr.drewN hrd (p1)) hk').mono ?_
                        rintro e w' ⟨rfl, p2, rfl⟩
                        go_wp2_with fail
                        refine (rnext_any B s (k' + 1) r _ (Rr.at (Rr.set1 (Rr.drewN hrd (p1 + p2)) ((k' : Int) + 1)) (by omega : (k' : Int) + 1 = ((k' + 1 : Nat) : Int)))).mono ?_
                        rw [x1]
                        rintro e w' ⟨rfl, p3, rfl⟩
                        have hownZ := own_but hown hB ((((But.refl B wr).drewN (p1 + p2)).setCell 1 (.int .i64 ((k' : Int) + 1))).drewN (p3))
                        have HownZ := Lib.hid hownZ
                        have HrdZ := Lib.hid (Rr.drewN (Rr.at (Rr.set1 (Rr.drewN hrd (p1 + p2)) ((k' : Int) + 1)) (by omega : (k' : Int) + 1 = ((k' + 1 : Nat) : Int))) (p3))
                        have HbtZ := Lib.hid ((((hbt).drewN (p1 + p2)).setCell 1 (.int .i64 ((k' : Int) + 1))).drewN (p3))
                        clear hownZ
                        go_wp2_with (at_builtin; refine wpList_append_own _ rfl _ _ 83 rfl w.heap.size 5 i0 (.int .u8 0) 1 1 Tryd.underlying83 hi hz0 hz1 hz2 rfl (by decide) _ bs.length (byteCells bs) rfl (HownZ.out.alloc _) _ 1 1 [.int .u8 (34)] rfl rfl (cell_one_at _ _ (by simp) _ _) (by simp [Value.oneCell']) (by unfold maxLen; omega) (by omega) (by simp; omega) ?_; intro v' w1 hown1 hgrow1 _; have hrd1 := rr_grown (HownZ.out.alloc _) hB hgrow1 (Rr.alloc HrdZ.out _); have hbt1 := but_grown (HownZ.out.alloc _) (HbtZ.out.alloc _) (Nat.le_refl _) hgrow1; have c11 := hrd1.c1; have f11 := hrd1.f 1; have c12 := hrd1.c2; have HO1 := Lib.hid hown1; have HB1 := Lib.hid hbt1; have HR1 := Lib.hid hrd1; clear hown1 hgrow1 hbt1 hrd1)
                        refine ⟨⟨k' + 2, n, bs ++ [YtmiipfdndgjndaaDoor.u8 (34)], Rr.at (Rr.set1 HR1.out ((k' : Int) + 1 + 1)) (by omega), HB1.out.setCell 1 _, ?_, by omega, Hq.out, by simp; omega, by omega⟩, ?_⟩
                        · rw [List.length_append, byteCells_append, byteCells_u8 _ (by omega) (by omega)]
                          exact own_but HO1.out hB ((But.refl B _).setCell 1 _)
                        · rw [ratOf (k := k' + 2) (Rr.at (Rr.set1 HR1.out ((k' : Int) + 1 + 1)) (by omega)), ratOf hrd]; omega
                      · by_cases x2 : bAt s (k' + 1) = 92
                        · rw [show escF s (k' + 1) = .ok (92, k' + 2) by simp [escF, hk1, x2]] at hq
                          have Hq := Lib.hid hq
                          clear hq
                          go_wp2_with fail
                          refine (rnext_any B s k' r _ hrd).mono ?_
                          rw [d5]
                          rintro e w' ⟨rfl, p1, rfl⟩
                          go_wp2_with fail
                          refine (plain_any _ _).mono ?_
                          rw [show plainI 92 = false from rfl]
                          rintro e w' ⟨rfl, rfl⟩
                          go_wp2_with fail
                          refine (ron_yes B s k' r _ (by omega) (Rr.drewN hrd (p1)) hk').mono ?_
                          rintro e w' ⟨rfl, p2, rfl⟩
                          go_wp2_with fail
                          refine (rnext_any B s (k' + 1) r _ (Rr.at (Rr.set1 (Rr.drewN hrd (p1 + p2)) ((k' : Int) + 1)) (by omega : (k' : Int) + 1 = ((k' + 1 : Nat) : Int)))).mono ?_
                          rw [x2]
                          rintro e w' ⟨rfl, p3, rfl⟩
                          have hownZ := own_but hown hB ((((But.refl B wr).drewN (p1 + p2)).setCell 1 (.int .i64 ((k' : Int) + 1))).drewN (p3))
                          have HownZ := Lib.hid hownZ
                          have HrdZ := Lib.hid (Rr.drewN (Rr.at (Rr.set1 (Rr.drewN hrd (p1 + p2)) ((k' : Int) + 1)) (by omega : (k' : Int) + 1 = ((k' + 1 : Nat) : Int))) (p3))
                          have HbtZ := Lib.hid ((((hbt).drewN (p1 + p2)).setCell 1 (.int .i64 ((k' : Int) + 1))).drewN (p3))
                          clear hownZ
                          go_wp2_with (at_builtin; refine wpList_append_own _ rfl _ _ 83 rfl w.heap.size 5 i0 (.int .u8 0) 1 1 Tryd.underlying83 hi hz0 hz1 hz2 rfl (by decide) _ bs.length (byteCells bs) rfl (HownZ.out.alloc _) _ 1 1 [.int .u8 (92)] rfl rfl (cell_one_at _ _ (by simp) _ _) (by simp [Value.oneCell']) (by unfold maxLen; omega) (by omega) (by simp; omega) ?_; intro v' w1 hown1 hgrow1 _; have hrd1 := rr_grown (HownZ.out.alloc _) hB hgrow1 (Rr.alloc HrdZ.out _); have hbt1 := but_grown (HownZ.out.alloc _) (HbtZ.out.alloc _) (Nat.le_refl _) hgrow1; have c11 := hrd1.c1; have f11 := hrd1.f 1; have c12 := hrd1.c2; have HO1 := Lib.hid hown1; have HB1 := Lib.hid hbt1; have HR1 := Lib.hid hrd1; clear hown1 hgrow1 hbt1 hrd1)
                          refine ⟨⟨k' + 2, n, bs ++ [YtmiipfdndgjndaaDoor.u8 (92)], Rr.at (Rr.set1 HR1.out ((k' : Int) + 1 + 1)) (by omega), HB1.out.setCell 1 _, ?_, by omega, Hq.out, by simp; omega, by omega⟩, ?_⟩
                          · rw [List.length_append, byteCells_append, byteCells_u8 _ (by omega) (by omega)]
                            exact own_but HO1.out hB ((But.refl B _).setCell 1 _)
                          · rw [ratOf (k := k' + 2) (Rr.at (Rr.set1 HR1.out ((k' : Int) + 1 + 1)) (by omega)), ratOf hrd]; omega
                        · by_cases x3 : bAt s (k' + 1) = 110
                          · rw [show escF s (k' + 1) = .ok (10, k' + 2) by simp [escF, hk1, x3]] at hq
                            have Hq := Lib.hid hq
                            clear hq
                            go_wp2_with fail
                            refine (rnext_any B s k' r _ hrd).mono ?_
                            rw [d5]
                            rintro e w' ⟨rfl, p1, rfl⟩
                            go_wp2_with fail
                            refine (plain_any _ _).mono ?_
                            rw [show plainI 92 = false from rfl]
                            rintro e w' ⟨rfl, rfl⟩
                            go_wp2_with fail
                            refine (ron_yes B s k' r _ (by omega) (Rr.drewN hrd (p1)) hk').mono ?_
                            rintro e w' ⟨rfl, p2, rfl⟩
                            go_wp2_with fail
                            refine (rnext_any B s (k' + 1) r _ (Rr.at (Rr.set1 (Rr.drewN hrd (p1 + p2)) ((k' : Int) + 1)) (by omega : (k' : Int) + 1 = ((k' + 1 : Nat) : Int)))).mono ?_
                            rw [x3]
                            rintro e w' ⟨rfl, p3, rfl⟩
                            have hownZ := own_but hown hB ((((But.refl B wr).drewN (p1 + p2)).setCell 1 (.int .i64 ((k' : Int) + 1))).drewN (p3))
                            have HownZ := Lib.hid hownZ
                            have HrdZ := Lib.hid (Rr.drewN (Rr.at (Rr.set1 (Rr.drewN hrd (p1 + p2)) ((k' : Int) + 1)) (by omega : (k' : Int) + 1 = ((k' + 1 : Nat) : Int))) (p3))
                            have HbtZ := Lib.hid ((((hbt).drewN (p1 + p2)).setCell 1 (.int .i64 ((k' : Int) + 1))).drewN (p3))
                            clear hownZ
                            go_wp2_with (at_builtin; refine wpList_append_own _ rfl _ _ 83 rfl w.heap.size 5 i0 (.int .u8 0) 1 1 Tryd.underlying83 hi hz0 hz1 hz2 rfl (by decide) _ bs.length (byteCells bs) rfl (HownZ.out.alloc _) _ 1 1 [.int .u8 (10)] rfl rfl (cell_one_at _ _ (by simp) _ _) (by simp [Value.oneCell']) (by unfold maxLen; omega) (by omega) (by simp; omega) ?_; intro v' w1 hown1 hgrow1 _; have hrd1 := rr_grown (HownZ.out.alloc _) hB hgrow1 (Rr.alloc HrdZ.out _); have hbt1 := but_grown (HownZ.out.alloc _) (HbtZ.out.alloc _) (Nat.le_refl _) hgrow1; have c11 := hrd1.c1; have f11 := hrd1.f 1; have c12 := hrd1.c2; have HO1 := Lib.hid hown1; have HB1 := Lib.hid hbt1; have HR1 := Lib.hid hrd1; clear hown1 hgrow1 hbt1 hrd1)
                            refine ⟨⟨k' + 2, n, bs ++ [YtmiipfdndgjndaaDoor.u8 (10)], Rr.at (Rr.set1 HR1.out ((k' : Int) + 1 + 1)) (by omega), HB1.out.setCell 1 _, ?_, by omega, Hq.out, by simp; omega, by omega⟩, ?_⟩
                            · rw [List.length_append, byteCells_append, byteCells_u8 _ (by omega) (by omega)]
                              exact own_but HO1.out hB ((But.refl B _).setCell 1 _)
                            · rw [ratOf (k := k' + 2) (Rr.at (Rr.set1 HR1.out ((k' : Int) + 1 + 1)) (by omega)), ratOf hrd]; omega
                          · have y1 : (bAt s (k' + 1) == 34) = false := by simpa using x1
                            have y2 : (bAt s (k' + 1) == 92) = false := by simpa using x2
                            have y3 : (bAt s (k' + 1) == 110) = false := by simpa using x3
                            by_cases x4 : bAt s (k' + 1) = 120
                            · skip
                              clear y1 y2 y3
                              by_cases hk2 : k' + 2 < s.size
                              · obtain ⟨a0, a1⟩ := bAt_range s (k' + 2)
                                have hlw := low_at (bAt s (k' + 2)) a0 a1
                                cases hh : hexI (bAt s (k' + 2)) with
                                | none =>
                                  rw [hh] at hlw
                                  rw [show escF s (k' + 1) = .error (k' + 2) by simp [escF, hk1, x4, hk2, hh]] at hq
                                  subst hq
                                  go_wp2_with fail
                                  refine (rnext_any B s k' r _ hrd).mono ?_
                                  rw [d5]
                                  rintro e w' ⟨rfl, p1, rfl⟩
                                  go_wp2_with fail
                                  refine (plain_any _ _).mono ?_
                                  rw [show plainI 92 = false from rfl]
                                  rintro e w' ⟨rfl, rfl⟩
                                  go_wp2_with fail
                                  refine (ron_yes B s k' r _ (by omega) (Rr.drewN hrd (p1)) hk').mono ?_
                                  rintro e w' ⟨rfl, p2, rfl⟩
                                  go_wp2_with fail
                                  refine (rnext_any B s (k' + 1) r _ (Rr.at (Rr.set1 (Rr.drewN hrd (p1 + p2)) ((k' : Int) + 1)) (by omega : (k' : Int) + 1 = ((k' + 1 : Nat) : Int)))).mono ?_
                                  rw [x4]
                                  rintro e w' ⟨rfl, p3, rfl⟩
                                  go_wp2_with fail
                                  refine (ron_yes B s (k' + 1) r _ (by omega) (Rr.drewN (Rr.at (Rr.set1 (Rr.drewN hrd (p1 + p2)) ((k' : Int) + 1)) (by omega : (k' : Int) + 1 = ((k' + 1 : Nat) : Int))) (p3)) hk1).mono ?_
                                  rintro e w' ⟨rfl, p4, rfl⟩
                                  go_wp2_with fail
                                  refine (rnext_any B s (k' + 2) r _ (Rr.at (Rr.set1 (Rr.drewN (Rr.at (Rr.set1 (Rr.drewN hrd (p1 + p2)) ((k' : Int) + 1)) (by omega : (k' : Int) + 1 = ((k' + 1 : Nat) : Int))) (p3 + p4)) (((k' + 1 : Nat) : Int) + 1)) (by omega : ((k' + 1 : Nat) : Int) + 1 = ((k' + 2 : Nat) : Int)))).mono ?_
                                  rintro e w' ⟨rfl, p5, rfl⟩
                                  go_wp2_with fail
                                  refine (low_any _ _).mono ?_
                                  rw [hlw]
                                  rintro e w' ⟨rfl, rfl⟩
                                  go_wp2_with fail
                                  refine (ron_no B s (k' + 2) r _ (Rr.drewN (Rr.at (Rr.set1 (Rr.drewN (Rr.at (Rr.set1 (Rr.drewN hrd (p1 + p2)) ((k' : Int) + 1)) (by omega : (k' : Int) + 1 = ((k' + 1 : Nat) : Int))) (p3 + p4)) (((k' + 1 : Nat) : Int) + 1)) (by omega : ((k' + 1 : Nat) : Int) + 1 = ((k' + 2 : Nat) : Int))) (p5))).mono ?_
                                  rintro e w' ⟨rfl, p6, rfl⟩
                                  go_wp2
                                  go_ret
                                  exact ⟨⟨rfl, Rr.at (Rr.set2 (Rr.drewN (Rr.at (Rr.set1 (Rr.drewN (Rr.at (Rr.set1 (Rr.drewN hrd (p1 + p2)) ((k' : Int) + 1)) (by omega : (k' : Int) + 1 = ((k' + 1 : Nat) : Int))) (p3 + p4)) (((k' + 1 : Nat) : Int) + 1)) (by omega : ((k' + 1 : Nat) : Int) + 1 = ((k' + 2 : Nat) : Int))) (p5 + p6)) true) (by omega)⟩, ((((((hbt).drewN (p1 + p2)).setCell 1 (.int .i64 ((k' : Int) + 1))).drewN (p3 + p4)).setCell 1 (.int .i64 (((k' + 1 : Nat) : Int) + 1))).drewN (p5 + p6)).setCell 2 _⟩
                                | some v =>
                                  rw [hh] at hlw
                                  dsimp only at hlw
                                  have hv16 := hexI_lt _ v hh
                                  by_cases hv : 2 ≤ v ∧ v ≤ 6
                                  · rw [show escF s (k' + 1) = .error (k' + 2) by simp [escF, hk1, x4, hk2, hh, hv]] at hq
                                    subst hq
                                    have t1 : decide ((v : Int) < 2) = false := by simp; omega
                                    have t2 : decide ((7 : Int) ≤ (v : Int)) = false := by simp; omega
                                    go_wp2_with fail
                                    refine (rnext_any B s k' r _ hrd).mono ?_
                                    rw [d5]
                                    rintro e w' ⟨rfl, p1, rfl⟩
                                    go_wp2_with fail
                                    refine (plain_any _ _).mono ?_
                                    rw [show plainI 92 = false from rfl]
                                    rintro e w' ⟨rfl, rfl⟩
                                    go_wp2_with fail
                                    refine (ron_yes B s k' r _ (by omega) (Rr.drewN hrd (p1)) hk').mono ?_
                                    rintro e w' ⟨rfl, p2, rfl⟩
                                    go_wp2_with fail
                                    refine (rnext_any B s (k' + 1) r _ (Rr.at (Rr.set1 (Rr.drewN hrd (p1 + p2)) ((k' : Int) + 1)) (by omega : (k' : Int) + 1 = ((k' + 1 : Nat) : Int)))).mono ?_
                                    rw [x4]
                                    rintro e w' ⟨rfl, p3, rfl⟩
                                    go_wp2_with fail
                                    refine (ron_yes B s (k' + 1) r _ (by omega) (Rr.drewN (Rr.at (Rr.set1 (Rr.drewN hrd (p1 + p2)) ((k' : Int) + 1)) (by omega : (k' : Int) + 1 = ((k' + 1 : Nat) : Int))) (p3)) hk1).mono ?_
                                    rintro e w' ⟨rfl, p4, rfl⟩
                                    go_wp2_with fail
                                    refine (rnext_any B s (k' + 2) r _ (Rr.at (Rr.set1 (Rr.drewN (Rr.at (Rr.set1 (Rr.drewN hrd (p1 + p2)) ((k' : Int) + 1)) (by omega : (k' : Int) + 1 = ((k' + 1 : Nat) : Int))) (p3 + p4)) (((k' + 1 : Nat) : Int) + 1)) (by omega : ((k' + 1 : Nat) : Int) + 1 = ((k' + 2 : Nat) : Int)))).mono ?_
                                    rintro e w' ⟨rfl, p5, rfl⟩
                                    go_wp2_with fail
                                    refine (low_any _ _).mono ?_
                                    rw [hlw]
                                    rintro e w' ⟨rfl, rfl⟩
                                    go_wp2_with fail
                                    refine (ron_no B s (k' + 2) r _ (Rr.drewN (Rr.at (Rr.set1 (Rr.drewN (Rr.at (Rr.set1 (Rr.drewN hrd (p1 + p2)) ((k' : Int) + 1)) (by omega : (k' : Int) + 1 = ((k' + 1 : Nat) : Int))) (p3 + p4)) (((k' + 1 : Nat) : Int) + 1)) (by omega : ((k' + 1 : Nat) : Int) + 1 = ((k' + 2 : Nat) : Int))) (p5))).mono ?_
                                    rintro e w' ⟨rfl, p6, rfl⟩
                                    go_wp2
                                    go_ret
                                    exact ⟨⟨rfl, Rr.at (Rr.set2 (Rr.drewN (Rr.at (Rr.set1 (Rr.drewN (Rr.at (Rr.set1 (Rr.drewN hrd (p1 + p2)) ((k' : Int) + 1)) (by omega : (k' : Int) + 1 = ((k' + 1 : Nat) : Int))) (p3 + p4)) (((k' + 1 : Nat) : Int) + 1)) (by omega : ((k' + 1 : Nat) : Int) + 1 = ((k' + 2 : Nat) : Int))) (p5 + p6)) true) (by omega)⟩, ((((((hbt).drewN (p1 + p2)).setCell 1 (.int .i64 ((k' : Int) + 1))).drewN (p3 + p4)).setCell 1 (.int .i64 (((k' + 1 : Nat) : Int) + 1))).drewN (p5 + p6)).setCell 2 _⟩
                                  · have tv : (decide ((v : Int) < 2) = true ∧ v < 2) ∨ (decide ((v : Int) < 2) = false ∧ decide ((7 : Int) ≤ (v : Int)) = true ∧ decide ((v : Int) < 16) = true ∧ 7 ≤ v) := by
                                      rcases Nat.lt_or_ge v 2 with hv2 | hv2
                                      · exact .inl ⟨by simp; omega, hv2⟩
                                      · exact .inr ⟨by simp; omega, by simp; omega, by simp; omega, by omega⟩
                                    by_cases hk3 : k' + 3 < s.size
                                    · obtain ⟨b0, b1⟩ := bAt_range s (k' + 3)
                                      have hlw2 := low_at (bAt s (k' + 3)) b0 b1
                                      cases hl : hexI (bAt s (k' + 3)) with
                                      | none =>
                                        rw [hl] at hlw2
                                        rw [show escF s (k' + 1) = .error (k' + 3) by simp [escF, hk1, x4, hk2, hh, hv, hk3, hl]] at hq
                                        subst hq
                                        rcases tv with ⟨t1, tw⟩ | ⟨t1, t2, t3, tw⟩
                                        · go_wp2_with fail
                                          refine (rnext_any B s k' r _ hrd).mono ?_
                                          rw [d5]
                                          rintro e w' ⟨rfl, p1, rfl⟩
                                          go_wp2_with fail
                                          refine (plain_any _ _).mono ?_
                                          rw [show plainI 92 = false from rfl]
                                          rintro e w' ⟨rfl, rfl⟩
                                          go_wp2_with fail
                                          refine (ron_yes B s k' r _ (by omega) (Rr.drewN hrd (p1)) hk').mono ?_
                                          rintro e w' ⟨rfl, p2, rfl⟩
                                          go_wp2_with fail
                                          refine (rnext_any B s (k' + 1) r _ (Rr.at (Rr.set1 (Rr.drewN hrd (p1 + p2)) ((k' : Int) + 1)) (by omega : (k' : Int) + 1 = ((k' + 1 : Nat) : Int)))).mono ?_
                                          rw [x4]
                                          rintro e w' ⟨rfl, p3, rfl⟩
                                          go_wp2_with fail
                                          refine (ron_yes B s (k' + 1) r _ (by omega) (Rr.drewN (Rr.at (Rr.set1 (Rr.drewN hrd (p1 + p2)) ((k' : Int) + 1)) (by omega : (k' : Int) + 1 = ((k' + 1 : Nat) : Int))) (p3)) hk1).mono ?_
                                          rintro e w' ⟨rfl, p4, rfl⟩
                                          go_wp2_with fail
                                          refine (rnext_any B s (k' + 2) r _ (Rr.at (Rr.set1 (Rr.drewN (Rr.at (Rr.set1 (Rr.drewN hrd (p1 + p2)) ((k' : Int) + 1)) (by omega : (k' : Int) + 1 = ((k' + 1 : Nat) : Int))) (p3 + p4)) (((k' + 1 : Nat) : Int) + 1)) (by omega : ((k' + 1 : Nat) : Int) + 1 = ((k' + 2 : Nat) : Int)))).mono ?_
                                          rintro e w' ⟨rfl, p5, rfl⟩
                                          go_wp2_with fail
                                          refine (low_any _ _).mono ?_
                                          rw [hlw]
                                          rintro e w' ⟨rfl, rfl⟩
                                          go_wp2_with fail
                                          refine (ron_yes B s (k' + 2) r _ (by omega) (Rr.drewN (Rr.at (Rr.set1 (Rr.drewN (Rr.at (Rr.set1 (Rr.drewN hrd (p1 + p2)) ((k' : Int) + 1)) (by omega : (k' : Int) + 1 = ((k' + 1 : Nat) : Int))) (p3 + p4)) (((k' + 1 : Nat) : Int) + 1)) (by omega : ((k' + 1 : Nat) : Int) + 1 = ((k' + 2 : Nat) : Int))) (p5)) hk2).mono ?_
                                          rintro e w' ⟨rfl, p6, rfl⟩
                                          go_wp2_with fail
                                          refine (rnext_any B s (k' + 3) r _ (Rr.at (Rr.set1 (Rr.drewN (Rr.at (Rr.set1 (Rr.drewN (Rr.at (Rr.set1 (Rr.drewN hrd (p1 + p2)) ((k' : Int) + 1)) (by omega : (k' : Int) + 1 = ((k' + 1 : Nat) : Int))) (p3 + p4)) (((k' + 1 : Nat) : Int) + 1)) (by omega : ((k' + 1 : Nat) : Int) + 1 = ((k' + 2 : Nat) : Int))) (p5 + p6)) (((k' + 2 : Nat) : Int) + 1)) (by omega : ((k' + 2 : Nat) : Int) + 1 = ((k' + 3 : Nat) : Int)))).mono ?_
                                          rintro e w' ⟨rfl, p7, rfl⟩
                                          go_wp2_with fail
                                          refine (low_any _ _).mono ?_
                                          rw [hlw2]
                                          rintro e w' ⟨rfl, rfl⟩
                                          go_wp2_with fail
                                          refine (ron_no B s (k' + 3) r _ (Rr.drewN (Rr.at (Rr.set1 (Rr.drewN (Rr.at (Rr.set1 (Rr.drewN (Rr.at (Rr.set1 (Rr.drewN hrd (p1 + p2)) ((k' : Int) + 1)) (by omega : (k' : Int) + 1 = ((k' + 1 : Nat) : Int))) (p3 + p4)) (((k' + 1 : Nat) : Int) + 1)) (by omega : ((k' + 1 : Nat) : Int) + 1 = ((k' + 2 : Nat) : Int))) (p5 + p6)) (((k' + 2 : Nat) : Int) + 1)) (by omega : ((k' + 2 : Nat) : Int) + 1 = ((k' + 3 : Nat) : Int))) (p7))).mono ?_
                                          rintro e w' ⟨rfl, p8, rfl⟩
                                          go_wp2
                                          go_ret
                                          exact ⟨⟨rfl, Rr.at (Rr.set2 (Rr.drewN (Rr.at (Rr.set1 (Rr.drewN (Rr.at (Rr.set1 (Rr.drewN (Rr.at (Rr.set1 (Rr.drewN hrd (p1 + p2)) ((k' : Int) + 1)) (by omega : (k' : Int) + 1 = ((k' + 1 : Nat) : Int))) (p3 + p4)) (((k' + 1 : Nat) : Int) + 1)) (by omega : ((k' + 1 : Nat) : Int) + 1 = ((k' + 2 : Nat) : Int))) (p5 + p6)) (((k' + 2 : Nat) : Int) + 1)) (by omega : ((k' + 2 : Nat) : Int) + 1 = ((k' + 3 : Nat) : Int))) (p7 + p8)) true) (by omega)⟩, ((((((((hbt).drewN (p1 + p2)).setCell 1 (.int .i64 ((k' : Int) + 1))).drewN (p3 + p4)).setCell 1 (.int .i64 (((k' + 1 : Nat) : Int) + 1))).drewN (p5 + p6)).setCell 1 (.int .i64 (((k' + 2 : Nat) : Int) + 1))).drewN (p7 + p8)).setCell 2 _⟩
                                        · go_wp2_with fail
                                          refine (rnext_any B s k' r _ hrd).mono ?_
                                          rw [d5]
                                          rintro e w' ⟨rfl, p1, rfl⟩
                                          go_wp2_with fail
                                          refine (plain_any _ _).mono ?_
                                          rw [show plainI 92 = false from rfl]
                                          rintro e w' ⟨rfl, rfl⟩
                                          go_wp2_with fail
                                          refine (ron_yes B s k' r _ (by omega) (Rr.drewN hrd (p1)) hk').mono ?_
                                          rintro e w' ⟨rfl, p2, rfl⟩
                                          go_wp2_with fail
                                          refine (rnext_any B s (k' + 1) r _ (Rr.at (Rr.set1 (Rr.drewN hrd (p1 + p2)) ((k' : Int) + 1)) (by omega : (k' : Int) + 1 = ((k' + 1 : Nat) : Int)))).mono ?_
                                          rw [x4]
                                          rintro e w' ⟨rfl, p3, rfl⟩
                                          go_wp2_with fail
                                          refine (ron_yes B s (k' + 1) r _ (by omega) (Rr.drewN (Rr.at (Rr.set1 (Rr.drewN hrd (p1 + p2)) ((k' : Int) + 1)) (by omega : (k' : Int) + 1 = ((k' + 1 : Nat) : Int))) (p3)) hk1).mono ?_
                                          rintro e w' ⟨rfl, p4, rfl⟩
                                          go_wp2_with fail
                                          refine (rnext_any B s (k' + 2) r _ (Rr.at (Rr.set1 (Rr.drewN (Rr.at (Rr.set1 (Rr.drewN hrd (p1 + p2)) ((k' : Int) + 1)) (by omega : (k' : Int) + 1 = ((k' + 1 : Nat) : Int))) (p3 + p4)) (((k' + 1 : Nat) : Int) + 1)) (by omega : ((k' + 1 : Nat) : Int) + 1 = ((k' + 2 : Nat) : Int)))).mono ?_
                                          rintro e w' ⟨rfl, p5, rfl⟩
                                          go_wp2_with fail
                                          refine (low_any _ _).mono ?_
                                          rw [hlw]
                                          rintro e w' ⟨rfl, rfl⟩
                                          go_wp2_with fail
                                          refine (ron_yes B s (k' + 2) r _ (by omega) (Rr.drewN (Rr.at (Rr.set1 (Rr.drewN (Rr.at (Rr.set1 (Rr.drewN hrd (p1 + p2)) ((k' : Int) + 1)) (by omega : (k' : Int) + 1 = ((k' + 1 : Nat) : Int))) (p3 + p4)) (((k' + 1 : Nat) : Int) + 1)) (by omega : ((k' + 1 : Nat) : Int) + 1 = ((k' + 2 : Nat) : Int))) (p5)) hk2).mono ?_
                                          rintro e w' ⟨rfl, p6, rfl⟩
                                          go_wp2_with fail
                                          refine (rnext_any B s (k' + 3) r _ (Rr.at (Rr.set1 (Rr.drewN (Rr.at (Rr.set1 (Rr.drewN (Rr.at (Rr.set1 (Rr.drewN hrd (p1 + p2)) ((k' : Int) + 1)) (by omega : (k' : Int) + 1 = ((k' + 1 : Nat) : Int))) (p3 + p4)) (((k' + 1 : Nat) : Int) + 1)) (by omega : ((k' + 1 : Nat) : Int) + 1 = ((k' + 2 : Nat) : Int))) (p5 + p6)) (((k' + 2 : Nat) : Int) + 1)) (by omega : ((k' + 2 : Nat) : Int) + 1 = ((k' + 3 : Nat) : Int)))).mono ?_
                                          rintro e w' ⟨rfl, p7, rfl⟩
                                          go_wp2_with fail
                                          refine (low_any _ _).mono ?_
                                          rw [hlw2]
                                          rintro e w' ⟨rfl, rfl⟩
                                          go_wp2_with fail
                                          refine (ron_no B s (k' + 3) r _ (Rr.drewN (Rr.at (Rr.set1 (Rr.drewN (Rr.at (Rr.set1 (Rr.drewN (Rr.at (Rr.set1 (Rr.drewN hrd (p1 + p2)) ((k' : Int) + 1)) (by omega : (k' : Int) + 1 = ((k' + 1 : Nat) : Int))) (p3 + p4)) (((k' + 1 : Nat) : Int) + 1)) (by omega : ((k' + 1 : Nat) : Int) + 1 = ((k' + 2 : Nat) : Int))) (p5 + p6)) (((k' + 2 : Nat) : Int) + 1)) (by omega : ((k' + 2 : Nat) : Int) + 1 = ((k' + 3 : Nat) : Int))) (p7))).mono ?_
                                          rintro e w' ⟨rfl, p8, rfl⟩
                                          go_wp2
                                          go_ret
                                          exact ⟨⟨rfl, Rr.at (Rr.set2 (Rr.drewN (Rr.at (Rr.set1 (Rr.drewN (Rr.at (Rr.set1 (Rr.drewN (Rr.at (Rr.set1 (Rr.drewN hrd (p1 + p2)) ((k' : Int) + 1)) (by omega : (k' : Int) + 1 = ((k' + 1 : Nat) : Int))) (p3 + p4)) (((k' + 1 : Nat) : Int) + 1)) (by omega : ((k' + 1 : Nat) : Int) + 1 = ((k' + 2 : Nat) : Int))) (p5 + p6)) (((k' + 2 : Nat) : Int) + 1)) (by omega : ((k' + 2 : Nat) : Int) + 1 = ((k' + 3 : Nat) : Int))) (p7 + p8)) true) (by omega)⟩, ((((((((hbt).drewN (p1 + p2)).setCell 1 (.int .i64 ((k' : Int) + 1))).drewN (p3 + p4)).setCell 1 (.int .i64 (((k' + 1 : Nat) : Int) + 1))).drewN (p5 + p6)).setCell 1 (.int .i64 (((k' + 2 : Nat) : Int) + 1))).drewN (p7 + p8)).setCell 2 _⟩
                                      | some l =>
                                        rw [hl] at hlw2
                                        dsimp only at hlw2
                                        have hl16 := hexI_lt _ l hl
                                        have u0 : decide ((l : Int) < 16) = true := by simp; omega
                                        by_cases hx : v = 0 ∧ l = 10 ∨ v = 7 ∧ l ≠ 15
                                        · rw [show escF s (k' + 1) = .error (k' + 3) by simp [escF, hk1, x4, hk2, hh, hv, hk3, hl, hx]] at hq
                                          subst hq
                                          rcases tv with ⟨t1, tw⟩ | ⟨t1, t2, t3, tw⟩
                                          · have u1 : ((16 * (v : Int) + (l : Int)) != 10) = false := by simp; omega
                                            go_wp2_with fail
                                            refine (rnext_any B s k' r _ hrd).mono ?_
                                            rw [d5]
                                            rintro e w' ⟨rfl, p1, rfl⟩
                                            go_wp2_with fail
                                            refine (plain_any _ _).mono ?_
                                            rw [show plainI 92 = false from rfl]
                                            rintro e w' ⟨rfl, rfl⟩
                                            go_wp2_with fail
                                            refine (ron_yes B s k' r _ (by omega) (Rr.drewN hrd (p1)) hk').mono ?_
                                            rintro e w' ⟨rfl, p2, rfl⟩
                                            go_wp2_with fail
                                            refine (rnext_any B s (k' + 1) r _ (Rr.at (Rr.set1 (Rr.drewN hrd (p1 + p2)) ((k' : Int) + 1)) (by omega : (k' : Int) + 1 = ((k' + 1 : Nat) : Int)))).mono ?_
                                            rw [x4]
                                            rintro e w' ⟨rfl, p3, rfl⟩
                                            go_wp2_with fail
                                            refine (ron_yes B s (k' + 1) r _ (by omega) (Rr.drewN (Rr.at (Rr.set1 (Rr.drewN hrd (p1 + p2)) ((k' : Int) + 1)) (by omega : (k' : Int) + 1 = ((k' + 1 : Nat) : Int))) (p3)) hk1).mono ?_
                                            rintro e w' ⟨rfl, p4, rfl⟩
                                            go_wp2_with fail
                                            refine (rnext_any B s (k' + 2) r _ (Rr.at (Rr.set1 (Rr.drewN (Rr.at (Rr.set1 (Rr.drewN hrd (p1 + p2)) ((k' : Int) + 1)) (by omega : (k' : Int) + 1 = ((k' + 1 : Nat) : Int))) (p3 + p4)) (((k' + 1 : Nat) : Int) + 1)) (by omega : ((k' + 1 : Nat) : Int) + 1 = ((k' + 2 : Nat) : Int)))).mono ?_
                                            rintro e w' ⟨rfl, p5, rfl⟩
                                            go_wp2_with fail
                                            refine (low_any _ _).mono ?_
                                            rw [hlw]
                                            rintro e w' ⟨rfl, rfl⟩
                                            go_wp2_with fail
                                            refine (ron_yes B s (k' + 2) r _ (by omega) (Rr.drewN (Rr.at (Rr.set1 (Rr.drewN (Rr.at (Rr.set1 (Rr.drewN hrd (p1 + p2)) ((k' : Int) + 1)) (by omega : (k' : Int) + 1 = ((k' + 1 : Nat) : Int))) (p3 + p4)) (((k' + 1 : Nat) : Int) + 1)) (by omega : ((k' + 1 : Nat) : Int) + 1 = ((k' + 2 : Nat) : Int))) (p5)) hk2).mono ?_
                                            rintro e w' ⟨rfl, p6, rfl⟩
                                            go_wp2_with fail
                                            refine (rnext_any B s (k' + 3) r _ (Rr.at (Rr.set1 (Rr.drewN (Rr.at (Rr.set1 (Rr.drewN (Rr.at (Rr.set1 (Rr.drewN hrd (p1 + p2)) ((k' : Int) + 1)) (by omega : (k' : Int) + 1 = ((k' + 1 : Nat) : Int))) (p3 + p4)) (((k' + 1 : Nat) : Int) + 1)) (by omega : ((k' + 1 : Nat) : Int) + 1 = ((k' + 2 : Nat) : Int))) (p5 + p6)) (((k' + 2 : Nat) : Int) + 1)) (by omega : ((k' + 2 : Nat) : Int) + 1 = ((k' + 3 : Nat) : Int)))).mono ?_
                                            rintro e w' ⟨rfl, p7, rfl⟩
                                            go_wp2_with fail
                                            refine (low_any _ _).mono ?_
                                            rw [hlw2]
                                            rintro e w' ⟨rfl, rfl⟩
                                            go_wp2_with fail
                                            refine (ron_no B s (k' + 3) r _ (Rr.drewN (Rr.at (Rr.set1 (Rr.drewN (Rr.at (Rr.set1 (Rr.drewN (Rr.at (Rr.set1 (Rr.drewN hrd (p1 + p2)) ((k' : Int) + 1)) (by omega : (k' : Int) + 1 = ((k' + 1 : Nat) : Int))) (p3 + p4)) (((k' + 1 : Nat) : Int) + 1)) (by omega : ((k' + 1 : Nat) : Int) + 1 = ((k' + 2 : Nat) : Int))) (p5 + p6)) (((k' + 2 : Nat) : Int) + 1)) (by omega : ((k' + 2 : Nat) : Int) + 1 = ((k' + 3 : Nat) : Int))) (p7))).mono ?_
                                            rintro e w' ⟨rfl, p8, rfl⟩
                                            go_wp2
                                            go_ret
                                            exact ⟨⟨rfl, Rr.at (Rr.set2 (Rr.drewN (Rr.at (Rr.set1 (Rr.drewN (Rr.at (Rr.set1 (Rr.drewN (Rr.at (Rr.set1 (Rr.drewN hrd (p1 + p2)) ((k' : Int) + 1)) (by omega : (k' : Int) + 1 = ((k' + 1 : Nat) : Int))) (p3 + p4)) (((k' + 1 : Nat) : Int) + 1)) (by omega : ((k' + 1 : Nat) : Int) + 1 = ((k' + 2 : Nat) : Int))) (p5 + p6)) (((k' + 2 : Nat) : Int) + 1)) (by omega : ((k' + 2 : Nat) : Int) + 1 = ((k' + 3 : Nat) : Int))) (p7 + p8)) true) (by omega)⟩, ((((((((hbt).drewN (p1 + p2)).setCell 1 (.int .i64 ((k' : Int) + 1))).drewN (p3 + p4)).setCell 1 (.int .i64 (((k' + 1 : Nat) : Int) + 1))).drewN (p5 + p6)).setCell 1 (.int .i64 (((k' + 2 : Nat) : Int) + 1))).drewN (p7 + p8)).setCell 2 _⟩
                                          · have u1 : ((16 * (v : Int) + (l : Int)) != 10) = true := by simp; omega
                                            have u2 : decide ((16 * (v : Int) + (l : Int)) < 32) = false := by simp; omega
                                            have u3 : decide (126 < (16 * (v : Int) + (l : Int))) = false := by simp; omega
                                            go_wp2_with fail
                                            refine (rnext_any B s k' r _ hrd).mono ?_
                                            rw [d5]
                                            rintro e w' ⟨rfl, p1, rfl⟩
                                            go_wp2_with fail
                                            refine (plain_any _ _).mono ?_
                                            rw [show plainI 92 = false from rfl]
                                            rintro e w' ⟨rfl, rfl⟩
                                            go_wp2_with fail
                                            refine (ron_yes B s k' r _ (by omega) (Rr.drewN hrd (p1)) hk').mono ?_
                                            rintro e w' ⟨rfl, p2, rfl⟩
                                            go_wp2_with fail
                                            refine (rnext_any B s (k' + 1) r _ (Rr.at (Rr.set1 (Rr.drewN hrd (p1 + p2)) ((k' : Int) + 1)) (by omega : (k' : Int) + 1 = ((k' + 1 : Nat) : Int)))).mono ?_
                                            rw [x4]
                                            rintro e w' ⟨rfl, p3, rfl⟩
                                            go_wp2_with fail
                                            refine (ron_yes B s (k' + 1) r _ (by omega) (Rr.drewN (Rr.at (Rr.set1 (Rr.drewN hrd (p1 + p2)) ((k' : Int) + 1)) (by omega : (k' : Int) + 1 = ((k' + 1 : Nat) : Int))) (p3)) hk1).mono ?_
                                            rintro e w' ⟨rfl, p4, rfl⟩
                                            go_wp2_with fail
                                            refine (rnext_any B s (k' + 2) r _ (Rr.at (Rr.set1 (Rr.drewN (Rr.at (Rr.set1 (Rr.drewN hrd (p1 + p2)) ((k' : Int) + 1)) (by omega : (k' : Int) + 1 = ((k' + 1 : Nat) : Int))) (p3 + p4)) (((k' + 1 : Nat) : Int) + 1)) (by omega : ((k' + 1 : Nat) : Int) + 1 = ((k' + 2 : Nat) : Int)))).mono ?_
                                            rintro e w' ⟨rfl, p5, rfl⟩
                                            go_wp2_with fail
                                            refine (low_any _ _).mono ?_
                                            rw [hlw]
                                            rintro e w' ⟨rfl, rfl⟩
                                            go_wp2_with fail
                                            refine (ron_yes B s (k' + 2) r _ (by omega) (Rr.drewN (Rr.at (Rr.set1 (Rr.drewN (Rr.at (Rr.set1 (Rr.drewN hrd (p1 + p2)) ((k' : Int) + 1)) (by omega : (k' : Int) + 1 = ((k' + 1 : Nat) : Int))) (p3 + p4)) (((k' + 1 : Nat) : Int) + 1)) (by omega : ((k' + 1 : Nat) : Int) + 1 = ((k' + 2 : Nat) : Int))) (p5)) hk2).mono ?_
                                            rintro e w' ⟨rfl, p6, rfl⟩
                                            go_wp2_with fail
                                            refine (rnext_any B s (k' + 3) r _ (Rr.at (Rr.set1 (Rr.drewN (Rr.at (Rr.set1 (Rr.drewN (Rr.at (Rr.set1 (Rr.drewN hrd (p1 + p2)) ((k' : Int) + 1)) (by omega : (k' : Int) + 1 = ((k' + 1 : Nat) : Int))) (p3 + p4)) (((k' + 1 : Nat) : Int) + 1)) (by omega : ((k' + 1 : Nat) : Int) + 1 = ((k' + 2 : Nat) : Int))) (p5 + p6)) (((k' + 2 : Nat) : Int) + 1)) (by omega : ((k' + 2 : Nat) : Int) + 1 = ((k' + 3 : Nat) : Int)))).mono ?_
                                            rintro e w' ⟨rfl, p7, rfl⟩
                                            go_wp2_with fail
                                            refine (low_any _ _).mono ?_
                                            rw [hlw2]
                                            rintro e w' ⟨rfl, rfl⟩
                                            go_wp2_with fail
                                            refine (ron_no B s (k' + 3) r _ (Rr.drewN (Rr.at (Rr.set1 (Rr.drewN (Rr.at (Rr.set1 (Rr.drewN (Rr.at (Rr.set1 (Rr.drewN hrd (p1 + p2)) ((k' : Int) + 1)) (by omega : (k' : Int) + 1 = ((k' + 1 : Nat) : Int))) (p3 + p4)) (((k' + 1 : Nat) : Int) + 1)) (by omega : ((k' + 1 : Nat) : Int) + 1 = ((k' + 2 : Nat) : Int))) (p5 + p6)) (((k' + 2 : Nat) : Int) + 1)) (by omega : ((k' + 2 : Nat) : Int) + 1 = ((k' + 3 : Nat) : Int))) (p7))).mono ?_
                                            rintro e w' ⟨rfl, p8, rfl⟩
                                            go_wp2
                                            go_ret
                                            exact ⟨⟨rfl, Rr.at (Rr.set2 (Rr.drewN (Rr.at (Rr.set1 (Rr.drewN (Rr.at (Rr.set1 (Rr.drewN (Rr.at (Rr.set1 (Rr.drewN hrd (p1 + p2)) ((k' : Int) + 1)) (by omega : (k' : Int) + 1 = ((k' + 1 : Nat) : Int))) (p3 + p4)) (((k' + 1 : Nat) : Int) + 1)) (by omega : ((k' + 1 : Nat) : Int) + 1 = ((k' + 2 : Nat) : Int))) (p5 + p6)) (((k' + 2 : Nat) : Int) + 1)) (by omega : ((k' + 2 : Nat) : Int) + 1 = ((k' + 3 : Nat) : Int))) (p7 + p8)) true) (by omega)⟩, ((((((((hbt).drewN (p1 + p2)).setCell 1 (.int .i64 ((k' : Int) + 1))).drewN (p3 + p4)).setCell 1 (.int .i64 (((k' + 1 : Nat) : Int) + 1))).drewN (p5 + p6)).setCell 1 (.int .i64 (((k' + 2 : Nat) : Int) + 1))).drewN (p7 + p8)).setCell 2 _⟩
                                        · rw [show escF s (k' + 1) = .ok (((16 * v + l : Nat) : Int), k' + 4) by simp [escF, hk1, x4, hk2, hh, hv, hk3, hl, hx]] at hq
                                          have Hq := Lib.hid hq
                                          clear hq
                                          have hcv : (16 * (v : Int) + (l : Int)) % 256 = 16 * (v : Int) + (l : Int) := by omega
                                          have hcn : ((16 * v + l : Nat) : Int) = 16 * (v : Int) + (l : Int) := by omega
                                          have Hcn := Lib.hid hcn
                                          clear hcn
                                          rcases tv with ⟨t1, tw⟩ | ⟨t1, t2, t3, tw⟩
                                          · have u1 : ((16 * (v : Int) + (l : Int)) != 10) = true := by simp; omega
                                            have u2 : decide ((16 * (v : Int) + (l : Int)) < 32) = true := by simp; omega
                                            go_wp2_with fail
                                            refine (rnext_any B s k' r _ hrd).mono ?_
                                            rw [d5]
                                            rintro e w' ⟨rfl, p1, rfl⟩
                                            go_wp2_with fail
                                            refine (plain_any _ _).mono ?_
                                            rw [show plainI 92 = false from rfl]
                                            rintro e w' ⟨rfl, rfl⟩
                                            go_wp2_with fail
                                            refine (ron_yes B s k' r _ (by omega) (Rr.drewN hrd (p1)) hk').mono ?_
                                            rintro e w' ⟨rfl, p2, rfl⟩
                                            go_wp2_with fail
                                            refine (rnext_any B s (k' + 1) r _ (Rr.at (Rr.set1 (Rr.drewN hrd (p1 + p2)) ((k' : Int) + 1)) (by omega : (k' : Int) + 1 = ((k' + 1 : Nat) : Int)))).mono ?_
                                            rw [x4]
                                            rintro e w' ⟨rfl, p3, rfl⟩
                                            go_wp2_with fail
                                            refine (ron_yes B s (k' + 1) r _ (by omega) (Rr.drewN (Rr.at (Rr.set1 (Rr.drewN hrd (p1 + p2)) ((k' : Int) + 1)) (by omega : (k' : Int) + 1 = ((k' + 1 : Nat) : Int))) (p3)) hk1).mono ?_
                                            rintro e w' ⟨rfl, p4, rfl⟩
                                            go_wp2_with fail
                                            refine (rnext_any B s (k' + 2) r _ (Rr.at (Rr.set1 (Rr.drewN (Rr.at (Rr.set1 (Rr.drewN hrd (p1 + p2)) ((k' : Int) + 1)) (by omega : (k' : Int) + 1 = ((k' + 1 : Nat) : Int))) (p3 + p4)) (((k' + 1 : Nat) : Int) + 1)) (by omega : ((k' + 1 : Nat) : Int) + 1 = ((k' + 2 : Nat) : Int)))).mono ?_
                                            rintro e w' ⟨rfl, p5, rfl⟩
                                            go_wp2_with fail
                                            refine (low_any _ _).mono ?_
                                            rw [hlw]
                                            rintro e w' ⟨rfl, rfl⟩
                                            go_wp2_with fail
                                            refine (ron_yes B s (k' + 2) r _ (by omega) (Rr.drewN (Rr.at (Rr.set1 (Rr.drewN (Rr.at (Rr.set1 (Rr.drewN hrd (p1 + p2)) ((k' : Int) + 1)) (by omega : (k' : Int) + 1 = ((k' + 1 : Nat) : Int))) (p3 + p4)) (((k' + 1 : Nat) : Int) + 1)) (by omega : ((k' + 1 : Nat) : Int) + 1 = ((k' + 2 : Nat) : Int))) (p5)) hk2).mono ?_
                                            rintro e w' ⟨rfl, p6, rfl⟩
                                            go_wp2_with fail
                                            refine (rnext_any B s (k' + 3) r _ (Rr.at (Rr.set1 (Rr.drewN (Rr.at (Rr.set1 (Rr.drewN (Rr.at (Rr.set1 (Rr.drewN hrd (p1 + p2)) ((k' : Int) + 1)) (by omega : (k' : Int) + 1 = ((k' + 1 : Nat) : Int))) (p3 + p4)) (((k' + 1 : Nat) : Int) + 1)) (by omega : ((k' + 1 : Nat) : Int) + 1 = ((k' + 2 : Nat) : Int))) (p5 + p6)) (((k' + 2 : Nat) : Int) + 1)) (by omega : ((k' + 2 : Nat) : Int) + 1 = ((k' + 3 : Nat) : Int)))).mono ?_
                                            rintro e w' ⟨rfl, p7, rfl⟩
                                            go_wp2_with fail
                                            refine (low_any _ _).mono ?_
                                            rw [hlw2]
                                            rintro e w' ⟨rfl, rfl⟩
                                            go_wp2_with fail
                                            refine (ron_yes B s (k' + 3) r _ (by omega) (Rr.drewN (Rr.at (Rr.set1 (Rr.drewN (Rr.at (Rr.set1 (Rr.drewN (Rr.at (Rr.set1 (Rr.drewN hrd (p1 + p2)) ((k' : Int) + 1)) (by omega : (k' : Int) + 1 = ((k' + 1 : Nat) : Int))) (p3 + p4)) (((k' + 1 : Nat) : Int) + 1)) (by omega : ((k' + 1 : Nat) : Int) + 1 = ((k' + 2 : Nat) : Int))) (p5 + p6)) (((k' + 2 : Nat) : Int) + 1)) (by omega : ((k' + 2 : Nat) : Int) + 1 = ((k' + 3 : Nat) : Int))) (p7)) hk3).mono ?_
                                            rintro e w' ⟨rfl, p8, rfl⟩
                                            have hownZ := own_but hown hB (((((((((But.refl B wr).drewN (p1 + p2)).setCell 1 (.int .i64 ((k' : Int) + 1))).drewN (p3 + p4)).setCell 1 (.int .i64 (((k' + 1 : Nat) : Int) + 1))).drewN (p5 + p6)).setCell 1 (.int .i64 (((k' + 2 : Nat) : Int) + 1))).drewN (p7 + p8)).setCell 1 (.int .i64 (((k' + 3 : Nat) : Int) + 1)))
                                            have HownZ := Lib.hid hownZ
                                            have HrdZ := Lib.hid (Rr.at (Rr.set1 (Rr.drewN (Rr.at (Rr.set1 (Rr.drewN (Rr.at (Rr.set1 (Rr.drewN (Rr.at (Rr.set1 (Rr.drewN hrd (p1 + p2)) ((k' : Int) + 1)) (by omega : (k' : Int) + 1 = ((k' + 1 : Nat) : Int))) (p3 + p4)) (((k' + 1 : Nat) : Int) + 1)) (by omega : ((k' + 1 : Nat) : Int) + 1 = ((k' + 2 : Nat) : Int))) (p5 + p6)) (((k' + 2 : Nat) : Int) + 1)) (by omega : ((k' + 2 : Nat) : Int) + 1 = ((k' + 3 : Nat) : Int))) (p7 + p8)) (((k' + 3 : Nat) : Int) + 1)) (by omega : ((k' + 3 : Nat) : Int) + 1 = ((k' + 4 : Nat) : Int)))
                                            have HbtZ := Lib.hid (((((((((hbt).drewN (p1 + p2)).setCell 1 (.int .i64 ((k' : Int) + 1))).drewN (p3 + p4)).setCell 1 (.int .i64 (((k' + 1 : Nat) : Int) + 1))).drewN (p5 + p6)).setCell 1 (.int .i64 (((k' + 2 : Nat) : Int) + 1))).drewN (p7 + p8)).setCell 1 (.int .i64 (((k' + 3 : Nat) : Int) + 1)))
                                            clear hownZ
                                            go_wp2_with (at_builtin; refine wpList_append_own _ rfl _ _ 83 rfl w.heap.size 5 i0 (.int .u8 0) 1 1 Tryd.underlying83 hi hz0 hz1 hz2 rfl (by decide) _ bs.length (byteCells bs) rfl (HownZ.out.alloc _) _ 1 1 [.int .u8 ((16 * (v : Int) + (l : Int)))] rfl rfl (cell_one_at _ _ (by simp) _ _) (by simp [Value.oneCell']) (by unfold maxLen; omega) (by omega) (by simp; omega) ?_; intro v' w1 hown1 hgrow1 _; have hrd1 := rr_grown (HownZ.out.alloc _) hB hgrow1 (Rr.alloc HrdZ.out _); have hbt1 := but_grown (HownZ.out.alloc _) (HbtZ.out.alloc _) (Nat.le_refl _) hgrow1; have c11 := hrd1.c1; have f11 := hrd1.f 1; have c12 := hrd1.c2; have HO1 := Lib.hid hown1; have HB1 := Lib.hid hbt1; have HR1 := Lib.hid hrd1; clear hown1 hgrow1 hbt1 hrd1)
                                            refine ⟨⟨k' + 4, n, bs ++ [YtmiipfdndgjndaaDoor.u8 (((16 * v + l : Nat) : Int))], Rr.at HR1.out (by omega), HB1.out, ?_, by omega, Hq.out, by simp; omega, by omega⟩, ?_⟩
                                            · rw [List.length_append, byteCells_append, Hcn.out, byteCells_u8 _ (by omega) (by omega)]
                                              exact HO1.out
                                            · rw [ratOf (k := k' + 4) (Rr.at HR1.out (by omega)), ratOf hrd]; omega
                                          · have u1 : ((16 * (v : Int) + (l : Int)) != 10) = true := by simp; omega
                                            have u2 : decide ((16 * (v : Int) + (l : Int)) < 32) = false := by simp; omega
                                            have u3 : decide (126 < (16 * (v : Int) + (l : Int))) = true := by simp; omega
                                            go_wp2_with fail
                                            refine (rnext_any B s k' r _ hrd).mono ?_
                                            rw [d5]
                                            rintro e w' ⟨rfl, p1, rfl⟩
                                            go_wp2_with fail
                                            refine (plain_any _ _).mono ?_
                                            rw [show plainI 92 = false from rfl]
                                            rintro e w' ⟨rfl, rfl⟩
                                            go_wp2_with fail
                                            refine (ron_yes B s k' r _ (by omega) (Rr.drewN hrd (p1)) hk').mono ?_
                                            rintro e w' ⟨rfl, p2, rfl⟩
                                            go_wp2_with fail
                                            refine (rnext_any B s (k' + 1) r _ (Rr.at (Rr.set1 (Rr.drewN hrd (p1 + p2)) ((k' : Int) + 1)) (by omega : (k' : Int) + 1 = ((k' + 1 : Nat) : Int)))).mono ?_
                                            rw [x4]
                                            rintro e w' ⟨rfl, p3, rfl⟩
                                            go_wp2_with fail
                                            refine (ron_yes B s (k' + 1) r _ (by omega) (Rr.drewN (Rr.at (Rr.set1 (Rr.drewN hrd (p1 + p2)) ((k' : Int) + 1)) (by omega : (k' : Int) + 1 = ((k' + 1 : Nat) : Int))) (p3)) hk1).mono ?_
                                            rintro e w' ⟨rfl, p4, rfl⟩
                                            go_wp2_with fail
                                            refine (rnext_any B s (k' + 2) r _ (Rr.at (Rr.set1 (Rr.drewN (Rr.at (Rr.set1 (Rr.drewN hrd (p1 + p2)) ((k' : Int) + 1)) (by omega : (k' : Int) + 1 = ((k' + 1 : Nat) : Int))) (p3 + p4)) (((k' + 1 : Nat) : Int) + 1)) (by omega : ((k' + 1 : Nat) : Int) + 1 = ((k' + 2 : Nat) : Int)))).mono ?_
                                            rintro e w' ⟨rfl, p5, rfl⟩
                                            go_wp2_with fail
                                            refine (low_any _ _).mono ?_
                                            rw [hlw]
                                            rintro e w' ⟨rfl, rfl⟩
                                            go_wp2_with fail
                                            refine (ron_yes B s (k' + 2) r _ (by omega) (Rr.drewN (Rr.at (Rr.set1 (Rr.drewN (Rr.at (Rr.set1 (Rr.drewN hrd (p1 + p2)) ((k' : Int) + 1)) (by omega : (k' : Int) + 1 = ((k' + 1 : Nat) : Int))) (p3 + p4)) (((k' + 1 : Nat) : Int) + 1)) (by omega : ((k' + 1 : Nat) : Int) + 1 = ((k' + 2 : Nat) : Int))) (p5)) hk2).mono ?_
                                            rintro e w' ⟨rfl, p6, rfl⟩
                                            go_wp2_with fail
                                            refine (rnext_any B s (k' + 3) r _ (Rr.at (Rr.set1 (Rr.drewN (Rr.at (Rr.set1 (Rr.drewN (Rr.at (Rr.set1 (Rr.drewN hrd (p1 + p2)) ((k' : Int) + 1)) (by omega : (k' : Int) + 1 = ((k' + 1 : Nat) : Int))) (p3 + p4)) (((k' + 1 : Nat) : Int) + 1)) (by omega : ((k' + 1 : Nat) : Int) + 1 = ((k' + 2 : Nat) : Int))) (p5 + p6)) (((k' + 2 : Nat) : Int) + 1)) (by omega : ((k' + 2 : Nat) : Int) + 1 = ((k' + 3 : Nat) : Int)))).mono ?_
                                            rintro e w' ⟨rfl, p7, rfl⟩
                                            go_wp2_with fail
                                            refine (low_any _ _).mono ?_
                                            rw [hlw2]
                                            rintro e w' ⟨rfl, rfl⟩
                                            go_wp2_with fail
                                            refine (ron_yes B s (k' + 3) r _ (by omega) (Rr.drewN (Rr.at (Rr.set1 (Rr.drewN (Rr.at (Rr.set1 (Rr.drewN (Rr.at (Rr.set1 (Rr.drewN hrd (p1 + p2)) ((k' : Int) + 1)) (by omega : (k' : Int) + 1 = ((k' + 1 : Nat) : Int))) (p3 + p4)) (((k' + 1 : Nat) : Int) + 1)) (by omega : ((k' + 1 : Nat) : Int) + 1 = ((k' + 2 : Nat) : Int))) (p5 + p6)) (((k' + 2 : Nat) : Int) + 1)) (by omega : ((k' + 2 : Nat) : Int) + 1 = ((k' + 3 : Nat) : Int))) (p7)) hk3).mono ?_
                                            rintro e w' ⟨rfl, p8, rfl⟩
                                            have hownZ := own_but hown hB (((((((((But.refl B wr).drewN (p1 + p2)).setCell 1 (.int .i64 ((k' : Int) + 1))).drewN (p3 + p4)).setCell 1 (.int .i64 (((k' + 1 : Nat) : Int) + 1))).drewN (p5 + p6)).setCell 1 (.int .i64 (((k' + 2 : Nat) : Int) + 1))).drewN (p7 + p8)).setCell 1 (.int .i64 (((k' + 3 : Nat) : Int) + 1)))
                                            have HownZ := Lib.hid hownZ
                                            have HrdZ := Lib.hid (Rr.at (Rr.set1 (Rr.drewN (Rr.at (Rr.set1 (Rr.drewN (Rr.at (Rr.set1 (Rr.drewN (Rr.at (Rr.set1 (Rr.drewN hrd (p1 + p2)) ((k' : Int) + 1)) (by omega : (k' : Int) + 1 = ((k' + 1 : Nat) : Int))) (p3 + p4)) (((k' + 1 : Nat) : Int) + 1)) (by omega : ((k' + 1 : Nat) : Int) + 1 = ((k' + 2 : Nat) : Int))) (p5 + p6)) (((k' + 2 : Nat) : Int) + 1)) (by omega : ((k' + 2 : Nat) : Int) + 1 = ((k' + 3 : Nat) : Int))) (p7 + p8)) (((k' + 3 : Nat) : Int) + 1)) (by omega : ((k' + 3 : Nat) : Int) + 1 = ((k' + 4 : Nat) : Int)))
                                            have HbtZ := Lib.hid (((((((((hbt).drewN (p1 + p2)).setCell 1 (.int .i64 ((k' : Int) + 1))).drewN (p3 + p4)).setCell 1 (.int .i64 (((k' + 1 : Nat) : Int) + 1))).drewN (p5 + p6)).setCell 1 (.int .i64 (((k' + 2 : Nat) : Int) + 1))).drewN (p7 + p8)).setCell 1 (.int .i64 (((k' + 3 : Nat) : Int) + 1)))
                                            clear hownZ
                                            go_wp2_with (at_builtin; refine wpList_append_own _ rfl _ _ 83 rfl w.heap.size 5 i0 (.int .u8 0) 1 1 Tryd.underlying83 hi hz0 hz1 hz2 rfl (by decide) _ bs.length (byteCells bs) rfl (HownZ.out.alloc _) _ 1 1 [.int .u8 ((16 * (v : Int) + (l : Int)))] rfl rfl (cell_one_at _ _ (by simp) _ _) (by simp [Value.oneCell']) (by unfold maxLen; omega) (by omega) (by simp; omega) ?_; intro v' w1 hown1 hgrow1 _; have hrd1 := rr_grown (HownZ.out.alloc _) hB hgrow1 (Rr.alloc HrdZ.out _); have hbt1 := but_grown (HownZ.out.alloc _) (HbtZ.out.alloc _) (Nat.le_refl _) hgrow1; have c11 := hrd1.c1; have f11 := hrd1.f 1; have c12 := hrd1.c2; have HO1 := Lib.hid hown1; have HB1 := Lib.hid hbt1; have HR1 := Lib.hid hrd1; clear hown1 hgrow1 hbt1 hrd1)
                                            refine ⟨⟨k' + 4, n, bs ++ [YtmiipfdndgjndaaDoor.u8 (((16 * v + l : Nat) : Int))], Rr.at HR1.out (by omega), HB1.out, ?_, by omega, Hq.out, by simp; omega, by omega⟩, ?_⟩
                                            · rw [List.length_append, byteCells_append, Hcn.out, byteCells_u8 _ (by omega) (by omega)]
                                              exact HO1.out
                                            · rw [ratOf (k := k' + 4) (Rr.at HR1.out (by omega)), ratOf hrd]; omega
                                    · rw [show escF s (k' + 1) = .error s.size by simp [escF, hk1, x4, hk2, hh, hv, hk3]] at hq
                                      subst hq
                                      have hb0 := bAt_out s (k' + 3) hk3
                                      rcases tv with ⟨t1, tw⟩ | ⟨t1, t2, t3, tw⟩
                                      · go_wp2_with fail
                                        refine (rnext_any B s k' r _ hrd).mono ?_
                                        rw [d5]
                                        rintro e w' ⟨rfl, p1, rfl⟩
                                        go_wp2_with fail
                                        refine (plain_any _ _).mono ?_
                                        rw [show plainI 92 = false from rfl]
                                        rintro e w' ⟨rfl, rfl⟩
                                        go_wp2_with fail
                                        refine (ron_yes B s k' r _ (by omega) (Rr.drewN hrd (p1)) hk').mono ?_
                                        rintro e w' ⟨rfl, p2, rfl⟩
                                        go_wp2_with fail
                                        refine (rnext_any B s (k' + 1) r _ (Rr.at (Rr.set1 (Rr.drewN hrd (p1 + p2)) ((k' : Int) + 1)) (by omega : (k' : Int) + 1 = ((k' + 1 : Nat) : Int)))).mono ?_
                                        rw [x4]
                                        rintro e w' ⟨rfl, p3, rfl⟩
                                        go_wp2_with fail
                                        refine (ron_yes B s (k' + 1) r _ (by omega) (Rr.drewN (Rr.at (Rr.set1 (Rr.drewN hrd (p1 + p2)) ((k' : Int) + 1)) (by omega : (k' : Int) + 1 = ((k' + 1 : Nat) : Int))) (p3)) hk1).mono ?_
                                        rintro e w' ⟨rfl, p4, rfl⟩
                                        go_wp2_with fail
                                        refine (rnext_any B s (k' + 2) r _ (Rr.at (Rr.set1 (Rr.drewN (Rr.at (Rr.set1 (Rr.drewN hrd (p1 + p2)) ((k' : Int) + 1)) (by omega : (k' : Int) + 1 = ((k' + 1 : Nat) : Int))) (p3 + p4)) (((k' + 1 : Nat) : Int) + 1)) (by omega : ((k' + 1 : Nat) : Int) + 1 = ((k' + 2 : Nat) : Int)))).mono ?_
                                        rintro e w' ⟨rfl, p5, rfl⟩
                                        go_wp2_with fail
                                        refine (low_any _ _).mono ?_
                                        rw [hlw]
                                        rintro e w' ⟨rfl, rfl⟩
                                        go_wp2_with fail
                                        refine (ron_yes B s (k' + 2) r _ (by omega) (Rr.drewN (Rr.at (Rr.set1 (Rr.drewN (Rr.at (Rr.set1 (Rr.drewN hrd (p1 + p2)) ((k' : Int) + 1)) (by omega : (k' : Int) + 1 = ((k' + 1 : Nat) : Int))) (p3 + p4)) (((k' + 1 : Nat) : Int) + 1)) (by omega : ((k' + 1 : Nat) : Int) + 1 = ((k' + 2 : Nat) : Int))) (p5)) hk2).mono ?_
                                        rintro e w' ⟨rfl, p6, rfl⟩
                                        go_wp2_with fail
                                        refine (rnext_any B s (k' + 3) r _ (Rr.at (Rr.set1 (Rr.drewN (Rr.at (Rr.set1 (Rr.drewN (Rr.at (Rr.set1 (Rr.drewN hrd (p1 + p2)) ((k' : Int) + 1)) (by omega : (k' : Int) + 1 = ((k' + 1 : Nat) : Int))) (p3 + p4)) (((k' + 1 : Nat) : Int) + 1)) (by omega : ((k' + 1 : Nat) : Int) + 1 = ((k' + 2 : Nat) : Int))) (p5 + p6)) (((k' + 2 : Nat) : Int) + 1)) (by omega : ((k' + 2 : Nat) : Int) + 1 = ((k' + 3 : Nat) : Int)))).mono ?_
                                        rw [hb0]
                                        rintro e w' ⟨rfl, p7, rfl⟩
                                        go_wp2_with fail
                                        refine (low_any _ _).mono ?_
                                        rw [show lowI 0 = 16 from rfl]
                                        rintro e w' ⟨rfl, rfl⟩
                                        go_wp2_with fail
                                        refine (ron_no B s (k' + 3) r _ (Rr.drewN (Rr.at (Rr.set1 (Rr.drewN (Rr.at (Rr.set1 (Rr.drewN (Rr.at (Rr.set1 (Rr.drewN hrd (p1 + p2)) ((k' : Int) + 1)) (by omega : (k' : Int) + 1 = ((k' + 1 : Nat) : Int))) (p3 + p4)) (((k' + 1 : Nat) : Int) + 1)) (by omega : ((k' + 1 : Nat) : Int) + 1 = ((k' + 2 : Nat) : Int))) (p5 + p6)) (((k' + 2 : Nat) : Int) + 1)) (by omega : ((k' + 2 : Nat) : Int) + 1 = ((k' + 3 : Nat) : Int))) (p7))).mono ?_
                                        rintro e w' ⟨rfl, p8, rfl⟩
                                        go_wp2
                                        go_ret
                                        exact ⟨⟨rfl, Rr.at (Rr.set2 (Rr.drewN (Rr.at (Rr.set1 (Rr.drewN (Rr.at (Rr.set1 (Rr.drewN (Rr.at (Rr.set1 (Rr.drewN hrd (p1 + p2)) ((k' : Int) + 1)) (by omega : (k' : Int) + 1 = ((k' + 1 : Nat) : Int))) (p3 + p4)) (((k' + 1 : Nat) : Int) + 1)) (by omega : ((k' + 1 : Nat) : Int) + 1 = ((k' + 2 : Nat) : Int))) (p5 + p6)) (((k' + 2 : Nat) : Int) + 1)) (by omega : ((k' + 2 : Nat) : Int) + 1 = ((k' + 3 : Nat) : Int))) (p7 + p8)) true) (by omega)⟩, ((((((((hbt).drewN (p1 + p2)).setCell 1 (.int .i64 ((k' : Int) + 1))).drewN (p3 + p4)).setCell 1 (.int .i64 (((k' + 1 : Nat) : Int) + 1))).drewN (p5 + p6)).setCell 1 (.int .i64 (((k' + 2 : Nat) : Int) + 1))).drewN (p7 + p8)).setCell 2 _⟩
                                      · go_wp2_with fail
                                        refine (rnext_any B s k' r _ hrd).mono ?_
                                        rw [d5]
                                        rintro e w' ⟨rfl, p1, rfl⟩
                                        go_wp2_with fail
                                        refine (plain_any _ _).mono ?_
                                        rw [show plainI 92 = false from rfl]
                                        rintro e w' ⟨rfl, rfl⟩
                                        go_wp2_with fail
                                        refine (ron_yes B s k' r _ (by omega) (Rr.drewN hrd (p1)) hk').mono ?_
                                        rintro e w' ⟨rfl, p2, rfl⟩
                                        go_wp2_with fail
                                        refine (rnext_any B s (k' + 1) r _ (Rr.at (Rr.set1 (Rr.drewN hrd (p1 + p2)) ((k' : Int) + 1)) (by omega : (k' : Int) + 1 = ((k' + 1 : Nat) : Int)))).mono ?_
                                        rw [x4]
                                        rintro e w' ⟨rfl, p3, rfl⟩
                                        go_wp2_with fail
                                        refine (ron_yes B s (k' + 1) r _ (by omega) (Rr.drewN (Rr.at (Rr.set1 (Rr.drewN hrd (p1 + p2)) ((k' : Int) + 1)) (by omega : (k' : Int) + 1 = ((k' + 1 : Nat) : Int))) (p3)) hk1).mono ?_
                                        rintro e w' ⟨rfl, p4, rfl⟩
                                        go_wp2_with fail
                                        refine (rnext_any B s (k' + 2) r _ (Rr.at (Rr.set1 (Rr.drewN (Rr.at (Rr.set1 (Rr.drewN hrd (p1 + p2)) ((k' : Int) + 1)) (by omega : (k' : Int) + 1 = ((k' + 1 : Nat) : Int))) (p3 + p4)) (((k' + 1 : Nat) : Int) + 1)) (by omega : ((k' + 1 : Nat) : Int) + 1 = ((k' + 2 : Nat) : Int)))).mono ?_
                                        rintro e w' ⟨rfl, p5, rfl⟩
                                        go_wp2_with fail
                                        refine (low_any _ _).mono ?_
                                        rw [hlw]
                                        rintro e w' ⟨rfl, rfl⟩
                                        go_wp2_with fail
                                        refine (ron_yes B s (k' + 2) r _ (by omega) (Rr.drewN (Rr.at (Rr.set1 (Rr.drewN (Rr.at (Rr.set1 (Rr.drewN hrd (p1 + p2)) ((k' : Int) + 1)) (by omega : (k' : Int) + 1 = ((k' + 1 : Nat) : Int))) (p3 + p4)) (((k' + 1 : Nat) : Int) + 1)) (by omega : ((k' + 1 : Nat) : Int) + 1 = ((k' + 2 : Nat) : Int))) (p5)) hk2).mono ?_
                                        rintro e w' ⟨rfl, p6, rfl⟩
                                        go_wp2_with fail
                                        refine (rnext_any B s (k' + 3) r _ (Rr.at (Rr.set1 (Rr.drewN (Rr.at (Rr.set1 (Rr.drewN (Rr.at (Rr.set1 (Rr.drewN hrd (p1 + p2)) ((k' : Int) + 1)) (by omega : (k' : Int) + 1 = ((k' + 1 : Nat) : Int))) (p3 + p4)) (((k' + 1 : Nat) : Int) + 1)) (by omega : ((k' + 1 : Nat) : Int) + 1 = ((k' + 2 : Nat) : Int))) (p5 + p6)) (((k' + 2 : Nat) : Int) + 1)) (by omega : ((k' + 2 : Nat) : Int) + 1 = ((k' + 3 : Nat) : Int)))).mono ?_
                                        rw [hb0]
                                        rintro e w' ⟨rfl, p7, rfl⟩
                                        go_wp2_with fail
                                        refine (low_any _ _).mono ?_
                                        rw [show lowI 0 = 16 from rfl]
                                        rintro e w' ⟨rfl, rfl⟩
                                        go_wp2_with fail
                                        refine (ron_no B s (k' + 3) r _ (Rr.drewN (Rr.at (Rr.set1 (Rr.drewN (Rr.at (Rr.set1 (Rr.drewN (Rr.at (Rr.set1 (Rr.drewN hrd (p1 + p2)) ((k' : Int) + 1)) (by omega : (k' : Int) + 1 = ((k' + 1 : Nat) : Int))) (p3 + p4)) (((k' + 1 : Nat) : Int) + 1)) (by omega : ((k' + 1 : Nat) : Int) + 1 = ((k' + 2 : Nat) : Int))) (p5 + p6)) (((k' + 2 : Nat) : Int) + 1)) (by omega : ((k' + 2 : Nat) : Int) + 1 = ((k' + 3 : Nat) : Int))) (p7))).mono ?_
                                        rintro e w' ⟨rfl, p8, rfl⟩
                                        go_wp2
                                        go_ret
                                        exact ⟨⟨rfl, Rr.at (Rr.set2 (Rr.drewN (Rr.at (Rr.set1 (Rr.drewN (Rr.at (Rr.set1 (Rr.drewN (Rr.at (Rr.set1 (Rr.drewN hrd (p1 + p2)) ((k' : Int) + 1)) (by omega : (k' : Int) + 1 = ((k' + 1 : Nat) : Int))) (p3 + p4)) (((k' + 1 : Nat) : Int) + 1)) (by omega : ((k' + 1 : Nat) : Int) + 1 = ((k' + 2 : Nat) : Int))) (p5 + p6)) (((k' + 2 : Nat) : Int) + 1)) (by omega : ((k' + 2 : Nat) : Int) + 1 = ((k' + 3 : Nat) : Int))) (p7 + p8)) true) (by omega)⟩, ((((((((hbt).drewN (p1 + p2)).setCell 1 (.int .i64 ((k' : Int) + 1))).drewN (p3 + p4)).setCell 1 (.int .i64 (((k' + 1 : Nat) : Int) + 1))).drewN (p5 + p6)).setCell 1 (.int .i64 (((k' + 2 : Nat) : Int) + 1))).drewN (p7 + p8)).setCell 2 _⟩
                              · rw [show escF s (k' + 1) = .error s.size by simp [escF, hk1, x4, hk2]] at hq
                                subst hq
                                have hb0 := bAt_out s (k' + 2) hk2
                                go_wp2_with fail
                                refine (rnext_any B s k' r _ hrd).mono ?_
                                rw [d5]
                                rintro e w' ⟨rfl, p1, rfl⟩
                                go_wp2_with fail
                                refine (plain_any _ _).mono ?_
                                rw [show plainI 92 = false from rfl]
                                rintro e w' ⟨rfl, rfl⟩
                                go_wp2_with fail
                                refine (ron_yes B s k' r _ (by omega) (Rr.drewN hrd (p1)) hk').mono ?_
                                rintro e w' ⟨rfl, p2, rfl⟩
                                go_wp2_with fail
                                refine (rnext_any B s (k' + 1) r _ (Rr.at (Rr.set1 (Rr.drewN hrd (p1 + p2)) ((k' : Int) + 1)) (by omega : (k' : Int) + 1 = ((k' + 1 : Nat) : Int)))).mono ?_
                                rw [x4]
                                rintro e w' ⟨rfl, p3, rfl⟩
                                go_wp2_with fail
                                refine (ron_yes B s (k' + 1) r _ (by omega) (Rr.drewN (Rr.at (Rr.set1 (Rr.drewN hrd (p1 + p2)) ((k' : Int) + 1)) (by omega : (k' : Int) + 1 = ((k' + 1 : Nat) : Int))) (p3)) hk1).mono ?_
                                rintro e w' ⟨rfl, p4, rfl⟩
                                go_wp2_with fail
                                refine (rnext_any B s (k' + 2) r _ (Rr.at (Rr.set1 (Rr.drewN (Rr.at (Rr.set1 (Rr.drewN hrd (p1 + p2)) ((k' : Int) + 1)) (by omega : (k' : Int) + 1 = ((k' + 1 : Nat) : Int))) (p3 + p4)) (((k' + 1 : Nat) : Int) + 1)) (by omega : ((k' + 1 : Nat) : Int) + 1 = ((k' + 2 : Nat) : Int)))).mono ?_
                                rw [hb0]
                                rintro e w' ⟨rfl, p5, rfl⟩
                                go_wp2_with fail
                                refine (low_any _ _).mono ?_
                                rw [show lowI 0 = 16 from rfl]
                                rintro e w' ⟨rfl, rfl⟩
                                go_wp2_with fail
                                refine (ron_no B s (k' + 2) r _ (Rr.drewN (Rr.at (Rr.set1 (Rr.drewN (Rr.at (Rr.set1 (Rr.drewN hrd (p1 + p2)) ((k' : Int) + 1)) (by omega : (k' : Int) + 1 = ((k' + 1 : Nat) : Int))) (p3 + p4)) (((k' + 1 : Nat) : Int) + 1)) (by omega : ((k' + 1 : Nat) : Int) + 1 = ((k' + 2 : Nat) : Int))) (p5))).mono ?_
                                rintro e w' ⟨rfl, p6, rfl⟩
                                go_wp2
                                go_ret
                                exact ⟨⟨rfl, Rr.at (Rr.set2 (Rr.drewN (Rr.at (Rr.set1 (Rr.drewN (Rr.at (Rr.set1 (Rr.drewN hrd (p1 + p2)) ((k' : Int) + 1)) (by omega : (k' : Int) + 1 = ((k' + 1 : Nat) : Int))) (p3 + p4)) (((k' + 1 : Nat) : Int) + 1)) (by omega : ((k' + 1 : Nat) : Int) + 1 = ((k' + 2 : Nat) : Int))) (p5 + p6)) true) (by omega)⟩, ((((((hbt).drewN (p1 + p2)).setCell 1 (.int .i64 ((k' : Int) + 1))).drewN (p3 + p4)).setCell 1 (.int .i64 (((k' + 1 : Nat) : Int) + 1))).drewN (p5 + p6)).setCell 2 _⟩
                            · rw [show escF s (k' + 1) = .error (k' + 1) by simp [escF, hk1, x1, x2, x3, x4]] at hq
                              subst hq
                              have y4 : (bAt s (k' + 1) == 120) = false := by simpa using x4
                              go_wp2_with fail
                              refine (rnext_any B s k' r _ hrd).mono ?_
                              rw [d5]
                              rintro e w' ⟨rfl, p1, rfl⟩
                              go_wp2_with fail
                              refine (plain_any _ _).mono ?_
                              rw [show plainI 92 = false from rfl]
                              rintro e w' ⟨rfl, rfl⟩
                              go_wp2_with fail
                              refine (ron_yes B s k' r _ (by omega) (Rr.drewN hrd (p1)) hk').mono ?_
                              rintro e w' ⟨rfl, p2, rfl⟩
                              go_wp2_with fail
                              refine (rnext_any B s (k' + 1) r _ (Rr.at (Rr.set1 (Rr.drewN hrd (p1 + p2)) ((k' : Int) + 1)) (by omega : (k' : Int) + 1 = ((k' + 1 : Nat) : Int)))).mono ?_
                              rintro e w' ⟨rfl, p3, rfl⟩
                              go_wp2_with fail
                              refine (ron_no B s (k' + 1) r _ (Rr.drewN (Rr.at (Rr.set1 (Rr.drewN hrd (p1 + p2)) ((k' : Int) + 1)) (by omega : (k' : Int) + 1 = ((k' + 1 : Nat) : Int))) (p3))).mono ?_
                              rintro e w' ⟨rfl, p4, rfl⟩
                              go_wp2
                              go_ret
                              exact ⟨⟨rfl, (Rr.set2 (Rr.drewN (Rr.at (Rr.set1 (Rr.drewN hrd (p1 + p2)) ((k' : Int) + 1)) (by omega : (k' : Int) + 1 = ((k' + 1 : Nat) : Int))) (p3 + p4)) true)⟩, ((((hbt).drewN (p1 + p2)).setCell 1 (.int .i64 ((k' : Int) + 1))).drewN (p3 + p4)).setCell 2 _⟩
                    · rw [show escF s (k' + 1) = .error s.size by simp [escF, hk1]] at hq
                      subst hq
                      have hb0 := bAt_out s (k' + 1) hk1
                      go_wp2_with fail
                      refine (rnext_any B s k' r _ hrd).mono ?_
                      rw [d5]
                      rintro e w' ⟨rfl, p1, rfl⟩
                      go_wp2_with fail
                      refine (plain_any _ _).mono ?_
                      rw [show plainI 92 = false from rfl]
                      rintro e w' ⟨rfl, rfl⟩
                      go_wp2_with fail
                      refine (ron_yes B s k' r _ (by omega) (Rr.drewN hrd (p1)) hk').mono ?_
                      rintro e w' ⟨rfl, p2, rfl⟩
                      go_wp2_with fail
                      refine (rnext_any B s (k' + 1) r _ (Rr.at (Rr.set1 (Rr.drewN hrd (p1 + p2)) ((k' : Int) + 1)) (by omega : (k' : Int) + 1 = ((k' + 1 : Nat) : Int)))).mono ?_
                      rw [hb0]
                      rintro e w' ⟨rfl, p3, rfl⟩
                      go_wp2_with fail
                      refine (ron_no B s (k' + 1) r _ (Rr.drewN (Rr.at (Rr.set1 (Rr.drewN hrd (p1 + p2)) ((k' : Int) + 1)) (by omega : (k' : Int) + 1 = ((k' + 1 : Nat) : Int))) (p3))).mono ?_
                      rintro e w' ⟨rfl, p4, rfl⟩
                      go_wp2
                      go_ret
                      exact ⟨⟨rfl, Rr.at (Rr.set2 (Rr.drewN (Rr.at (Rr.set1 (Rr.drewN hrd (p1 + p2)) ((k' : Int) + 1)) (by omega : (k' : Int) + 1 = ((k' + 1 : Nat) : Int))) (p3 + p4)) true) (by omega)⟩, ((((hbt).drewN (p1 + p2)).setCell 1 (.int .i64 ((k' : Int) + 1))).drewN (p3 + p4)).setCell 2 _⟩
                  · rw [if_neg d5] at hq
                    have Hq := Lib.hid hq
                    clear hq
                    have hpl : plainI (bAt s k') = true := by unfold plainI; simp at d3 d4 ⊢; omega
                    go_wp2_with fail
                    refine (rnext_any B s k' r _ hrd).mono ?_
                    rintro e w' ⟨rfl, p1, rfl⟩
                    go_wp2_with fail
                    refine (plain_any _ _).mono ?_
                    rw [hpl]
                    rintro e w' ⟨rfl, rfl⟩
                    have hownZ := own_but hown hB ((But.refl B wr).drewN (p1))
                    have HownZ := Lib.hid hownZ
                    have HrdZ := Lib.hid (Rr.drewN hrd (p1))
                    have HbtZ := Lib.hid ((hbt).drewN (p1))
                    clear hownZ
                    go_wp2_with (at_builtin; refine wpList_append_own _ rfl _ _ 83 rfl w.heap.size 5 i0 (.int .u8 0) 1 1 Tryd.underlying83 hi hz0 hz1 hz2 rfl (by decide) _ bs.length (byteCells bs) rfl (HownZ.out.alloc _) _ 1 1 [.int .u8 (bAt s k')] rfl rfl (cell_one_at _ _ (by simp) _ _) (by simp [Value.oneCell']) (by unfold maxLen; omega) (by omega) (by simp; omega) ?_; intro v' w1 hown1 hgrow1 _; have hrd1 := rr_grown (HownZ.out.alloc _) hB hgrow1 (Rr.alloc HrdZ.out _); have hbt1 := but_grown (HownZ.out.alloc _) (HbtZ.out.alloc _) (Nat.le_refl _) hgrow1; have c11 := hrd1.c1; have f11 := hrd1.f 1; have c12 := hrd1.c2; have HO1 := Lib.hid hown1; have HB1 := Lib.hid hbt1; have HR1 := Lib.hid hrd1; clear hown1 hgrow1 hbt1 hrd1)
                    refine ⟨⟨k' + 1, n, bs ++ [YtmiipfdndgjndaaDoor.u8 (bAt s k')], Rr.at (Rr.set1 HR1.out ((k' : Int) + 1)) (by omega), HB1.out.setCell 1 _, ?_, by omega, Hq.out, by simp; omega, by omega⟩, ?_⟩
                    · rw [List.length_append, byteCells_append, byteCells_u8 _ r0 r1]
                      exact own_but HO1.out hB ((But.refl B _).setCell 1 _)
                    · rw [ratOf (k := k' + 1) (Rr.at (Rr.set1 HR1.out ((k' : Int) + 1)) (by omega)), ratOf hrd]; omega
            · cases d3 : decide (bAt s k' < 32) with
              | true =>
                rw [if_pos (of_decide_eq_true d3)] at hq
                subst hq
                have hpl : plainI (bAt s k') = false := by unfold plainI; simp at d3 ⊢; omega
                have h92 : (bAt s k' == 92) = false := by simp at d3 ⊢; omega
                go_wp2_with fail
                refine (rnext_any B s k' r _ hrd).mono ?_
                rintro e w' ⟨rfl, p1, rfl⟩
                go_wp2_with fail
                refine (plain_any _ _).mono ?_
                rw [hpl]
                rintro e w' ⟨rfl, rfl⟩
                go_wp2_with fail
                refine (ron_no B s k' r _ (Rr.drewN hrd (p1))).mono ?_
                rintro e w' ⟨rfl, p2, rfl⟩
                go_wp2
                go_ret
                exact ⟨⟨rfl, (Rr.set2 (Rr.drewN hrd (p1 + p2)) true)⟩, ((hbt).drewN (p1 + p2)).setCell 2 _⟩
              | false =>
                rw [if_neg (of_decide_eq_false d3)] at hq
                cases d4 : decide (126 < bAt s k') with
                | true =>
                  rw [if_pos (of_decide_eq_true d4)] at hq
                  subst hq
                  have hpl : plainI (bAt s k') = false := by unfold plainI; simp at d4 ⊢; omega
                  have h92 : (bAt s k' == 92) = false := by simp at d4 ⊢; omega
                  go_wp2_with fail
                  refine (rnext_any B s k' r _ hrd).mono ?_
                  rintro e w' ⟨rfl, p1, rfl⟩
                  go_wp2_with fail
                  refine (plain_any _ _).mono ?_
                  rw [hpl]
                  rintro e w' ⟨rfl, rfl⟩
                  go_wp2_with fail
                  refine (ron_no B s k' r _ (Rr.drewN hrd (p1))).mono ?_
                  rintro e w' ⟨rfl, p2, rfl⟩
                  go_wp2
                  go_ret
                  exact ⟨⟨rfl, (Rr.set2 (Rr.drewN hrd (p1 + p2)) true)⟩, ((hbt).drewN (p1 + p2)).setCell 2 _⟩
                | false =>
                  rw [if_neg (of_decide_eq_false d4)] at hq
                  by_cases d5 : bAt s k' = 92
                  · skip
                    rw [if_pos d5] at hq
                    by_cases hk1 : k' + 1 < s.size
                    · by_cases x1 : bAt s (k' + 1) = 34
                      · rw [show escF s (k' + 1) = .ok (34, k' + 2) by simp [escF, hk1, x1]] at hq
                        have Hq := Lib.hid hq
                        clear hq
                        go_wp2_with fail
                        refine (rnext_any B s k' r _ hrd).mono ?_
                        rw [d5]
                        rintro e w' ⟨rfl, p1, rfl⟩
                        go_wp2_with fail
                        refine (plain_any _ _).mono ?_
                        rw [show plainI 92 = false from rfl]
                        rintro e w' ⟨rfl, rfl⟩
                        go_wp2_with fail
                        refine (ron_yes B s k' r _ (by omega) (Rr.drewN hrd (p1)) hk').mono ?_
                        rintro e w' ⟨rfl, p2, rfl⟩
                        go_wp2_with fail
                        refine (rnext_any B s (k' + 1) r _ (Rr.at (Rr.set1 (Rr.drewN hrd (p1 + p2)) ((k' : Int) + 1)) (by omega : (k' : Int) + 1 = ((k' + 1 : Nat) : Int)))).mono ?_
                        rw [x1]
                        rintro e w' ⟨rfl, p3, rfl⟩
                        have hownZ := own_but hown hB ((((But.refl B wr).drewN (p1 + p2)).setCell 1 (.int .i64 ((k' : Int) + 1))).drewN (p3))
                        have HownZ := Lib.hid hownZ
                        have HrdZ := Lib.hid (Rr.drewN (Rr.at (Rr.set1 (Rr.drewN hrd (p1 + p2)) ((k' : Int) + 1)) (by omega : (k' : Int) + 1 = ((k' + 1 : Nat) : Int))) (p3))
                        have HbtZ := Lib.hid ((((hbt).drewN (p1 + p2)).setCell 1 (.int .i64 ((k' : Int) + 1))).drewN (p3))
                        clear hownZ
                        go_wp2_with (at_builtin; refine wpList_append_own _ rfl _ _ 83 rfl w.heap.size 5 i0 (.int .u8 0) 1 1 Tryd.underlying83 hi hz0 hz1 hz2 rfl (by decide) _ bs.length (byteCells bs) rfl (HownZ.out.alloc _) _ 1 1 [.int .u8 (34)] rfl rfl (cell_one_at _ _ (by simp) _ _) (by simp [Value.oneCell']) (by unfold maxLen; omega) (by omega) (by simp; omega) ?_; intro v' w1 hown1 hgrow1 _; have hrd1 := rr_grown (HownZ.out.alloc _) hB hgrow1 (Rr.alloc HrdZ.out _); have hbt1 := but_grown (HownZ.out.alloc _) (HbtZ.out.alloc _) (Nat.le_refl _) hgrow1; have c11 := hrd1.c1; have f11 := hrd1.f 1; have c12 := hrd1.c2; have HO1 := Lib.hid hown1; have HB1 := Lib.hid hbt1; have HR1 := Lib.hid hrd1; clear hown1 hgrow1 hbt1 hrd1)
                        refine ⟨⟨k' + 2, n, bs ++ [YtmiipfdndgjndaaDoor.u8 (34)], Rr.at (Rr.set1 HR1.out ((k' : Int) + 1 + 1)) (by omega), HB1.out.setCell 1 _, ?_, by omega, Hq.out, by simp; omega, by omega⟩, ?_⟩
                        · rw [List.length_append, byteCells_append, byteCells_u8 _ (by omega) (by omega)]
                          exact own_but HO1.out hB ((But.refl B _).setCell 1 _)
                        · rw [ratOf (k := k' + 2) (Rr.at (Rr.set1 HR1.out ((k' : Int) + 1 + 1)) (by omega)), ratOf hrd]; omega
                      · by_cases x2 : bAt s (k' + 1) = 92
                        · rw [show escF s (k' + 1) = .ok (92, k' + 2) by simp [escF, hk1, x2]] at hq
                          have Hq := Lib.hid hq
                          clear hq
                          go_wp2_with fail
                          refine (rnext_any B s k' r _ hrd).mono ?_
                          rw [d5]
                          rintro e w' ⟨rfl, p1, rfl⟩
                          go_wp2_with fail
                          refine (plain_any _ _).mono ?_
                          rw [show plainI 92 = false from rfl]
                          rintro e w' ⟨rfl, rfl⟩
                          go_wp2_with fail
                          refine (ron_yes B s k' r _ (by omega) (Rr.drewN hrd (p1)) hk').mono ?_
                          rintro e w' ⟨rfl, p2, rfl⟩
                          go_wp2_with fail
                          refine (rnext_any B s (k' + 1) r _ (Rr.at (Rr.set1 (Rr.drewN hrd (p1 + p2)) ((k' : Int) + 1)) (by omega : (k' : Int) + 1 = ((k' + 1 : Nat) : Int)))).mono ?_
                          rw [x2]
                          rintro e w' ⟨rfl, p3, rfl⟩
                          have hownZ := own_but hown hB ((((But.refl B wr).drewN (p1 + p2)).setCell 1 (.int .i64 ((k' : Int) + 1))).drewN (p3))
                          have HownZ := Lib.hid hownZ
                          have HrdZ := Lib.hid (Rr.drewN (Rr.at (Rr.set1 (Rr.drewN hrd (p1 + p2)) ((k' : Int) + 1)) (by omega : (k' : Int) + 1 = ((k' + 1 : Nat) : Int))) (p3))
                          have HbtZ := Lib.hid ((((hbt).drewN (p1 + p2)).setCell 1 (.int .i64 ((k' : Int) + 1))).drewN (p3))
                          clear hownZ
                          go_wp2_with (at_builtin; refine wpList_append_own _ rfl _ _ 83 rfl w.heap.size 5 i0 (.int .u8 0) 1 1 Tryd.underlying83 hi hz0 hz1 hz2 rfl (by decide) _ bs.length (byteCells bs) rfl (HownZ.out.alloc _) _ 1 1 [.int .u8 (92)] rfl rfl (cell_one_at _ _ (by simp) _ _) (by simp [Value.oneCell']) (by unfold maxLen; omega) (by omega) (by simp; omega) ?_; intro v' w1 hown1 hgrow1 _; have hrd1 := rr_grown (HownZ.out.alloc _) hB hgrow1 (Rr.alloc HrdZ.out _); have hbt1 := but_grown (HownZ.out.alloc _) (HbtZ.out.alloc _) (Nat.le_refl _) hgrow1; have c11 := hrd1.c1; have f11 := hrd1.f 1; have c12 := hrd1.c2; have HO1 := Lib.hid hown1; have HB1 := Lib.hid hbt1; have HR1 := Lib.hid hrd1; clear hown1 hgrow1 hbt1 hrd1)
                          refine ⟨⟨k' + 2, n, bs ++ [YtmiipfdndgjndaaDoor.u8 (92)], Rr.at (Rr.set1 HR1.out ((k' : Int) + 1 + 1)) (by omega), HB1.out.setCell 1 _, ?_, by omega, Hq.out, by simp; omega, by omega⟩, ?_⟩
                          · rw [List.length_append, byteCells_append, byteCells_u8 _ (by omega) (by omega)]
                            exact own_but HO1.out hB ((But.refl B _).setCell 1 _)
                          · rw [ratOf (k := k' + 2) (Rr.at (Rr.set1 HR1.out ((k' : Int) + 1 + 1)) (by omega)), ratOf hrd]; omega
                        · by_cases x3 : bAt s (k' + 1) = 110
                          · rw [show escF s (k' + 1) = .ok (10, k' + 2) by simp [escF, hk1, x3]] at hq
                            have Hq := Lib.hid hq
                            clear hq
                            go_wp2_with fail
                            refine (rnext_any B s k' r _ hrd).mono ?_
                            rw [d5]
                            rintro e w' ⟨rfl, p1, rfl⟩
                            go_wp2_with fail
                            refine (plain_any _ _).mono ?_
                            rw [show plainI 92 = false from rfl]
                            rintro e w' ⟨rfl, rfl⟩
                            go_wp2_with fail
                            refine (ron_yes B s k' r _ (by omega) (Rr.drewN hrd (p1)) hk').mono ?_
                            rintro e w' ⟨rfl, p2, rfl⟩
                            go_wp2_with fail
                            refine (rnext_any B s (k' + 1) r _ (Rr.at (Rr.set1 (Rr.drewN hrd (p1 + p2)) ((k' : Int) + 1)) (by omega : (k' : Int) + 1 = ((k' + 1 : Nat) : Int)))).mono ?_
                            rw [x3]
                            rintro e w' ⟨rfl, p3, rfl⟩
                            have hownZ := own_but hown hB ((((But.refl B wr).drewN (p1 + p2)).setCell 1 (.int .i64 ((k' : Int) + 1))).drewN (p3))
                            have HownZ := Lib.hid hownZ
                            have HrdZ := Lib.hid (Rr.drewN (Rr.at (Rr.set1 (Rr.drewN hrd (p1 + p2)) ((k' : Int) + 1)) (by omega : (k' : Int) + 1 = ((k' + 1 : Nat) : Int))) (p3))
                            have HbtZ := Lib.hid ((((hbt).drewN (p1 + p2)).setCell 1 (.int .i64 ((k' : Int) + 1))).drewN (p3))
                            clear hownZ
                            go_wp2_with (at_builtin; refine wpList_append_own _ rfl _ _ 83 rfl w.heap.size 5 i0 (.int .u8 0) 1 1 Tryd.underlying83 hi hz0 hz1 hz2 rfl (by decide) _ bs.length (byteCells bs) rfl (HownZ.out.alloc _) _ 1 1 [.int .u8 (10)] rfl rfl (cell_one_at _ _ (by simp) _ _) (by simp [Value.oneCell']) (by unfold maxLen; omega) (by omega) (by simp; omega) ?_; intro v' w1 hown1 hgrow1 _; have hrd1 := rr_grown (HownZ.out.alloc _) hB hgrow1 (Rr.alloc HrdZ.out _); have hbt1 := but_grown (HownZ.out.alloc _) (HbtZ.out.alloc _) (Nat.le_refl _) hgrow1; have c11 := hrd1.c1; have f11 := hrd1.f 1; have c12 := hrd1.c2; have HO1 := Lib.hid hown1; have HB1 := Lib.hid hbt1; have HR1 := Lib.hid hrd1; clear hown1 hgrow1 hbt1 hrd1)
                            refine ⟨⟨k' + 2, n, bs ++ [YtmiipfdndgjndaaDoor.u8 (10)], Rr.at (Rr.set1 HR1.out ((k' : Int) + 1 + 1)) (by omega), HB1.out.setCell 1 _, ?_, by omega, Hq.out, by simp; omega, by omega⟩, ?_⟩
                            · rw [List.length_append, byteCells_append, byteCells_u8 _ (by omega) (by omega)]
                              exact own_but HO1.out hB ((But.refl B _).setCell 1 _)
                            · rw [ratOf (k := k' + 2) (Rr.at (Rr.set1 HR1.out ((k' : Int) + 1 + 1)) (by omega)), ratOf hrd]; omega
                          · have y1 : (bAt s (k' + 1) == 34) = false := by simpa using x1
                            have y2 : (bAt s (k' + 1) == 92) = false := by simpa using x2
                            have y3 : (bAt s (k' + 1) == 110) = false := by simpa using x3
                            by_cases x4 : bAt s (k' + 1) = 120
                            · skip
                              clear y1 y2 y3
                              by_cases hk2 : k' + 2 < s.size
                              · obtain ⟨a0, a1⟩ := bAt_range s (k' + 2)
                                have hlw := low_at (bAt s (k' + 2)) a0 a1
                                cases hh : hexI (bAt s (k' + 2)) with
                                | none =>
                                  rw [hh] at hlw
                                  rw [show escF s (k' + 1) = .error (k' + 2) by simp [escF, hk1, x4, hk2, hh]] at hq
                                  subst hq
                                  go_wp2_with fail
                                  refine (rnext_any B s k' r _ hrd).mono ?_
                                  rw [d5]
                                  rintro e w' ⟨rfl, p1, rfl⟩
                                  go_wp2_with fail
                                  refine (plain_any _ _).mono ?_
                                  rw [show plainI 92 = false from rfl]
                                  rintro e w' ⟨rfl, rfl⟩
                                  go_wp2_with fail
                                  refine (ron_yes B s k' r _ (by omega) (Rr.drewN hrd (p1)) hk').mono ?_
                                  rintro e w' ⟨rfl, p2, rfl⟩
                                  go_wp2_with fail
                                  refine (rnext_any B s (k' + 1) r _ (Rr.at (Rr.set1 (Rr.drewN hrd (p1 + p2)) ((k' : Int) + 1)) (by omega : (k' : Int) + 1 = ((k' + 1 : Nat) : Int)))).mono ?_
                                  rw [x4]
                                  rintro e w' ⟨rfl, p3, rfl⟩
                                  go_wp2_with fail
                                  refine (ron_yes B s (k' + 1) r _ (by omega) (Rr.drewN (Rr.at (Rr.set1 (Rr.drewN hrd (p1 + p2)) ((k' : Int) + 1)) (by omega : (k' : Int) + 1 = ((k' + 1 : Nat) : Int))) (p3)) hk1).mono ?_
                                  rintro e w' ⟨rfl, p4, rfl⟩
                                  go_wp2_with fail
                                  refine (rnext_any B s (k' + 2) r _ (Rr.at (Rr.set1 (Rr.drewN (Rr.at (Rr.set1 (Rr.drewN hrd (p1 + p2)) ((k' : Int) + 1)) (by omega : (k' : Int) + 1 = ((k' + 1 : Nat) : Int))) (p3 + p4)) (((k' + 1 : Nat) : Int) + 1)) (by omega : ((k' + 1 : Nat) : Int) + 1 = ((k' + 2 : Nat) : Int)))).mono ?_
                                  rintro e w' ⟨rfl, p5, rfl⟩
                                  go_wp2_with fail
                                  refine (low_any _ _).mono ?_
                                  rw [hlw]
                                  rintro e w' ⟨rfl, rfl⟩
                                  go_wp2_with fail
                                  refine (ron_no B s (k' + 2) r _ (Rr.drewN (Rr.at (Rr.set1 (Rr.drewN (Rr.at (Rr.set1 (Rr.drewN hrd (p1 + p2)) ((k' : Int) + 1)) (by omega : (k' : Int) + 1 = ((k' + 1 : Nat) : Int))) (p3 + p4)) (((k' + 1 : Nat) : Int) + 1)) (by omega : ((k' + 1 : Nat) : Int) + 1 = ((k' + 2 : Nat) : Int))) (p5))).mono ?_
                                  rintro e w' ⟨rfl, p6, rfl⟩
                                  go_wp2
                                  go_ret
                                  exact ⟨⟨rfl, Rr.at (Rr.set2 (Rr.drewN (Rr.at (Rr.set1 (Rr.drewN (Rr.at (Rr.set1 (Rr.drewN hrd (p1 + p2)) ((k' : Int) + 1)) (by omega : (k' : Int) + 1 = ((k' + 1 : Nat) : Int))) (p3 + p4)) (((k' + 1 : Nat) : Int) + 1)) (by omega : ((k' + 1 : Nat) : Int) + 1 = ((k' + 2 : Nat) : Int))) (p5 + p6)) true) (by omega)⟩, ((((((hbt).drewN (p1 + p2)).setCell 1 (.int .i64 ((k' : Int) + 1))).drewN (p3 + p4)).setCell 1 (.int .i64 (((k' + 1 : Nat) : Int) + 1))).drewN (p5 + p6)).setCell 2 _⟩
                                | some v =>
                                  rw [hh] at hlw
                                  dsimp only at hlw
                                  have hv16 := hexI_lt _ v hh
                                  by_cases hv : 2 ≤ v ∧ v ≤ 6
                                  · rw [show escF s (k' + 1) = .error (k' + 2) by simp [escF, hk1, x4, hk2, hh, hv]] at hq
                                    subst hq
                                    have t1 : decide ((v : Int) < 2) = false := by simp; omega
                                    have t2 : decide ((7 : Int) ≤ (v : Int)) = false := by simp; omega
                                    go_wp2_with fail
                                    refine (rnext_any B s k' r _ hrd).mono ?_
                                    rw [d5]
                                    rintro e w' ⟨rfl, p1, rfl⟩
                                    go_wp2_with fail
                                    refine (plain_any _ _).mono ?_
                                    rw [show plainI 92 = false from rfl]
                                    rintro e w' ⟨rfl, rfl⟩
                                    go_wp2_with fail
                                    refine (ron_yes B s k' r _ (by omega) (Rr.drewN hrd (p1)) hk').mono ?_
                                    rintro e w' ⟨rfl, p2, rfl⟩
                                    go_wp2_with fail
                                    refine (rnext_any B s (k' + 1) r _ (Rr.at (Rr.set1 (Rr.drewN hrd (p1 + p2)) ((k' : Int) + 1)) (by omega : (k' : Int) + 1 = ((k' + 1 : Nat) : Int)))).mono ?_
                                    rw [x4]
                                    rintro e w' ⟨rfl, p3, rfl⟩
                                    go_wp2_with fail
                                    refine (ron_yes B s (k' + 1) r _ (by omega) (Rr.drewN (Rr.at (Rr.set1 (Rr.drewN hrd (p1 + p2)) ((k' : Int) + 1)) (by omega : (k' : Int) + 1 = ((k' + 1 : Nat) : Int))) (p3)) hk1).mono ?_
                                    rintro e w' ⟨rfl, p4, rfl⟩
                                    go_wp2_with fail
                                    refine (rnext_any B s (k' + 2) r _ (Rr.at (Rr.set1 (Rr.drewN (Rr.at (Rr.set1 (Rr.drewN hrd (p1 + p2)) ((k' : Int) + 1)) (by omega : (k' : Int) + 1 = ((k' + 1 : Nat) : Int))) (p3 + p4)) (((k' + 1 : Nat) : Int) + 1)) (by omega : ((k' + 1 : Nat) : Int) + 1 = ((k' + 2 : Nat) : Int)))).mono ?_
                                    rintro e w' ⟨rfl, p5, rfl⟩
                                    go_wp2_with fail
                                    refine (low_any _ _).mono ?_
                                    rw [hlw]
                                    rintro e w' ⟨rfl, rfl⟩
                                    go_wp2_with fail
                                    refine (ron_no B s (k' + 2) r _ (Rr.drewN (Rr.at (Rr.set1 (Rr.drewN (Rr.at (Rr.set1 (Rr.drewN hrd (p1 + p2)) ((k' : Int) + 1)) (by omega : (k' : Int) + 1 = ((k' + 1 : Nat) : Int))) (p3 + p4)) (((k' + 1 : Nat) : Int) + 1)) (by omega : ((k' + 1 : Nat) : Int) + 1 = ((k' + 2 : Nat) : Int))) (p5))).mono ?_
                                    rintro e w' ⟨rfl, p6, rfl⟩
                                    go_wp2
                                    go_ret
                                    exact ⟨⟨rfl, Rr.at (Rr.set2 (Rr.drewN (Rr.at (Rr.set1 (Rr.drewN (Rr.at (Rr.set1 (Rr.drewN hrd (p1 + p2)) ((k' : Int) + 1)) (by omega : (k' : Int) + 1 = ((k' + 1 : Nat) : Int))) (p3 + p4)) (((k' + 1 : Nat) : Int) + 1)) (by omega : ((k' + 1 : Nat) : Int) + 1 = ((k' + 2 : Nat) : Int))) (p5 + p6)) true) (by omega)⟩, ((((((hbt).drewN (p1 + p2)).setCell 1 (.int .i64 ((k' : Int) + 1))).drewN (p3 + p4)).setCell 1 (.int .i64 (((k' + 1 : Nat) : Int) + 1))).drewN (p5 + p6)).setCell 2 _⟩
                                  · have tv : (decide ((v : Int) < 2) = true ∧ v < 2) ∨ (decide ((v : Int) < 2) = false ∧ decide ((7 : Int) ≤ (v : Int)) = true ∧ decide ((v : Int) < 16) = true ∧ 7 ≤ v) := by
                                      rcases Nat.lt_or_ge v 2 with hv2 | hv2
                                      · exact .inl ⟨by simp; omega, hv2⟩
                                      · exact .inr ⟨by simp; omega, by simp; omega, by simp; omega, by omega⟩
                                    by_cases hk3 : k' + 3 < s.size
                                    · obtain ⟨b0, b1⟩ := bAt_range s (k' + 3)
                                      have hlw2 := low_at (bAt s (k' + 3)) b0 b1
                                      cases hl : hexI (bAt s (k' + 3)) with
                                      | none =>
                                        rw [hl] at hlw2
                                        rw [show escF s (k' + 1) = .error (k' + 3) by simp [escF, hk1, x4, hk2, hh, hv, hk3, hl]] at hq
                                        subst hq
                                        rcases tv with ⟨t1, tw⟩ | ⟨t1, t2, t3, tw⟩
                                        · go_wp2_with fail
                                          refine (rnext_any B s k' r _ hrd).mono ?_
                                          rw [d5]
                                          rintro e w' ⟨rfl, p1, rfl⟩
                                          go_wp2_with fail
                                          refine (plain_any _ _).mono ?_
                                          rw [show plainI 92 = false from rfl]
                                          rintro e w' ⟨rfl, rfl⟩
                                          go_wp2_with fail
                                          refine (ron_yes B s k' r _ (by omega) (Rr.drewN hrd (p1)) hk').mono ?_
                                          rintro e w' ⟨rfl, p2, rfl⟩
                                          go_wp2_with fail
                                          refine (rnext_any B s (k' + 1) r _ (Rr.at (Rr.set1 (Rr.drewN hrd (p1 + p2)) ((k' : Int) + 1)) (by omega : (k' : Int) + 1 = ((k' + 1 : Nat) : Int)))).mono ?_
                                          rw [x4]
                                          rintro e w' ⟨rfl, p3, rfl⟩
                                          go_wp2_with fail
                                          refine (ron_yes B s (k' + 1) r _ (by omega) (Rr.drewN (Rr.at (Rr.set1 (Rr.drewN hrd (p1 + p2)) ((k' : Int) + 1)) (by omega : (k' : Int) + 1 = ((k' + 1 : Nat) : Int))) (p3)) hk1).mono ?_
                                          rintro e w' ⟨rfl, p4, rfl⟩
                                          go_wp2_with fail
                                          refine (rnext_any B s (k' + 2) r _ (Rr.at (Rr.set1 (Rr.drewN (Rr.at (Rr.set1 (Rr.drewN hrd (p1 + p2)) ((k' : Int) + 1)) (by omega : (k' : Int) + 1 = ((k' + 1 : Nat) : Int))) (p3 + p4)) (((k' + 1 : Nat) : Int) + 1)) (by omega : ((k' + 1 : Nat) : Int) + 1 = ((k' + 2 : Nat) : Int)))).mono ?_
                                          rintro e w' ⟨rfl, p5, rfl⟩
                                          go_wp2_with fail
                                          refine (low_any _ _).mono ?_
                                          rw [hlw]
                                          rintro e w' ⟨rfl, rfl⟩
                                          go_wp2_with fail
                                          refine (ron_yes B s (k' + 2) r _ (by omega) (Rr.drewN (Rr.at (Rr.set1 (Rr.drewN (Rr.at (Rr.set1 (Rr.drewN hrd (p1 + p2)) ((k' : Int) + 1)) (by omega : (k' : Int) + 1 = ((k' + 1 : Nat) : Int))) (p3 + p4)) (((k' + 1 : Nat) : Int) + 1)) (by omega : ((k' + 1 : Nat) : Int) + 1 = ((k' + 2 : Nat) : Int))) (p5)) hk2).mono ?_
                                          rintro e w' ⟨rfl, p6, rfl⟩
                                          go_wp2_with fail
                                          refine (rnext_any B s (k' + 3) r _ (Rr.at (Rr.set1 (Rr.drewN (Rr.at (Rr.set1 (Rr.drewN (Rr.at (Rr.set1 (Rr.drewN hrd (p1 + p2)) ((k' : Int) + 1)) (by omega : (k' : Int) + 1 = ((k' + 1 : Nat) : Int))) (p3 + p4)) (((k' + 1 : Nat) : Int) + 1)) (by omega : ((k' + 1 : Nat) : Int) + 1 = ((k' + 2 : Nat) : Int))) (p5 + p6)) (((k' + 2 : Nat) : Int) + 1)) (by omega : ((k' + 2 : Nat) : Int) + 1 = ((k' + 3 : Nat) : Int)))).mono ?_
                                          rintro e w' ⟨rfl, p7, rfl⟩
                                          go_wp2_with fail
                                          refine (low_any _ _).mono ?_
                                          rw [hlw2]
                                          rintro e w' ⟨rfl, rfl⟩
                                          go_wp2_with fail
                                          refine (ron_no B s (k' + 3) r _ (Rr.drewN (Rr.at (Rr.set1 (Rr.drewN (Rr.at (Rr.set1 (Rr.drewN (Rr.at (Rr.set1 (Rr.drewN hrd (p1 + p2)) ((k' : Int) + 1)) (by omega : (k' : Int) + 1 = ((k' + 1 : Nat) : Int))) (p3 + p4)) (((k' + 1 : Nat) : Int) + 1)) (by omega : ((k' + 1 : Nat) : Int) + 1 = ((k' + 2 : Nat) : Int))) (p5 + p6)) (((k' + 2 : Nat) : Int) + 1)) (by omega : ((k' + 2 : Nat) : Int) + 1 = ((k' + 3 : Nat) : Int))) (p7))).mono ?_
                                          rintro e w' ⟨rfl, p8, rfl⟩
                                          go_wp2
                                          go_ret
                                          exact ⟨⟨rfl, Rr.at (Rr.set2 (Rr.drewN (Rr.at (Rr.set1 (Rr.drewN (Rr.at (Rr.set1 (Rr.drewN (Rr.at (Rr.set1 (Rr.drewN hrd (p1 + p2)) ((k' : Int) + 1)) (by omega : (k' : Int) + 1 = ((k' + 1 : Nat) : Int))) (p3 + p4)) (((k' + 1 : Nat) : Int) + 1)) (by omega : ((k' + 1 : Nat) : Int) + 1 = ((k' + 2 : Nat) : Int))) (p5 + p6)) (((k' + 2 : Nat) : Int) + 1)) (by omega : ((k' + 2 : Nat) : Int) + 1 = ((k' + 3 : Nat) : Int))) (p7 + p8)) true) (by omega)⟩, ((((((((hbt).drewN (p1 + p2)).setCell 1 (.int .i64 ((k' : Int) + 1))).drewN (p3 + p4)).setCell 1 (.int .i64 (((k' + 1 : Nat) : Int) + 1))).drewN (p5 + p6)).setCell 1 (.int .i64 (((k' + 2 : Nat) : Int) + 1))).drewN (p7 + p8)).setCell 2 _⟩
                                        · go_wp2_with fail
                                          refine (rnext_any B s k' r _ hrd).mono ?_
                                          rw [d5]
                                          rintro e w' ⟨rfl, p1, rfl⟩
                                          go_wp2_with fail
                                          refine (plain_any _ _).mono ?_
                                          rw [show plainI 92 = false from rfl]
                                          rintro e w' ⟨rfl, rfl⟩
                                          go_wp2_with fail
                                          refine (ron_yes B s k' r _ (by omega) (Rr.drewN hrd (p1)) hk').mono ?_
                                          rintro e w' ⟨rfl, p2, rfl⟩
                                          go_wp2_with fail
                                          refine (rnext_any B s (k' + 1) r _ (Rr.at (Rr.set1 (Rr.drewN hrd (p1 + p2)) ((k' : Int) + 1)) (by omega : (k' : Int) + 1 = ((k' + 1 : Nat) : Int)))).mono ?_
                                          rw [x4]
                                          rintro e w' ⟨rfl, p3, rfl⟩
                                          go_wp2_with fail
                                          refine (ron_yes B s (k' + 1) r _ (by omega) (Rr.drewN (Rr.at (Rr.set1 (Rr.drewN hrd (p1 + p2)) ((k' : Int) + 1)) (by omega : (k' : Int) + 1 = ((k' + 1 : Nat) : Int))) (p3)) hk1).mono ?_
                                          rintro e w' ⟨rfl, p4, rfl⟩
                                          go_wp2_with fail
                                          refine (rnext_any B s (k' + 2) r _ (Rr.at (Rr.set1 (Rr.drewN (Rr.at (Rr.set1 (Rr.drewN hrd (p1 + p2)) ((k' : Int) + 1)) (by omega : (k' : Int) + 1 = ((k' + 1 : Nat) : Int))) (p3 + p4)) (((k' + 1 : Nat) : Int) + 1)) (by omega : ((k' + 1 : Nat) : Int) + 1 = ((k' + 2 : Nat) : Int)))).mono ?_
                                          rintro e w' ⟨rfl, p5, rfl⟩
                                          go_wp2_with fail
                                          refine (low_any _ _).mono ?_
                                          rw [hlw]
                                          rintro e w' ⟨rfl, rfl⟩
                                          go_wp2_with fail
                                          refine (ron_yes B s (k' + 2) r _ (by omega) (Rr.drewN (Rr.at (Rr.set1 (Rr.drewN (Rr.at (Rr.set1 (Rr.drewN hrd (p1 + p2)) ((k' : Int) + 1)) (by omega : (k' : Int) + 1 = ((k' + 1 : Nat) : Int))) (p3 + p4)) (((k' + 1 : Nat) : Int) + 1)) (by omega : ((k' + 1 : Nat) : Int) + 1 = ((k' + 2 : Nat) : Int))) (p5)) hk2).mono ?_
                                          rintro e w' ⟨rfl, p6, rfl⟩
                                          go_wp2_with fail
                                          refine (rnext_any B s (k' + 3) r _ (Rr.at (Rr.set1 (Rr.drewN (Rr.at (Rr.set1 (Rr.drewN (Rr.at (Rr.set1 (Rr.drewN hrd (p1 + p2)) ((k' : Int) + 1)) (by omega : (k' : Int) + 1 = ((k' + 1 : Nat) : Int))) (p3 + p4)) (((k' + 1 : Nat) : Int) + 1)) (by omega : ((k' + 1 : Nat) : Int) + 1 = ((k' + 2 : Nat) : Int))) (p5 + p6)) (((k' + 2 : Nat) : Int) + 1)) (by omega : ((k' + 2 : Nat) : Int) + 1 = ((k' + 3 : Nat) : Int)))).mono ?_
                                          rintro e w' ⟨rfl, p7, rfl⟩
                                          go_wp2_with fail
                                          refine (low_any _ _).mono ?_
                                          rw [hlw2]
                                          rintro e w' ⟨rfl, rfl⟩
                                          go_wp2_with fail
                                          refine (ron_no B s (k' + 3) r _ (Rr.drewN (Rr.at (Rr.set1 (Rr.drewN (Rr.at (Rr.set1 (Rr.drewN (Rr.at (Rr.set1 (Rr.drewN hrd (p1 + p2)) ((k' : Int) + 1)) (by omega : (k' : Int) + 1 = ((k' + 1 : Nat) : Int))) (p3 + p4)) (((k' + 1 : Nat) : Int) + 1)) (by omega : ((k' + 1 : Nat) : Int) + 1 = ((k' + 2 : Nat) : Int))) (p5 + p6)) (((k' + 2 : Nat) : Int) + 1)) (by omega : ((k' + 2 : Nat) : Int) + 1 = ((k' + 3 : Nat) : Int))) (p7))).mono ?_
                                          rintro e w' ⟨rfl, p8, rfl⟩
                                          go_wp2
                                          go_ret
                                          exact ⟨⟨rfl, Rr.at (Rr.set2 (Rr.drewN (Rr.at (Rr.set1 (Rr.drewN (Rr.at (Rr.set1 (Rr.drewN (Rr.at (Rr.set1 (Rr.drewN hrd (p1 + p2)) ((k' : Int) + 1)) (by omega : (k' : Int) + 1 = ((k' + 1 : Nat) : Int))) (p3 + p4)) (((k' + 1 : Nat) : Int) + 1)) (by omega : ((k' + 1 : Nat) : Int) + 1 = ((k' + 2 : Nat) : Int))) (p5 + p6)) (((k' + 2 : Nat) : Int) + 1)) (by omega : ((k' + 2 : Nat) : Int) + 1 = ((k' + 3 : Nat) : Int))) (p7 + p8)) true) (by omega)⟩, ((((((((hbt).drewN (p1 + p2)).setCell 1 (.int .i64 ((k' : Int) + 1))).drewN (p3 + p4)).setCell 1 (.int .i64 (((k' + 1 : Nat) : Int) + 1))).drewN (p5 + p6)).setCell 1 (.int .i64 (((k' + 2 : Nat) : Int) + 1))).drewN (p7 + p8)).setCell 2 _⟩
                                      | some l =>
                                        rw [hl] at hlw2
                                        dsimp only at hlw2
                                        have hl16 := hexI_lt _ l hl
                                        have u0 : decide ((l : Int) < 16) = true := by simp; omega
                                        by_cases hx : v = 0 ∧ l = 10 ∨ v = 7 ∧ l ≠ 15
                                        · rw [show escF s (k' + 1) = .error (k' + 3) by simp [escF, hk1, x4, hk2, hh, hv, hk3, hl, hx]] at hq
                                          subst hq
                                          rcases tv with ⟨t1, tw⟩ | ⟨t1, t2, t3, tw⟩
                                          · have u1 : ((16 * (v : Int) + (l : Int)) != 10) = false := by simp; omega
                                            go_wp2_with fail
                                            refine (rnext_any B s k' r _ hrd).mono ?_
                                            rw [d5]
                                            rintro e w' ⟨rfl, p1, rfl⟩
                                            go_wp2_with fail
                                            refine (plain_any _ _).mono ?_
                                            rw [show plainI 92 = false from rfl]
                                            rintro e w' ⟨rfl, rfl⟩
                                            go_wp2_with fail
                                            refine (ron_yes B s k' r _ (by omega) (Rr.drewN hrd (p1)) hk').mono ?_
                                            rintro e w' ⟨rfl, p2, rfl⟩
                                            go_wp2_with fail
                                            refine (rnext_any B s (k' + 1) r _ (Rr.at (Rr.set1 (Rr.drewN hrd (p1 + p2)) ((k' : Int) + 1)) (by omega : (k' : Int) + 1 = ((k' + 1 : Nat) : Int)))).mono ?_
                                            rw [x4]
                                            rintro e w' ⟨rfl, p3, rfl⟩
                                            go_wp2_with fail
                                            refine (ron_yes B s (k' + 1) r _ (by omega) (Rr.drewN (Rr.at (Rr.set1 (Rr.drewN hrd (p1 + p2)) ((k' : Int) + 1)) (by omega : (k' : Int) + 1 = ((k' + 1 : Nat) : Int))) (p3)) hk1).mono ?_
                                            rintro e w' ⟨rfl, p4, rfl⟩
                                            go_wp2_with fail
                                            refine (rnext_any B s (k' + 2) r _ (Rr.at (Rr.set1 (Rr.drewN (Rr.at (Rr.set1 (Rr.drewN hrd (p1 + p2)) ((k' : Int) + 1)) (by omega : (k' : Int) + 1 = ((k' + 1 : Nat) : Int))) (p3 + p4)) (((k' + 1 : Nat) : Int) + 1)) (by omega : ((k' + 1 : Nat) : Int) + 1 = ((k' + 2 : Nat) : Int)))).mono ?_
                                            rintro e w' ⟨rfl, p5, rfl⟩
                                            go_wp2_with fail
                                            refine (low_any _ _).mono ?_
                                            rw [hlw]
                                            rintro e w' ⟨rfl, rfl⟩
                                            go_wp2_with fail
                                            refine (ron_yes B s (k' + 2) r _ (by omega) (Rr.drewN (Rr.at (Rr.set1 (Rr.drewN (Rr.at (Rr.set1 (Rr.drewN hrd (p1 + p2)) ((k' : Int) + 1)) (by omega : (k' : Int) + 1 = ((k' + 1 : Nat) : Int))) (p3 + p4)) (((k' + 1 : Nat) : Int) + 1)) (by omega : ((k' + 1 : Nat) : Int) + 1 = ((k' + 2 : Nat) : Int))) (p5)) hk2).mono ?_
                                            rintro e w' ⟨rfl, p6, rfl⟩
                                            go_wp2_with fail
                                            refine (rnext_any B s (k' + 3) r _ (Rr.at (Rr.set1 (Rr.drewN (Rr.at (Rr.set1 (Rr.drewN (Rr.at (Rr.set1 (Rr.drewN hrd (p1 + p2)) ((k' : Int) + 1)) (by omega : (k' : Int) + 1 = ((k' + 1 : Nat) : Int))) (p3 + p4)) (((k' + 1 : Nat) : Int) + 1)) (by omega : ((k' + 1 : Nat) : Int) + 1 = ((k' + 2 : Nat) : Int))) (p5 + p6)) (((k' + 2 : Nat) : Int) + 1)) (by omega : ((k' + 2 : Nat) : Int) + 1 = ((k' + 3 : Nat) : Int)))).mono ?_
                                            rintro e w' ⟨rfl, p7, rfl⟩
                                            go_wp2_with fail
                                            refine (low_any _ _).mono ?_
                                            rw [hlw2]
                                            rintro e w' ⟨rfl, rfl⟩
                                            go_wp2_with fail
                                            refine (ron_no B s (k' + 3) r _ (Rr.drewN (Rr.at (Rr.set1 (Rr.drewN (Rr.at (Rr.set1 (Rr.drewN (Rr.at (Rr.set1 (Rr.drewN hrd (p1 + p2)) ((k' : Int) + 1)) (by omega : (k' : Int) + 1 = ((k' + 1 : Nat) : Int))) (p3 + p4)) (((k' + 1 : Nat) : Int) + 1)) (by omega : ((k' + 1 : Nat) : Int) + 1 = ((k' + 2 : Nat) : Int))) (p5 + p6)) (((k' + 2 : Nat) : Int) + 1)) (by omega : ((k' + 2 : Nat) : Int) + 1 = ((k' + 3 : Nat) : Int))) (p7))).mono ?_
                                            rintro e w' ⟨rfl, p8, rfl⟩
                                            go_wp2
                                            go_ret
                                            exact ⟨⟨rfl, Rr.at (Rr.set2 (Rr.drewN (Rr.at (Rr.set1 (Rr.drewN (Rr.at (Rr.set1 (Rr.drewN (Rr.at (Rr.set1 (Rr.drewN hrd (p1 + p2)) ((k' : Int) + 1)) (by omega : (k' : Int) + 1 = ((k' + 1 : Nat) : Int))) (p3 + p4)) (((k' + 1 : Nat) : Int) + 1)) (by omega : ((k' + 1 : Nat) : Int) + 1 = ((k' + 2 : Nat) : Int))) (p5 + p6)) (((k' + 2 : Nat) : Int) + 1)) (by omega : ((k' + 2 : Nat) : Int) + 1 = ((k' + 3 : Nat) : Int))) (p7 + p8)) true) (by omega)⟩, ((((((((hbt).drewN (p1 + p2)).setCell 1 (.int .i64 ((k' : Int) + 1))).drewN (p3 + p4)).setCell 1 (.int .i64 (((k' + 1 : Nat) : Int) + 1))).drewN (p5 + p6)).setCell 1 (.int .i64 (((k' + 2 : Nat) : Int) + 1))).drewN (p7 + p8)).setCell 2 _⟩
                                          · have u1 : ((16 * (v : Int) + (l : Int)) != 10) = true := by simp; omega
                                            have u2 : decide ((16 * (v : Int) + (l : Int)) < 32) = false := by simp; omega
                                            have u3 : decide (126 < (16 * (v : Int) + (l : Int))) = false := by simp; omega
                                            go_wp2_with fail
                                            refine (rnext_any B s k' r _ hrd).mono ?_
                                            rw [d5]
                                            rintro e w' ⟨rfl, p1, rfl⟩
                                            go_wp2_with fail
                                            refine (plain_any _ _).mono ?_
                                            rw [show plainI 92 = false from rfl]
                                            rintro e w' ⟨rfl, rfl⟩
                                            go_wp2_with fail
                                            refine (ron_yes B s k' r _ (by omega) (Rr.drewN hrd (p1)) hk').mono ?_
                                            rintro e w' ⟨rfl, p2, rfl⟩
                                            go_wp2_with fail
                                            refine (rnext_any B s (k' + 1) r _ (Rr.at (Rr.set1 (Rr.drewN hrd (p1 + p2)) ((k' : Int) + 1)) (by omega : (k' : Int) + 1 = ((k' + 1 : Nat) : Int)))).mono ?_
                                            rw [x4]
                                            rintro e w' ⟨rfl, p3, rfl⟩
                                            go_wp2_with fail
                                            refine (ron_yes B s (k' + 1) r _ (by omega) (Rr.drewN (Rr.at (Rr.set1 (Rr.drewN hrd (p1 + p2)) ((k' : Int) + 1)) (by omega : (k' : Int) + 1 = ((k' + 1 : Nat) : Int))) (p3)) hk1).mono ?_
                                            rintro e w' ⟨rfl, p4, rfl⟩
                                            go_wp2_with fail
                                            refine (rnext_any B s (k' + 2) r _ (Rr.at (Rr.set1 (Rr.drewN (Rr.at (Rr.set1 (Rr.drewN hrd (p1 + p2)) ((k' : Int) + 1)) (by omega : (k' : Int) + 1 = ((k' + 1 : Nat) : Int))) (p3 + p4)) (((k' + 1 : Nat) : Int) + 1)) (by omega : ((k' + 1 : Nat) : Int) + 1 = ((k' + 2 : Nat) : Int)))).mono ?_
                                            rintro e w' ⟨rfl, p5, rfl⟩
                                            go_wp2_with fail
                                            refine (low_any _ _).mono ?_
                                            rw [hlw]
                                            rintro e w' ⟨rfl, rfl⟩
                                            go_wp2_with fail
                                            refine (ron_yes B s (k' + 2) r _ (by omega) (Rr.drewN (Rr.at (Rr.set1 (Rr.drewN (Rr.at (Rr.set1 (Rr.drewN hrd (p1 + p2)) ((k' : Int) + 1)) (by omega : (k' : Int) + 1 = ((k' + 1 : Nat) : Int))) (p3 + p4)) (((k' + 1 : Nat) : Int) + 1)) (by omega : ((k' + 1 : Nat) : Int) + 1 = ((k' + 2 : Nat) : Int))) (p5)) hk2).mono ?_
                                            rintro e w' ⟨rfl, p6, rfl⟩
                                            go_wp2_with fail
                                            refine (rnext_any B s (k' + 3) r _ (Rr.at (Rr.set1 (Rr.drewN (Rr.at (Rr.set1 (Rr.drewN (Rr.at (Rr.set1 (Rr.drewN hrd (p1 + p2)) ((k' : Int) + 1)) (by omega : (k' : Int) + 1 = ((k' + 1 : Nat) : Int))) (p3 + p4)) (((k' + 1 : Nat) : Int) + 1)) (by omega : ((k' + 1 : Nat) : Int) + 1 = ((k' + 2 : Nat) : Int))) (p5 + p6)) (((k' + 2 : Nat) : Int) + 1)) (by omega : ((k' + 2 : Nat) : Int) + 1 = ((k' + 3 : Nat) : Int)))).mono ?_
                                            rintro e w' ⟨rfl, p7, rfl⟩
                                            go_wp2_with fail
                                            refine (low_any _ _).mono ?_
                                            rw [hlw2]
                                            rintro e w' ⟨rfl, rfl⟩
                                            go_wp2_with fail
                                            refine (ron_no B s (k' + 3) r _ (Rr.drewN (Rr.at (Rr.set1 (Rr.drewN (Rr.at (Rr.set1 (Rr.drewN (Rr.at (Rr.set1 (Rr.drewN hrd (p1 + p2)) ((k' : Int) + 1)) (by omega : (k' : Int) + 1 = ((k' + 1 : Nat) : Int))) (p3 + p4)) (((k' + 1 : Nat) : Int) + 1)) (by omega : ((k' + 1 : Nat) : Int) + 1 = ((k' + 2 : Nat) : Int))) (p5 + p6)) (((k' + 2 : Nat) : Int) + 1)) (by omega : ((k' + 2 : Nat) : Int) + 1 = ((k' + 3 : Nat) : Int))) (p7))).mono ?_
                                            rintro e w' ⟨rfl, p8, rfl⟩
                                            go_wp2
                                            go_ret
                                            exact ⟨⟨rfl, Rr.at (Rr.set2 (Rr.drewN (Rr.at (Rr.set1 (Rr.drewN (Rr.at (Rr.set1 (Rr.drewN (Rr.at (Rr.set1 (Rr.drewN hrd (p1 + p2)) ((k' : Int) + 1)) (by omega : (k' : Int) + 1 = ((k' + 1 : Nat) : Int))) (p3 + p4)) (((k' + 1 : Nat) : Int) + 1)) (by omega : ((k' + 1 : Nat) : Int) + 1 = ((k' + 2 : Nat) : Int))) (p5 + p6)) (((k' + 2 : Nat) : Int) + 1)) (by omega : ((k' + 2 : Nat) : Int) + 1 = ((k' + 3 : Nat) : Int))) (p7 + p8)) true) (by omega)⟩, ((((((((hbt).drewN (p1 + p2)).setCell 1 (.int .i64 ((k' : Int) + 1))).drewN (p3 + p4)).setCell 1 (.int .i64 (((k' + 1 : Nat) : Int) + 1))).drewN (p5 + p6)).setCell 1 (.int .i64 (((k' + 2 : Nat) : Int) + 1))).drewN (p7 + p8)).setCell 2 _⟩
                                        · rw [show escF s (k' + 1) = .ok (((16 * v + l : Nat) : Int), k' + 4) by simp [escF, hk1, x4, hk2, hh, hv, hk3, hl, hx]] at hq
                                          have Hq := Lib.hid hq
                                          clear hq
                                          have hcv : (16 * (v : Int) + (l : Int)) % 256 = 16 * (v : Int) + (l : Int) := by omega
                                          have hcn : ((16 * v + l : Nat) : Int) = 16 * (v : Int) + (l : Int) := by omega
                                          have Hcn := Lib.hid hcn
                                          clear hcn
                                          rcases tv with ⟨t1, tw⟩ | ⟨t1, t2, t3, tw⟩
                                          · have u1 : ((16 * (v : Int) + (l : Int)) != 10) = true := by simp; omega
                                            have u2 : decide ((16 * (v : Int) + (l : Int)) < 32) = true := by simp; omega
                                            go_wp2_with fail
                                            refine (rnext_any B s k' r _ hrd).mono ?_
                                            rw [d5]
                                            rintro e w' ⟨rfl, p1, rfl⟩
                                            go_wp2_with fail
                                            refine (plain_any _ _).mono ?_
                                            rw [show plainI 92 = false from rfl]
                                            rintro e w' ⟨rfl, rfl⟩
                                            go_wp2_with fail
                                            refine (ron_yes B s k' r _ (by omega) (Rr.drewN hrd (p1)) hk').mono ?_
                                            rintro e w' ⟨rfl, p2, rfl⟩
                                            go_wp2_with fail
                                            refine (rnext_any B s (k' + 1) r _ (Rr.at (Rr.set1 (Rr.drewN hrd (p1 + p2)) ((k' : Int) + 1)) (by omega : (k' : Int) + 1 = ((k' + 1 : Nat) : Int)))).mono ?_
                                            rw [x4]
                                            rintro e w' ⟨rfl, p3, rfl⟩
                                            go_wp2_with fail
                                            refine (ron_yes B s (k' + 1) r _ (by omega) (Rr.drewN (Rr.at (Rr.set1 (Rr.drewN hrd (p1 + p2)) ((k' : Int) + 1)) (by omega : (k' : Int) + 1 = ((k' + 1 : Nat) : Int))) (p3)) hk1).mono ?_
                                            rintro e w' ⟨rfl, p4, rfl⟩
                                            go_wp2_with fail
                                            refine (rnext_any B s (k' + 2) r _ (Rr.at (Rr.set1 (Rr.drewN (Rr.at (Rr.set1 (Rr.drewN hrd (p1 + p2)) ((k' : Int) + 1)) (by omega : (k' : Int) + 1 = ((k' + 1 : Nat) : Int))) (p3 + p4)) (((k' + 1 : Nat) : Int) + 1)) (by omega : ((k' + 1 : Nat) : Int) + 1 = ((k' + 2 : Nat) : Int)))).mono ?_
                                            rintro e w' ⟨rfl, p5, rfl⟩
                                            go_wp2_with fail
                                            refine (low_any _ _).mono ?_
                                            rw [hlw]
                                            rintro e w' ⟨rfl, rfl⟩
                                            go_wp2_with fail
                                            refine (ron_yes B s (k' + 2) r _ (by omega) (Rr.drewN (Rr.at (Rr.set1 (Rr.drewN (Rr.at (Rr.set1 (Rr.drewN hrd (p1 + p2)) ((k' : Int) + 1)) (by omega : (k' : Int) + 1 = ((k' + 1 : Nat) : Int))) (p3 + p4)) (((k' + 1 : Nat) : Int) + 1)) (by omega : ((k' + 1 : Nat) : Int) + 1 = ((k' + 2 : Nat) : Int))) (p5)) hk2).mono ?_
                                            rintro e w' ⟨rfl, p6, rfl⟩
                                            go_wp2_with fail
                                            refine (rnext_any B s (k' + 3) r _ (Rr.at (Rr.set1 (Rr.drewN (Rr.at (Rr.set1 (Rr.drewN (Rr.at (Rr.set1 (Rr.drewN hrd (p1 + p2)) ((k' : Int) + 1)) (by omega : (k' : Int) + 1 = ((k' + 1 : Nat) : Int))) (p3 + p4)) (((k' + 1 : Nat) : Int) + 1)) (by omega : ((k' + 1 : Nat) : Int) + 1 = ((k' + 2 : Nat) : Int))) (p5 + p6)) (((k' + 2 : Nat) : Int) + 1)) (by omega : ((k' + 2 : Nat) : Int) + 1 = ((k' + 3 : Nat) : Int)))).mono ?_
                                            rintro e w' ⟨rfl, p7, rfl⟩
                                            go_wp2_with fail
                                            refine (low_any _ _).mono ?_
                                            rw [hlw2]
                                            rintro e w' ⟨rfl, rfl⟩
                                            go_wp2_with fail
                                            refine (ron_yes B s (k' + 3) r _ (by omega) (Rr.drewN (Rr.at (Rr.set1 (Rr.drewN (Rr.at (Rr.set1 (Rr.drewN (Rr.at (Rr.set1 (Rr.drewN hrd (p1 + p2)) ((k' : Int) + 1)) (by omega : (k' : Int) + 1 = ((k' + 1 : Nat) : Int))) (p3 + p4)) (((k' + 1 : Nat) : Int) + 1)) (by omega : ((k' + 1 : Nat) : Int) + 1 = ((k' + 2 : Nat) : Int))) (p5 + p6)) (((k' + 2 : Nat) : Int) + 1)) (by omega : ((k' + 2 : Nat) : Int) + 1 = ((k' + 3 : Nat) : Int))) (p7)) hk3).mono ?_
                                            rintro e w' ⟨rfl, p8, rfl⟩
                                            have hownZ := own_but hown hB (((((((((But.refl B wr).drewN (p1 + p2)).setCell 1 (.int .i64 ((k' : Int) + 1))).drewN (p3 + p4)).setCell 1 (.int .i64 (((k' + 1 : Nat) : Int) + 1))).drewN (p5 + p6)).setCell 1 (.int .i64 (((k' + 2 : Nat) : Int) + 1))).drewN (p7 + p8)).setCell 1 (.int .i64 (((k' + 3 : Nat) : Int) + 1)))
                                            have HownZ := Lib.hid hownZ
                                            have HrdZ := Lib.hid (Rr.at (Rr.set1 (Rr.drewN (Rr.at (Rr.set1 (Rr.drewN (Rr.at (Rr.set1 (Rr.drewN (Rr.at (Rr.set1 (Rr.drewN hrd (p1 + p2)) ((k' : Int) + 1)) (by omega : (k' : Int) + 1 = ((k' + 1 : Nat) : Int))) (p3 + p4)) (((k' + 1 : Nat) : Int) + 1)) (by omega : ((k' + 1 : Nat) : Int) + 1 = ((k' + 2 : Nat) : Int))) (p5 + p6)) (((k' + 2 : Nat) : Int) + 1)) (by omega : ((k' + 2 : Nat) : Int) + 1 = ((k' + 3 : Nat) : Int))) (p7 + p8)) (((k' + 3 : Nat) : Int) + 1)) (by omega : ((k' + 3 : Nat) : Int) + 1 = ((k' + 4 : Nat) : Int)))
                                            have HbtZ := Lib.hid (((((((((hbt).drewN (p1 + p2)).setCell 1 (.int .i64 ((k' : Int) + 1))).drewN (p3 + p4)).setCell 1 (.int .i64 (((k' + 1 : Nat) : Int) + 1))).drewN (p5 + p6)).setCell 1 (.int .i64 (((k' + 2 : Nat) : Int) + 1))).drewN (p7 + p8)).setCell 1 (.int .i64 (((k' + 3 : Nat) : Int) + 1)))
                                            clear hownZ
                                            go_wp2_with (at_builtin; refine wpList_append_own _ rfl _ _ 83 rfl w.heap.size 5 i0 (.int .u8 0) 1 1 Tryd.underlying83 hi hz0 hz1 hz2 rfl (by decide) _ bs.length (byteCells bs) rfl (HownZ.out.alloc _) _ 1 1 [.int .u8 ((16 * (v : Int) + (l : Int)))] rfl rfl (cell_one_at _ _ (by simp) _ _) (by simp [Value.oneCell']) (by unfold maxLen; omega) (by omega) (by simp; omega) ?_; intro v' w1 hown1 hgrow1 _; have hrd1 := rr_grown (HownZ.out.alloc _) hB hgrow1 (Rr.alloc HrdZ.out _); have hbt1 := but_grown (HownZ.out.alloc _) (HbtZ.out.alloc _) (Nat.le_refl _) hgrow1; have c11 := hrd1.c1; have f11 := hrd1.f 1; have c12 := hrd1.c2; have HO1 := Lib.hid hown1; have HB1 := Lib.hid hbt1; have HR1 := Lib.hid hrd1; clear hown1 hgrow1 hbt1 hrd1)
                                            refine ⟨⟨k' + 4, n, bs ++ [YtmiipfdndgjndaaDoor.u8 (((16 * v + l : Nat) : Int))], Rr.at HR1.out (by omega), HB1.out, ?_, by omega, Hq.out, by simp; omega, by omega⟩, ?_⟩
                                            · rw [List.length_append, byteCells_append, Hcn.out, byteCells_u8 _ (by omega) (by omega)]
                                              exact HO1.out
                                            · rw [ratOf (k := k' + 4) (Rr.at HR1.out (by omega)), ratOf hrd]; omega
                                          · have u1 : ((16 * (v : Int) + (l : Int)) != 10) = true := by simp; omega
                                            have u2 : decide ((16 * (v : Int) + (l : Int)) < 32) = false := by simp; omega
                                            have u3 : decide (126 < (16 * (v : Int) + (l : Int))) = true := by simp; omega
                                            go_wp2_with fail
                                            refine (rnext_any B s k' r _ hrd).mono ?_
                                            rw [d5]
                                            rintro e w' ⟨rfl, p1, rfl⟩
                                            go_wp2_with fail
                                            refine (plain_any _ _).mono ?_
                                            rw [show plainI 92 = false from rfl]
                                            rintro e w' ⟨rfl, rfl⟩
                                            go_wp2_with fail
                                            refine (ron_yes B s k' r _ (by omega) (Rr.drewN hrd (p1)) hk').mono ?_
                                            rintro e w' ⟨rfl, p2, rfl⟩
                                            go_wp2_with fail
                                            refine (rnext_any B s (k' + 1) r _ (Rr.at (Rr.set1 (Rr.drewN hrd (p1 + p2)) ((k' : Int) + 1)) (by omega : (k' : Int) + 1 = ((k' + 1 : Nat) : Int)))).mono ?_
                                            rw [x4]
                                            rintro e w' ⟨rfl, p3, rfl⟩
                                            go_wp2_with fail
                                            refine (ron_yes B s (k' + 1) r _ (by omega) (Rr.drewN (Rr.at (Rr.set1 (Rr.drewN hrd (p1 + p2)) ((k' : Int) + 1)) (by omega : (k' : Int) + 1 = ((k' + 1 : Nat) : Int))) (p3)) hk1).mono ?_
                                            rintro e w' ⟨rfl, p4, rfl⟩
                                            go_wp2_with fail
                                            refine (rnext_any B s (k' + 2) r _ (Rr.at (Rr.set1 (Rr.drewN (Rr.at (Rr.set1 (Rr.drewN hrd (p1 + p2)) ((k' : Int) + 1)) (by omega : (k' : Int) + 1 = ((k' + 1 : Nat) : Int))) (p3 + p4)) (((k' + 1 : Nat) : Int) + 1)) (by omega : ((k' + 1 : Nat) : Int) + 1 = ((k' + 2 : Nat) : Int)))).mono ?_
                                            rintro e w' ⟨rfl, p5, rfl⟩
                                            go_wp2_with fail
                                            refine (low_any _ _).mono ?_
                                            rw [hlw]
                                            rintro e w' ⟨rfl, rfl⟩
                                            go_wp2_with fail
                                            refine (ron_yes B s (k' + 2) r _ (by omega) (Rr.drewN (Rr.at (Rr.set1 (Rr.drewN (Rr.at (Rr.set1 (Rr.drewN hrd (p1 + p2)) ((k' : Int) + 1)) (by omega : (k' : Int) + 1 = ((k' + 1 : Nat) : Int))) (p3 + p4)) (((k' + 1 : Nat) : Int) + 1)) (by omega : ((k' + 1 : Nat) : Int) + 1 = ((k' + 2 : Nat) : Int))) (p5)) hk2).mono ?_
                                            rintro e w' ⟨rfl, p6, rfl⟩
                                            go_wp2_with fail
                                            refine (rnext_any B s (k' + 3) r _ (Rr.at (Rr.set1 (Rr.drewN (Rr.at (Rr.set1 (Rr.drewN (Rr.at (Rr.set1 (Rr.drewN hrd (p1 + p2)) ((k' : Int) + 1)) (by omega : (k' : Int) + 1 = ((k' + 1 : Nat) : Int))) (p3 + p4)) (((k' + 1 : Nat) : Int) + 1)) (by omega : ((k' + 1 : Nat) : Int) + 1 = ((k' + 2 : Nat) : Int))) (p5 + p6)) (((k' + 2 : Nat) : Int) + 1)) (by omega : ((k' + 2 : Nat) : Int) + 1 = ((k' + 3 : Nat) : Int)))).mono ?_
                                            rintro e w' ⟨rfl, p7, rfl⟩
                                            go_wp2_with fail
                                            refine (low_any _ _).mono ?_
                                            rw [hlw2]
                                            rintro e w' ⟨rfl, rfl⟩
                                            go_wp2_with fail
                                            refine (ron_yes B s (k' + 3) r _ (by omega) (Rr.drewN (Rr.at (Rr.set1 (Rr.drewN (Rr.at (Rr.set1 (Rr.drewN (Rr.at (Rr.set1 (Rr.drewN hrd (p1 + p2)) ((k' : Int) + 1)) (by omega : (k' : Int) + 1 = ((k' + 1 : Nat) : Int))) (p3 + p4)) (((k' + 1 : Nat) : Int) + 1)) (by omega : ((k' + 1 : Nat) : Int) + 1 = ((k' + 2 : Nat) : Int))) (p5 + p6)) (((k' + 2 : Nat) : Int) + 1)) (by omega : ((k' + 2 : Nat) : Int) + 1 = ((k' + 3 : Nat) : Int))) (p7)) hk3).mono ?_
                                            rintro e w' ⟨rfl, p8, rfl⟩
                                            have hownZ := own_but hown hB (((((((((But.refl B wr).drewN (p1 + p2)).setCell 1 (.int .i64 ((k' : Int) + 1))).drewN (p3 + p4)).setCell 1 (.int .i64 (((k' + 1 : Nat) : Int) + 1))).drewN (p5 + p6)).setCell 1 (.int .i64 (((k' + 2 : Nat) : Int) + 1))).drewN (p7 + p8)).setCell 1 (.int .i64 (((k' + 3 : Nat) : Int) + 1)))
                                            have HownZ := Lib.hid hownZ
                                            have HrdZ := Lib.hid (Rr.at (Rr.set1 (Rr.drewN (Rr.at (Rr.set1 (Rr.drewN (Rr.at (Rr.set1 (Rr.drewN (Rr.at (Rr.set1 (Rr.drewN hrd (p1 + p2)) ((k' : Int) + 1)) (by omega : (k' : Int) + 1 = ((k' + 1 : Nat) : Int))) (p3 + p4)) (((k' + 1 : Nat) : Int) + 1)) (by omega : ((k' + 1 : Nat) : Int) + 1 = ((k' + 2 : Nat) : Int))) (p5 + p6)) (((k' + 2 : Nat) : Int) + 1)) (by omega : ((k' + 2 : Nat) : Int) + 1 = ((k' + 3 : Nat) : Int))) (p7 + p8)) (((k' + 3 : Nat) : Int) + 1)) (by omega : ((k' + 3 : Nat) : Int) + 1 = ((k' + 4 : Nat) : Int)))
                                            have HbtZ := Lib.hid (((((((((hbt).drewN (p1 + p2)).setCell 1 (.int .i64 ((k' : Int) + 1))).drewN (p3 + p4)).setCell 1 (.int .i64 (((k' + 1 : Nat) : Int) + 1))).drewN (p5 + p6)).setCell 1 (.int .i64 (((k' + 2 : Nat) : Int) + 1))).drewN (p7 + p8)).setCell 1 (.int .i64 (((k' + 3 : Nat) : Int) + 1)))
                                            clear hownZ
                                            go_wp2_with (at_builtin; refine wpList_append_own _ rfl _ _ 83 rfl w.heap.size 5 i0 (.int .u8 0) 1 1 Tryd.underlying83 hi hz0 hz1 hz2 rfl (by decide) _ bs.length (byteCells bs) rfl (HownZ.out.alloc _) _ 1 1 [.int .u8 ((16 * (v : Int) + (l : Int)))] rfl rfl (cell_one_at _ _ (by simp) _ _) (by simp [Value.oneCell']) (by unfold maxLen; omega) (by omega) (by simp; omega) ?_; intro v' w1 hown1 hgrow1 _; have hrd1 := rr_grown (HownZ.out.alloc _) hB hgrow1 (Rr.alloc HrdZ.out _); have hbt1 := but_grown (HownZ.out.alloc _) (HbtZ.out.alloc _) (Nat.le_refl _) hgrow1; have c11 := hrd1.c1; have f11 := hrd1.f 1; have c12 := hrd1.c2; have HO1 := Lib.hid hown1; have HB1 := Lib.hid hbt1; have HR1 := Lib.hid hrd1; clear hown1 hgrow1 hbt1 hrd1)
                                            refine ⟨⟨k' + 4, n, bs ++ [YtmiipfdndgjndaaDoor.u8 (((16 * v + l : Nat) : Int))], Rr.at HR1.out (by omega), HB1.out, ?_, by omega, Hq.out, by simp; omega, by omega⟩, ?_⟩
                                            · rw [List.length_append, byteCells_append, Hcn.out, byteCells_u8 _ (by omega) (by omega)]
                                              exact HO1.out
                                            · rw [ratOf (k := k' + 4) (Rr.at HR1.out (by omega)), ratOf hrd]; omega
                                    · rw [show escF s (k' + 1) = .error s.size by simp [escF, hk1, x4, hk2, hh, hv, hk3]] at hq
                                      subst hq
                                      have hb0 := bAt_out s (k' + 3) hk3
                                      rcases tv with ⟨t1, tw⟩ | ⟨t1, t2, t3, tw⟩
                                      · go_wp2_with fail
                                        refine (rnext_any B s k' r _ hrd).mono ?_
                                        rw [d5]
                                        rintro e w' ⟨rfl, p1, rfl⟩
                                        go_wp2_with fail
                                        refine (plain_any _ _).mono ?_
                                        rw [show plainI 92 = false from rfl]
                                        rintro e w' ⟨rfl, rfl⟩
                                        go_wp2_with fail
                                        refine (ron_yes B s k' r _ (by omega) (Rr.drewN hrd (p1)) hk').mono ?_
                                        rintro e w' ⟨rfl, p2, rfl⟩
                                        go_wp2_with fail
                                        refine (rnext_any B s (k' + 1) r _ (Rr.at (Rr.set1 (Rr.drewN hrd (p1 + p2)) ((k' : Int) + 1)) (by omega : (k' : Int) + 1 = ((k' + 1 : Nat) : Int)))).mono ?_
                                        rw [x4]
                                        rintro e w' ⟨rfl, p3, rfl⟩
                                        go_wp2_with fail
                                        refine (ron_yes B s (k' + 1) r _ (by omega) (Rr.drewN (Rr.at (Rr.set1 (Rr.drewN hrd (p1 + p2)) ((k' : Int) + 1)) (by omega : (k' : Int) + 1 = ((k' + 1 : Nat) : Int))) (p3)) hk1).mono ?_
                                        rintro e w' ⟨rfl, p4, rfl⟩
                                        go_wp2_with fail
                                        refine (rnext_any B s (k' + 2) r _ (Rr.at (Rr.set1 (Rr.drewN (Rr.at (Rr.set1 (Rr.drewN hrd (p1 + p2)) ((k' : Int) + 1)) (by omega : (k' : Int) + 1 = ((k' + 1 : Nat) : Int))) (p3 + p4)) (((k' + 1 : Nat) : Int) + 1)) (by omega : ((k' + 1 : Nat) : Int) + 1 = ((k' + 2 : Nat) : Int)))).mono ?_
                                        rintro e w' ⟨rfl, p5, rfl⟩
                                        go_wp2_with fail
                                        refine (low_any _ _).mono ?_
                                        rw [hlw]
                                        rintro e w' ⟨rfl, rfl⟩
                                        go_wp2_with fail
                                        refine (ron_yes B s (k' + 2) r _ (by omega) (Rr.drewN (Rr.at (Rr.set1 (Rr.drewN (Rr.at (Rr.set1 (Rr.drewN hrd (p1 + p2)) ((k' : Int) + 1)) (by omega : (k' : Int) + 1 = ((k' + 1 : Nat) : Int))) (p3 + p4)) (((k' + 1 : Nat) : Int) + 1)) (by omega : ((k' + 1 : Nat) : Int) + 1 = ((k' + 2 : Nat) : Int))) (p5)) hk2).mono ?_
                                        rintro e w' ⟨rfl, p6, rfl⟩
                                        go_wp2_with fail
                                        refine (rnext_any B s (k' + 3) r _ (Rr.at (Rr.set1 (Rr.drewN (Rr.at (Rr.set1 (Rr.drewN (Rr.at (Rr.set1 (Rr.drewN hrd (p1 + p2)) ((k' : Int) + 1)) (by omega : (k' : Int) + 1 = ((k' + 1 : Nat) : Int))) (p3 + p4)) (((k' + 1 : Nat) : Int) + 1)) (by omega : ((k' + 1 : Nat) : Int) + 1 = ((k' + 2 : Nat) : Int))) (p5 + p6)) (((k' + 2 : Nat) : Int) + 1)) (by omega : ((k' + 2 : Nat) : Int) + 1 = ((k' + 3 : Nat) : Int)))).mono ?_
                                        rw [hb0]
                                        rintro e w' ⟨rfl, p7, rfl⟩
                                        go_wp2_with fail
                                        refine (low_any _ _).mono ?_
                                        rw [show lowI 0 = 16 from rfl]
                                        rintro e w' ⟨rfl, rfl⟩
                                        go_wp2_with fail
                                        refine (ron_no B s (k' + 3) r _ (Rr.drewN (Rr.at (Rr.set1 (Rr.drewN (Rr.at (Rr.set1 (Rr.drewN (Rr.at (Rr.set1 (Rr.drewN hrd (p1 + p2)) ((k' : Int) + 1)) (by omega : (k' : Int) + 1 = ((k' + 1 : Nat) : Int))) (p3 + p4)) (((k' + 1 : Nat) : Int) + 1)) (by omega : ((k' + 1 : Nat) : Int) + 1 = ((k' + 2 : Nat) : Int))) (p5 + p6)) (((k' + 2 : Nat) : Int) + 1)) (by omega : ((k' + 2 : Nat) : Int) + 1 = ((k' + 3 : Nat) : Int))) (p7))).mono ?_
                                        rintro e w' ⟨rfl, p8, rfl⟩
                                        go_wp2
                                        go_ret
                                        exact ⟨⟨rfl, Rr.at (Rr.set2 (Rr.drewN (Rr.at (Rr.set1 (Rr.drewN (Rr.at (Rr.set1 (Rr.drewN (Rr.at (Rr.set1 (Rr.drewN hrd (p1 + p2)) ((k' : Int) + 1)) (by omega : (k' : Int) + 1 = ((k' + 1 : Nat) : Int))) (p3 + p4)) (((k' + 1 : Nat) : Int) + 1)) (by omega : ((k' + 1 : Nat) : Int) + 1 = ((k' + 2 : Nat) : Int))) (p5 + p6)) (((k' + 2 : Nat) : Int) + 1)) (by omega : ((k' + 2 : Nat) : Int) + 1 = ((k' + 3 : Nat) : Int))) (p7 + p8)) true) (by omega)⟩, ((((((((hbt).drewN (p1 + p2)).setCell 1 (.int .i64 ((k' : Int) + 1))).drewN (p3 + p4)).setCell 1 (.int .i64 (((k' + 1 : Nat) : Int) + 1))).drewN (p5 + p6)).setCell 1 (.int .i64 (((k' + 2 : Nat) : Int) + 1))).drewN (p7 + p8)).setCell 2 _⟩
                                      · go_wp2_with fail
                                        refine (rnext_any B s k' r _ hrd).mono ?_
                                        rw [d5]
                                        rintro e w' ⟨rfl, p1, rfl⟩
                                        go_wp2_with fail
                                        refine (plain_any _ _).mono ?_
                                        rw [show plainI 92 = false from rfl]
                                        rintro e w' ⟨rfl, rfl⟩
                                        go_wp2_with fail
                                        refine (ron_yes B s k' r _ (by omega) (Rr.drewN hrd (p1)) hk').mono ?_
                                        rintro e w' ⟨rfl, p2, rfl⟩
                                        go_wp2_with fail
                                        refine (rnext_any B s (k' + 1) r _ (Rr.at (Rr.set1 (Rr.drewN hrd (p1 + p2)) ((k' : Int) + 1)) (by omega : (k' : Int) + 1 = ((k' + 1 : Nat) : Int)))).mono ?_
                                        rw [x4]
                                        rintro e w' ⟨rfl, p3, rfl⟩
                                        go_wp2_with fail
                                        refine (ron_yes B s (k' + 1) r _ (by omega) (Rr.drewN (Rr.at (Rr.set1 (Rr.drewN hrd (p1 + p2)) ((k' : Int) + 1)) (by omega : (k' : Int) + 1 = ((k' + 1 : Nat) : Int))) (p3)) hk1).mono ?_
                                        rintro e w' ⟨rfl, p4, rfl⟩
                                        go_wp2_with fail
                                        refine (rnext_any B s (k' + 2) r _ (Rr.at (Rr.set1 (Rr.drewN (Rr.at (Rr.set1 (Rr.drewN hrd (p1 + p2)) ((k' : Int) + 1)) (by omega : (k' : Int) + 1 = ((k' + 1 : Nat) : Int))) (p3 + p4)) (((k' + 1 : Nat) : Int) + 1)) (by omega : ((k' + 1 : Nat) : Int) + 1 = ((k' + 2 : Nat) : Int)))).mono ?_
                                        rintro e w' ⟨rfl, p5, rfl⟩
                                        go_wp2_with fail
                                        refine (low_any _ _).mono ?_
                                        rw [hlw]
                                        rintro e w' ⟨rfl, rfl⟩
                                        go_wp2_with fail
                                        refine (ron_yes B s (k' + 2) r _ (by omega) (Rr.drewN (Rr.at (Rr.set1 (Rr.drewN (Rr.at (Rr.set1 (Rr.drewN hrd (p1 + p2)) ((k' : Int) + 1)) (by omega : (k' : Int) + 1 = ((k' + 1 : Nat) : Int))) (p3 + p4)) (((k' + 1 : Nat) : Int) + 1)) (by omega : ((k' + 1 : Nat) : Int) + 1 = ((k' + 2 : Nat) : Int))) (p5)) hk2).mono ?_
                                        rintro e w' ⟨rfl, p6, rfl⟩
                                        go_wp2_with fail
                                        refine (rnext_any B s (k' + 3) r _ (Rr.at (Rr.set1 (Rr.drewN (Rr.at (Rr.set1 (Rr.drewN (Rr.at (Rr.set1 (Rr.drewN hrd (p1 + p2)) ((k' : Int) + 1)) (by omega : (k' : Int) + 1 = ((k' + 1 : Nat) : Int))) (p3 + p4)) (((k' + 1 : Nat) : Int) + 1)) (by omega : ((k' + 1 : Nat) : Int) + 1 = ((k' + 2 : Nat) : Int))) (p5 + p6)) (((k' + 2 : Nat) : Int) + 1)) (by omega : ((k' + 2 : Nat) : Int) + 1 = ((k' + 3 : Nat) : Int)))).mono ?_
                                        rw [hb0]
                                        rintro e w' ⟨rfl, p7, rfl⟩
                                        go_wp2_with fail
                                        refine (low_any _ _).mono ?_
                                        rw [show lowI 0 = 16 from rfl]
                                        rintro e w' ⟨rfl, rfl⟩
                                        go_wp2_with fail
                                        refine (ron_no B s (k' + 3) r _ (Rr.drewN (Rr.at (Rr.set1 (Rr.drewN (Rr.at (Rr.set1 (Rr.drewN (Rr.at (Rr.set1 (Rr.drewN hrd (p1 + p2)) ((k' : Int) + 1)) (by omega : (k' : Int) + 1 = ((k' + 1 : Nat) : Int))) (p3 + p4)) (((k' + 1 : Nat) : Int) + 1)) (by omega : ((k' + 1 : Nat) : Int) + 1 = ((k' + 2 : Nat) : Int))) (p5 + p6)) (((k' + 2 : Nat) : Int) + 1)) (by omega : ((k' + 2 : Nat) : Int) + 1 = ((k' + 3 : Nat) : Int))) (p7))).mono ?_
                                        rintro e w' ⟨rfl, p8, rfl⟩
                                        go_wp2
                                        go_ret
                                        exact ⟨⟨rfl, Rr.at (Rr.set2 (Rr.drewN (Rr.at (Rr.set1 (Rr.drewN (Rr.at (Rr.set1 (Rr.drewN (Rr.at (Rr.set1 (Rr.drewN hrd (p1 + p2)) ((k' : Int) + 1)) (by omega : (k' : Int) + 1 = ((k' + 1 : Nat) : Int))) (p3 + p4)) (((k' + 1 : Nat) : Int) + 1)) (by omega : ((k' + 1 : Nat) : Int) + 1 = ((k' + 2 : Nat) : Int))) (p5 + p6)) (((k' + 2 : Nat) : Int) + 1)) (by omega : ((k' + 2 : Nat) : Int) + 1 = ((k' + 3 : Nat) : Int))) (p7 + p8)) true) (by omega)⟩, ((((((((hbt).drewN (p1 + p2)).setCell 1 (.int .i64 ((k' : Int) + 1))).drewN (p3 + p4)).setCell 1 (.int .i64 (((k' + 1 : Nat) : Int) + 1))).drewN (p5 + p6)).setCell 1 (.int .i64 (((k' + 2 : Nat) : Int) + 1))).drewN (p7 + p8)).setCell 2 _⟩
                              · rw [show escF s (k' + 1) = .error s.size by simp [escF, hk1, x4, hk2]] at hq
                                subst hq
                                have hb0 := bAt_out s (k' + 2) hk2
                                go_wp2_with fail
                                refine (rnext_any B s k' r _ hrd).mono ?_
                                rw [d5]
                                rintro e w' ⟨rfl, p1, rfl⟩
                                go_wp2_with fail
                                refine (plain_any _ _).mono ?_
                                rw [show plainI 92 = false from rfl]
                                rintro e w' ⟨rfl, rfl⟩
                                go_wp2_with fail
                                refine (ron_yes B s k' r _ (by omega) (Rr.drewN hrd (p1)) hk').mono ?_
                                rintro e w' ⟨rfl, p2, rfl⟩
                                go_wp2_with fail
                                refine (rnext_any B s (k' + 1) r _ (Rr.at (Rr.set1 (Rr.drewN hrd (p1 + p2)) ((k' : Int) + 1)) (by omega : (k' : Int) + 1 = ((k' + 1 : Nat) : Int)))).mono ?_
                                rw [x4]
                                rintro e w' ⟨rfl, p3, rfl⟩
                                go_wp2_with fail
                                refine (ron_yes B s (k' + 1) r _ (by omega) (Rr.drewN (Rr.at (Rr.set1 (Rr.drewN hrd (p1 + p2)) ((k' : Int) + 1)) (by omega : (k' : Int) + 1 = ((k' + 1 : Nat) : Int))) (p3)) hk1).mono ?_
                                rintro e w' ⟨rfl, p4, rfl⟩
                                go_wp2_with fail
                                refine (rnext_any B s (k' + 2) r _ (Rr.at (Rr.set1 (Rr.drewN (Rr.at (Rr.set1 (Rr.drewN hrd (p1 + p2)) ((k' : Int) + 1)) (by omega : (k' : Int) + 1 = ((k' + 1 : Nat) : Int))) (p3 + p4)) (((k' + 1 : Nat) : Int) + 1)) (by omega : ((k' + 1 : Nat) : Int) + 1 = ((k' + 2 : Nat) : Int)))).mono ?_
                                rw [hb0]
                                rintro e w' ⟨rfl, p5, rfl⟩
                                go_wp2_with fail
                                refine (low_any _ _).mono ?_
                                rw [show lowI 0 = 16 from rfl]
                                rintro e w' ⟨rfl, rfl⟩
                                go_wp2_with fail
                                refine (ron_no B s (k' + 2) r _ (Rr.drewN (Rr.at (Rr.set1 (Rr.drewN (Rr.at (Rr.set1 (Rr.drewN hrd (p1 + p2)) ((k' : Int) + 1)) (by omega : (k' : Int) + 1 = ((k' + 1 : Nat) : Int))) (p3 + p4)) (((k' + 1 : Nat) : Int) + 1)) (by omega : ((k' + 1 : Nat) : Int) + 1 = ((k' + 2 : Nat) : Int))) (p5))).mono ?_
                                rintro e w' ⟨rfl, p6, rfl⟩
                                go_wp2
                                go_ret
                                exact ⟨⟨rfl, Rr.at (Rr.set2 (Rr.drewN (Rr.at (Rr.set1 (Rr.drewN (Rr.at (Rr.set1 (Rr.drewN hrd (p1 + p2)) ((k' : Int) + 1)) (by omega : (k' : Int) + 1 = ((k' + 1 : Nat) : Int))) (p3 + p4)) (((k' + 1 : Nat) : Int) + 1)) (by omega : ((k' + 1 : Nat) : Int) + 1 = ((k' + 2 : Nat) : Int))) (p5 + p6)) true) (by omega)⟩, ((((((hbt).drewN (p1 + p2)).setCell 1 (.int .i64 ((k' : Int) + 1))).drewN (p3 + p4)).setCell 1 (.int .i64 (((k' + 1 : Nat) : Int) + 1))).drewN (p5 + p6)).setCell 2 _⟩
                            · rw [show escF s (k' + 1) = .error (k' + 1) by simp [escF, hk1, x1, x2, x3, x4]] at hq
                              subst hq
                              have y4 : (bAt s (k' + 1) == 120) = false := by simpa using x4
                              go_wp2_with fail
                              refine (rnext_any B s k' r _ hrd).mono ?_
                              rw [d5]
                              rintro e w' ⟨rfl, p1, rfl⟩
                              go_wp2_with fail
                              refine (plain_any _ _).mono ?_
                              rw [show plainI 92 = false from rfl]
                              rintro e w' ⟨rfl, rfl⟩
                              go_wp2_with fail
                              refine (ron_yes B s k' r _ (by omega) (Rr.drewN hrd (p1)) hk').mono ?_
                              rintro e w' ⟨rfl, p2, rfl⟩
                              go_wp2_with fail
                              refine (rnext_any B s (k' + 1) r _ (Rr.at (Rr.set1 (Rr.drewN hrd (p1 + p2)) ((k' : Int) + 1)) (by omega : (k' : Int) + 1 = ((k' + 1 : Nat) : Int)))).mono ?_
                              rintro e w' ⟨rfl, p3, rfl⟩
                              go_wp2_with fail
                              refine (ron_no B s (k' + 1) r _ (Rr.drewN (Rr.at (Rr.set1 (Rr.drewN hrd (p1 + p2)) ((k' : Int) + 1)) (by omega : (k' : Int) + 1 = ((k' + 1 : Nat) : Int))) (p3))).mono ?_
                              rintro e w' ⟨rfl, p4, rfl⟩
                              go_wp2
                              go_ret
                              exact ⟨⟨rfl, (Rr.set2 (Rr.drewN (Rr.at (Rr.set1 (Rr.drewN hrd (p1 + p2)) ((k' : Int) + 1)) (by omega : (k' : Int) + 1 = ((k' + 1 : Nat) : Int))) (p3 + p4)) true)⟩, ((((hbt).drewN (p1 + p2)).setCell 1 (.int .i64 ((k' : Int) + 1))).drewN (p3 + p4)).setCell 2 _⟩
                    · rw [show escF s (k' + 1) = .error s.size by simp [escF, hk1]] at hq
                      subst hq
                      have hb0 := bAt_out s (k' + 1) hk1
                      go_wp2_with fail
                      refine (rnext_any B s k' r _ hrd).mono ?_
                      rw [d5]
                      rintro e w' ⟨rfl, p1, rfl⟩
                      go_wp2_with fail
                      refine (plain_any _ _).mono ?_
                      rw [show plainI 92 = false from rfl]
                      rintro e w' ⟨rfl, rfl⟩
                      go_wp2_with fail
                      refine (ron_yes B s k' r _ (by omega) (Rr.drewN hrd (p1)) hk').mono ?_
                      rintro e w' ⟨rfl, p2, rfl⟩
                      go_wp2_with fail
                      refine (rnext_any B s (k' + 1) r _ (Rr.at (Rr.set1 (Rr.drewN hrd (p1 + p2)) ((k' : Int) + 1)) (by omega : (k' : Int) + 1 = ((k' + 1 : Nat) : Int)))).mono ?_
                      rw [hb0]
                      rintro e w' ⟨rfl, p3, rfl⟩
                      go_wp2_with fail
                      refine (ron_no B s (k' + 1) r _ (Rr.drewN (Rr.at (Rr.set1 (Rr.drewN hrd (p1 + p2)) ((k' : Int) + 1)) (by omega : (k' : Int) + 1 = ((k' + 1 : Nat) : Int))) (p3))).mono ?_
                      rintro e w' ⟨rfl, p4, rfl⟩
                      go_wp2
                      go_ret
                      exact ⟨⟨rfl, Rr.at (Rr.set2 (Rr.drewN (Rr.at (Rr.set1 (Rr.drewN hrd (p1 + p2)) ((k' : Int) + 1)) (by omega : (k' : Int) + 1 = ((k' + 1 : Nat) : Int))) (p3 + p4)) true) (by omega)⟩, ((((hbt).drewN (p1 + p2)).setCell 1 (.int .i64 ((k' : Int) + 1))).drewN (p3 + p4)).setCell 2 _⟩
                  · rw [if_neg d5] at hq
                    have Hq := Lib.hid hq
                    clear hq
                    have hpl : plainI (bAt s k') = true := by unfold plainI; simp at d3 d4 ⊢; omega
                    go_wp2_with fail
                    refine (rnext_any B s k' r _ hrd).mono ?_
                    rintro e w' ⟨rfl, p1, rfl⟩
                    go_wp2_with fail
                    refine (plain_any _ _).mono ?_
                    rw [hpl]
                    rintro e w' ⟨rfl, rfl⟩
                    have hownZ := own_but hown hB ((But.refl B wr).drewN (p1))
                    have HownZ := Lib.hid hownZ
                    have HrdZ := Lib.hid (Rr.drewN hrd (p1))
                    have HbtZ := Lib.hid ((hbt).drewN (p1))
                    clear hownZ
                    go_wp2_with (at_builtin; refine wpList_append_own _ rfl _ _ 83 rfl w.heap.size 5 i0 (.int .u8 0) 1 1 Tryd.underlying83 hi hz0 hz1 hz2 rfl (by decide) _ bs.length (byteCells bs) rfl (HownZ.out.alloc _) _ 1 1 [.int .u8 (bAt s k')] rfl rfl (cell_one_at _ _ (by simp) _ _) (by simp [Value.oneCell']) (by unfold maxLen; omega) (by omega) (by simp; omega) ?_; intro v' w1 hown1 hgrow1 _; have hrd1 := rr_grown (HownZ.out.alloc _) hB hgrow1 (Rr.alloc HrdZ.out _); have hbt1 := but_grown (HownZ.out.alloc _) (HbtZ.out.alloc _) (Nat.le_refl _) hgrow1; have c11 := hrd1.c1; have f11 := hrd1.f 1; have c12 := hrd1.c2; have HO1 := Lib.hid hown1; have HB1 := Lib.hid hbt1; have HR1 := Lib.hid hrd1; clear hown1 hgrow1 hbt1 hrd1)
                    refine ⟨⟨k' + 1, n, bs ++ [YtmiipfdndgjndaaDoor.u8 (bAt s k')], Rr.at (Rr.set1 HR1.out ((k' : Int) + 1)) (by omega), HB1.out.setCell 1 _, ?_, by omega, Hq.out, by simp; omega, by omega⟩, ?_⟩
                    · rw [List.length_append, byteCells_append, byteCells_u8 _ r0 r1]
                      exact own_but HO1.out hB ((But.refl B _).setCell 1 _)
                    · rw [ratOf (k := k' + 1) (Rr.at (Rr.set1 HR1.out ((k' : Int) + 1)) (by omega)), ratOf hrd]; omega
      · rw [if_neg hk'] at hq
        subst hq
        have hb0 := bAt_out s k' hk'
        cases d2 : fullL limit bs.length with
        | true =>
          have g1 : decide (0 ≤ limit) = true := by unfold fullL at d2; simp at d2; simpa using d2.1
          have g2 : decide (limit ≤ (bs.length : Int)) = true := by unfold fullL at d2; simp at d2; simpa using d2.2
          go_wp2_with fail
          refine (rnext_any B s k' r _ hrd).mono ?_
          rw [hb0]
          rintro e w' ⟨rfl, p1, rfl⟩
          go_wp2
          go_ret
          exact ⟨⟨rfl, Rr.at (Rr.set2 (Rr.drewN hrd (p1)) true) (by omega)⟩, ((hbt).drewN (p1)).setCell 2 _⟩
        | false =>
          have d2b : decide (0 ≤ limit) = false ∨ (decide (0 ≤ limit) = true ∧ decide (limit ≤ (bs.length : Int)) = false) := by unfold fullL at d2; cases h1 : decide (0 ≤ limit) <;> simp_all
          rcases d2b with g1 | ⟨g1, g2⟩
          · go_wp2_with fail
            refine (rnext_any B s k' r _ hrd).mono ?_
            rw [hb0]
            rintro e w' ⟨rfl, p1, rfl⟩
            go_wp2_with fail
            refine (plain_any _ _).mono ?_
            rw [show plainI 0 = false from rfl]
            rintro e w' ⟨rfl, rfl⟩
            go_wp2_with fail
            refine (ron_no B s k' r _ (Rr.drewN hrd (p1))).mono ?_
            rintro e w' ⟨rfl, p2, rfl⟩
            go_wp2
            go_ret
            exact ⟨⟨rfl, Rr.at (Rr.set2 (Rr.drewN hrd (p1 + p2)) true) (by omega)⟩, ((hbt).drewN (p1 + p2)).setCell 2 _⟩
          · go_wp2_with fail
            refine (rnext_any B s k' r _ hrd).mono ?_
            rw [hb0]
            rintro e w' ⟨rfl, p1, rfl⟩
            go_wp2_with fail
            refine (plain_any _ _).mono ?_
            rw [show plainI 0 = false from rfl]
            rintro e w' ⟨rfl, rfl⟩
            go_wp2_with fail
            refine (ron_no B s k' r _ (Rr.drewN hrd (p1))).mono ?_
            rintro e w' ⟨rfl, p2, rfl⟩
            go_wp2
            go_ret
            exact ⟨⟨rfl, Rr.at (Rr.set2 (Rr.drewN hrd (p1 + p2)) true) (by omega)⟩, ((hbt).drewN (p1 + p2)).setCell 2 _⟩
  · have hq0 := HR.out
    obtain ⟨q, hqq, hqk, hcb⟩ : ∃ q : Nat, R = .error q ∧ q = k ∧ (bAt s k == 34) = false := by
      by_cases hk : k < s.size
      · have hc : ¬ bAt s k = 34 := fun hc => hst ⟨hk, hc⟩
        rw [if_pos hk, if_neg hc] at hq0
        exact ⟨k, hq0.symm, rfl, by simpa using hc⟩
      · rw [if_neg hk] at hq0
        exact ⟨s.size, hq0.symm, by omega, by rw [bAt_out s k hk]; rfl⟩
    subst hqq
    subst hqk
    clear HR hq0
    go_enter Tryd.func45, Tryd.ntmps45
    go_wp2_with fail
    refine (rnext_any B s q r _ h).mono ?_
    rintro e w' ⟨rfl, p1, rfl⟩
    go_wp2_with fail
    refine (ron_no B s q r _ (Rr.drewN h p1)).mono ?_
    rintro e w' ⟨rfl, p2, rfl⟩
    go_wp2_with fail
    go_loopw [5] (fun v wr => Rr wr B s (q : Int) true r ∧ But B w wr) (fun _ _ => 0)
    case atStart => exact ⟨Rr.set2 (Rr.drewN h (p1 + p2)) true, ((But.refl B w).drewN (p1 + p2)).setCell 2 _⟩
    case round =>
      obtain ⟨hrd, hbt⟩ := hrel
      have c2 := hrd.c2
      go_wp2
      go_ret
      exact ⟨⟨rfl, hrd⟩, hbt⟩
end Go.Proofs.YtmiipfdndgjndaaDoor
