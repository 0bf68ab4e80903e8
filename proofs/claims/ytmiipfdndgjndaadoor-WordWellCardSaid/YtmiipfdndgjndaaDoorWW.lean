/- The walk of WordWell: printed by gen_well.py. -/
import Derived.Test.YtmiipfdndgjndaaDoorX7
import Derived.Test.YtmiipfdndgjndaaDoorP
import Derived.Test.YtmiipfdndgjndaaDoorWQ
import Derived.Laws.Concat
import Derived.Deep.DeepCutAuto
import Derived.Test.YtmiipfdndgjndaaDoorX8
namespace Go.Proofs.YtmiipfdndgjndaaDoor
open Go.RowKit Go.Lib
set_option maxHeartbeats 4000000
def rdPost (pl er : Int) (W : World) (e : Ending) (w' : World) : Prop :=
  (∃ (k n : Int) (st : ByteArray) (A : Option Addr) (m c : Nat) (r : Int), e = .returned (.tuple #[.agg #[.int .u8 k, .int .i64 n, .string st, .slice A m c, .int .i64 r], .int .i64 pl, .int .i64 er])) ∧ Below W.heap.size W w'
theorem read_form (u : ByteArray) (W : World) (hu : u.size ≤ 140737488351232) (pl er : Int) (hp : ((readF u).2.1 : Int) = pl) (he : (readF u).2.2 = er) : Calls Tryd.prog 12 #[.string u] W (rdPost pl er W) := by
  refine (Read_any u W hu).mono ?_
  rintro e w' ⟨⟨cs, rfl, hv⟩, hb⟩
  rw [hp, he]
  generalize (readF u).1 = v at hv
  obtain ⟨k, n, s, A, c, r, -, rfl⟩ := hv.forms
  exact ⟨⟨k, n, s, A, _, c, r, rfl⟩, hb⟩
theorem app_bAt (a b : ByteArray) (i : Nat) (hi : i < a.size) : bAt (a ++ b) i = bAt a i := by
  have hs : (a ++ b).size = a.size + b.size := ByteArray.size_append
  have e1 := rest_at (show i < (a ++ b).size by omega)
  have e2 := rest_at hi
  have e3 : (a ++ b).data.toList = a.data.toList ++ b.data.toList := by simp
  rw [e3, List.drop_append_of_le_length (by rw [size_list]; omega), e2, List.cons_append] at e1
  injection e1 with e1 _
  have a1 := bAt_range a i
  have a2 := bAt_range (a ++ b) i
  have b1 := u8_toNat _ a1.1 a1.2
  have b2 := u8_toNat _ a2.1 a2.2
  rw [← e1] at b2
  omega
theorem pre_size (s : ByteArray) (q : Nat) (hq : q ≤ s.size) : (s.extract 0 q).size = q := by
  rw [← size_list, seg_length s 0 q (Nat.zero_le _) hq]
  omega
theorem pre_bAt (s : ByteArray) (q i : Nat) (hq : q ≤ s.size) (hi : i < q) : bAt (s.extract 0 q) i = bAt s i := by
  have e1 := rest_at (show i < (s.extract 0 q).size by rw [pre_size s q hq]; exact hi)
  have e2 := rest_at (show i < s.size by omega)
  rw [Lib.extract_data, List.drop_zero, List.drop_take, e2] at e1
  obtain ⟨m, hm⟩ : ∃ m, q - 0 - i = m + 1 := ⟨q - 0 - i - 1, by omega⟩
  rw [hm, List.take_succ_cons] at e1
  injection e1 with e1 _
  have a1 := bAt_range s i
  have a2 := bAt_range (s.extract 0 q) i
  have b1 := u8_toNat _ a1.1 a1.2
  have b2 := u8_toNat _ a2.1 a2.2
  rw [← e1] at b2
  omega
/-- With the next byte it cannot be gone on. -/
theorem well_next (s more : ByteArray) (q : Nat) (h : (readF s).2.2 = 30) (hq : (readF s).2.1 = q) (hl : q < s.size) : (readF (s.extract 0 (q + 1) ++ more)).2.2 = 30 ∧ (readF (s.extract 0 (q + 1) ++ more)).2.1 = q := by
  have hsz := pre_size s (q + 1) (by omega)
  refine readF_again s _ q h hq ⟨hl, by rw [ByteArray.size_append, hsz]; omega, fun i hi => ?_⟩
  rw [app_bAt _ _ i (by omega), pre_bAt s (q + 1) i (by omega) (by omega)]
/-- Told again, the place is the same. -/
theorem well_again (s : ByteArray) (q : Nat) (_h : (readF s).2.2 = 30) (hq : (readF s).2.1 = q) (hl : q ≤ s.size) : (readF (s.extract 0 q)).2.2 = 0 ∨ ((readF (s.extract 0 q)).2.2 = 30 ∧ (readF (s.extract 0 q)).2.1 = q) := by
  rcases readF_cases (s.extract 0 q) with h0 | h0
  · exact .inl h0
  · refine .inr ⟨h0, ?_⟩
    have hsz := pre_size s q hl
    have hp := readF_place (s.extract 0 q)
    by_cases hlt : (readF (s.extract 0 q)).2.1 < q
    · have := readF_again (s.extract 0 q) s _ h0 rfl ⟨by omega, by omega, fun i hi => (pre_bAt s q i hl (by omega)).symm⟩
      omega
    · omega
def tailB (m : Nat) : ByteArray := ⟨(List.replicate m 93).toArray⟩
theorem tailB_size (m : Nat) : (tailB m).size = m := by unfold tailB; rw [← size_list]; simp
theorem tailB_step (m : Nat) : tailB m ++ ⟨#[93]⟩ = tailB (m + 1) := by
  apply ByteArray.ext
  unfold tailB
  apply Array.ext'
  simp [List.replicate_succ']
def headB (i : Nat) : ByteArray := ⟨(heads[i]?.getD []).toArray⟩
def headCells : Array Value := #[.string ⟨#[]⟩, .string ⟨#[95]⟩, .string ⟨#[49]⟩, .string ⟨#[34]⟩, .string ⟨#[48, 34]⟩, .string ⟨#[48, 48, 34]⟩, .string ⟨#[102, 34]⟩, .string ⟨#[110, 34]⟩, .string ⟨#[120, 48, 48, 34]⟩]
theorem headCells_at (i : Nat) (hi : i < 9) : headCells[i]? = some (.string (headB i)) := by
  rcases i with _ | _ | _ | _ | _ | _ | _ | _ | _ | i
  all_goals first | rfl | omega
theorem headB_size (i : Nat) : (headB i).size ≤ 4 := by
  rcases i with _ | _ | _ | _ | _ | _ | _ | _ | _ | i
  all_goals first | decide | (show ((⟨(([] : List UInt8)).toArray⟩ : ByteArray)).size ≤ 4; decide)
theorem head_idx (hd : List UInt8) (h : hd ∈ heads) : ∃ i, i < 9 ∧ headB i = ⟨hd.toArray⟩ := by
  obtain ⟨i, hi, e⟩ := List.mem_iff_getElem.1 h
  refine ⟨i, hi, ?_⟩
  unfold headB
  rw [List.getElem?_eq_getElem hi, e]
  rfl
/-- One step of the scan. -/
theorem scan_at (t : ByteArray) (p : Int) (st F : Int × Bool × Nat) (i : Nat) (hi : i < t.size) (h : scanL p st (t.data.toList.drop i) = F) : scanL (bAt t i) (scanB st p (bAt t i)) (t.data.toList.drop (i + 1)) = F := by
  rw [rest_at hi] at h
  obtain ⟨a, b⟩ := bAt_range t i
  rw [scanL, u8_toNat _ a b] at h
  exact h
theorem sc1 (o p : Int) : scanB (o, true, 0) p 92 = (o, true, 1) := by simp [scanB]
theorem sc2 (o p : Int) : scanB (o, true, 0) p 34 = (o, false, 0) := by simp [scanB]
theorem sc3 (o p c : Int) (h1 : ¬ c = 92) (h2 : ¬ c = 34) : scanB (o, true, 0) p c = (o, true, 0) := by simp [scanB, h1, h2]
theorem sc4 (o p : Int) : scanB (o, false, 0) p 34 = (o, true, 0) := by simp [scanB]
theorem sc5 (o p : Int) : scanB (o, false, 0) p 91 = (o + 1, false, 0) := by simp [scanB]
theorem sc6 (o p : Int) : scanB (o, false, 0) p 93 = (o - 1, false, 0) := by simp [scanB]
theorem sc7 (o p c : Int) (h1 : ¬ c = 34) (h2 : ¬ c = 91) (h3 : ¬ c = 93) : scanB (o, false, 0) p c = (o, false, 0) := by simp [scanB, h1, h2, h3]
theorem sc8 (o : Int) (inn : Bool) : scanB (o, inn, 1) 92 120 = (o, inn, 2) := by simp [scanB]
theorem sc9 (o p : Int) (inn : Bool) (h : ¬ p = 92) : scanB (o, inn, 1) p 120 = (o, inn, 0) := by simp [scanB, h]
theorem sc10 (o p c : Int) (inn : Bool) (h : ¬ c = 120) : scanB (o, inn, 1) p c = (o, inn, 0) := by simp [scanB, h]
theorem sc11 (o p c : Int) (inn : Bool) : scanB (o, inn, 2) p c = (o, inn, 1) := by simp [scanB]
def prevB (t : ByteArray) (i : Nat) : Int := if i = 0 then 0 else bAt t (i - 1)
theorem prevB_succ (t : ByteArray) (i : Nat) : prevB t (i + 1) = bAt t i := by unfold prevB; rw [if_neg (by omega)]; rfl
set_option maxRecDepth 100000 in
theorem well_any (s more : ByteArray) (w : World) (hs0 : s.size ≤ 140737488351232) (hm0 : more.size ≤ 140737488351232) (htab : Tab w.heap.size w) (hE : ErrVar w) :
    Calls Tryd.prog 7 #[.string s, .string more] w fun e w' => e = .returned (.bool true) ∧ Below w.heap.size w w' := by
  have AW := Lib.hid (fun (W : World) (X : Below w.heap.size w W) => awake_any W (tab_at htab X) (err_at hE X))
  have X0 := Lib.hid (Below.refl w.heap.size w)
  obtain ⟨q, hq⟩ : ∃ q, (readF s).2.1 = q := ⟨_, rfl⟩
  rcases readF_cases s with he | he
  · have R0 := Lib.hid (fun W => read_form s W hs0 (q : Int) 0 (by rw [hq]) he)
    clear hq he
    go_enter Tryd.func7, Tryd.ntmps7
    go_wp2_with fail
    refine (R0.out _).mono ?_
    rintro e w1 ⟨⟨k1, n1, st1, A1, m1, c1, r1, rfl⟩, hb⟩
    have X1 := Lib.hid (below_next X0.out hb)
    clear hb
    have X1b := Lib.hid (X1.out.alloc X1.out.size (.cells #[.int .u8 k1, .int .i64 n1, .string st1, .slice A1 m1 c1, .int .i64 r1] 26))
    go_wp2_with fail
    refine (AW.out _ X1b.out).mono ?_
    rintro e wz ⟨rfl, hb⟩
    have XZ := Lib.hid (below_next X1b.out hb)
    clear hb
    go_wp2
    go_ret
    exact ⟨rfl, XZ.out⟩

  by_cases hs : 3000 < s.size
  · have t1 : decide ((3000 : Int) < (s.size : Int)) = true := by simp; omega
    have R0 := Lib.hid (fun W => read_form s W hs0 (q : Int) 30 (by rw [hq]) he)
    clear hq he
    go_enter Tryd.func7, Tryd.ntmps7
    go_wp2_with fail
    refine (R0.out _).mono ?_
    rintro e w1 ⟨⟨k1, n1, st1, A1, m1, c1, r1, rfl⟩, hb⟩
    have X1 := Lib.hid (below_next X0.out hb)
    clear hb
    have X1b := Lib.hid (X1.out.alloc X1.out.size (.cells #[.int .u8 k1, .int .i64 n1, .string st1, .slice A1 m1 c1, .int .i64 r1] 26))
    go_wp2_with fail
    refine (AW.out _ X1b.out).mono ?_
    rintro e wz ⟨rfl, hb⟩
    have XZ := Lib.hid (below_next X1b.out hb)
    clear hb
    go_wp2
    go_ret
    exact ⟨rfl, XZ.out⟩

  have t1 : decide ((3000 : Int) < (s.size : Int)) = false := by simp; omega
  by_cases hm : 3000 < more.size
  · have t2 : decide ((3000 : Int) < (more.size : Int)) = true := by simp; omega
    have R0 := Lib.hid (fun W => read_form s W hs0 (q : Int) 30 (by rw [hq]) he)
    clear hq he
    go_enter Tryd.func7, Tryd.ntmps7
    go_wp2_with fail
    refine (R0.out _).mono ?_
    rintro e w1 ⟨⟨k1, n1, st1, A1, m1, c1, r1, rfl⟩, hb⟩
    have X1 := Lib.hid (below_next X0.out hb)
    clear hb
    have X1b := Lib.hid (X1.out.alloc X1.out.size (.cells #[.int .u8 k1, .int .i64 n1, .string st1, .slice A1 m1 c1, .int .i64 r1] 26))
    go_wp2_with fail
    refine (AW.out _ X1b.out).mono ?_
    rintro e wz ⟨rfl, hb⟩
    have XZ := Lib.hid (below_next X1b.out hb)
    clear hb
    go_wp2
    go_ret
    exact ⟨rfl, XZ.out⟩

  have t2 : decide ((3000 : Int) < (more.size : Int)) = false := by simp; omega
  have R0 := Lib.hid (fun W => read_form s W hs0 (q : Int) 30 (by rw [hq]) he)
  have hql : q ≤ s.size := by have := readF_place s; omega
  have hwn := fun h : q < s.size => well_next s more q he hq h
  have hwa := well_again s q he hq hql
  obtain ⟨hd, hhd, j, hj, hF, hok⟩ := readF_well s he
  rw [hq] at hF hok
  obtain ⟨ix, hix, hhx⟩ := head_idx hd hhd
  have h0sz := pre_size s q hql
  have h1sz := fun h : q < s.size => pre_size s (q + 1) h
  have h0l : (s.extract 0 q).data.toList = s.data.toList.take q := by rw [Lib.extract_data, List.drop_zero, Nat.sub_zero]
  rw [← h0l] at hF hok
  obtain ⟨x1, hx1⟩ : ∃ x, s.extract 0 (q + 1) = x := ⟨_, rfl⟩
  obtain ⟨x0, hx0⟩ : ∃ x, s.extract 0 q = x := ⟨_, rfl⟩
  rw [hx1] at hwn h1sz
  rw [hx0] at hwa h0sz hF hok
  have hgood : (readF (x0 ++ headB ix ++ tailB j)).2.2 = 0 := hok _ (by rw [hhx]; unfold tailB; simp)
  have RH := Lib.hid (fun (i : Nat) W => read_form (x0 ++ headB i ++ tailB j) W (by have := headB_size i; have := tailB_size j; rw [ByteArray.size_append, ByteArray.size_append]; omega) _ _ rfl rfl)
  have HGO := Lib.hid hgood
  have HHS := Lib.hid headB_size
  have HTS := Lib.hid tailB_size
  obtain ⟨F, hFF⟩ : ∃ F, scanL 0 (0, false, 0) x0.data.toList = F := ⟨_, rfl⟩
  rw [hFF] at hF
  have HF1 := Lib.hid hF
  have HFF := Lib.hid hFF
  clear hF hFF hok hgood hhx hhd h0l he hq
  have fu0 : decide ((q : Int) < 0) = false := by simp
  have fu1 : decide ((s.size : Int) < (q : Int)) = false := by simp; omega
  have v0 : (0 : Int) ≤ (q : Int) := by omega
  have v1 : (q : Int) ≤ (s.size : Int) := by omega
  have hj16 : decide ((16 : Int) < (j : Int)) = false := by simp; omega
  have hj0 : decide ((j : Int) < 0) = false := by simp
  have hj16N : decide (16 < j) = false := by simp; omega
  go_enter Tryd.func7, Tryd.ntmps7
  go_wp2_with fail
  refine (R0.out _).mono ?_
  rintro e w1 ⟨⟨k1, n1, st1, A1, m1, c1, r1, rfl⟩, hb⟩
  have X1 := Lib.hid (below_next X0.out hb)
  clear hb
  have X1b := Lib.hid (X1.out.alloc X1.out.size (.cells #[.int .u8 k1, .int .i64 n1, .string st1, .slice A1 m1 c1, .int .i64 r1] 26))
  go_upto_if 56 with (fail)
  go_cut [] (fun wx => Below w.heap.size w wx)
  case first =>
    by_cases hlt0 : q < s.size
    · have tw0 : decide ((q : Int) < (s.size : Int)) = true := by simp; omega
      have h1s := h1sz hlt0
      obtain ⟨hn1, hn2⟩ := hwn hlt0
      have v2 : (q : Int) + 1 ≤ (s.size : Int) := by omega
      have R1 := Lib.hid (fun W => read_form (x1 ++ more) W (by rw [ByteArray.size_append]; omega) (q : Int) 30 (by rw [hn2]) hn1)
      clear hn1 hn2 hwn h1sz
      go_wp2_with fail
      refine (R1.out _).mono ?_
      rintro e w2 ⟨⟨k2, n2, st2, A2, m2, c2, r2, rfl⟩, hb⟩
      have X2 := Lib.hid (below_next X1b.out hb)
      clear hb
      have X2b := Lib.hid (X2.out.alloc X2.out.size (.cells #[.int .u8 k2, .int .i64 n2, .string st2, .slice A2 m2 c2, .int .i64 r2] 26))
      go_wp2_with fail
      go_meet
      case rel => exact X2b.out

    · have tw0 : decide ((q : Int) < (s.size : Int)) = false := by simp; omega
      clear hwn h1sz
      go_wp2_with fail
      go_meet
      case rel => exact X1b.out
  case rest =>
    have XA := Lib.hid hcut
    clear hcut hwn h1sz hx1
    go_upto_if 76 with (fail)
    go_cut [] (fun wx => Below w.heap.size w wx)
    case first =>
      by_cases hq0 : 0 < q
      · have tw1 : decide ((0 : Int) < (q : Int)) = true := by simp; omega
        rcases hwa with e0 | ⟨e0, e1⟩
        · have R2 := Lib.hid (fun W => read_form x0 W (by omega) _ 0 rfl e0)
          clear e0
          go_wp2_with fail
          refine (R2.out _).mono ?_
          rintro e w3 ⟨⟨k3, n3, st3, A3, m3, c3, r3, rfl⟩, hb⟩
          have X3 := Lib.hid (below_next XA.out hb)
          clear hb
          have X3b := Lib.hid (X3.out.alloc X3.out.size (.cells #[.int .u8 k3, .int .i64 n3, .string st3, .slice A3 m3 c3, .int .i64 r3] 26))
          go_wp2_with fail
          go_meet
          case rel => exact X3b.out

        · have R2 := Lib.hid (fun W => read_form x0 W (by omega) (q : Int) 30 (by rw [e1]) e0)
          clear e0 e1
          go_wp2_with fail
          refine (R2.out _).mono ?_
          rintro e w3 ⟨⟨k3, n3, st3, A3, m3, c3, r3, rfl⟩, hb⟩
          have X3 := Lib.hid (below_next XA.out hb)
          clear hb
          have X3b := Lib.hid (X3.out.alloc X3.out.size (.cells #[.int .u8 k3, .int .i64 n3, .string st3, .slice A3 m3 c3, .int .i64 r3] 26))
          go_wp2_with fail
          go_meet
          case rel => exact X3b.out

      · have tw1 : decide ((0 : Int) < (q : Int)) = false := by simp; omega
        clear hwa
        go_wp2_with fail
        go_meet
        case rel => exact XA.out
    case rest =>
      have XB := Lib.hid hcut
      clear hcut hwa
      go_wp2_with fail
      have H0 := Lib.hid h0sz
      have hx3 : x0.size ≤ 3000 := by omega
      clear h0sz hx0 fu0 fu1 v0 v1 t1 t2 hs hm hs0 hm0 htab hE hql
      go_loopw [15, 16, 17, 18] (fun ov iv ev xv wr => ∃ (o : Int) (inn : Bool) (e i : Nat), ov = .int .i64 o ∧ iv = .bool inn ∧ ev = .int .i64 e ∧ xv = .int .i64 i ∧ i ≤ q ∧ e ≤ 2 ∧ (0 < e → 0 < i) ∧ -(i : Int) ≤ o ∧ o ≤ i ∧ scanL (prevB x0 i) (o, inn, e) (x0.data.toList.drop i) = F ∧ Below w.heap.size w wr) (fun _ _ _ xv _ => q - (Go.RowKit.intOf xv).toNat)
      case atStart => exact ⟨0, false, 0, 0, rfl, rfl, rfl, rfl, by omega, by omega, (fun h => absurd h (by omega)), by omega, by omega, (by rw [List.drop_zero]; exact HFF.out), by exact XB.out⟩
      case round =>
        obtain ⟨o, inn, e, i, rfl, rfl, rfl, rfl, hi, he2, hei, ho1, ho2, hsc, hbw⟩ := hrel
        have HBW := Lib.hid hbw
        clear hbw
        by_cases hlt : i < q
        · have hkI : decide ((i : Int) < (x0.size : Int)) = true := by rw [H0.out]; simp; omega
          have hkN : decide (i < x0.size) = true := by rw [H0.out]; simp; omega
          have g0 : (0 : Int) ≤ (i : Int) := by omega
          have g1 : (i : Int) < (x0.size : Int) := by rw [H0.out]; omega
          have hbe := bAt_eq x0 i (by have := H0.out; omega)
          have hstep := scan_at x0 _ _ _ i (by have := H0.out; omega) hsc
          obtain ⟨c, hcc⟩ : ∃ c, bAt x0 i = c := ⟨_, rfl⟩
          rw [hcc] at hbe hstep
          have HCC := Lib.hid hcc
          have Hq2 := Lib.hid hstep
          clear hsc hcc hstep
          have hE012 : e = 0 ∨ e = 1 ∨ e = 2 := by omega
          rcases hE012 with rfl | rfl | rfl
          · cases inn with
            | true =>
              by_cases c92 : c = 92
              · subst c92
                have hq3 := Hq2.out
                rw [sc1] at hq3
                have Hq3 := Lib.hid hq3
                clear hq3 Hq2
                go_wp2_with fail
                exact ⟨⟨o, true, 1, i + 1, rfl, rfl, rfl, by simp, by omega, by omega, (fun _ => by omega), by omega, by omega, (by rw [prevB_succ, HCC.out]; exact Hq3.out), HBW.out⟩, by simp [Go.RowKit.intOf]; omega⟩
              · have b92 : (c == 92) = false := by simpa using c92
                by_cases c34 : c = 34
                · subst c34
                  have hq3 := Hq2.out
                  rw [sc2] at hq3
                  have Hq3 := Lib.hid hq3
                  clear hq3 Hq2
                  go_wp2_with fail
                  exact ⟨⟨o, false, 0, i + 1, rfl, rfl, rfl, by simp, by omega, by omega, (fun _ => by omega), by omega, by omega, (by rw [prevB_succ, HCC.out]; exact Hq3.out), HBW.out⟩, by simp [Go.RowKit.intOf]; omega⟩
                · have b34 : (c == 34) = false := by simpa using c34
                  have hq3 := Hq2.out
                  rw [sc3 _ _ _ c92 c34] at hq3
                  have Hq3 := Lib.hid hq3
                  clear hq3 Hq2
                  go_wp2_with fail
                  exact ⟨⟨o, true, 0, i + 1, rfl, rfl, rfl, by simp, by omega, by omega, (fun _ => by omega), by omega, by omega, (by rw [prevB_succ, HCC.out]; exact Hq3.out), HBW.out⟩, by simp [Go.RowKit.intOf]; omega⟩
            | false =>
              by_cases c34 : c = 34
              · subst c34
                have hq3 := Hq2.out
                rw [sc4] at hq3
                have Hq3 := Lib.hid hq3
                clear hq3 Hq2
                go_wp2_with fail
                exact ⟨⟨o, true, 0, i + 1, rfl, rfl, rfl, by simp, by omega, by omega, (fun _ => by omega), by omega, by omega, (by rw [prevB_succ, HCC.out]; exact Hq3.out), HBW.out⟩, by simp [Go.RowKit.intOf]; omega⟩
              · have b34 : (c == 34) = false := by simpa using c34
                by_cases c91 : c = 91
                · subst c91
                  have hq3 := Hq2.out
                  rw [sc5] at hq3
                  have Hq3 := Lib.hid hq3
                  clear hq3 Hq2
                  go_wp2_with fail
                  exact ⟨⟨(o + 1), false, 0, i + 1, rfl, rfl, rfl, by simp, by omega, by omega, (fun _ => by omega), by omega, by omega, (by rw [prevB_succ, HCC.out]; exact Hq3.out), HBW.out⟩, by simp [Go.RowKit.intOf]; omega⟩
                · have b91 : (c == 91) = false := by simpa using c91
                  by_cases c93 : c = 93
                  · subst c93
                    have hq3 := Hq2.out
                    rw [sc6] at hq3
                    have Hq3 := Lib.hid hq3
                    clear hq3 Hq2
                    go_wp2_with fail
                    exact ⟨⟨(o - 1), false, 0, i + 1, rfl, rfl, rfl, by simp, by omega, by omega, (fun _ => by omega), by omega, by omega, (by rw [prevB_succ, HCC.out]; exact Hq3.out), HBW.out⟩, by simp [Go.RowKit.intOf]; omega⟩
                  · have b93 : (c == 93) = false := by simpa using c93
                    have hq3 := Hq2.out
                    rw [sc7 _ _ _ c34 c91 c93] at hq3
                    have Hq3 := Lib.hid hq3
                    clear hq3 Hq2
                    go_wp2_with fail
                    exact ⟨⟨o, false, 0, i + 1, rfl, rfl, rfl, by simp, by omega, by omega, (fun _ => by omega), by omega, by omega, (by rw [prevB_succ, HCC.out]; exact Hq3.out), HBW.out⟩, by simp [Go.RowKit.intOf]; omega⟩
          · have hi0 : 0 < i := hei (by omega)
            obtain ⟨m, hm1⟩ : ∃ m, i = m + 1 := ⟨i - 1, by omega⟩
            have hpm : prevB x0 i = bAt x0 m := by rw [hm1, prevB_succ]
            have hml : m < x0.size := by have := H0.out; omega
            have hbm := bAt_eq x0 m hml
            obtain ⟨p, hpp⟩ : ∃ p, bAt x0 m = p := ⟨_, rfl⟩
            rw [hpp] at hpm hbm
            rw [hpm] at Hq2
            have im : (i : Int) - 1 = (m : Int) := by omega
            have z0 : (0 : Int) ≤ (m : Int) := by omega
            have z1 : (m : Int) < (x0.size : Int) := by rw [H0.out]; omega
            clear hpp hpm hm1 hei
            by_cases c120 : c = 120
            · subst c120
              by_cases p92 : p = 92
              · subst p92
                have hq3 := Hq2.out
                rw [sc8] at hq3
                have Hq3 := Lib.hid hq3
                clear hq3 Hq2
                go_wp2_with fail
                exact ⟨⟨o, inn, 2, i + 1, rfl, rfl, rfl, by simp, by omega, by omega, (fun _ => by omega), by omega, by omega, (by rw [prevB_succ, HCC.out]; exact Hq3.out), HBW.out⟩, by simp [Go.RowKit.intOf]; omega⟩
              · have bp : (p == 92) = false := by simpa using p92
                have hq3 := Hq2.out
                rw [sc9 _ _ _ p92] at hq3
                have Hq3 := Lib.hid hq3
                clear hq3 Hq2
                go_wp2_with fail
                exact ⟨⟨o, inn, 0, i + 1, rfl, rfl, rfl, by simp, by omega, by omega, (fun _ => by omega), by omega, by omega, (by rw [prevB_succ, HCC.out]; exact Hq3.out), HBW.out⟩, by simp [Go.RowKit.intOf]; omega⟩
            · have b120 : (c == 120) = false := by simpa using c120
              have hq3 := Hq2.out
              rw [sc10 _ _ _ _ c120] at hq3
              have Hq3 := Lib.hid hq3
              clear hq3 Hq2
              go_wp2_with fail
              exact ⟨⟨o, inn, 0, i + 1, rfl, rfl, rfl, by simp, by omega, by omega, (fun _ => by omega), by omega, by omega, (by rw [prevB_succ, HCC.out]; exact Hq3.out), HBW.out⟩, by simp [Go.RowKit.intOf]; omega⟩
          · have hq3 := Hq2.out
            rw [sc11] at hq3
            have Hq3 := Lib.hid hq3
            clear hq3 Hq2
            go_wp2_with fail
            exact ⟨⟨o, inn, 1, i + 1, rfl, rfl, rfl, by simp, by omega, by omega, (fun _ => by omega), by omega, by omega, (by rw [prevB_succ, HCC.out]; exact Hq3.out), HBW.out⟩, by simp [Go.RowKit.intOf]; omega⟩
        · have hkI : decide ((i : Int) < (x0.size : Int)) = false := by rw [H0.out]; simp; omega
          have hkN : decide (i < x0.size) = false := by rw [H0.out]; simp; omega
          obtain rfl : i = q := by omega
          have hF2 : o = (j : Int) := by
            have h1 := HF1.out
            rw [List.drop_eq_nil_of_le (by rw [size_list]; have := H0.out; omega)] at hsc
            rw [← hsc] at h1
            exact h1
          subst hF2
          clear hsc hei
          go_wp2_with fail
          go_loopw [19, 20] (fun tv iv wr => ∃ m : Nat, tv = .string (tailB m) ∧ iv = .int .i64 m ∧ m ≤ j ∧ Below w.heap.size w wr) (fun _ iv _ => j - (Go.RowKit.intOf iv).toNat)
          case atStart => exact ⟨0, rfl, rfl, by omega, by exact HBW.out⟩
          case round =>
            clear HBW
            obtain ⟨m, rfl, rfl, hm, hbw⟩ := hrel
            have HBW := Lib.hid hbw
            clear hbw
            by_cases hlt2 : m < j
            · have hkJ : decide ((m : Int) < (j : Int)) = true := by simp; omega
              have hkJN : decide (m < j) = true := by simp; omega
              have hts : (tailB m).size ≤ 16 := by rw [HTS.out]; omega
              go_wp2_with fail
              exact ⟨⟨m + 1, (by rw [tailB_step]), by simp, by omega, HBW.out⟩, by simp [Go.RowKit.intOf]; omega⟩
            · have hkJ : decide ((m : Int) < (j : Int)) = false := by simp; omega
              have hkJN : decide (m < j) = false := by simp; omega
              obtain rfl : m = j := by omega
              go_wp2_with fail
              obtain ⟨hb, hhb⟩ : ∃ hb, hb = wr.heap.size := ⟨_, rfl⟩
              have HHB := Lib.hid hhb
              have hbl : (wr.alloc (.cells headCells 9)).heap[hb]? = some (.cells headCells 9 (0, 0)) := by rw [hhb]; exact heap_alloc_new wr _
              have HBL := Lib.hid hbl
              rw [← hhb]
              clear hhb hbl
              go_loopw [22] (fun iv wr => ∃ i : Nat, iv = .int .i64 i ∧ i ≤ 9 ∧ wr.heap[hb]? = some (.cells headCells 9 (0, 0)) ∧ Below w.heap.size w wr ∧ (∀ i', i' < i → ¬ (readF (x0 ++ headB i' ++ tailB m)).2.2 = 0)) (fun iv _ => 9 - (Go.RowKit.intOf iv).toNat)
              case atStart => exact ⟨0, rfl, by omega, HBL.out, by exact HBW.out.alloc HBW.out.size _, fun i' h => absurd h (by omega)⟩
              case round =>
                clear HBW HBL
                obtain ⟨i, rfl, hi9, hbl, hbw, hno⟩ := hrel
                have HBL := Lib.hid hbl
                have HBW := Lib.hid hbw
                have HNO := Lib.hid hno
                have hsz9 := (Array.getElem?_eq_some_iff.1 hbl).1
                clear hbw hno
                by_cases hlt3 : i < 9
                · have hk9 : decide ((i : Int) < 9) = true := by simp; omega
                  have hk9N : decide (i < 9) = true := by simp; omega
                  have hcell : wr.cell? ⟨hb, i, none⟩ = some (.string (headB i)) := by rw [blk_cell hbl]; exact headCells_at i hlt3
                  have hhs := HHS.out i
                  have hts : (tailB m).size ≤ 16 := by rw [HTS.out]; omega
                  clear hbl
                  obtain ⟨er, her⟩ : ∃ er, (readF (x0 ++ headB i ++ tailB m)).2.2 = er := ⟨_, rfl⟩
                  have RHI := Lib.hid (fun W => RH.out i W)
                  rw [her] at RHI
                  have HER := Lib.hid her
                  clear her
                  by_cases her0 : er = 0
                  · subst her0
                    go_wp2_with fail
                    refine (RHI.out _).mono ?_
                    rintro e w5 ⟨⟨k5, n5, st5, A5, m5, c5, r5, rfl⟩, hb9⟩
                    have X5q := Lib.hid hb9
                    have X5 := Lib.hid (below_next HBW.out hb9)
                    clear hb9
                    have X5b := Lib.hid (X5.out.alloc X5.out.size (.cells #[.int .u8 k5, .int .i64 n5, .string st5, .slice A5 m5 c5, .int .i64 r5] 26))
                    go_wp2_with fail
                    refine (AW.out _ X5b.out).mono ?_
                    rintro e wz ⟨rfl, hb8⟩
                    have XZ := Lib.hid (below_next X5b.out hb8)
                    clear hb8
                    go_wp2
                    go_ret
                    exact ⟨rfl, XZ.out⟩
                  · have t0 : (er == 0) = false := by simpa using her0
                    go_wp2_with fail
                    refine (RHI.out _).mono ?_
                    rintro e w5 ⟨⟨k5, n5, st5, A5, m5, c5, r5, rfl⟩, hb9⟩
                    have X5q := Lib.hid hb9
                    have X5 := Lib.hid (below_next HBW.out hb9)
                    clear hb9
                    have X5b := Lib.hid (X5.out.alloc X5.out.size (.cells #[.int .u8 k5, .int .i64 n5, .string st5, .slice A5 m5 c5, .int .i64 r5] 26))
                    have hbl5 := (X5q.out.block hb hsz9).trans HBL.out
                    have hbl6 := (Below.heap_alloc w5 (.cells #[.int .u8 k5, .int .i64 n5, .string st5, .slice A5 m5 c5, .int .i64 r5] 26) hb (by have := X5q.out.size; omega)).trans hbl5
                    have HBL6 := Lib.hid hbl6
                    clear hbl5 hbl6
                    go_wp2_with fail
                    refine ⟨⟨i + 1, by simp, by omega, HBL6.out, X5b.out, fun i' h => ?_⟩, by simp [Go.RowKit.intOf]; omega⟩
                    by_cases e9 : i' = i
                    · rw [e9, HER.out]; exact her0
                    · exact HNO.out i' (by omega)
                · exact absurd HGO.out (HNO.out ix (by omega))

end Go.Proofs.YtmiipfdndgjndaaDoor
