/- The contract of the reference's Quote. -/
import Derived.Test.YtmiipfdndgjndaaDoorUR
import Derived.Test.YtmiipfdndgjndaaDoorH
namespace Go.Proofs.YtmiipfdndgjndaaDoor
open Go.RowKit Go.Lib
set_option maxHeartbeats 2000000
/-- A literal of a slice is the call's own. -/
theorem own_lit {w : World} {base m : Nat} {e : TypeId} (xs : Array Value) (hb : base ≤ w.heap.size) (hm : m ≤ 1099511627776) (hs : xs.size = m * 1) : (w.alloc (.cells xs e)).ownsRow base e 1 (.slice (some ⟨w.heap.size, 0, none⟩) m m) m xs.toList :=
  ⟨by simpa using hs, .inr ⟨w.heap.size, m, xs, rfl, hb, heap_alloc_new w _, Nat.le_refl _, by unfold maxLen; omega, hs, List.take_of_length_le (by simpa using Nat.le_of_eq hs)⟩⟩
set_option maxRecDepth 100000 in
theorem refQuote_any (s : ByteArray) (w : World) (hlim : (quoteL s.data.toList).length ≤ 140737488355328) :
    Calls Tryd.prog 19 #[.string s] w fun e w' => e = .returned (.string ⟨(quoteL s.data.toList).toArray⟩) ∧ Below w.heap.size w w' := by
  obtain ⟨i0, hi, hz0, hz1, hz2⟩ := info_parts info5
  have hl0 := quoteTo_le s 0
  have hsz : s.size ≤ 140737488355328 := by
    have h1 := quoteM_length s.data.toList
    rw [size_list] at h1
    have h2 : (quoteL s.data.toList).length = (quoteM s.data.toList).length + 2 := by simp [quoteL]
    omega
  have HO1 : Hid ((w.alloc (.cells #[.int .u8 34] 5)).ownsRow w.heap.size 5 1 (.slice (some ⟨w.heap.size, 0, none⟩) 1 1) (quoteTo s 0).length (byteCells (quoteTo s 0))) := Lib.hid (own_lit (m := 1) #[.int .u8 34] (Nat.le_refl _) (by omega) rfl)
  have HG1 := Lib.hid ((Grew.refl w.heap.size w).alloc (Nat.le_refl _) (.cells #[.int .u8 34] 5))
  go_enter Tryd.func19, Tryd.ntmps19
  go_wp2_with fail
  go_loopw [3, 4] (fun b i wr => ∃ k : Nat, k ≤ s.size ∧ i = .int .i64 k ∧ wr.ownsRow w.heap.size 5 1 b (quoteTo s k).length (byteCells (quoteTo s k)) ∧ Grew w.heap.size w wr) (fun _ i _ => s.size - (intOf i).toNat)
  case atStart => exact ⟨0, by omega, rfl, HO1.out, HG1.out⟩
  case round =>
    obtain ⟨k, hk, rfl, hown, hg⟩ := hrel
    obtain ⟨ad, cap, rfl⟩ := own_slice hown
    have hgs := hg.size
    have HO := Lib.hid hown
    have HG := Lib.hid hg
    clear hown hg
    by_cases hlt : k < s.size
    · have hq := quoteTo_succ s k hlt
      have hle := quoteTo_le s (k + 1)
      have hlen : (quoteTo s (k + 1)).length = (quoteTo s k).length + (quoteI (bAt s k)).length := by rw [hq, List.length_append]
      obtain ⟨c0, c1⟩ := bAt_range s k
      have hbe := bAt_eq s k hlt
      generalize bAt s k = c at hq hlen c0 c1 hbe
      have hu := u8_toNat c c0 c1
      have Hu := Lib.hid hu
      clear hu
      by_cases h1 : c = 34 ∨ c = 92
      · have hqi : quoteI c = [92, YtmiipfdndgjndaaDoor.u8 c] := by unfold quoteI; rw [if_pos h1]
        rw [hqi] at hq hlen
        simp only [List.length_cons, List.length_nil] at hlen
        have HQ := Lib.hid hq
        clear hq hqi
        have hbc : byteCells [92, YtmiipfdndgjndaaDoor.u8 c] = [.int .u8 92, .int .u8 c] := by simp only [byteCells, List.map_cons, List.map_nil, Hu.out]; rfl
        have HBC := Lib.hid hbc
        clear hbc
        have h1b : (c == 34) = true ∨ ((c == 34) = false ∧ (c == 92) = true) := by
          rcases h1 with h1 | h1
          · exact .inl (by simp [h1])
          · exact .inr ⟨by simp [h1], by simp [h1]⟩
        clear h1
        rcases h1b with g1 | ⟨g1, g2⟩
        all_goals
          go_wp2_with (at_builtin; refine wpList_append_own _ rfl _ _ 83 rfl w.heap.size 5 i0 (.int .u8 0) 1 1 Tryd.underlying83 hi hz0 hz1 hz2 rfl (by decide) _ (quoteTo s k).length (byteCells (quoteTo s k)) rfl (by exact HO.out.alloc _) _ 2 2 [.int .u8 92, .int .u8 c] rfl rfl (cells_at _ _ (by simp) #[.int .u8 92, .int .u8 c] _) (by simp [Value.oneCell']) (by unfold maxLen; omega) (by omega) (by simp; omega) ?_; intro v2 w2 hown2 hgrow2 _; have hg2 := (HG.out.alloc (by omega) (.cells #[.int .u8 92, .int .u8 c] 5)).grown (by simp; omega) (HO.out.alloc _) hgrow2; have HO2 := Lib.hid hown2; have HG2 := Lib.hid hg2; clear hown2 hgrow2 hg2)
          refine ⟨⟨k + 1, by omega, rfl, ?_, HG2.out⟩, by simp only [intOf]; omega⟩
          have h3 := HO2.out
          rw [HQ.out, List.length_append, byteCells_append, HBC.out]
          exact h3
      · have g1 : (c == 34) = false := by simp; omega
        have g2 : (c == 92) = false := by simp; omega
        by_cases h2 : c = 10
        · have hqi : quoteI c = [92, 110] := by unfold quoteI; rw [if_neg h1, if_pos h2]
          rw [hqi] at hq hlen
          simp only [List.length_cons, List.length_nil] at hlen
          have HQ := Lib.hid hq
          clear hq hqi
          have g3 : (c == 10) = true := by simp; omega
          clear h1 h2
          go_wp2_with (at_builtin; refine wpList_append_own _ rfl _ _ 83 rfl w.heap.size 5 i0 (.int .u8 0) 1 1 Tryd.underlying83 hi hz0 hz1 hz2 rfl (by decide) _ (quoteTo s k).length (byteCells (quoteTo s k)) rfl (by exact HO.out.alloc _) _ 2 2 [.int .u8 92, .int .u8 110] rfl rfl (cells_at _ _ (by simp) #[.int .u8 92, .int .u8 110] _) (by simp [Value.oneCell']) (by unfold maxLen; omega) (by omega) (by simp; omega) ?_; intro v2 w2 hown2 hgrow2 _; have hg2 := (HG.out.alloc (by omega) (.cells #[.int .u8 92, .int .u8 110] 5)).grown (by simp; omega) (HO.out.alloc _) hgrow2; have HO2 := Lib.hid hown2; have HG2 := Lib.hid hg2; clear hown2 hgrow2 hg2)
          refine ⟨⟨k + 1, by omega, rfl, ?_, HG2.out⟩, by simp only [intOf]; omega⟩
          have h3 := HO2.out
          rw [HQ.out, List.length_append, byteCells_append]
          exact h3
        · have g3 : (c == 10) = false := by simp; omega
          by_cases h3 : c < 32 ∨ 126 < c
          · have hqi : quoteI c = [92, 120, YtmiipfdndgjndaaDoor.u8 (digs[(c / 16).toNat]?.getD 0), YtmiipfdndgjndaaDoor.u8 (digs[(c % 16).toNat]?.getD 0)] := by unfold quoteI; rw [if_neg h1, if_neg h2, if_pos h3]
            rw [hqi] at hq hlen
            simp only [List.length_cons, List.length_nil] at hlen
            have HQ := Lib.hid hq
            clear hq hqi
            have h3x := h3
            have g4 : decide (c < 32) = true ∨ (decide (c < 32) = false ∧ decide (126 < c) = true) := by
              rcases h3 with h3 | h3
              · exact .inl (by simp; omega)
              · exact .inr ⟨by simp; omega, by simp; omega⟩
            clear h1 h2 h3
            have q0 : (0 : Int) ≤ c / 16 := by omega
            have q1 : c / 16 < 16 := by omega
            have q2 : (0 : Int) ≤ c % 16 := by omega
            have q3 : c % 16 < 16 := by omega
            have hpl : plainI c = false := by unfold plainI; rcases h3x with h3x | h3x <;> (simp; omega)
            clear h3x
            have hbc : byteCells [92, 120, YtmiipfdndgjndaaDoor.u8 (digs[(c / 16).toNat]?.getD 0), YtmiipfdndgjndaaDoor.u8 (digs[(c % 16).toNat]?.getD 0)] = [.int .u8 92, .int .u8 120, .int .u8 (((⟨#[48, 49, 50, 51, 52, 53, 54, 55, 56, 57, 97, 98, 99, 100, 101, 102]⟩ : ByteArray)[(c / 16).toNat]'(by show (c / 16).toNat < 16; omega)).toNat : Int), .int .u8 (((⟨#[48, 49, 50, 51, 52, 53, 54, 55, 56, 57, 97, 98, 99, 100, 101, 102]⟩ : ByteArray)[(c % 16).toNat]'(by show (c % 16).toNat < 16; omega)).toNat : Int)] := by
              have e1 := dig_u8 (c / 16).toNat (by omega)
              have e2 := dig_u8 (c % 16).toNat (by omega)
              simp only [byteCells, List.map_cons, List.map_nil, e1, e2]
              rfl
            have HBC := Lib.hid hbc
            clear hbc
            have hod : wr.drew.ownsRow w.heap.size 5 1 (.slice ad (quoteTo s k).length cap) (quoteTo s k).length (byteCells (quoteTo s k)) := HO.out
            have HOD := Lib.hid hod
            clear hod
            clear g4
            go_wp2_with fail
            refine (plain_any _ _).mono ?_
            rw [hpl]
            rintro e w' ⟨rfl, rfl⟩
            go_wp2_with fail
            have k0 : IntKind.u8.wrap (c.tdiv 16) = c / 16 := IntWalk.u8_quo c 16 ⟨c0, c1, by omega⟩
            have k1 : IntKind.u8.wrap (c.tmod 16) = c % 16 := (by rw [Int.tmod_eq_emod_of_nonneg c0]; exact IntWalk.u8_in _ (by omega))
            have k2 : c.tmod 16 = c % 16 := Int.tmod_eq_emod_of_nonneg c0
            go_region_held_law (fun _ => True) (trivial) ((refine step_append_lies _ rfl (.tmp 16) (.tmp 23) 83 rfl w.heap.size 5 i0 (.int .u8 0) 1 1 Tryd.underlying83 hi hz0 hz1 hz2 rfl (by decide) _ (quoteTo s k).length (byteCells (quoteTo s k)) (by rfl) (HOD.out.alloc _) _ 4 4 _ (by rfl) (by rfl) (cells_at _ _ (by simp) _ _) (by simp [Value.oneCell']) (by decide) (by unfold maxLen; omega) (by omega) (by simp; omega) _ rfl ?_; intro g cap2 w2 hown2 hgrow2 _ _; have hg2 := ((HG.out.same (b' := wr.drew) rfl rfl rfl rfl).alloc (by simp; omega) _).grown (by simp; omega) (HOD.out.alloc _) hgrow2; have HO2 := Lib.hid hown2; have HG2 := Lib.hid hg2; clear hown2 hgrow2 hg2))
            all_goals
              go_wp2
              refine ⟨⟨k + 1, by omega, rfl, ?_, HG2.out⟩, by simp only [intOf]; omega⟩
              have h3 := HO2.out
              rw [HQ.out, List.length_append, byteCells_append, HBC.out]
              exact h3
          · have hqi : quoteI c = [YtmiipfdndgjndaaDoor.u8 c] := by unfold quoteI; rw [if_neg h1, if_neg h2, if_neg h3]
            rw [hqi] at hq hlen
            simp only [List.length_cons, List.length_nil] at hlen
            have HQ := Lib.hid hq
            clear hq hqi
            have hbc : byteCells [YtmiipfdndgjndaaDoor.u8 c] = [.int .u8 c] := by simp only [byteCells, List.map_cons, List.map_nil, Hu.out]
            have HBC := Lib.hid hbc
            clear hbc
            have g4 : decide (c < 32) = false := by simp; omega
            have g5 : decide (126 < c) = false := by simp; omega
            have hpl : plainI c = true := by unfold plainI; simp; omega
            clear h1 h2 h3 g4 g5
            go_wp2_with fail
            refine (plain_any _ _).mono ?_
            rw [hpl]
            rintro e w' ⟨rfl, rfl⟩
            go_wp2_with (at_builtin; refine wpList_append_own _ rfl _ _ 83 rfl w.heap.size 5 i0 (.int .u8 0) 1 1 Tryd.underlying83 hi hz0 hz1 hz2 rfl (by decide) _ (quoteTo s k).length (byteCells (quoteTo s k)) rfl (by exact HO.out.alloc _) _ 1 1 [.int .u8 c] rfl rfl (cells_at _ _ (by simp) #[.int .u8 c] _) (by simp [Value.oneCell']) (by unfold maxLen; omega) (by omega) (by simp; omega) ?_; intro v2 w2 hown2 hgrow2 _; have hg2 := (HG.out.alloc (by omega) (.cells #[.int .u8 c] 5)).grown (by simp; omega) (HO.out.alloc _) hgrow2; have HO2 := Lib.hid hown2; have HG2 := Lib.hid hg2; clear hown2 hgrow2 hg2)
            refine ⟨⟨k + 1, by omega, rfl, ?_, HG2.out⟩, by simp only [intOf]; omega⟩
            have h3 := HO2.out
            rw [HQ.out, List.length_append, byteCells_append, HBC.out]
            exact h3
    · obtain rfl : k = s.size := by omega
      have hall := quoteTo_all s
      have hlen : (quoteL s.data.toList).length = (quoteTo s s.size).length + 1 := by rw [← hall]; simp
      have HA := Lib.hid hall
      have HL := Lib.hid hlen
      clear hall hlen
      go_wp2_with (at_builtin; refine wpList_append_own _ rfl _ _ 83 rfl w.heap.size 5 i0 (.int .u8 0) 1 1 Tryd.underlying83 hi hz0 hz1 hz2 rfl (by decide) _ (quoteTo s s.size).length (byteCells (quoteTo s s.size)) rfl (by exact HO.out.alloc _) _ 1 1 [.int .u8 34] rfl rfl (cells_at _ _ (by simp) #[.int .u8 34] _) (by simp [Value.oneCell']) (by have := HL.out; unfold maxLen; omega) (by have := HL.out; omega) (by simp; omega) ?_; intro v2 w2 hown2 hgrow2 _; have hg2 := (HG.out.alloc (by omega) (.cells #[.int .u8 34] 5)).grown (by simp; omega) (HO.out.alloc _) hgrow2; have ho4 : w2.ownsRow w.heap.size 5 1 v2 (quoteL s.data.toList).length (byteCells (quoteL s.data.toList)) := (by rw [← HA.out, List.length_append, byteCells_append]; exact hown2); have hcv := conv_own (quoteL s.data.toList) rfl ho4; have HG2 := Lib.hid hg2; clear hown2 hgrow2 hg2 ho4)
      go_ret
      exact ⟨rfl, HG2.out.below⟩
end Go.Proofs.YtmiipfdndgjndaaDoor
