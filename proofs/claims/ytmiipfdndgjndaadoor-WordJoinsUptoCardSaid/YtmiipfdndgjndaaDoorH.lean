/- The contracts of the program's quote and Quote. -/
import Derived.Test.YtmiipfdndgjndaaDoorD
import Derived.Test.YtmiipfdndgjndaaDoorX1
import Derived.Deep.AppendLies
import Derived.Deep.RegionHeldLaw
import Derived.Lib.OthersKept
namespace Go.Proofs.YtmiipfdndgjndaaDoor
open Go.RowKit Go.Lib
set_option maxHeartbeats 1000000
/-- What lay below base stands, and whatever is no row of bytes. -/
structure Grew (base : Nat) (w w' : World) : Prop where
  below : Below base w w'
  kept : OthersKept 5 none w w'
theorem Grew.refl (base : Nat) (w : World) : Grew base w w := ⟨Below.refl _ _, OthersKept.refl _ _ _⟩
theorem Grew.trans {base : Nat} {a b c : World} (h : Grew base a b) (k : Grew base b c) : Grew base a c := ⟨h.below.trans k.below, h.kept.trans k.kept⟩
theorem Grew.same {base : Nat} {a b b' : World} (h : Grew base a b) (h1 : b'.os = b.os) (h2 : b'.tape = b.tape) (h3 : b'.output = b.output) (h4 : b'.heap = b.heap) : Grew base a b' :=
  ⟨⟨h1.trans h.below.os, h2.trans h.below.tape, h3.trans h.below.output, by rw [h4]; exact h.below.size, fun k hk => by rw [h4]; exact h.below.block k hk⟩, fun k o h5 h6 h7 => by rw [h4]; exact h.kept k o h5 h6 h7⟩
theorem Grew.alloc {base : Nat} {a b : World} (h : Grew base a b) (hb : base ≤ b.heap.size) (o : Obj) : Grew base a (b.alloc o) := ⟨h.below.alloc hb o, h.kept.alloc o⟩
theorem own_tag {w : World} {base : Nat} {e : TypeId} {size n : Nat} {v : Value} {xs : List Value} (h : w.ownsRow base e size v n xs) : ∀ g, v.ownBlock = some g → ∃ c fz, w.heap[g]? = some (.cells c e fz) := by
  intro g hg
  rcases h.2 with ⟨rfl, _⟩ | ⟨g', cap, cur, rfl, _, hh, _⟩
  · simp [Value.ownBlock] at hg
  · simp [Value.ownBlock] at hg
    subst hg
    exact ⟨cur, _, hh⟩
theorem Grew.grown {base n : Nat} {v : Value} {xs : List Value} {a w w' : World} (h : Grew base a w) (hb : base ≤ w.heap.size) (ho : w.ownsRow base 5 1 v n xs) (hg : w.grownBy w' v.ownBlock) : Grew base a w' :=
  ⟨h.below.trans ⟨hg.os, hg.tape, hg.output, hg.size, fun k hk => hg.block k (by omega) (fun e => by have := (ho.lt k e.symm).1; omega)⟩, h.kept.grown hg (own_tag ho)⟩
theorem Grew.size {base : Nat} {a w : World} (h : Grew base a w) : a.heap.size ≤ w.heap.size := h.below.size
theorem cells_at (W : World) (n : Nat) (hn : W.heap.size = n) (xs : Array Value) (t : TypeId) : ∀ j u, xs.toList[j]? = some u → (W.alloc (.cells xs t)).cell? ((⟨n, 0, none⟩ : Addr).add j) = some u := by
  subst hn
  exact World.news_of_block (heap_alloc_new W _)
theorem own_len {w : World} {base : Nat} {e : TypeId} {n : Nat} {v : Value} {xs : List Value} (h : w.ownsRow base e 1 v n xs) : xs.length = n := by have := h.1; omega
def quoteTo (s : ByteArray) (k : Nat) : List UInt8 := 34 :: quoteM (s.data.toList.take k)
theorem quoteTo_succ (s : ByteArray) (k : Nat) (h : k < s.size) : quoteTo s (k + 1) = quoteTo s k ++ quoteI (bAt s k) := by
  unfold quoteTo quoteM
  rw [List.take_succ_eq_append_getElem (by rw [size_list]; exact h), List.flatMap_append, ← bAt_eq s k h]
  simp
  rfl
theorem quoteTo_all (s : ByteArray) : quoteTo s s.size ++ [34] = quoteL s.data.toList := by
  unfold quoteTo quoteL
  rw [List.take_of_length_le (by rw [size_list]; omega)]
  rfl
theorem quoteTo_le (s : ByteArray) (k : Nat) : (quoteTo s k).length + 1 ≤ (quoteL s.data.toList).length := by
  unfold quoteTo quoteL quoteM
  have : ((s.data.toList.take k).flatMap fun b => quoteI (b.toNat : Int)).length ≤ (s.data.toList.flatMap fun b => quoteI (b.toNat : Int)).length := by
    conv => rhs; rw [← List.take_append_drop k s.data.toList, List.flatMap_append, List.length_append]
    omega
  simp only [List.length_cons, List.length_append, List.length_nil]
  omega
theorem and15 (c : Int) (h0 : 0 ≤ c) (h1 : c ≤ 255) : bits BinOp.and IntKind.u8 c 15 = c % 16 := by
  have h : ∀ c : Fin 256, bits BinOp.and IntKind.u8 (c.val : Int) 15 = (c.val : Int) % 16 := by decide +kernel
  have := h ⟨c.toNat, by omega⟩
  simp only at this
  rw [show ((c.toNat : Nat) : Int) = c by omega] at this
  exact this
theorem dig_u8 (k : Nat) (hk : k < 16) : ((u8 (digs[k]?.getD 0)).toNat : Int) = (((⟨#[48, 49, 50, 51, 52, 53, 54, 55, 56, 57, 97, 98, 99, 100, 101, 102]⟩ : ByteArray)[k]'(hk)).toNat : Int) := by
  rw [digs_at k hk, u8_toNat]
  · have h : ∀ k : Fin 16, 0 ≤ digs[k.val]?.getD 0 := by decide
    exact h ⟨k, hk⟩
  · have h : ∀ k : Fin 16, digs[k.val]?.getD 0 ≤ 255 := by decide
    exact h ⟨k, hk⟩
theorem dig_at (c : Int) (k : Nat) (hk : k < 16) (h : c = (k : Int)) : (((⟨#[48, 49, 50, 51, 52, 53, 54, 55, 56, 57, 97, 98, 99, 100, 101, 102]⟩ : ByteArray)[k]'(hk)).toNat : Int) = digs[c.toNat]?.getD 0 := by
  subst h
  rw [digs_at k hk]
  rfl
set_option maxRecDepth 100000 in
theorem quote_any (base n : Nat) (v : Value) (xs : List Value) (s : ByteArray) (w : World) (hown : w.ownsRow base 5 1 v n xs) (hb : base ≤ w.heap.size) (hlim : n + (quoteL s.data.toList).length ≤ 140737488355328) :
    Calls Tryd.prog 46 #[v, .string s] w fun e w' => ∃ v', e = .returned v' ∧ w'.ownsRow base 5 1 v' (n + (quoteL s.data.toList).length) (xs ++ byteCells (quoteL s.data.toList)) ∧ Grew base w w' := by
  obtain ⟨i0, hi, hz0, hz1, hz2⟩ := info_parts info5
  obtain ⟨ad, cap, rfl⟩ := own_slice hown
  have hl0 := quoteTo_le s 0
  have hsz : s.size ≤ 140737488355328 := by
    have h1 := quoteM_length s.data.toList
    rw [size_list] at h1
    have h2 : (quoteL s.data.toList).length = (quoteM s.data.toList).length + 2 := by simp [quoteL]
    omega
  have hn := own_len hown
  have Hn := Lib.hid hn
  have Hown := Lib.hid hown
  clear hn hown
  go_enter Tryd.func46, Tryd.ntmps46
  go_wp2_with (at_builtin; refine wpList_append_own _ rfl _ _ 83 rfl base 5 i0 (.int .u8 0) 1 1 Tryd.underlying83 hi hz0 hz1 hz2 rfl (by decide) _ n xs rfl (by exact Hown.out.alloc _) _ 1 1 [.int .u8 34] rfl rfl (cells_at _ _ (by simp) #[.int .u8 34] _) (by simp [Value.oneCell']) (by unfold maxLen; omega) (by omega) (by simp; omega) ?_; intro v1 w1 hown1 hgrow1 _; have hg1 := (Grew.refl base w).alloc hb (.cells #[.int .u8 34] 5) |>.grown (by simp; omega) (Hown.out.alloc _) hgrow1; have HO1 := Lib.hid hown1; have HG1 := Lib.hid hg1; clear hown1 hgrow1 hg1)
  go_loopw [0, 5] (fun b i wr => ∃ k : Nat, k ≤ s.size ∧ i = .int .i64 k ∧ wr.ownsRow base 5 1 b (n + (quoteTo s k).length) (xs ++ byteCells (quoteTo s k)) ∧ Grew base w wr) (fun _ i _ => s.size - (intOf i).toNat)
  case atStart => exact ⟨0, by omega, rfl, HO1.out, HG1.out⟩
  case round =>
    obtain ⟨k, hk, rfl, hown, hg⟩ := hrel
    obtain ⟨ad, cap, rfl⟩ := own_slice hown
    have hgs := hg.size
    have HO := Lib.hid hown
    have HG := Lib.hid hg
    clear hown hg
    by_cases hlt : k < s.size
    · have hq := quoteTo_succ s k hlt
      have hle := quoteTo_le s (k + 1)
      have hlen : (quoteTo s (k + 1)).length = (quoteTo s k).length + (quoteI (bAt s k)).length := by rw [hq, List.length_append]
      obtain ⟨c0, c1⟩ := bAt_range s k
      have hbe := bAt_eq s k hlt
      generalize bAt s k = c at hq hlen c0 c1 hbe
      have hu := u8_toNat c c0 c1
      have Hu := Lib.hid hu
      clear hu
      by_cases h1 : c = 34 ∨ c = 92
      · have hqi : quoteI c = [92, u8 c] := by unfold quoteI; rw [if_pos h1]
        rw [hqi] at hq hlen
        simp only [List.length_cons, List.length_nil] at hlen
        have HQ := Lib.hid hq
        clear hq hqi
        have hbc : byteCells [92, u8 c] = [.int .u8 92, .int .u8 c] := by simp only [byteCells, List.map_cons, List.map_nil, Hu.out]; rfl
        have HBC := Lib.hid hbc
        clear hbc
        have h1b : (c == 34) = true ∨ ((c == 34) = false ∧ (c == 92) = true) := by
          rcases h1 with h1 | h1
          · exact .inl (by simp [h1])
          · exact .inr ⟨by simp [h1], by simp [h1]⟩
        clear h1
        rcases h1b with g1 | ⟨g1, g2⟩
        all_goals
          go_wp2_with (at_builtin; refine wpList_append_own _ rfl _ _ 83 rfl base 5 i0 (.int .u8 0) 1 1 Tryd.underlying83 hi hz0 hz1 hz2 rfl (by decide) _ (n + (quoteTo s k).length) (xs ++ byteCells (quoteTo s k)) rfl (by exact HO.out.alloc _) _ 2 2 [.int .u8 92, .int .u8 c] rfl rfl (cells_at _ _ (by simp) #[.int .u8 92, .int .u8 c] _) (by simp [Value.oneCell']) (by unfold maxLen; omega) (by omega) (by simp; omega) ?_; intro v2 w2 hown2 hgrow2 _; have hg2 := (HG.out.alloc (by omega) (.cells #[.int .u8 92, .int .u8 c] 5)).grown (by simp; omega) (HO.out.alloc _) hgrow2; have HO2 := Lib.hid hown2; have HG2 := Lib.hid hg2; clear hown2 hgrow2 hg2)
          refine ⟨⟨k + 1, by omega, rfl, ?_, HG2.out⟩, by simp only [intOf]; omega⟩
          have h3 := HO2.out
          rw [HQ.out, List.length_append, byteCells_append, HBC.out, ← List.append_assoc]
          exact h3
      · have g1 : (c == 34) = false := by simp; omega
        have g2 : (c == 92) = false := by simp; omega
        by_cases h2 : c = 10
        · have hqi : quoteI c = [92, 110] := by unfold quoteI; rw [if_neg h1, if_pos h2]
          rw [hqi] at hq hlen
          simp only [List.length_cons, List.length_nil] at hlen
          have HQ := Lib.hid hq
          clear hq hqi
          have g3 : (c == 10) = true := by simp; omega
          clear h1 h2
          go_wp2_with (at_builtin; refine wpList_append_own _ rfl _ _ 83 rfl base 5 i0 (.int .u8 0) 1 1 Tryd.underlying83 hi hz0 hz1 hz2 rfl (by decide) _ (n + (quoteTo s k).length) (xs ++ byteCells (quoteTo s k)) rfl (by exact HO.out.alloc _) _ 2 2 [.int .u8 92, .int .u8 110] rfl rfl (cells_at _ _ (by simp) #[.int .u8 92, .int .u8 110] _) (by simp [Value.oneCell']) (by unfold maxLen; omega) (by omega) (by simp; omega) ?_; intro v2 w2 hown2 hgrow2 _; have hg2 := (HG.out.alloc (by omega) (.cells #[.int .u8 92, .int .u8 110] 5)).grown (by simp; omega) (HO.out.alloc _) hgrow2; have HO2 := Lib.hid hown2; have HG2 := Lib.hid hg2; clear hown2 hgrow2 hg2)
          refine ⟨⟨k + 1, by omega, rfl, ?_, HG2.out⟩, by simp only [intOf]; omega⟩
          have h3 := HO2.out
          rw [HQ.out, List.length_append, byteCells_append, ← List.append_assoc]
          exact h3
        · have g3 : (c == 10) = false := by simp; omega
          by_cases h3 : c < 32 ∨ 126 < c
          · have hqi : quoteI c = [92, 120, u8 (digs[(c / 16).toNat]?.getD 0), u8 (digs[(c % 16).toNat]?.getD 0)] := by unfold quoteI; rw [if_neg h1, if_neg h2, if_pos h3]
            rw [hqi] at hq hlen
            simp only [List.length_cons, List.length_nil] at hlen
            have HQ := Lib.hid hq
            clear hq hqi
            have g4 : decide (c < 32) = true ∨ (decide (c < 32) = false ∧ decide (126 < c) = true) := by
              rcases h3 with h3 | h3
              · exact .inl (by simp; omega)
              · exact .inr ⟨by simp; omega, by simp; omega⟩
            clear h1 h2 h3
            have q0 : (0 : Int) ≤ c / 16 := by omega
            have q1 : c / 16 < 16 := by omega
            have q2 : (0 : Int) ≤ c % 16 := by omega
            have q3 : c % 16 < 16 := by omega
            have q4 := and15 c c0 c1
            have hbc : byteCells [92, 120, u8 (digs[(c / 16).toNat]?.getD 0), u8 (digs[(c % 16).toNat]?.getD 0)] = [.int .u8 92, .int .u8 120, .int .u8 (((⟨#[48, 49, 50, 51, 52, 53, 54, 55, 56, 57, 97, 98, 99, 100, 101, 102]⟩ : ByteArray)[(c / 16).toNat]'(by show (c / 16).toNat < 16; omega)).toNat : Int), .int .u8 (((⟨#[48, 49, 50, 51, 52, 53, 54, 55, 56, 57, 97, 98, 99, 100, 101, 102]⟩ : ByteArray)[(c % 16).toNat]'(by show (c % 16).toNat < 16; omega)).toNat : Int)] := by
              have e1 := dig_u8 (c / 16).toNat (by omega)
              have e2 := dig_u8 (c % 16).toNat (by omega)
              simp only [byteCells, List.map_cons, List.map_nil, e1, e2]
              rfl
            have HBC := Lib.hid hbc
            clear hbc
            have hod : wr.drew.ownsRow base 5 1 (.slice ad (n + (quoteTo s k).length) cap) (n + (quoteTo s k).length) (xs ++ byteCells (quoteTo s k)) := HO.out
            have HOD := Lib.hid hod
            clear hod
            rcases g4 with g4 | ⟨g4, g5⟩
            all_goals
              go_wp2_with fail
              go_region_held_law (fun _ => True) (trivial) ((refine step_append_lies _ rfl (.tmp 47) (.tmp 54) 83 rfl base 5 i0 (.int .u8 0) 1 1 Tryd.underlying83 hi hz0 hz1 hz2 rfl (by decide) _ (n + (quoteTo s k).length) (xs ++ byteCells (quoteTo s k)) (by rfl) (HOD.out.alloc _) _ 4 4 _ (by rfl) (by rfl) (cells_at _ _ (by simp) _ _) (by simp [Value.oneCell']) (by decide) (by unfold maxLen; omega) (by omega) (by simp; omega) _ rfl ?_; intro g cap2 w2 hown2 hgrow2 _ _; have hg2 := ((HG.out.same (b' := wr.drew) rfl rfl rfl rfl).alloc (by simp; omega) _).grown (by simp; omega) (HOD.out.alloc _) hgrow2; have HO2 := Lib.hid hown2; have HG2 := Lib.hid hg2; clear hown2 hgrow2 hg2))
              all_goals
                go_wp2
                refine ⟨⟨k + 1, by omega, rfl, ?_, HG2.out⟩, by simp only [intOf]; omega⟩
                have h3 := HO2.out
                rw [HQ.out, List.length_append, byteCells_append, HBC.out, ← List.append_assoc]
                exact h3
          · have hqi : quoteI c = [u8 c] := by unfold quoteI; rw [if_neg h1, if_neg h2, if_neg h3]
            rw [hqi] at hq hlen
            simp only [List.length_cons, List.length_nil] at hlen
            have HQ := Lib.hid hq
            clear hq hqi
            have hbc : byteCells [u8 c] = [.int .u8 c] := by simp only [byteCells, List.map_cons, List.map_nil, Hu.out]
            have HBC := Lib.hid hbc
            clear hbc
            have g4 : decide (c < 32) = false := by simp; omega
            have g5 : decide (126 < c) = false := by simp; omega
            clear h1 h2 h3
            go_wp2_with (at_builtin; refine wpList_append_own _ rfl _ _ 83 rfl base 5 i0 (.int .u8 0) 1 1 Tryd.underlying83 hi hz0 hz1 hz2 rfl (by decide) _ (n + (quoteTo s k).length) (xs ++ byteCells (quoteTo s k)) rfl (by exact HO.out.alloc _) _ 1 1 [.int .u8 c] rfl rfl (cells_at _ _ (by simp) #[.int .u8 c] _) (by simp [Value.oneCell']) (by unfold maxLen; omega) (by omega) (by simp; omega) ?_; intro v2 w2 hown2 hgrow2 _; have hg2 := (HG.out.alloc (by omega) (.cells #[.int .u8 c] 5)).grown (by simp; omega) (HO.out.alloc _) hgrow2; have HO2 := Lib.hid hown2; have HG2 := Lib.hid hg2; clear hown2 hgrow2 hg2)
            refine ⟨⟨k + 1, by omega, rfl, ?_, HG2.out⟩, by simp only [intOf]; omega⟩
            have h3 := HO2.out
            rw [HQ.out, List.length_append, byteCells_append, HBC.out, ← List.append_assoc]
            exact h3
    · obtain rfl : k = s.size := by omega
      have hall := quoteTo_all s
      have hlen : (quoteL s.data.toList).length = (quoteTo s s.size).length + 1 := by rw [← hall]; simp
      have HA := Lib.hid hall
      have HL := Lib.hid hlen
      clear hall hlen
      go_wp2_with (at_builtin; refine wpList_append_own _ rfl _ _ 83 rfl base 5 i0 (.int .u8 0) 1 1 Tryd.underlying83 hi hz0 hz1 hz2 rfl (by decide) _ (n + (quoteTo s s.size).length) (xs ++ byteCells (quoteTo s s.size)) rfl (by exact HO.out.alloc _) _ 1 1 [.int .u8 34] rfl rfl (cells_at _ _ (by simp) #[.int .u8 34] _) (by simp [Value.oneCell']) (by have := HL.out; unfold maxLen; omega) (by have := HL.out; omega) (by simp; omega) ?_; intro v2 w2 hown2 hgrow2 _; have hg2 := (HG.out.alloc (by omega) (.cells #[.int .u8 34] 5)).grown (by simp; omega) (HO.out.alloc _) hgrow2; have HO2 := Lib.hid hown2; have HG2 := Lib.hid hg2; clear hown2 hgrow2 hg2)
      go_ret
      refine ⟨_, rfl, ?_, HG2.out⟩
      have h3 := HO2.out
      rw [← HA.out, List.length_append, byteCells_append, ← List.append_assoc]
      exact h3
theorem Quote_any (s : ByteArray) (w : World) (hlim : (quoteL s.data.toList).length ≤ 140737488355328) :
    Calls Tryd.prog 18 #[.string s] w fun e w' => e = .returned (.string ⟨(quoteL s.data.toList).toArray⟩) ∧ Grew w.heap.size w w' := by
  have hq := quote_any w.heap.size 0 (.slice none 0 0) [] s w (World.ownsRow_nil _ _ _ _) (Nat.le_refl _) (by omega)
  have HQ := Lib.hid hq
  clear hq
  go_enter Tryd.func18, Tryd.ntmps18
  go_wp2_with fail
  refine HQ.out.mono ?_
  rintro e w1 ⟨v', rfl, ho, hg⟩
  have hcv := conv_own (quoteL s.data.toList) (by omega) ho
  go_wp2
  go_ret
  exact ⟨rfl, hg⟩
end Go.Proofs.YtmiipfdndgjndaaDoor
