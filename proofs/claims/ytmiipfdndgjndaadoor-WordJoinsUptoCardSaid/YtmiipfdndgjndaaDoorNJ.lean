/- The contract of the program's Join. -/
import Derived.Test.YtmiipfdndgjndaaDoorT2
import Derived.Test.YtmiipfdndgjndaaDoorCU
import Derived.Lib.AppendStr
namespace Go.Proofs.YtmiipfdndgjndaaDoor
open Go.RowKit Go.Lib
set_option maxHeartbeats 1000000
/-- A row of tokens in memory. -/
def TokIn (w : World) (S : Nat → Prop) (A : Option Addr) (l : List T) : Prop :=
  ∀ k t, l[k]? = some t → ∃ b o, A = some ⟨b, o, none⟩ ∧ S b ∧ ∀ j u, (tokC t)[j]? = some u → w.cell? ⟨b, o + k * 5 + j, none⟩ = some u
theorem tok_facts {w wX : World} {base : Nat} {S : Nat → Prop} {A : Option Addr} {l : List T} (hin : TokIn w S A l) (hS : ∀ b, S b → b < base) (hg : Below base w wX) (k : Nat) (t : T) (hk : l[k]? = some t) :
    ∃ (b o : Nat), A = some ⟨b, o, none⟩ ∧ b < base ∧
      wX.cell? ⟨b, o + k * 5, none⟩ = some (.int .u8 t.kind) ∧ wX.cell? ⟨b, o + k * 5 + 1, none⟩ = some (.int .i64 t.place) ∧ wX.cell? ⟨b, o + k * 5 + 2, none⟩ = some (.int .i64 t.n) ∧ wX.cell? ⟨b, o + k * 5 + 3, none⟩ = some (.string t.s) ∧ wX.cell? ⟨b, o + k * 5 + 4, none⟩ = some (.int .i64 t.r) := by
  obtain ⟨b, o, h1, h2, h3⟩ := hin k t hk
  have hc : ∀ j u, (tokC t)[j]? = some u → wX.cell? ⟨b, o + k * 5 + j, none⟩ = some u := fun j u hu => (World.cell?_of_block (hg.block b (hS b h2))).trans (h3 j u hu)
  exact ⟨b, o, h1, hS b h2, hc 0 _ rfl, hc 1 _ rfl, hc 2 _ rfl, hc 3 _ rfl, hc 4 _ rfl⟩
def joinRes (l : List T) (w : World) (e : Ending) (w' : World) : Prop := e = .returned (.tuple #[.string ⟨(joinF l).1.toArray⟩, .int .i64 (joinF l).2]) ∧ Below w.heap.size w w'
/-- The bounds of a token's numbers and text. -/
def T.fits (t : T) : Prop := -9223372036854775808 ≤ t.n ∧ t.n ≤ 9223372036854775807 ∧ -9223372036854775808 ≤ t.r ∧ t.r ≤ 9223372036854775807 ∧ t.s.size ≤ 1099511627776
theorem quoteI_le (c : Int) : (quoteI c).length ≤ 4 := by
  unfold quoteI
  repeat' split
  all_goals simp
theorem quoteM_le (l : List UInt8) : (quoteM l).length ≤ 4 * l.length := by
  induction l with
  | nil => simp [quoteM]
  | cons c l ih =>
    have := quoteI_le (c.toNat : Int)
    simp only [quoteM, List.flatMap_cons, List.length_append, List.length_cons] at ih ⊢
    omega
theorem quote_len (s : ByteArray) (h : s.size ≤ 1099511627776) : (quoteL s.data.toList).length ≤ 4398046511106 := by
  have h1 := quoteM_le s.data.toList
  rw [size_list] at h1
  have h2 : (quoteL s.data.toList).length = (quoteM s.data.toList).length + 2 := by simp [quoteL]
  omega
theorem tab_mono {B B' : Nat} {w : World} (h : Tab B w) (hb : B ≤ B') : Tab B' w := fun w' h' => h w' (h'.mono hb)
def joinOut : Option (List UInt8) → List UInt8 × Int
  | none => ([], 4)
  | some b => (b, 0)
def step (first : Bool) (b : List UInt8) (t : T) : List UInt8 := b ++ ((if first then [] else [32]) ++ formT t)
theorem joinL_step (t : T) (l : List T) (b : List UInt8) (first : Bool) : joinL (t :: l) b first = if 1048576 < (step first b t).length then none else joinL l (step first b t) false := by
  rw [joinL]; rfl
set_option maxRecDepth 100000 in
theorem Join_any (l : List T) (A : Option Addr) (cap : Nat) (S : Nat → Prop) (w : World) (hin : TokIn w S A l) (hS : ∀ b, S b → b < w.heap.size) (hfit : ∀ t ∈ l, t.fits) (hlen : l.length ≤ 140737488351232) (htab : Tab w.heap.size w) :
    Calls Tryd.prog 28 #[.slice A l.length cap] w (joinRes l w) := by
  obtain ⟨nr, hnr⟩ : ∃ nr, nr = joinRes l w := ⟨_, rfl⟩
  rw [← hnr]
  have Hnr := Lib.hid hnr
  clear hnr
  have Hin := Lib.hid hin
  have HS := Lib.hid hS
  have Hfit := Lib.hid hfit
  have Htab := Lib.hid htab
  clear hin hS hfit htab
  go_enter Tryd.func28, Tryd.ntmps28
  go_wp2_with fail
  go_loopw [10] (fun b wr => ∃ k : Nat, b = .int .i64 k ∧ k ≤ l.length ∧ Below w.heap.size w wr ∧ (∀ i t, i < k → l[i]? = some t → mayT t = true)) (fun b _ => l.length - (Go.RowKit.intOf b).toNat)
  case atStart => exact ⟨0, rfl, by omega, Below.refl _ _, fun i t hi => absurd hi (Nat.not_lt_zero _)⟩
  case round =>
    obtain ⟨k, rfl, hk, hbw, hok⟩ := hrel
    have Hok := Lib.hid hok
    have Hbw := Lib.hid hbw
    have hsz := hbw.size
    clear hok hbw
    by_cases hlt : k < l.length
    · obtain ⟨t, ht⟩ : ∃ t, l[k]? = some t := ⟨l[k], List.getElem?_eq_getElem hlt⟩
      obtain ⟨b3, o3, rfl, hb3, d0, d1, d2, d3, d4⟩ := tok_facts Hin.out HS.out Hbw.out k t ht
      have hfk := Hfit.out t (List.mem_of_getElem? ht)
      have hc := wmay_any t wr (by have := hfk.2.2.2.2; omega)
      unfold tokV at hc
      have HC := Lib.hid hc
      have Ht := Lib.hid ht
      clear hc ht hfk
      have hmm : mayT t = true ∨ mayT t = false := by cases mayT t <;> simp
      rcases hmm with hm | hm
      · have Hm := Lib.hid hm
        go_wp2_with fail
        refine HC.out.mono ?_
        rintro e w2 ⟨rfl, hb2⟩
        have hb3 := Hbw.out.trans (hb2.mono hsz)
        have Hb3 := Lib.hid hb3
        rw [Hm.out]
        clear hb2 hb3 hm
        go_wp2_with fail
        refine ⟨⟨k + 1, by simp, by omega, Hb3.out, fun i t' hi ht' => ?_⟩, by simp [Go.RowKit.intOf]; omega⟩
        by_cases e : i = k
        · subst e; rw [Ht.out] at ht'; injection ht' with e2; rw [← e2]; exact Hm.out
        · exact Hok.out i t' (by omega) ht'
      · have Hm := Lib.hid hm
        go_wp2_with fail
        refine HC.out.mono ?_
        rintro e w2 ⟨rfl, hb2⟩
        have hb3 := Hbw.out.trans (hb2.mono hsz)
        have Hb3 := Lib.hid hb3
        rw [Hm.out]
        clear hb2 hb3 hm
        go_wp2
        rw [Hnr.out]
        refine ⟨?_, Hb3.out⟩
        have : l.all mayT = false := by
          rw [List.all_eq_false]
          exact ⟨t, List.mem_of_getElem? Ht.out, by rw [Hm.out]; simp⟩
        unfold joinF
        rw [this]
        rfl
    · obtain rfl : k = l.length := by omega
      have hall : l.all mayT = true := by
        rw [List.all_eq_true]
        intro t ht
        obtain ⟨i, hi, e⟩ := List.getElem_of_mem ht
        exact Hok.out i t hi (by rw [List.getElem?_eq_getElem hi, e])
      obtain ⟨R, hR⟩ : ∃ R, joinL l [] true = R := ⟨_, rfl⟩
      have hj : joinF l = joinOut R := by
        unfold joinF
        rw [if_pos hall, hR]
        cases R <;> rfl
      have HJ := Lib.hid hj
      have HR := Lib.hid hR
      clear hj hR hall Hok hlt hk
      go_wp2_with fail
      obtain ⟨wo, hwo⟩ : ∃ wo, wo = wr := ⟨_, rfl⟩
      subst hwo
      go_loopw [5, 22] (fun b i w2 => ∃ (k : Nat) (cur : List UInt8), i = .int .i64 k ∧ k ≤ l.length ∧ w2.ownsRow wo.heap.size 5 1 b cur.length (byteCells cur) ∧ Grew wo.heap.size wo w2 ∧ cur.length ≤ 1048576 ∧ joinL (l.drop k) cur (k == 0) = R) (fun _ i _ => l.length - (Go.RowKit.intOf i).toNat)
      case atStart => exact ⟨0, [], rfl, by omega, World.ownsRow_nil _ _ _ _, Grew.refl _ _, by simp, by simpa using HR.out⟩
      case round =>
        obtain ⟨k, cur, rfl, hk, hown, hg, hcl, hjl⟩ := hrel
        obtain ⟨ad, cap2, rfl⟩ := own_slice hown
        have hgs := hg.size
        have HO := Lib.hid hown
        have HG := Lib.hid hg
        have HJL := Lib.hid hjl
        clear hown hg hjl
        obtain ⟨i0, hi, hz0, hz1, hz2⟩ := info_parts info5
        by_cases hlt : k < l.length
        · obtain ⟨t, ht⟩ : ∃ t, l[k]? = some t := ⟨l[k], List.getElem?_eq_getElem hlt⟩
          have hfk := Hfit.out t (List.mem_of_getElem? ht)
          obtain ⟨n0, n1, r0, r1, hts⟩ := hfk
          have hq := quote_len t.s hts
          obtain ⟨stp, hstp⟩ : ∃ stp, stp = step (k == 0) cur t := ⟨_, rfl⟩
          have hjs : (if 1048576 < stp.length then none else joinL (l.drop (k + 1)) stp false) = R := by
            rw [← HJL.out, hstp, ← joinL_step]
            congr 1
            obtain ⟨h1, rfl⟩ := List.getElem?_eq_some_iff.mp ht
            exact (List.drop_eq_getElem_cons h1).symm
          have Hjs := Lib.hid hjs
          have Hstp := Lib.hid hstp
          have Ht := Lib.hid ht
          clear hjs hstp ht HJL
          have HW := Lib.hid (Hbw.out.trans (HG.out.below.mono hsz))
          by_cases hk0 : k = 0
          · subst hk0
            obtain ⟨b3, o3, rfl, hb3, d0, d1, d2, d3, d4⟩ := tok_facts Hin.out HS.out HW.out 0 t Ht.out
            simp only [Nat.zero_mul, Nat.add_zero] at d0 d1 d2 d3 d4
            have hcu : stp = cur ++ formT t := by
              rw [Hstp.out]
              simp [step]
            obtain ⟨cu, hcu2⟩ : ∃ cu, cu = cur := ⟨_, rfl⟩
            rw [← hcu2] at HO hcu hcl ⊢
            have hcul : cu.length ≤ 1048577 := by omega
            have hws : wo.heap.size ≤ wr.heap.size := hgs
            have Hcu := Lib.hid hcu
            clear hcu hcu2 Hstp
            have hblk : (wr.alloc (.cells #[.int .u8 t.kind, .int .i64 t.place, .int .i64 t.n, .string t.s, .int .i64 t.r] 56)).heap[wr.heap.size]? = some (.cells #[.int .u8 t.kind, .int .i64 t.place, .int .i64 t.n, .string t.s, .int .i64 t.r] 56 (0, 0)) := heap_alloc_new wr _
            have Hblk := Lib.hid hblk
            clear hblk
            have HT := Lib.hid (Htab.out.on ((Hbw.out.trans (HG.out.below.mono hsz)).alloc (by omega) (.cells #[.int .u8 t.kind, .int .i64 t.place, .int .i64 t.n, .string t.s, .int .i64 t.r] 56)))
            have HGa := Lib.hid (HG.out.alloc hws (.cells #[.int .u8 t.kind, .int .i64 t.place, .int .i64 t.n, .string t.s, .int .i64 t.r] 56))
            by_cases h2 : t.kind = 2
            · have b2 : (t.kind == 2) = true := by simpa using h2
              have He : Hid (stp = cu ++ itoa t.n) := Lib.hid (by
                rw [Hcu.out, formT]
                simp [h2])
              clear h2
              go_wp2_with fail
              refine (Tryd.strconv_AppendInt_10 wo.heap.size cu.length t.n n0 n1 _ (byteCells cu) _ (by exact HO.out.alloc _) (by simp; omega) (by omega) (tab_mono HT.out hsz)).mono ?_
              rintro e w4 ⟨v4, rfl, ho4, hbel, hok⟩
              have hg4 : Grew wo.heap.size wo w4 := (HG.out.alloc hws _).trans ⟨hbel, hok⟩
              clear hbel hok
              have ho3' := (by rw [He.out, List.length_append, byteCells_append]; exact ho4 : w4.ownsRow wo.heap.size 5 1 v4 stp.length (byteCells stp))
              obtain ⟨ad4, cap5, rfl⟩ := own_slice ho3'
              have HO3 := Lib.hid ho3'
              have HG3 := Lib.hid hg4
              clear ho4 hg4 ho3'
              by_cases hbig : 1048576 < stp.length
              · have tb : decide ((1048576 : Int) < (stp.length : Int)) = true := by simp; omega
                go_wp2
                rw [Hnr.out]
                refine ⟨?_, Hbw.out.trans (HG3.out.below.mono hsz)⟩
                have h := Hjs.out
                rw [if_pos hbig] at h
                rw [HJ.out, ← h]
                rfl
              · have tb : decide ((1048576 : Int) < (stp.length : Int)) = false := by simp; omega
                go_wp2_with fail
                have h := Hjs.out
                rw [if_neg hbig] at h
                exact ⟨⟨0 + 1, stp, by simp, by omega, HO3.out, HG3.out, by omega, by simpa using h⟩, by simp [Go.RowKit.intOf]; omega⟩
            · have b2 : (t.kind == 2) = false := by simpa using h2
              by_cases h3 : t.kind = 3
              · have b3 : (t.kind == 3) = true := by simpa using h3
                have He : Hid (stp = cu ++ quoteL t.s.data.toList) := Lib.hid (by
                  rw [Hcu.out, formT]
                  simp [h3])
                clear h3
                go_wp2_with fail
                refine (quote_any wo.heap.size cu.length _ (byteCells cu) t.s _ (by exact HO.out.alloc _) (by simp; omega) (by omega)).mono ?_
                rintro e w4 ⟨v4, rfl, ho4, hg5⟩
                have hg4 : Grew wo.heap.size wo w4 := (HG.out.alloc hws _).trans hg5
                clear hg5
                have ho3' := (by rw [He.out, List.length_append, byteCells_append]; exact ho4 : w4.ownsRow wo.heap.size 5 1 v4 stp.length (byteCells stp))
                obtain ⟨ad4, cap5, rfl⟩ := own_slice ho3'
                have HO3 := Lib.hid ho3'
                have HG3 := Lib.hid hg4
                clear ho4 hg4 ho3'
                by_cases hbig : 1048576 < stp.length
                · have tb : decide ((1048576 : Int) < (stp.length : Int)) = true := by simp; omega
                  go_wp2
                  rw [Hnr.out]
                  refine ⟨?_, Hbw.out.trans (HG3.out.below.mono hsz)⟩
                  have h := Hjs.out
                  rw [if_pos hbig] at h
                  rw [HJ.out, ← h]
                  rfl
                · have tb : decide ((1048576 : Int) < (stp.length : Int)) = false := by simp; omega
                  go_wp2_with fail
                  have h := Hjs.out
                  rw [if_neg hbig] at h
                  exact ⟨⟨0 + 1, stp, by simp, by omega, HO3.out, HG3.out, by omega, by simpa using h⟩, by simp [Go.RowKit.intOf]; omega⟩
              · have b3 : (t.kind == 3) = false := by simpa using h3
                by_cases h4 : t.kind = 4
                · have b4 : (t.kind == 4) = true := by simpa using h4
                  have He : Hid (stp = cu ++ (35 :: itoa t.r)) := Lib.hid (by
                    rw [Hcu.out, formT]
                    simp [h4])
                  clear h4
                  have hc : (wr.alloc (.cells #[.int .u8 t.kind, .int .i64 t.place, .int .i64 t.n, .string t.s, .int .i64 t.r] 56)).drew.cell? ⟨wr.heap.size, 4, none⟩ = some (.int .i64 t.r) := blk_cell (w := (wr.alloc (.cells #[.int .u8 t.kind, .int .i64 t.place, .int .i64 t.n, .string t.s, .int .i64 t.r] 56)).drew) Hblk.out 4
                  have hod : (wr.alloc (.cells #[.int .u8 t.kind, .int .i64 t.place, .int .i64 t.n, .string t.s, .int .i64 t.r] 56)).drew.ownsRow wo.heap.size 5 1 (.slice ad cu.length cap2) cu.length (byteCells cu) := HO.out.alloc _
                  have HOD := Lib.hid hod
                  have hlt4 : ∀ g, (.slice ad cu.length cap2 : Value).ownBlock = some g → g < wr.heap.size := fun g hg => (HO.out.lt g hg).2
                  have Hlt4 := Lib.hid hlt4
                  clear hod hlt4
                  go_wp2_with fail
                  go_region_held_law (fun w' => w'.cell? ⟨wr.heap.size, 4, none⟩ = some (.int .i64 t.r)) (first | assumption | go_keep)
                    (first
                      | ((refine step_append_lies _ rfl (.tmp 54) (.tmp 55) 83 rfl wo.heap.size 5 i0 (.int .u8 0) 1 1 Tryd.underlying83 hi hz0 hz1 hz2 rfl (by decide) _ cu.length (byteCells cu) (by rfl) (HOD.out.alloc _) _ 1 1 _ (by rfl) (by rfl) (cells_at _ _ (by simp) _ _) (by simp [Value.oneCell']) (by decide) (by unfold maxLen; omega) (by omega) (by simp; omega) _ rfl ?_; intro g cap6 w5 hown5 hgrow5 _ _; have hg5 := ((Grew.refl wo.heap.size (wr.alloc (.cells #[.int .u8 t.kind, .int .i64 t.place, .int .i64 t.n, .string t.s, .int .i64 t.r] 56))).same (b' := (wr.alloc (.cells #[.int .u8 t.kind, .int .i64 t.place, .int .i64 t.n, .string t.s, .int .i64 t.r] 56)).drew) rfl rfl rfl rfl).alloc (by simp; omega) (.cells #[.int .u8 35] 5) |>.grown (by simp; omega) (HOD.out.alloc _) hgrow5; have hb5 := hg5.box Hblk.out (by decide); have hc5 : w5.cell? ⟨wr.heap.size, 4, none⟩ = some (.int .i64 t.r) := blk_cell hb5 4; have HO5 := Lib.hid hown5; have HG5 := Lib.hid hg5; have HB5 := Lib.hid hb5; clear hown5 hgrow5 hg5 hb5))
                      | (go_simp; go_at_call 57; refine (Tryd.strconv_AppendInt_10 wo.heap.size (cu.length + 1) t.r r0 r1 _ _ _ HO5.out (by have := HG5.out.size; simp at this; omega) (by omega) (tab_mono (HT.out.on (HG5.out.below.mono hsz)) hsz)).mono ?_; rintro e w4 ⟨v4, rfl, ho4, hbel4, hok4⟩; have hg4 : Grew wo.heap.size (wr.alloc (.cells #[.int .u8 t.kind, .int .i64 t.place, .int .i64 t.n, .string t.s, .int .i64 t.r] 56)) w4 := HG5.out.trans ⟨hbel4, hok4⟩; have hc4 : w4.cell? ⟨wr.heap.size, 4, none⟩ = some (.int .i64 t.r) := blk_cell (hg4.box Hblk.out (by decide)) 4; have ho3' := (by rw [He.out, List.length_append, List.length_cons, byteCells_append, show byteCells (35 :: itoa t.r) = [.int .u8 35] ++ byteCells (itoa t.r) from rfl, ← List.append_assoc, show cu.length + ((itoa t.r).length + 1) = cu.length + 1 + (itoa t.r).length by omega]; exact ho4 : w4.ownsRow wo.heap.size 5 1 v4 stp.length (byteCells stp)); obtain ⟨ad4, cap5, rfl⟩ := own_slice ho3'; have HO3 := Lib.hid ho3'; have HG4 := Lib.hid hg4; clear ho4 hg4 hbel4 hok4 ho3'))
                  have HG3 := Lib.hid ((HG.out.alloc hws _).trans HG4.out)
                  by_cases hbig : 1048576 < stp.length
                  · have tb : decide ((1048576 : Int) < (stp.length : Int)) = true := by simp; omega
                    go_wp2
                    rw [Hnr.out]
                    refine ⟨?_, Hbw.out.trans (HG3.out.below.mono hsz)⟩
                    have h := Hjs.out
                    rw [if_pos hbig] at h
                    rw [HJ.out, ← h]
                    rfl
                  · have tb : decide ((1048576 : Int) < (stp.length : Int)) = false := by simp; omega
                    go_wp2_with fail
                    have h := Hjs.out
                    rw [if_neg hbig] at h
                    exact ⟨⟨0 + 1, stp, by simp, by omega, HO3.out, HG3.out, by omega, by simpa using h⟩, by simp [Go.RowKit.intOf]; omega⟩
                · have b4 : (t.kind == 4) = false := by simpa using h4
                  have He : Hid (stp = cu ++ t.s.data.toList) := Lib.hid (by
                    rw [Hcu.out, formT]
                    simp [h2, h3, h4])
                  clear h4 h3 h2
                  go_wp2_with (at_builtin; go_loud (refine wpList_append_own_string _ rfl _ _ 83 9 rfl wo.heap.size 5 i0 Tryd.underlying83 Tryd.underlying9 hi hz0 hz1 hz2 _ cu.length (byteCells cu) rfl (by exact HO.out.alloc _) t.s rfl (by unfold maxLen; omega) (by omega) (by simp; omega) ?_; intro v4 w4 ho4 hgrow hnil; have hg4 := (HG.out.alloc hws _).grown (by simp; omega) (HO.out.alloc _) hgrow; clear hgrow hnil; have ho3' := (by rw [He.out, List.length_append, byteCells_append]; exact ho4 : w4.ownsRow wo.heap.size 5 1 v4 stp.length (byteCells stp)); obtain ⟨ad4, cap5, rfl⟩ := own_slice ho3'; have HO3 := Lib.hid ho3'; have HG3 := Lib.hid hg4; clear ho4 hg4 ho3'; refine Hid.out ?_))
                  refine Lib.hid ?_
                  by_cases hbig : 1048576 < stp.length
                  · have tb : decide ((1048576 : Int) < (stp.length : Int)) = true := by simp; omega
                    go_wp2
                    rw [Hnr.out]
                    refine ⟨?_, Hbw.out.trans (HG3.out.below.mono hsz)⟩
                    have h := Hjs.out
                    rw [if_pos hbig] at h
                    rw [HJ.out, ← h]
                    rfl
                  · have tb : decide ((1048576 : Int) < (stp.length : Int)) = false := by simp; omega
                    go_wp2_with fail
                    have h := Hjs.out
                    rw [if_neg hbig] at h
                    exact ⟨⟨0 + 1, stp, by simp, by omega, HO3.out, HG3.out, by omega, by simpa using h⟩, by simp [Go.RowKit.intOf]; omega⟩
          · have kpos : (0 : Int) < (k : Int) := by omega
            have hk0' : (k == 0) = false := by simpa using hk0
            have hcu : stp = (cur ++ [32]) ++ formT t := by
              rw [Hstp.out]
              simp [step, hk0']
            obtain ⟨cu, hcu2⟩ : ∃ cu, cu = cur ++ [32] := ⟨_, rfl⟩
            have hcul : cu.length ≤ 1048577 := by rw [hcu2]; simp; omega
            rw [← hcu2] at hcu
            have Hcu2 := Lib.hid hcu2
            have Hcu := Lib.hid hcu
            clear hcu hcu2 Hstp
            go_wp2_with (at_builtin; go_loud (refine wpList_append_own _ rfl _ _ 83 rfl wo.heap.size 5 i0 (.int .u8 0) 1 1 Tryd.underlying83 hi hz0 hz1 hz2 rfl (by decide) _ cur.length (byteCells cur) rfl (by exact HO.out.alloc _) _ 1 1 _ rfl rfl (cells_at _ _ (by simp) _ _) (by simp [Value.oneCell']) (by unfold maxLen; omega) (by omega) (by simp; omega) ?_; intro v3 w3 hown3 hgrow3 _; have hg3 := (HG.out.alloc (by omega) (.cells #[.int .u8 32] 5)).grown (by simp; omega) (HO.out.alloc _) hgrow3; obtain ⟨b3, o3, rfl, hb3, d0, d1, d2, d3, d4⟩ := tok_facts Hin.out HS.out (Hbw.out.trans (hg3.below.mono hsz)) k t Ht.out; have hws : wo.heap.size ≤ w3.heap.size := hg3.size; have ho5 := (by rw [Hcu2.out, List.length_append, byteCells_append]; exact hown3 : w3.ownsRow wo.heap.size 5 1 v3 cu.length (byteCells cu)); obtain ⟨ad3, cap3, rfl⟩ := own_slice ho5; clear HO HG; have HO := Lib.hid ho5; have HG := Lib.hid hg3; clear hown3 hgrow3 hg3 ho5; refine Hid.out ?_))
            refine Lib.hid ?_
            have hblk : (w3.alloc (.cells #[.int .u8 t.kind, .int .i64 t.place, .int .i64 t.n, .string t.s, .int .i64 t.r] 56)).heap[w3.heap.size]? = some (.cells #[.int .u8 t.kind, .int .i64 t.place, .int .i64 t.n, .string t.s, .int .i64 t.r] 56 (0, 0)) := heap_alloc_new w3 _
            have Hblk := Lib.hid hblk
            clear hblk
            have HT := Lib.hid (Htab.out.on ((Hbw.out.trans (HG.out.below.mono hsz)).alloc (by omega) (.cells #[.int .u8 t.kind, .int .i64 t.place, .int .i64 t.n, .string t.s, .int .i64 t.r] 56)))
            have HGa := Lib.hid (HG.out.alloc hws (.cells #[.int .u8 t.kind, .int .i64 t.place, .int .i64 t.n, .string t.s, .int .i64 t.r] 56))
            by_cases h2 : t.kind = 2
            · have b2 : (t.kind == 2) = true := by simpa using h2
              have He : Hid (stp = cu ++ itoa t.n) := Lib.hid (by
                rw [Hcu.out, formT]
                simp [h2])
              clear h2
              go_wp2_with fail
              refine (Tryd.strconv_AppendInt_10 wo.heap.size cu.length t.n n0 n1 _ (byteCells cu) _ (by exact HO.out.alloc _) (by simp; omega) (by omega) (tab_mono HT.out hsz)).mono ?_
              rintro e w4 ⟨v4, rfl, ho4, hbel, hok⟩
              have hg4 : Grew wo.heap.size wo w4 := (HG.out.alloc hws _).trans ⟨hbel, hok⟩
              clear hbel hok
              have ho3' := (by rw [He.out, List.length_append, byteCells_append]; exact ho4 : w4.ownsRow wo.heap.size 5 1 v4 stp.length (byteCells stp))
              obtain ⟨ad4, cap5, rfl⟩ := own_slice ho3'
              have HO3 := Lib.hid ho3'
              have HG3 := Lib.hid hg4
              clear ho4 hg4 ho3'
              by_cases hbig : 1048576 < stp.length
              · have tb : decide ((1048576 : Int) < (stp.length : Int)) = true := by simp; omega
                go_wp2
                rw [Hnr.out]
                refine ⟨?_, Hbw.out.trans (HG3.out.below.mono hsz)⟩
                have h := Hjs.out
                rw [if_pos hbig] at h
                rw [HJ.out, ← h]
                rfl
              · have tb : decide ((1048576 : Int) < (stp.length : Int)) = false := by simp; omega
                go_wp2_with fail
                have h := Hjs.out
                rw [if_neg hbig] at h
                exact ⟨⟨k + 1, stp, by simp, by omega, HO3.out, HG3.out, by omega, by simpa using h⟩, by simp [Go.RowKit.intOf]; omega⟩
            · have b2 : (t.kind == 2) = false := by simpa using h2
              by_cases h3 : t.kind = 3
              · have b3 : (t.kind == 3) = true := by simpa using h3
                have He : Hid (stp = cu ++ quoteL t.s.data.toList) := Lib.hid (by
                  rw [Hcu.out, formT]
                  simp [h3])
                clear h3
                go_wp2_with fail
                refine (quote_any wo.heap.size cu.length _ (byteCells cu) t.s _ (by exact HO.out.alloc _) (by simp; omega) (by omega)).mono ?_
                rintro e w4 ⟨v4, rfl, ho4, hg5⟩
                have hg4 : Grew wo.heap.size wo w4 := (HG.out.alloc hws _).trans hg5
                clear hg5
                have ho3' := (by rw [He.out, List.length_append, byteCells_append]; exact ho4 : w4.ownsRow wo.heap.size 5 1 v4 stp.length (byteCells stp))
                obtain ⟨ad4, cap5, rfl⟩ := own_slice ho3'
                have HO3 := Lib.hid ho3'
                have HG3 := Lib.hid hg4
                clear ho4 hg4 ho3'
                by_cases hbig : 1048576 < stp.length
                · have tb : decide ((1048576 : Int) < (stp.length : Int)) = true := by simp; omega
                  go_wp2
                  rw [Hnr.out]
                  refine ⟨?_, Hbw.out.trans (HG3.out.below.mono hsz)⟩
                  have h := Hjs.out
                  rw [if_pos hbig] at h
                  rw [HJ.out, ← h]
                  rfl
                · have tb : decide ((1048576 : Int) < (stp.length : Int)) = false := by simp; omega
                  go_wp2_with fail
                  have h := Hjs.out
                  rw [if_neg hbig] at h
                  exact ⟨⟨k + 1, stp, by simp, by omega, HO3.out, HG3.out, by omega, by simpa using h⟩, by simp [Go.RowKit.intOf]; omega⟩
              · have b3 : (t.kind == 3) = false := by simpa using h3
                by_cases h4 : t.kind = 4
                · have b4 : (t.kind == 4) = true := by simpa using h4
                  have He : Hid (stp = cu ++ (35 :: itoa t.r)) := Lib.hid (by
                    rw [Hcu.out, formT]
                    simp [h4])
                  clear h4
                  have hc : (w3.alloc (.cells #[.int .u8 t.kind, .int .i64 t.place, .int .i64 t.n, .string t.s, .int .i64 t.r] 56)).drew.cell? ⟨w3.heap.size, 4, none⟩ = some (.int .i64 t.r) := blk_cell (w := (w3.alloc (.cells #[.int .u8 t.kind, .int .i64 t.place, .int .i64 t.n, .string t.s, .int .i64 t.r] 56)).drew) Hblk.out 4
                  have hod : (w3.alloc (.cells #[.int .u8 t.kind, .int .i64 t.place, .int .i64 t.n, .string t.s, .int .i64 t.r] 56)).drew.ownsRow wo.heap.size 5 1 (.slice ad3 cu.length cap3) cu.length (byteCells cu) := HO.out.alloc _
                  have HOD := Lib.hid hod
                  have hlt4 : ∀ g, (.slice ad3 cu.length cap3 : Value).ownBlock = some g → g < w3.heap.size := fun g hg => (HO.out.lt g hg).2
                  have Hlt4 := Lib.hid hlt4
                  clear hod hlt4
                  go_wp2_with fail
                  go_region_held_law (fun w' => w'.cell? ⟨w3.heap.size, 4, none⟩ = some (.int .i64 t.r)) (first | assumption | go_keep)
                    (first
                      | ((refine step_append_lies _ rfl (.tmp 54) (.tmp 55) 83 rfl wo.heap.size 5 i0 (.int .u8 0) 1 1 Tryd.underlying83 hi hz0 hz1 hz2 rfl (by decide) _ cu.length (byteCells cu) (by rfl) (HOD.out.alloc _) _ 1 1 _ (by rfl) (by rfl) (cells_at _ _ (by simp) _ _) (by simp [Value.oneCell']) (by decide) (by unfold maxLen; omega) (by omega) (by simp; omega) _ rfl ?_; intro g cap6 w5 hown5 hgrow5 _ _; have hg5 := ((Grew.refl wo.heap.size (w3.alloc (.cells #[.int .u8 t.kind, .int .i64 t.place, .int .i64 t.n, .string t.s, .int .i64 t.r] 56))).same (b' := (w3.alloc (.cells #[.int .u8 t.kind, .int .i64 t.place, .int .i64 t.n, .string t.s, .int .i64 t.r] 56)).drew) rfl rfl rfl rfl).alloc (by simp; omega) (.cells #[.int .u8 35] 5) |>.grown (by simp; omega) (HOD.out.alloc _) hgrow5; have hb5 := hg5.box Hblk.out (by decide); have hc5 : w5.cell? ⟨w3.heap.size, 4, none⟩ = some (.int .i64 t.r) := blk_cell hb5 4; have HO5 := Lib.hid hown5; have HG5 := Lib.hid hg5; have HB5 := Lib.hid hb5; clear hown5 hgrow5 hg5 hb5))
                      | (go_simp; go_at_call 57; refine (Tryd.strconv_AppendInt_10 wo.heap.size (cu.length + 1) t.r r0 r1 _ _ _ HO5.out (by have := HG5.out.size; simp at this; omega) (by omega) (tab_mono (HT.out.on (HG5.out.below.mono hsz)) hsz)).mono ?_; rintro e w4 ⟨v4, rfl, ho4, hbel4, hok4⟩; have hg4 : Grew wo.heap.size (w3.alloc (.cells #[.int .u8 t.kind, .int .i64 t.place, .int .i64 t.n, .string t.s, .int .i64 t.r] 56)) w4 := HG5.out.trans ⟨hbel4, hok4⟩; have hc4 : w4.cell? ⟨w3.heap.size, 4, none⟩ = some (.int .i64 t.r) := blk_cell (hg4.box Hblk.out (by decide)) 4; have ho3' := (by rw [He.out, List.length_append, List.length_cons, byteCells_append, show byteCells (35 :: itoa t.r) = [.int .u8 35] ++ byteCells (itoa t.r) from rfl, ← List.append_assoc, show cu.length + ((itoa t.r).length + 1) = cu.length + 1 + (itoa t.r).length by omega]; exact ho4 : w4.ownsRow wo.heap.size 5 1 v4 stp.length (byteCells stp)); obtain ⟨ad4, cap5, rfl⟩ := own_slice ho3'; have HO3 := Lib.hid ho3'; have HG4 := Lib.hid hg4; clear ho4 hg4 hbel4 hok4 ho3'))
                  have HG3 := Lib.hid ((HG.out.alloc hws _).trans HG4.out)
                  by_cases hbig : 1048576 < stp.length
                  · have tb : decide ((1048576 : Int) < (stp.length : Int)) = true := by simp; omega
                    go_wp2
                    rw [Hnr.out]
                    refine ⟨?_, Hbw.out.trans (HG3.out.below.mono hsz)⟩
                    have h := Hjs.out
                    rw [if_pos hbig] at h
                    rw [HJ.out, ← h]
                    rfl
                  · have tb : decide ((1048576 : Int) < (stp.length : Int)) = false := by simp; omega
                    go_wp2_with fail
                    have h := Hjs.out
                    rw [if_neg hbig] at h
                    exact ⟨⟨k + 1, stp, by simp, by omega, HO3.out, HG3.out, by omega, by simpa using h⟩, by simp [Go.RowKit.intOf]; omega⟩
                · have b4 : (t.kind == 4) = false := by simpa using h4
                  have He : Hid (stp = cu ++ t.s.data.toList) := Lib.hid (by
                    rw [Hcu.out, formT]
                    simp [h2, h3, h4])
                  clear h4 h3 h2
                  go_wp2_with (at_builtin; go_loud (refine wpList_append_own_string _ rfl _ _ 83 9 rfl wo.heap.size 5 i0 Tryd.underlying83 Tryd.underlying9 hi hz0 hz1 hz2 _ cu.length (byteCells cu) rfl (by exact HO.out.alloc _) t.s rfl (by unfold maxLen; omega) (by omega) (by simp; omega) ?_; intro v4 w4 ho4 hgrow hnil; have hg4 := (HG.out.alloc hws _).grown (by simp; omega) (HO.out.alloc _) hgrow; clear hgrow hnil; have ho3' := (by rw [He.out, List.length_append, byteCells_append]; exact ho4 : w4.ownsRow wo.heap.size 5 1 v4 stp.length (byteCells stp)); obtain ⟨ad4, cap5, rfl⟩ := own_slice ho3'; have HO3 := Lib.hid ho3'; have HG3 := Lib.hid hg4; clear ho4 hg4 ho3'; refine Hid.out ?_))
                  refine Lib.hid ?_
                  by_cases hbig : 1048576 < stp.length
                  · have tb : decide ((1048576 : Int) < (stp.length : Int)) = true := by simp; omega
                    go_wp2
                    rw [Hnr.out]
                    refine ⟨?_, Hbw.out.trans (HG3.out.below.mono hsz)⟩
                    have h := Hjs.out
                    rw [if_pos hbig] at h
                    rw [HJ.out, ← h]
                    rfl
                  · have tb : decide ((1048576 : Int) < (stp.length : Int)) = false := by simp; omega
                    go_wp2_with fail
                    have h := Hjs.out
                    rw [if_neg hbig] at h
                    exact ⟨⟨k + 1, stp, by simp, by omega, HO3.out, HG3.out, by omega, by simpa using h⟩, by simp [Go.RowKit.intOf]; omega⟩

        · obtain rfl : k = l.length := by omega
          have hR2 : R = some cur := by
            rw [← HJL.out, List.drop_length]
            rfl
          have hcv := conv_own cur rfl HO.out
          clear hlt
          go_wp2
          rw [Hnr.out]
          refine ⟨?_, Hbw.out.trans (HG.out.below.mono hsz)⟩
          rw [HJ.out, hR2]
          rfl

end Go.Proofs.YtmiipfdndgjndaaDoor
