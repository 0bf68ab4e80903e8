/- The contracts of the program's text, Text, Row. -/
import Derived.Test.YtmiipfdndgjndaaDoorVI
import Derived.Test.YtmiipfdndgjndaaDoorShelf
import Derived.BigQuiet
import Derived.Deep.QuietTactic
import Derived.Deep.RegionHeldLaw
namespace Go.Proofs.YtmiipfdndgjndaaDoor
open Go.RowKit Go.Lib
set_option maxHeartbeats 1000000
abbrev Tab (B : Nat) (w : World) : Prop := TabBelow Tryd.prog B w "internal/strconv.uint64pow10" .u64 pow10Tab
theorem Grew.box {base : Nat} {a w : World} (h : Grew base a w) {b : Nat} {cs : Array Value} {t : TypeId} (hb : a.heap[b]? = some (.cells cs t (0, 0))) (ht : t ≠ 5) : w.heap[b]? = some (.cells cs t (0, 0)) :=
  h.kept b _ hb (by simp) (by intro c fz e; injection e with _ e2; exact ht e2)
theorem blk_cell {w : World} {b : Nat} {cs : Array Value} {t : TypeId} (h : w.heap[b]? = some (.cells cs t (0, 0))) (i : Nat) : w.cell? ⟨b, i, none⟩ = cs[i]? := cell_of_row w b i cs t (0, 0) h
theorem row_succ (l : List V) (k : Nat) (v : V) (h : l[k]? = some v) : rowL true (l.take (k + 1)) = rowL true (l.take k) ++ ((if k = 0 then [] else [32]) ++ textL v) := by
  have gen : ∀ (l : List V) (k : Nat) (b : Bool), l[k]? = some v → rowL b (l.take (k + 1)) = rowL b (l.take k) ++ ((if k = 0 ∧ b = true then [] else [32]) ++ textL v) := by
    intro l
    induction l with
    | nil => intro k b h; simp at h
    | cons x l ih =>
      intro k b h
      cases k with
      | zero =>
        simp at h
        subst h
        simp [rowL]
      | succ k =>
        rw [List.take_succ_cons, List.take_succ_cons, rowL, rowL, ih k false (by simpa using h)]
        simp
  have := gen l k true h
  simpa using this
theorem row_le (l : List V) (k : Nat) : (rowL true (l.take k)).length ≤ (rowL true l).length := by
  have gen : ∀ (l : List V) (k : Nat) (b : Bool), (rowL b (l.take k)).length ≤ (rowL b l).length := by
    intro l
    induction l with
    | nil => intro k b; simp
    | cons x l ih =>
      intro k b
      cases k with
      | zero => simp [rowL]
      | succ k =>
        have := ih k false
        simp only [List.take_succ_cons, rowL, List.length_append]
        omega
  exact gen l k true
theorem child_facts {w wX : World} {base : Nat} {S : Nat → Prop} {A : Option Addr} {l : List V} (hin : LIn w S A l 0) (hS : ∀ b, S b → b < base) (hg : Below base w wX) (k : Nat) (v : V) (hk : l[k]? = some v) :
    ∃ (b o : Nat) (k' n' : Int) (s' : ByteArray) (A' : Option Addr) (m' c' : Nat) (r' : Int), A = some ⟨b, o, none⟩ ∧ VIn wX S v [.int .u8 k', .int .i64 n', .string s', .slice A' m' c', .int .i64 r'] ∧
      wX.cell? ⟨b, o + k * 5, none⟩ = some (.int .u8 k') ∧ wX.cell? ⟨b, o + k * 5 + 1, none⟩ = some (.int .i64 n') ∧ wX.cell? ⟨b, o + k * 5 + 2, none⟩ = some (.string s') ∧ wX.cell? ⟨b, o + k * 5 + 3, none⟩ = some (.slice A' m' c') ∧ wX.cell? ⟨b, o + k * 5 + 4, none⟩ = some (.int .i64 r') := by
  obtain ⟨b, o, cs, h1, h2, h3, h4⟩ := hin.get k v hk
  obtain ⟨k', n', s', A', c', r', e1, e2⟩ := h4.forms
  subst e2
  have hX : ∀ b, S b → S b ∧ wX.heap[b]? = w.heap[b]? := fun b hb => ⟨hb, hg.block b (hS b hb)⟩
  have hc : ∀ j u, ([.int .u8 k', .int .i64 n', .string s', .slice A' v.lst.length c', .int .i64 r'] : List Value)[j]? = some u → wX.cell? ⟨b, o + k * 5 + j, none⟩ = some u := by
    intro j u hu
    have := h3 j u hu
    rw [Nat.zero_add] at this
    exact (World.cell?_of_block (hX _ h2).2).trans this
  exact ⟨b, o, k', n', s', A', v.lst.length, c', r', h1, VIn.mono hX v h4, hc 0 _ rfl, hc 1 _ rfl, hc 2 _ rfl, hc 3 _ rfl, hc 4 _ rfl⟩
def TextOk (v : V) : Prop := ∀ (base n : Nat) (sv : Value) (xs cs : List Value) (S : Nat → Prop) (w : World), w.ownsRow base 5 1 sv n xs → base ≤ w.heap.size → VIn w S v cs → (∀ b, S b → b < base) → v.fits → n + (textL v).length + 32 ≤ 140737488355328 → Tab base w →
  Calls Tryd.prog 54 #[sv, .agg cs.toArray] w fun e w' => ∃ v', e = .returned v' ∧ w'.ownsRow base 5 1 v' (n + (textL v).length) (xs ++ byteCells (textL v)) ∧ Grew base w w'
set_option maxRecDepth 100000 in
theorem textOk_of (kk nn : Int) (st : ByteArray) (l : List V) (rr : Int) (ih : ∀ v ∈ l, TextOk v) : TextOk (.mk kk nn st l rr) := by
  intro base n sv xs cs S w hown hb hv hS hfit hlim htab
  obtain ⟨i0, hi, hz0, hz1, hz2⟩ := info_parts info5
  obtain ⟨ad, cap, rfl⟩ := own_slice hown
  obtain ⟨A, vc, rfl, hlc, hvc, hss, hin⟩ := hv
  obtain ⟨n0, n1, r0, r1, hfl⟩ := hfit
  have hblk : (w.alloc (.cells #[.int .u8 kk, .int .i64 nn, .string st, .slice A l.length vc, .int .i64 rr] 26)).heap[w.heap.size]? = some (.cells #[.int .u8 kk, .int .i64 nn, .string st, .slice A l.length vc, .int .i64 rr] 26 (0, 0)) := heap_alloc_new w _
  have Hown := Lib.hid hown
  have Hblk := Lib.hid hblk
  clear hown hblk
  by_cases k1 : kk = 1
  · have ht : textL (.mk kk nn st l rr) = itoa nn := by rw [textL, if_pos k1]
    rw [ht] at hlim ⊢
    subst k1
    go_enter Tryd.func54, Tryd.ntmps54
    go_wp2_with fail
    refine (Tryd.strconv_AppendInt_10 base n nn n0 n1 _ xs _ (Hown.out.alloc _) (by simp; omega) (by omega) (htab.on ((Below.refl _ _).alloc hb _))).mono ?_
    rintro e w' ⟨v', rfl, ho, hbel, hok⟩
    go_wp2
    go_ret
    exact ⟨v', rfl, ho, (Grew.refl base w).alloc hb _ |>.trans ⟨hbel, hok⟩⟩
  · have b1 : (kk == 1) = false := by simpa using k1
    by_cases k2 : kk = 2
    · have ht : textL (.mk kk nn st l rr) = quoteL st.data.toList := by rw [textL, if_neg k1, if_pos k2]
      rw [ht] at hlim ⊢
      subst k2
      clear b1 k1
      go_enter Tryd.func54, Tryd.ntmps54
      go_wp2_with fail
      refine (quote_any base n _ xs st _ (Hown.out.alloc _) (by simp; omega) (by omega)).mono ?_
      rintro e w' ⟨v', rfl, ho, hg⟩
      go_wp2
      go_ret
      exact ⟨v', rfl, ho, (Grew.refl base w).alloc hb _ |>.trans hg⟩
    · have b2 : (kk == 2) = false := by simpa using k2
      by_cases k4 : kk = 4
      · have ht : textL (.mk kk nn st l rr) = 35 :: itoa rr := by rw [textL, if_neg k1, if_neg k2, if_pos k4]
        rw [ht] at hlim ⊢
        subst k4
        clear b1 k1 b2 k2
        rw [List.length_cons] at hlim
        have hc : (w.alloc (.cells #[.int .u8 4, .int .i64 nn, .string st, .slice A l.length vc, .int .i64 rr] 26)).drew.cell? ⟨w.heap.size, 4, none⟩ = some (.int .i64 rr) := blk_cell (w := (w.alloc (.cells #[.int .u8 4, .int .i64 nn, .string st, .slice A l.length vc, .int .i64 rr] 26)).drew) Hblk.out 4
        have hod : (w.alloc (.cells #[.int .u8 4, .int .i64 nn, .string st, .slice A l.length vc, .int .i64 rr] 26)).drew.ownsRow base 5 1 (.slice ad n cap) n xs := Hown.out.alloc _
        have HOD := Lib.hid hod
        have hlt : ∀ g, (Value.slice ad n cap).ownBlock = some g → g < w.heap.size := fun g hg => (Hown.out.lt g hg).2
        have Hlt := Lib.hid hlt
        clear hod hlt
        go_enter Tryd.func54, Tryd.ntmps54
        go_wp2_with fail
        go_region_held_law (fun w' => w'.cell? ⟨w.heap.size, 4, none⟩ = some (.int .i64 rr)) (first | assumption | go_keep)
          (first
            | ((refine step_append_lies _ rfl (.tmp 22) (.tmp 23) 83 rfl base 5 i0 (.int .u8 0) 1 1 Tryd.underlying83 hi hz0 hz1 hz2 rfl (by decide) _ n xs (by rfl) (HOD.out.alloc _) _ 1 1 _ (by rfl) (by rfl) (cells_at _ _ (by simp) _ _) (by simp [Value.oneCell']) (by decide) (by unfold maxLen; omega) (by omega) (by simp; omega) _ rfl ?_; intro g cap2 w2 hown2 hgrow2 _ _; have hg2 := ((Grew.refl base (w.alloc (.cells #[.int .u8 4, .int .i64 nn, .string st, .slice A l.length vc, .int .i64 rr] 26))).same (b' := (w.alloc (.cells #[.int .u8 4, .int .i64 nn, .string st, .slice A l.length vc, .int .i64 rr] 26)).drew) rfl rfl rfl rfl).alloc (by simp; omega) (.cells #[.int .u8 35] 5) |>.grown (by simp; omega) (HOD.out.alloc _) hgrow2; have hb2 := hg2.box Hblk.out (by decide); have hc2 : w2.cell? ⟨w.heap.size, 4, none⟩ = some (.int .i64 rr) := blk_cell hb2 4; have HO2 := Lib.hid hown2; have HG2 := Lib.hid hg2; have HB2 := Lib.hid hb2; clear hown2 hgrow2 hg2 hb2))
            | (go_simp; go_at_call 57; refine (Tryd.strconv_AppendInt_10 base (n + 1) rr r0 r1 _ _ _ HO2.out (by have := HG2.out.size; simp at this; omega) (by omega) (htab.on (((Grew.refl base w).alloc hb _).trans HG2.out).below)).mono ?_; rintro e w3 ⟨v3, rfl, ho3, hbel3, hok3⟩; have hg3 : Grew base (w.alloc (.cells #[.int .u8 4, .int .i64 nn, .string st, .slice A l.length vc, .int .i64 rr] 26)) w3 := HG2.out.trans ⟨hbel3, hok3⟩; have hc3 : w3.cell? ⟨w.heap.size, 4, none⟩ = some (.int .i64 rr) := blk_cell (hg3.box Hblk.out (by decide)) 4; have HO3 := Lib.hid ho3; have HG3 := Lib.hid hg3; clear ho3 hg3 hbel3 hok3))
        go_wp2
        go_ret
        refine ⟨v3, rfl, ?_, ((Grew.refl base w).alloc hb _).trans HG3.out⟩
        rw [show byteCells (35 :: itoa rr) = [.int .u8 35] ++ byteCells (itoa rr) from rfl, ← List.append_assoc, show n + ((itoa rr).length + 1) = n + 1 + (itoa rr).length by omega]
        exact HO3.out
      · have b4 : (kk == 4) = false := by simpa using k4
        by_cases k3 : kk = 3
        · have ht : textL (.mk kk nn st l rr) = 91 :: (rowL true l ++ [93]) := by rw [textL, if_neg k1, if_neg k2, if_neg k4, if_pos k3]
          rw [ht] at hlim ⊢
          subst k3
          clear b1 k1 b2 k2 b4 k4
          have hlen : (91 :: (rowL true l ++ [93]) : List UInt8).length = (rowL true l).length + 2 := by simp
          rw [hlen] at hlim ⊢
          clear hlen
          have hgb : Grew base w (w.alloc (.cells #[.int .u8 3, .int .i64 nn, .string st, .slice A l.length vc, .int .i64 rr] 26)) := (Grew.refl base w).alloc hb _
          have hwo : (w.alloc (.cells #[.int .u8 3, .int .i64 nn, .string st, .slice A l.length vc, .int .i64 rr] 26)).ownsRow base 5 1 (.slice ad n cap) n xs := Hown.out.alloc _
          have Hgb := Lib.hid hgb
          have Hwo := Lib.hid hwo
          clear hgb hwo
          go_enter Tryd.func54, Tryd.ntmps54
          go_wp2_with (at_builtin; refine wpList_append_own _ rfl _ _ 83 rfl base 5 i0 (.int .u8 0) 1 1 Tryd.underlying83 hi hz0 hz1 hz2 rfl (by decide) _ n xs rfl (by exact Hwo.out.alloc _) _ 1 1 _ rfl rfl (cells_at _ _ (by simp) _ _) (by simp [Value.oneCell']) (by unfold maxLen; omega) (by omega) (by simp; omega) ?_; intro v1 w1 hown1 hgrow1 _; have hg1 := ((Grew.refl base (w.alloc (.cells #[.int .u8 3, .int .i64 nn, .string st, .slice A l.length vc, .int .i64 rr] 26))).alloc (by simp; omega) (.cells #[.int .u8 91] 5)).grown (by simp; omega) (Hwo.out.alloc _) hgrow1; have hc1 : w1.cell? ⟨w.heap.size, 3, none⟩ = some (.slice A l.length vc) := blk_cell (hg1.box Hblk.out (by decide)) 3; have HO1 := Lib.hid hown1; have HG1 := Lib.hid hg1; clear hown1 hgrow1 hg1)
          have hr0 : rowL true (l.take 0) = [] := rfl
          go_loopw [0, 36] (fun b i wr => ∃ k : Nat, k ≤ l.length ∧ i = .int .i64 k ∧ wr.ownsRow base 5 1 b (n + 1 + (rowL true (l.take k)).length) (xs ++ [.int .u8 91] ++ byteCells (rowL true (l.take k))) ∧ Grew base (w.alloc (.cells #[.int .u8 3, .int .i64 nn, .string st, .slice A l.length vc, .int .i64 rr] 26)) wr) (fun _ i _ => l.length - (Go.RowKit.intOf i).toNat)
          case atStart => exact ⟨0, by omega, rfl, by rw [hr0]; simpa [byteCells] using HO1.out, HG1.out⟩
          case round =>
            obtain ⟨k, hk, rfl, hown, hg⟩ := hrel
            obtain ⟨ad2, cap2, rfl⟩ := own_slice hown
            have hgs := hg.size
            have hrl := row_le l k
            simp only [World.size_alloc] at hgs
            by_cases hlt : k < l.length
            · obtain ⟨v, hv⟩ : ∃ v, l[k]? = some v := ⟨l[k], List.getElem?_eq_getElem hlt⟩
              have hmem : v ∈ l := List.mem_of_getElem? hv
              have hsucc := row_succ l k v hv
              have hrl2 := row_le l (k + 1)
              have hpre : Grew base w wr := Hgb.out.trans hg
              have hcx : wr.cell? ⟨w.heap.size, 3, none⟩ = some (.slice A l.length vc) := blk_cell (hg.box Hblk.out (by decide)) 3
              have hfit := fitsL_mem hfl v hmem
              have HO := Lib.hid hown
              have HG := Lib.hid hg
              have HP := Lib.hid hpre
              have Hsu := Lib.hid hsucc
              clear hown hg hpre hsucc
              by_cases hk0 : k = 0
              · subst hk0
                obtain ⟨b3, o3, k', n', s', A', m', c', r', rfl, hvin, d0, d1, d2, d3, d4⟩ := child_facts hin hS HP.out.below 0 v hv
                simp only [Nat.zero_mul, Nat.add_zero] at d0 d1 d2 d3 d4
                have hcall := ih v hmem base _ _ _ _ S wr HO.out (by omega) hvin hS hfit (by have := congrArg List.length Hsu.out; simp only [List.length_append] at this; omega) (htab.on HP.out.below)
                have HC := Lib.hid hcall
                clear hcall
                go_wp2_with fail
                refine HC.out.mono ?_
                rintro e w2 ⟨v2, rfl, ho2, hg2⟩
                go_wp2
                refine ⟨⟨1, by omega, rfl, ?_, HG.out.trans hg2⟩, by simp [Go.RowKit.intOf]; omega⟩
                rw [Hsu.out, List.length_append, byteCells_append, ← List.append_assoc, ← Nat.add_assoc]
                exact ho2
              · have kpos : (0 : Int) < (k : Int) := by omega
                go_wp2_with (at_builtin; refine wpList_append_own _ rfl _ _ 83 rfl base 5 i0 (.int .u8 0) 1 1 Tryd.underlying83 hi hz0 hz1 hz2 rfl (by decide) _ _ _ rfl (by exact HO.out.alloc _) _ 1 1 _ rfl rfl (cells_at _ _ (by simp) _ _) (by simp [Value.oneCell']) (by unfold maxLen; omega) (by omega) (by simp; omega) ?_; intro v2 w2 hown2 hgrow2 _; have hg2 := (HG.out.alloc (by omega) (.cells #[.int .u8 32] 5)).grown (by simp; omega) (HO.out.alloc _) hgrow2; have hcx2 : w2.cell? ⟨w.heap.size, 3, none⟩ = some (.slice A l.length vc) := blk_cell (hg2.box Hblk.out (by decide)) 3; obtain ⟨b3, o3, k', n', s', A', m', c', r', rfl, hvin, d0, d1, d2, d3, d4⟩ := child_facts hin hS (Hgb.out.trans hg2).below k v hv; have hgs2 := hg2.size; have hcall := ih v hmem base _ _ _ _ S w2 hown2 (by simp at hgs2; omega) hvin hS hfit (by have := congrArg List.length Hsu.out; simp only [List.length_append] at this; omega) (htab.on (Hgb.out.trans hg2).below); have HC := Lib.hid hcall; have HG2 := Lib.hid hg2; clear hown2 hgrow2 hg2 hcall; refine Hid.out ?_)
                refine Lib.hid ?_
                go_wp2_with fail
                refine HC.out.mono ?_
                rintro e w3 ⟨v3, rfl, ho3, hg3⟩
                go_wp2
                refine ⟨⟨k + 1, by omega, rfl, ?_, HG2.out.trans hg3⟩, by simp [Go.RowKit.intOf]; omega⟩
                rw [Hsu.out, if_neg hk0, List.length_append, byteCells_append, List.length_append, byteCells_append, ← List.append_assoc, ← List.append_assoc, ← Nat.add_assoc, ← Nat.add_assoc]
                exact ho3
            · obtain rfl : k = l.length := by omega
              have hall : l.take l.length = l := List.take_length
              have Hall := Lib.hid hall
              have HO := Lib.hid hown
              have HG := Lib.hid hg
              clear hown hg hall
              go_wp2_with (at_builtin; refine wpList_append_own _ rfl _ _ 83 rfl base 5 i0 (.int .u8 0) 1 1 Tryd.underlying83 hi hz0 hz1 hz2 rfl (by decide) _ _ _ rfl (by exact HO.out.alloc _) _ 1 1 _ rfl rfl (cells_at _ _ (by simp) _ _) (by simp [Value.oneCell']) (by unfold maxLen; omega) (by omega) (by simp; omega) ?_; intro v2 w2 hown2 hgrow2 _; have hg2 := (HG.out.alloc (by omega) (.cells #[.int .u8 93] 5)).grown (by simp; omega) (HO.out.alloc _) hgrow2; have HO2 := Lib.hid hown2; have HG2 := Lib.hid hg2; clear hown2 hgrow2 hg2)
              go_ret
              refine ⟨_, rfl, ?_, Hgb.out.trans HG2.out⟩
              rw [show byteCells (91 :: (rowL true l ++ [93])) = [.int .u8 91] ++ (byteCells (rowL true l) ++ [.int .u8 93]) by rw [show (91 :: (rowL true l ++ [93]) : List UInt8) = [91] ++ (rowL true l ++ [93]) from rfl, byteCells_append, byteCells_append]; rfl, ← List.append_assoc, ← List.append_assoc, show n + ((rowL true l).length + 2) = n + 1 + (rowL true l).length + 1 by omega]
              have h3 := HO2.out
              rw [Hall.out] at h3
              exact h3
        · have b3 : (kk == 3) = false := by simpa using k3
          have ht : textL (.mk kk nn st l rr) = [95] := by rw [textL, if_neg k1, if_neg k2, if_neg k4, if_neg k3]
          rw [ht] at hlim ⊢
          clear k1 k2 k4 k3
          simp only [List.length_cons, List.length_nil] at hlim
          have hgb : Grew base w (w.alloc (.cells #[.int .u8 kk, .int .i64 nn, .string st, .slice A l.length vc, .int .i64 rr] 26)) := (Grew.refl base w).alloc hb _
          have hwo : (w.alloc (.cells #[.int .u8 kk, .int .i64 nn, .string st, .slice A l.length vc, .int .i64 rr] 26)).ownsRow base 5 1 (.slice ad n cap) n xs := Hown.out.alloc _
          have Hgb := Lib.hid hgb
          have Hwo := Lib.hid hwo
          clear hgb hwo
          go_enter Tryd.func54, Tryd.ntmps54
          go_wp2_with (at_builtin; refine wpList_append_own _ rfl _ _ 83 rfl base 5 i0 (.int .u8 0) 1 1 Tryd.underlying83 hi hz0 hz1 hz2 rfl (by decide) _ n xs rfl (by exact Hwo.out.alloc _) _ 1 1 _ rfl rfl (cells_at _ _ (by simp) _ _) (by simp [Value.oneCell']) (by unfold maxLen; omega) (by omega) (by simp; omega) ?_; intro v1 w1 hown1 hgrow1 _; have hg1 := (Hgb.out.alloc (by simp; omega) (.cells #[.int .u8 95] 5)).grown (by simp; omega) (Hwo.out.alloc _) hgrow1; have HO1 := Lib.hid hown1; have HG1 := Lib.hid hg1; clear hown1 hgrow1 hg1)
          go_ret
          exact ⟨_, rfl, HO1.out, HG1.out⟩
theorem text_any (v : V) : TextOk v := V.induct textOk_of v
end Go.Proofs.YtmiipfdndgjndaaDoor
