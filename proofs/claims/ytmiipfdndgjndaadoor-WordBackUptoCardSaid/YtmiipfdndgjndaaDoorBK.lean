/- The walk of WordBack. -/
import Derived.Test.YtmiipfdndgjndaaDoorLW
import Derived.Test.YtmiipfdndgjndaaDoorAL
import Derived.Test.YtmiipfdndgjndaaDoorAW
import Derived.Test.YtmiipfdndgjndaaDoorX4
namespace Go.Proofs.YtmiipfdndgjndaaDoor
open Go.RowKit Go.Lib
set_option maxHeartbeats 2000000
/-- The two boxes of the arguments, in a later world. -/
structure Bx (w wi : World) (c c2 : Array Value) : Prop where
  b0 : wi.heap[w.heap.size]? = some (.cells c 26 (0, 0))
  b1 : wi.heap[w.heap.size + 1]? = some (.cells c2 26 (0, 0))
  bel : Below w.heap.size w wi
  sz : w.heap.size + 2 ≤ wi.heap.size
theorem Bx.step {w wi wj : World} {c c2 : Array Value} (h : Bx w wi c c2) (hb : Below wi.heap.size wi wj) : Bx w wj c c2 :=
  ⟨(hb.block _ (by have := h.sz; omega)).trans h.b0, (hb.block _ (by have := h.sz; omega)).trans h.b1, h.bel.trans (hb.mono (by have := h.sz; omega)), Nat.le_trans h.sz hb.size⟩
theorem Bx.alloc {w wi : World} {c c2 : Array Value} (h : Bx w wi c c2) (o : Obj) : Bx w (wi.alloc o) c c2 := h.step ((Below.refl _ _).alloc (Nat.le_refl _) o)
theorem Bx.first (w : World) (c c2 : Array Value) : Bx w ((w.alloc (.cells c 26)).alloc (.cells c2 26)) c c2 := by
  refine ⟨(Below.heap_alloc _ _ _ (by simp)).trans (heap_alloc_new w _), ?_, ((Below.refl _ w).alloc (Nat.le_refl _) _).alloc (by simp) _, by simp⟩
  have := heap_alloc_new (w.alloc (.cells c 26)) (.cells c2 26)
  rw [World.size_alloc] at this
  exact this
theorem text_yes {v : V} {cs : List Value} {S : Nat → Prop} {w : World} (hv : VIn w S v cs) (hS : ∀ b, S b → b < w.heap.size) (hf : v.fits) (hl : (textL v).length + 32 ≤ 140737488355328) (ht : Tab w.heap.size w) (hm : mayV v = true) :
    Calls Tryd.prog 24 #[.agg cs.toArray] w fun e w' => e = .returned (.tuple #[.string ⟨(textL v).toArray⟩, .int .i64 0]) ∧ Below w.heap.size w w' := by
  refine (Text_any v cs S w hv hS hf (fun _ => hl) ht).mono ?_
  rintro e w' ⟨rfl, hb⟩
  exact ⟨by rw [if_pos hm], hb⟩
theorem text_no {v : V} {cs : List Value} {S : Nat → Prop} {w : World} (hv : VIn w S v cs) (hS : ∀ b, S b → b < w.heap.size) (hf : v.fits) (hl : (textL v).length + 32 ≤ 140737488355328) (ht : Tab w.heap.size w) (hm : mayV v = false) :
    Calls Tryd.prog 24 #[.agg cs.toArray] w fun e w' => e = .returned (.tuple #[.string ⟨#[]⟩, .int .i64 2]) ∧ Below w.heap.size w w' := by
  refine (Text_any v cs S w hv hS hf (fun _ => hl) ht).mono ?_
  rintro e w' ⟨rfl, hb⟩
  exact ⟨by rw [if_neg (by rw [hm]; simp)], hb⟩
theorem read_ok (s : ByteArray) (w : World) (hs : s.size ≤ 1099511627776) (h : (readF s).2.2 = 0) :
    Calls Tryd.prog 12 #[.string s] w fun e w' => (∃ (k n : Int) (st : ByteArray) (A : Option Addr) (m c : Nat) (r : Int), e = .returned (.tuple #[.agg #[.int .u8 k, .int .i64 n, .string st, .slice A m c, .int .i64 r], .int .i64 0, .int .i64 0]) ∧ VIn w' (fun b => w.heap.size ≤ b ∧ b < w'.heap.size) (readF s).1 [.int .u8 k, .int .i64 n, .string st, .slice A m c, .int .i64 r]) ∧ Below w.heap.size w w' := by
  refine (Read_any s w (by omega)).mono ?_
  rintro e w' ⟨⟨cs, rfl, hv⟩, hb⟩
  have h2 := (readF_text s h).2.2.1
  rw [h, h2]
  generalize (readF s).1 = v at hv ⊢
  obtain ⟨k, n, s, A, c, r, -, rfl⟩ := hv.forms
  exact ⟨⟨k, n, s, A, v.lst.length, c, r, rfl, hv⟩, hb⟩
theorem read_no (s : ByteArray) (w : World) (hs : s.size ≤ 1099511627776) (h : ¬ (readF s).2.2 = 0) :
    Calls Tryd.prog 12 #[.string s] w fun e w' => (∃ (k n : Int) (st : ByteArray) (A : Option Addr) (m c : Nat) (r pl er : Int), e = .returned (.tuple #[.agg #[.int .u8 k, .int .i64 n, .string st, .slice A m c, .int .i64 r], .int .i64 pl, .int .i64 er]) ∧ ¬ er = 0) ∧ Below w.heap.size w w' := by
  refine (Read_any s w (by omega)).mono ?_
  rintro e w' ⟨⟨cs, rfl, hv⟩, hb⟩
  generalize (readF s).1 = v at hv ⊢
  obtain ⟨k, n, s, A, c, r, -, rfl⟩ := hv.forms
  exact ⟨⟨k, n, s, A, v.lst.length, c, r, _, _, rfl, h⟩, hb⟩
theorem unq_ok (s : ByteArray) (w : World) (hs : s.size ≤ 1099511627776) (h : (unquoteF s).2.2 = 0) :
    Calls Tryd.prog 16 #[.string s] w fun e w' => e = .returned (.tuple #[.string ⟨(unquoteF s).1.toArray⟩, .int .i64 0, .int .i64 0]) ∧ Below w.heap.size w w' := by
  refine (unquote_any s w (by omega)).mono ?_
  rintro e w' ⟨rfl, hb⟩
  rw [h, (quote_unquoteF s h).2]
  exact ⟨rfl, hb⟩
theorem unq_no (s : ByteArray) (w : World) (hs : s.size ≤ 1099511627776) (h : ¬ (unquoteF s).2.2 = 0) :
    Calls Tryd.prog 16 #[.string s] w fun e w' => (∃ (u : ByteArray) (pl er : Int), e = .returned (.tuple #[.string u, .int .i64 pl, .int .i64 er]) ∧ ¬ er = 0) ∧ Below w.heap.size w w' := by
  refine (unquote_any s w (by omega)).mono ?_
  rintro e w' ⟨rfl, hb⟩
  exact ⟨⟨_, _, _, rfl, h⟩, hb⟩
theorem quote_is (s : ByteArray) (w : World) (hs : s.size ≤ 4398046511104) :
    Calls Tryd.prog 18 #[.string s] w fun e w' => e = .returned (.string ⟨(quoteL s.data.toList).toArray⟩) ∧ Below w.heap.size w w' := by
  have h3 := quoteM_le s.data.toList
  rw [size_list] at h3
  have h2 : (quoteL s.data.toList).length = (quoteM s.data.toList).length + 2 := by simp [quoteL]
  refine (Quote_any s w (by omega)).mono ?_
  rintro e w' ⟨rfl, hb⟩
  exact ⟨rfl, hb.below⟩
theorem read_text_ok {v : V} (w : World) (hl : (textL v).length ≤ 1099511627776) (hm : mayV v = true) (hf : v.fits) :
    Calls Tryd.prog 12 #[.string ⟨(textL v).toArray⟩] w fun e w' => (∃ (k n : Int) (st : ByteArray) (A : Option Addr) (m c : Nat) (r : Int), e = .returned (.tuple #[.agg #[.int .u8 k, .int .i64 n, .string st, .slice A m c, .int .i64 r], .int .i64 0, .int .i64 0]) ∧ VIn w' (fun b => w.heap.size ≤ b ∧ b < w'.heap.size) v [.int .u8 k, .int .i64 n, .string st, .slice A m c, .int .i64 r]) ∧ Below w.heap.size w w' := by
  have h := readF_of_text v hm hf
  have := read_ok ⟨(textL v).toArray⟩ w (by rw [size_arr]; exact hl) (by rw [h])
  rw [h] at this
  exact this
theorem text_inj {v v2 : V} (h1 : mayV v = true) (h2 : mayV v2 = true) (f1 : v.fits) (f2 : v2.fits) (e : (⟨(textL v).toArray⟩ : ByteArray) = ⟨(textL v2).toArray⟩) : v = v2 := by
  have a := readF_of_text v h1 f1
  have b := readF_of_text v2 h2 f2
  rw [e, b] at a
  exact (congrArg (·.1) a).symm
theorem unq_facts (s : ByteArray) (hs : s.size ≤ 1099511627776) (h : (unquoteF s).2.2 = 0) : quoteL (⟨(unquoteF s).1.toArray⟩ : ByteArray).data.toList = s.data.toList ∧ (⟨(unquoteF s).1.toArray⟩ : ByteArray).size ≤ 4398046511104 := by
  have h1 := (quote_unquoteF s h).1
  refine ⟨by simpa using h1, ?_⟩
  rw [size_arr]
  have h2 := quoteM_length (unquoteF s).1
  have h3 : (quoteL (unquoteF s).1).length = (quoteM (unquoteF s).1).length + 2 := by simp [quoteL]
  rw [h1, size_list] at h3
  omega
theorem mk_list (s : ByteArray) : (⟨s.data.toList.toArray⟩ : ByteArray) = s := by cases s; simp
theorem unq_quote (s : ByteArray) (w : World) (hs : s.size ≤ 1099511627776) :
    Calls Tryd.prog 16 #[.string ⟨(quoteL s.data.toList).toArray⟩] w fun e w' => e = .returned (.tuple #[.string s, .int .i64 0, .int .i64 0]) ∧ Below w.heap.size w w' := by
  have h3 := quoteM_le s.data.toList
  rw [size_list] at h3
  have h2 : (quoteL s.data.toList).length = (quoteM s.data.toList).length + 2 := by simp [quoteL]
  refine (unquote_any ⟨(quoteL s.data.toList).toArray⟩ w (by rw [size_arr]; omega)).mono ?_
  rintro e w' ⟨rfl, hb⟩
  refine ⟨?_, hb⟩
  rw [unquoteF_quote, mk_list]
  rfl
set_option maxRecDepth 100000 in
theorem back_any (v v2 : V) (k n : Int) (st : ByteArray) (A : Option Addr) (m c : Nat) (r : Int) (k2 n2 : Int) (st2 : ByteArray) (A2 : Option Addr) (m2 c2 : Nat) (r2 : Int) (s : ByteArray) (S S2 : Nat → Prop) (w : World)
    (hv : VIn w S v [.int .u8 k, .int .i64 n, .string st, .slice A m c, .int .i64 r]) (hv2 : VIn w S2 v2 [.int .u8 k2, .int .i64 n2, .string st2, .slice A2 m2 c2, .int .i64 r2])
    (hS : ∀ b, S b → b < w.heap.size) (hS2 : ∀ b, S2 b → b < w.heap.size) (hf : v.fits) (hf2 : v2.fits) (hk : v.kindOk) (hk2 : v2.kindOk) (hl : (textL v).length ≤ 1099511627776) (hl2 : (textL v2).length ≤ 1099511627776)
    (hs : s.size ≤ 1099511627776) (htab : Tab w.heap.size w) (hE : ErrVar w) :
    Calls Tryd.prog 6 #[.agg #[.int .u8 k, .int .i64 n, .string st, .slice A m c, .int .i64 r], .agg #[.int .u8 k2, .int .i64 n2, .string st2, .slice A2 m2 c2, .int .i64 r2], .string s] w fun e w' => e = .returned (.bool true) ∧ Below w.heap.size w w' := by
  have X0 := Lib.hid (Bx.first w #[.int .u8 k, .int .i64 n, .string st, .slice A m c, .int .i64 r] #[.int .u8 k2, .int .i64 n2, .string st2, .slice A2 m2 c2, .int .i64 r2])
  have BD := Lib.hid (fun (wi : World) (X : Bx w wi #[.int .u8 k, .int .i64 n, .string st, .slice A m c, .int .i64 r] #[.int .u8 k2, .int .i64 n2, .string st2, .slice A2 m2 c2, .int .i64 r2]) => (⟨fun b h => by have := hS b h; have := X.sz; omega, fun b h => by have := hS2 b h; have := X.sz; omega⟩ : (∀ b, S b → b < wi.heap.size) ∧ (∀ b, S2 b → b < wi.heap.size)))
  have TB := Lib.hid (fun (wi : World) (X : Bx w wi #[.int .u8 k, .int .i64 n, .string st, .slice A m c, .int .i64 r] #[.int .u8 k2, .int .i64 n2, .string st2, .slice A2 m2 c2, .int .i64 r2]) => tab_mono (htab.on X.bel) (show w.heap.size ≤ wi.heap.size by have := X.sz; omega))
  have EB := Lib.hid (fun (wi : World) (X : Bx w wi #[.int .u8 k, .int .i64 n, .string st, .slice A m c, .int .i64 r] #[.int .u8 k2, .int .i64 n2, .string st2, .slice A2 m2 c2, .int .i64 r2]) => hE.below X.bel)
  have G1 := Lib.hid (fun (wi : World) (X : Bx w wi #[.int .u8 k, .int .i64 n, .string st, .slice A m c, .int .i64 r] #[.int .u8 k2, .int .i64 n2, .string st2, .slice A2 m2 c2, .int .i64 r2]) => great_any v 20000 _ S wi (hv.below X.bel hS) (BD.out wi X).1 (by omega))
  have G2 := Lib.hid (fun (wi : World) (X : Bx w wi #[.int .u8 k, .int .i64 n, .string st, .slice A m c, .int .i64 r] #[.int .u8 k2, .int .i64 n2, .string st2, .slice A2 m2 c2, .int .i64 r2]) => great_any v2 20000 _ S2 wi (hv2.below X.bel hS2) (BD.out wi X).2 (by omega))
  have M1 := Lib.hid (fun (wi : World) (X : Bx w wi #[.int .u8 k, .int .i64 n, .string st, .slice A m c, .int .i64 r] #[.int .u8 k2, .int .i64 n2, .string st2, .slice A2 m2 c2, .int .i64 r2]) => lawMay_any v _ S wi (hv.below X.bel hS) (BD.out wi X).1 hk)
  have M2 := Lib.hid (fun (wi : World) (X : Bx w wi #[.int .u8 k, .int .i64 n, .string st, .slice A m c, .int .i64 r] #[.int .u8 k2, .int .i64 n2, .string st2, .slice A2 m2 c2, .int .i64 r2]) => lawMay_any v2 _ S2 wi (hv2.below X.bel hS2) (BD.out wi X).2 hk2)
  have AW := Lib.hid (fun (wi : World) (X : Bx w wi #[.int .u8 k, .int .i64 n, .string st, .slice A m c, .int .i64 r] #[.int .u8 k2, .int .i64 n2, .string st2, .slice A2 m2 c2, .int .i64 r2]) => awake_any wi (TB.out wi X) (EB.out wi X))
  obtain ⟨g1, hg1⟩ : ∃ g, g = greatV v 20000 := ⟨_, rfl⟩
  obtain ⟨g2, hg2⟩ : ∃ g, g = greatV v2 20000 := ⟨_, rfl⟩
  have Hg1 := Lib.hid hg1
  have Hg2 := Lib.hid hg2
  clear hg1 hg2
  by_cases h1 : g1 < 0
  · have t1 : decide (g1 < 0) = true := by simpa using h1
    go_enter Tryd.func6, Tryd.ntmps6
    go_wp2_with fail
    refine (G1.out _ X0.out).mono ?_
    rintro e w1 ⟨rfl, hb⟩
    rw [← Hg1.out]
    have X1 := Lib.hid (X0.out.step hb)
    clear hb
    go_wp2_with fail
    refine (AW.out _ X1.out).mono ?_
    rintro e w2 ⟨rfl, hb⟩
    have X2 := Lib.hid (X1.out.step hb)
    clear hb
    go_wp2
    go_ret
    exact ⟨rfl, X2.out.bel⟩
  have t1 : decide (g1 < 0) = false := by simpa using h1
  by_cases h2 : g2 < 0
  · have t2 : decide (g2 < 0) = true := by simpa using h2
    go_enter Tryd.func6, Tryd.ntmps6
    go_wp2_with fail
    refine (G1.out _ X0.out).mono ?_
    rintro e w1 ⟨rfl, hb⟩
    rw [← Hg1.out]
    have X1 := Lib.hid (X0.out.step hb)
    clear hb
    have p0 : w1.cell? ⟨w.heap.size, 0, none⟩ = some (.int .u8 k) := blk_cell X1.out.b0 0
    have q0 : w1.cell? ⟨w.heap.size + 1, 0, none⟩ = some (.int .u8 k2) := blk_cell X1.out.b1 0
    have p1 : w1.cell? ⟨w.heap.size, 1, none⟩ = some (.int .i64 n) := blk_cell X1.out.b0 1
    have q1 : w1.cell? ⟨w.heap.size + 1, 1, none⟩ = some (.int .i64 n2) := blk_cell X1.out.b1 1
    have p2 : w1.cell? ⟨w.heap.size, 2, none⟩ = some (.string st) := blk_cell X1.out.b0 2
    have q2 : w1.cell? ⟨w.heap.size + 1, 2, none⟩ = some (.string st2) := blk_cell X1.out.b1 2
    have p3 : w1.cell? ⟨w.heap.size, 3, none⟩ = some (.slice A m c) := blk_cell X1.out.b0 3
    have q3 : w1.cell? ⟨w.heap.size + 1, 3, none⟩ = some (.slice A2 m2 c2) := blk_cell X1.out.b1 3
    have p4 : w1.cell? ⟨w.heap.size, 4, none⟩ = some (.int .i64 r) := blk_cell X1.out.b0 4
    have q4 : w1.cell? ⟨w.heap.size + 1, 4, none⟩ = some (.int .i64 r2) := blk_cell X1.out.b1 4

    go_wp2_with fail
    refine (G2.out _ X1.out).mono ?_
    rintro e w2 ⟨rfl, hb⟩
    rw [← Hg2.out]
    have X2 := Lib.hid (X1.out.step hb)
    clear hb p0 p1 p2 p3 p4 q0 q1 q2 q3 q4
    go_wp2_with fail
    refine (AW.out _ X2.out).mono ?_
    rintro e w3 ⟨rfl, hb⟩
    have X3 := Lib.hid (X2.out.step hb)
    clear hb
    go_wp2
    go_ret
    exact ⟨rfl, X3.out.bel⟩
  have t2 : decide (g2 < 0) = false := by simpa using h2
  have lm1 := Lib.hid (show lawMay v = mayV v by unfold lawMay; rw [← Hg1.out, decide_eq_true (by omega), Bool.true_and])
  have lm2 := Lib.hid (show lawMay v2 = mayV v2 by unfold lawMay; rw [← Hg2.out, decide_eq_true (by omega), Bool.true_and])
  have hv := Lib.hid hv
  have hv2 := Lib.hid hv2
  have HS := Lib.hid hS
  have HS2 := Lib.hid hS2
  have hf := Lib.hid hf
  have hf2 := Lib.hid hf2
  have HL1 := Lib.hid hl
  clear hS hS2
  cases ha' : mayV v with
  | false =>
    have ha := Lib.hid ha'
    clear ha'
    cases hb' : mayV v2 with
    | false =>
      have hb2 := Lib.hid hb'
      clear hb'
      by_cases hrd : (readF s).2.2 = 0
      · have HRD := Lib.hid hrd
        have HT := Lib.hid (readF_text s hrd)
        clear hrd
        by_cases huq : (unquoteF s).2.2 = 0
        · have HUQ := Lib.hid huq
          have HU := Lib.hid (unq_facts s hs huq)
          clear huq
          go_enter Tryd.func6, Tryd.ntmps6
          go_wp2_with fail
          refine (G1.out _ X0.out).mono ?_
          rintro e w1 ⟨rfl, hb⟩
          rw [← Hg1.out]
          have X1 := Lib.hid (X0.out.step hb)
          clear hb
          have p0 : w1.cell? ⟨w.heap.size, 0, none⟩ = some (.int .u8 k) := blk_cell X1.out.b0 0
          have q0 : w1.cell? ⟨w.heap.size + 1, 0, none⟩ = some (.int .u8 k2) := blk_cell X1.out.b1 0
          have p1 : w1.cell? ⟨w.heap.size, 1, none⟩ = some (.int .i64 n) := blk_cell X1.out.b0 1
          have q1 : w1.cell? ⟨w.heap.size + 1, 1, none⟩ = some (.int .i64 n2) := blk_cell X1.out.b1 1
          have p2 : w1.cell? ⟨w.heap.size, 2, none⟩ = some (.string st) := blk_cell X1.out.b0 2
          have q2 : w1.cell? ⟨w.heap.size + 1, 2, none⟩ = some (.string st2) := blk_cell X1.out.b1 2
          have p3 : w1.cell? ⟨w.heap.size, 3, none⟩ = some (.slice A m c) := blk_cell X1.out.b0 3
          have q3 : w1.cell? ⟨w.heap.size + 1, 3, none⟩ = some (.slice A2 m2 c2) := blk_cell X1.out.b1 3
          have p4 : w1.cell? ⟨w.heap.size, 4, none⟩ = some (.int .i64 r) := blk_cell X1.out.b0 4
          have q4 : w1.cell? ⟨w.heap.size + 1, 4, none⟩ = some (.int .i64 r2) := blk_cell X1.out.b1 4
          go_wp2_with fail
          refine (G2.out _ X1.out).mono ?_
          rintro e w2 ⟨rfl, hb⟩
          rw [← Hg2.out]
          have X2 := Lib.hid (X1.out.step hb)
          clear hb
          clear p0 p1 p2 p3 p4 q0 q1 q2 q3 q4
          have p0 : w2.cell? ⟨w.heap.size, 0, none⟩ = some (.int .u8 k) := blk_cell X2.out.b0 0
          have q0 : w2.cell? ⟨w.heap.size + 1, 0, none⟩ = some (.int .u8 k2) := blk_cell X2.out.b1 0
          have p1 : w2.cell? ⟨w.heap.size, 1, none⟩ = some (.int .i64 n) := blk_cell X2.out.b0 1
          have q1 : w2.cell? ⟨w.heap.size + 1, 1, none⟩ = some (.int .i64 n2) := blk_cell X2.out.b1 1
          have p2 : w2.cell? ⟨w.heap.size, 2, none⟩ = some (.string st) := blk_cell X2.out.b0 2
          have q2 : w2.cell? ⟨w.heap.size + 1, 2, none⟩ = some (.string st2) := blk_cell X2.out.b1 2
          have p3 : w2.cell? ⟨w.heap.size, 3, none⟩ = some (.slice A m c) := blk_cell X2.out.b0 3
          have q3 : w2.cell? ⟨w.heap.size + 1, 3, none⟩ = some (.slice A2 m2 c2) := blk_cell X2.out.b1 3
          have p4 : w2.cell? ⟨w.heap.size, 4, none⟩ = some (.int .i64 r) := blk_cell X2.out.b0 4
          have q4 : w2.cell? ⟨w.heap.size + 1, 4, none⟩ = some (.int .i64 r2) := blk_cell X2.out.b1 4
          go_wp2_with fail
          refine (text_no (hv.out.below X2.out.bel HS.out) (BD.out _ X2.out).1 hf.out (by omega) (TB.out _ X2.out) ha.out).mono ?_
          rintro e w3 ⟨rfl, hb⟩
          have X3 := Lib.hid (X2.out.step hb)
          clear hb
          clear p0 p1 p2 p3 p4 q0 q1 q2 q3 q4
          have p0 : w3.cell? ⟨w.heap.size, 0, none⟩ = some (.int .u8 k) := blk_cell X3.out.b0 0
          have q0 : w3.cell? ⟨w.heap.size + 1, 0, none⟩ = some (.int .u8 k2) := blk_cell X3.out.b1 0
          have p1 : w3.cell? ⟨w.heap.size, 1, none⟩ = some (.int .i64 n) := blk_cell X3.out.b0 1
          have q1 : w3.cell? ⟨w.heap.size + 1, 1, none⟩ = some (.int .i64 n2) := blk_cell X3.out.b1 1
          have p2 : w3.cell? ⟨w.heap.size, 2, none⟩ = some (.string st) := blk_cell X3.out.b0 2
          have q2 : w3.cell? ⟨w.heap.size + 1, 2, none⟩ = some (.string st2) := blk_cell X3.out.b1 2
          have p3 : w3.cell? ⟨w.heap.size, 3, none⟩ = some (.slice A m c) := blk_cell X3.out.b0 3
          have q3 : w3.cell? ⟨w.heap.size + 1, 3, none⟩ = some (.slice A2 m2 c2) := blk_cell X3.out.b1 3
          have p4 : w3.cell? ⟨w.heap.size, 4, none⟩ = some (.int .i64 r) := blk_cell X3.out.b0 4
          have q4 : w3.cell? ⟨w.heap.size + 1, 4, none⟩ = some (.int .i64 r2) := blk_cell X3.out.b1 4
          go_wp2_with fail
          refine (text_no (hv2.out.below X3.out.bel HS2.out) (BD.out _ X3.out).2 hf2.out (by omega) (TB.out _ X3.out) hb2.out).mono ?_
          rintro e w4 ⟨rfl, hb⟩
          have X4 := Lib.hid (X3.out.step hb)
          clear hb
          clear p0 p1 p2 p3 p4 q0 q1 q2 q3 q4
          have p0 : w4.cell? ⟨w.heap.size, 0, none⟩ = some (.int .u8 k) := blk_cell X4.out.b0 0
          have q0 : w4.cell? ⟨w.heap.size + 1, 0, none⟩ = some (.int .u8 k2) := blk_cell X4.out.b1 0
          have p1 : w4.cell? ⟨w.heap.size, 1, none⟩ = some (.int .i64 n) := blk_cell X4.out.b0 1
          have q1 : w4.cell? ⟨w.heap.size + 1, 1, none⟩ = some (.int .i64 n2) := blk_cell X4.out.b1 1
          have p2 : w4.cell? ⟨w.heap.size, 2, none⟩ = some (.string st) := blk_cell X4.out.b0 2
          have q2 : w4.cell? ⟨w.heap.size + 1, 2, none⟩ = some (.string st2) := blk_cell X4.out.b1 2
          have p3 : w4.cell? ⟨w.heap.size, 3, none⟩ = some (.slice A m c) := blk_cell X4.out.b0 3
          have q3 : w4.cell? ⟨w.heap.size + 1, 3, none⟩ = some (.slice A2 m2 c2) := blk_cell X4.out.b1 3
          have p4 : w4.cell? ⟨w.heap.size, 4, none⟩ = some (.int .i64 r) := blk_cell X4.out.b0 4
          have q4 : w4.cell? ⟨w.heap.size + 1, 4, none⟩ = some (.int .i64 r2) := blk_cell X4.out.b1 4
          go_wp2_with fail
          refine (M1.out _ X4.out).mono ?_
          rintro e w5 ⟨rfl, hb⟩
          rw [lm1.out, ha.out]
          have X5 := Lib.hid (X4.out.step hb)
          clear hb
          clear p0 p1 p2 p3 p4 q0 q1 q2 q3 q4
          have p0 : w5.cell? ⟨w.heap.size, 0, none⟩ = some (.int .u8 k) := blk_cell X5.out.b0 0
          have q0 : w5.cell? ⟨w.heap.size + 1, 0, none⟩ = some (.int .u8 k2) := blk_cell X5.out.b1 0
          have p1 : w5.cell? ⟨w.heap.size, 1, none⟩ = some (.int .i64 n) := blk_cell X5.out.b0 1
          have q1 : w5.cell? ⟨w.heap.size + 1, 1, none⟩ = some (.int .i64 n2) := blk_cell X5.out.b1 1
          have p2 : w5.cell? ⟨w.heap.size, 2, none⟩ = some (.string st) := blk_cell X5.out.b0 2
          have q2 : w5.cell? ⟨w.heap.size + 1, 2, none⟩ = some (.string st2) := blk_cell X5.out.b1 2
          have p3 : w5.cell? ⟨w.heap.size, 3, none⟩ = some (.slice A m c) := blk_cell X5.out.b0 3
          have q3 : w5.cell? ⟨w.heap.size + 1, 3, none⟩ = some (.slice A2 m2 c2) := blk_cell X5.out.b1 3
          have p4 : w5.cell? ⟨w.heap.size, 4, none⟩ = some (.int .i64 r) := blk_cell X5.out.b0 4
          have q4 : w5.cell? ⟨w.heap.size + 1, 4, none⟩ = some (.int .i64 r2) := blk_cell X5.out.b1 4
          go_wp2_with fail
          refine (M2.out _ X5.out).mono ?_
          rintro e w6 ⟨rfl, hb⟩
          rw [lm2.out, hb2.out]
          have X6 := Lib.hid (X5.out.step hb)
          clear hb
          clear p0 p1 p2 p3 p4 q0 q1 q2 q3 q4
          have p0 : w6.cell? ⟨w.heap.size, 0, none⟩ = some (.int .u8 k) := blk_cell X6.out.b0 0
          have q0 : w6.cell? ⟨w.heap.size + 1, 0, none⟩ = some (.int .u8 k2) := blk_cell X6.out.b1 0
          have p1 : w6.cell? ⟨w.heap.size, 1, none⟩ = some (.int .i64 n) := blk_cell X6.out.b0 1
          have q1 : w6.cell? ⟨w.heap.size + 1, 1, none⟩ = some (.int .i64 n2) := blk_cell X6.out.b1 1
          have p2 : w6.cell? ⟨w.heap.size, 2, none⟩ = some (.string st) := blk_cell X6.out.b0 2
          have q2 : w6.cell? ⟨w.heap.size + 1, 2, none⟩ = some (.string st2) := blk_cell X6.out.b1 2
          have p3 : w6.cell? ⟨w.heap.size, 3, none⟩ = some (.slice A m c) := blk_cell X6.out.b0 3
          have q3 : w6.cell? ⟨w.heap.size + 1, 3, none⟩ = some (.slice A2 m2 c2) := blk_cell X6.out.b1 3
          have p4 : w6.cell? ⟨w.heap.size, 4, none⟩ = some (.int .i64 r) := blk_cell X6.out.b0 4
          have q4 : w6.cell? ⟨w.heap.size + 1, 4, none⟩ = some (.int .i64 r2) := blk_cell X6.out.b1 4
          go_wp2_with fail
          refine (read_ok s _ hs HRD.out).mono ?_
          rintro e w7 ⟨⟨k3, n3, st3, A3, m3, c3, r3, rfl, hv3⟩, hb⟩
          have X7 := Lib.hid (X6.out.step hb)
          have hv3 := Lib.hid hv3
          clear hb
          go_wp2_with fail
          have X8 := Lib.hid (X7.out.alloc (.cells #[.int .u8 k3, .int .i64 n3, .string st3, .slice A3 m3 c3, .int .i64 r3] 26))
          have hv4 := Lib.hid (hv3.out.below ((Below.refl _ _).alloc (Nat.le_refl _) (.cells #[.int .u8 k3, .int .i64 n3, .string st3, .slice A3 m3 c3, .int .i64 r3] 26)) (fun b h => h.2))
          refine (text_yes hv4.out (fun b h => by have := h.2; simp; omega) HT.out.2.2.2 (by rw [HT.out.2.1, size_list]; omega) (TB.out _ X8.out) HT.out.1).mono ?_
          rw [HT.out.2.1, mk_list]
          rintro e w9 ⟨rfl, hb⟩
          have X9 := Lib.hid (X8.out.step hb)
          clear hb
          go_wp2_with fail
          refine (quote_is s _ (by omega)).mono ?_
          rintro e w10 ⟨rfl, hb⟩
          have X10 := Lib.hid (X9.out.step hb)
          clear hb
          go_wp2_with fail
          refine (unq_quote s _ hs).mono ?_
          rintro e w11 ⟨rfl, hb⟩
          have X11 := Lib.hid (X10.out.step hb)
          clear hb
          go_wp2_with fail
          refine (unq_ok s _ hs HUQ.out).mono ?_
          rintro e w12 ⟨rfl, hb⟩
          have X12 := Lib.hid (X11.out.step hb)
          clear hb
          go_wp2_with fail
          refine (quote_is _ _ HU.out.2).mono ?_
          rw [HU.out.1, mk_list]
          rintro e w13 ⟨rfl, hb⟩
          have X13 := Lib.hid (X12.out.step hb)
          clear hb
          go_wp2_with fail
          refine (AW.out _ X13.out).mono ?_
          rintro e w14 ⟨rfl, hb⟩
          have X14 := Lib.hid (X13.out.step hb)
          clear hb
          go_wp2
          go_ret
          exact ⟨rfl, X14.out.bel⟩
        · have HUQ := Lib.hid huq
          clear huq
          go_enter Tryd.func6, Tryd.ntmps6
          go_wp2_with fail
          refine (G1.out _ X0.out).mono ?_
          rintro e w1 ⟨rfl, hb⟩
          rw [← Hg1.out]
          have X1 := Lib.hid (X0.out.step hb)
          clear hb
          have p0 : w1.cell? ⟨w.heap.size, 0, none⟩ = some (.int .u8 k) := blk_cell X1.out.b0 0
          have q0 : w1.cell? ⟨w.heap.size + 1, 0, none⟩ = some (.int .u8 k2) := blk_cell X1.out.b1 0
          have p1 : w1.cell? ⟨w.heap.size, 1, none⟩ = some (.int .i64 n) := blk_cell X1.out.b0 1
          have q1 : w1.cell? ⟨w.heap.size + 1, 1, none⟩ = some (.int .i64 n2) := blk_cell X1.out.b1 1
          have p2 : w1.cell? ⟨w.heap.size, 2, none⟩ = some (.string st) := blk_cell X1.out.b0 2
          have q2 : w1.cell? ⟨w.heap.size + 1, 2, none⟩ = some (.string st2) := blk_cell X1.out.b1 2
          have p3 : w1.cell? ⟨w.heap.size, 3, none⟩ = some (.slice A m c) := blk_cell X1.out.b0 3
          have q3 : w1.cell? ⟨w.heap.size + 1, 3, none⟩ = some (.slice A2 m2 c2) := blk_cell X1.out.b1 3
          have p4 : w1.cell? ⟨w.heap.size, 4, none⟩ = some (.int .i64 r) := blk_cell X1.out.b0 4
          have q4 : w1.cell? ⟨w.heap.size + 1, 4, none⟩ = some (.int .i64 r2) := blk_cell X1.out.b1 4
          go_wp2_with fail
          refine (G2.out _ X1.out).mono ?_
          rintro e w2 ⟨rfl, hb⟩
          rw [← Hg2.out]
          have X2 := Lib.hid (X1.out.step hb)
          clear hb
          clear p0 p1 p2 p3 p4 q0 q1 q2 q3 q4
          have p0 : w2.cell? ⟨w.heap.size, 0, none⟩ = some (.int .u8 k) := blk_cell X2.out.b0 0
          have q0 : w2.cell? ⟨w.heap.size + 1, 0, none⟩ = some (.int .u8 k2) := blk_cell X2.out.b1 0
          have p1 : w2.cell? ⟨w.heap.size, 1, none⟩ = some (.int .i64 n) := blk_cell X2.out.b0 1
          have q1 : w2.cell? ⟨w.heap.size + 1, 1, none⟩ = some (.int .i64 n2) := blk_cell X2.out.b1 1
          have p2 : w2.cell? ⟨w.heap.size, 2, none⟩ = some (.string st) := blk_cell X2.out.b0 2
          have q2 : w2.cell? ⟨w.heap.size + 1, 2, none⟩ = some (.string st2) := blk_cell X2.out.b1 2
          have p3 : w2.cell? ⟨w.heap.size, 3, none⟩ = some (.slice A m c) := blk_cell X2.out.b0 3
          have q3 : w2.cell? ⟨w.heap.size + 1, 3, none⟩ = some (.slice A2 m2 c2) := blk_cell X2.out.b1 3
          have p4 : w2.cell? ⟨w.heap.size, 4, none⟩ = some (.int .i64 r) := blk_cell X2.out.b0 4
          have q4 : w2.cell? ⟨w.heap.size + 1, 4, none⟩ = some (.int .i64 r2) := blk_cell X2.out.b1 4
          go_wp2_with fail
          refine (text_no (hv.out.below X2.out.bel HS.out) (BD.out _ X2.out).1 hf.out (by omega) (TB.out _ X2.out) ha.out).mono ?_
          rintro e w3 ⟨rfl, hb⟩
          have X3 := Lib.hid (X2.out.step hb)
          clear hb
          clear p0 p1 p2 p3 p4 q0 q1 q2 q3 q4
          have p0 : w3.cell? ⟨w.heap.size, 0, none⟩ = some (.int .u8 k) := blk_cell X3.out.b0 0
          have q0 : w3.cell? ⟨w.heap.size + 1, 0, none⟩ = some (.int .u8 k2) := blk_cell X3.out.b1 0
          have p1 : w3.cell? ⟨w.heap.size, 1, none⟩ = some (.int .i64 n) := blk_cell X3.out.b0 1
          have q1 : w3.cell? ⟨w.heap.size + 1, 1, none⟩ = some (.int .i64 n2) := blk_cell X3.out.b1 1
          have p2 : w3.cell? ⟨w.heap.size, 2, none⟩ = some (.string st) := blk_cell X3.out.b0 2
          have q2 : w3.cell? ⟨w.heap.size + 1, 2, none⟩ = some (.string st2) := blk_cell X3.out.b1 2
          have p3 : w3.cell? ⟨w.heap.size, 3, none⟩ = some (.slice A m c) := blk_cell X3.out.b0 3
          have q3 : w3.cell? ⟨w.heap.size + 1, 3, none⟩ = some (.slice A2 m2 c2) := blk_cell X3.out.b1 3
          have p4 : w3.cell? ⟨w.heap.size, 4, none⟩ = some (.int .i64 r) := blk_cell X3.out.b0 4
          have q4 : w3.cell? ⟨w.heap.size + 1, 4, none⟩ = some (.int .i64 r2) := blk_cell X3.out.b1 4
          go_wp2_with fail
          refine (text_no (hv2.out.below X3.out.bel HS2.out) (BD.out _ X3.out).2 hf2.out (by omega) (TB.out _ X3.out) hb2.out).mono ?_
          rintro e w4 ⟨rfl, hb⟩
          have X4 := Lib.hid (X3.out.step hb)
          clear hb
          clear p0 p1 p2 p3 p4 q0 q1 q2 q3 q4
          have p0 : w4.cell? ⟨w.heap.size, 0, none⟩ = some (.int .u8 k) := blk_cell X4.out.b0 0
          have q0 : w4.cell? ⟨w.heap.size + 1, 0, none⟩ = some (.int .u8 k2) := blk_cell X4.out.b1 0
          have p1 : w4.cell? ⟨w.heap.size, 1, none⟩ = some (.int .i64 n) := blk_cell X4.out.b0 1
          have q1 : w4.cell? ⟨w.heap.size + 1, 1, none⟩ = some (.int .i64 n2) := blk_cell X4.out.b1 1
          have p2 : w4.cell? ⟨w.heap.size, 2, none⟩ = some (.string st) := blk_cell X4.out.b0 2
          have q2 : w4.cell? ⟨w.heap.size + 1, 2, none⟩ = some (.string st2) := blk_cell X4.out.b1 2
          have p3 : w4.cell? ⟨w.heap.size, 3, none⟩ = some (.slice A m c) := blk_cell X4.out.b0 3
          have q3 : w4.cell? ⟨w.heap.size + 1, 3, none⟩ = some (.slice A2 m2 c2) := blk_cell X4.out.b1 3
          have p4 : w4.cell? ⟨w.heap.size, 4, none⟩ = some (.int .i64 r) := blk_cell X4.out.b0 4
          have q4 : w4.cell? ⟨w.heap.size + 1, 4, none⟩ = some (.int .i64 r2) := blk_cell X4.out.b1 4
          go_wp2_with fail
          refine (M1.out _ X4.out).mono ?_
          rintro e w5 ⟨rfl, hb⟩
          rw [lm1.out, ha.out]
          have X5 := Lib.hid (X4.out.step hb)
          clear hb
          clear p0 p1 p2 p3 p4 q0 q1 q2 q3 q4
          have p0 : w5.cell? ⟨w.heap.size, 0, none⟩ = some (.int .u8 k) := blk_cell X5.out.b0 0
          have q0 : w5.cell? ⟨w.heap.size + 1, 0, none⟩ = some (.int .u8 k2) := blk_cell X5.out.b1 0
          have p1 : w5.cell? ⟨w.heap.size, 1, none⟩ = some (.int .i64 n) := blk_cell X5.out.b0 1
          have q1 : w5.cell? ⟨w.heap.size + 1, 1, none⟩ = some (.int .i64 n2) := blk_cell X5.out.b1 1
          have p2 : w5.cell? ⟨w.heap.size, 2, none⟩ = some (.string st) := blk_cell X5.out.b0 2
          have q2 : w5.cell? ⟨w.heap.size + 1, 2, none⟩ = some (.string st2) := blk_cell X5.out.b1 2
          have p3 : w5.cell? ⟨w.heap.size, 3, none⟩ = some (.slice A m c) := blk_cell X5.out.b0 3
          have q3 : w5.cell? ⟨w.heap.size + 1, 3, none⟩ = some (.slice A2 m2 c2) := blk_cell X5.out.b1 3
          have p4 : w5.cell? ⟨w.heap.size, 4, none⟩ = some (.int .i64 r) := blk_cell X5.out.b0 4
          have q4 : w5.cell? ⟨w.heap.size + 1, 4, none⟩ = some (.int .i64 r2) := blk_cell X5.out.b1 4
          go_wp2_with fail
          refine (M2.out _ X5.out).mono ?_
          rintro e w6 ⟨rfl, hb⟩
          rw [lm2.out, hb2.out]
          have X6 := Lib.hid (X5.out.step hb)
          clear hb
          clear p0 p1 p2 p3 p4 q0 q1 q2 q3 q4
          have p0 : w6.cell? ⟨w.heap.size, 0, none⟩ = some (.int .u8 k) := blk_cell X6.out.b0 0
          have q0 : w6.cell? ⟨w.heap.size + 1, 0, none⟩ = some (.int .u8 k2) := blk_cell X6.out.b1 0
          have p1 : w6.cell? ⟨w.heap.size, 1, none⟩ = some (.int .i64 n) := blk_cell X6.out.b0 1
          have q1 : w6.cell? ⟨w.heap.size + 1, 1, none⟩ = some (.int .i64 n2) := blk_cell X6.out.b1 1
          have p2 : w6.cell? ⟨w.heap.size, 2, none⟩ = some (.string st) := blk_cell X6.out.b0 2
          have q2 : w6.cell? ⟨w.heap.size + 1, 2, none⟩ = some (.string st2) := blk_cell X6.out.b1 2
          have p3 : w6.cell? ⟨w.heap.size, 3, none⟩ = some (.slice A m c) := blk_cell X6.out.b0 3
          have q3 : w6.cell? ⟨w.heap.size + 1, 3, none⟩ = some (.slice A2 m2 c2) := blk_cell X6.out.b1 3
          have p4 : w6.cell? ⟨w.heap.size, 4, none⟩ = some (.int .i64 r) := blk_cell X6.out.b0 4
          have q4 : w6.cell? ⟨w.heap.size + 1, 4, none⟩ = some (.int .i64 r2) := blk_cell X6.out.b1 4
          go_wp2_with fail
          refine (read_ok s _ hs HRD.out).mono ?_
          rintro e w7 ⟨⟨k3, n3, st3, A3, m3, c3, r3, rfl, hv3⟩, hb⟩
          have X7 := Lib.hid (X6.out.step hb)
          have hv3 := Lib.hid hv3
          clear hb
          go_wp2_with fail
          have X8 := Lib.hid (X7.out.alloc (.cells #[.int .u8 k3, .int .i64 n3, .string st3, .slice A3 m3 c3, .int .i64 r3] 26))
          have hv4 := Lib.hid (hv3.out.below ((Below.refl _ _).alloc (Nat.le_refl _) (.cells #[.int .u8 k3, .int .i64 n3, .string st3, .slice A3 m3 c3, .int .i64 r3] 26)) (fun b h => h.2))
          refine (text_yes hv4.out (fun b h => by have := h.2; simp; omega) HT.out.2.2.2 (by rw [HT.out.2.1, size_list]; omega) (TB.out _ X8.out) HT.out.1).mono ?_
          rw [HT.out.2.1, mk_list]
          rintro e w9 ⟨rfl, hb⟩
          have X9 := Lib.hid (X8.out.step hb)
          clear hb
          go_wp2_with fail
          refine (quote_is s _ (by omega)).mono ?_
          rintro e w10 ⟨rfl, hb⟩
          have X10 := Lib.hid (X9.out.step hb)
          clear hb
          go_wp2_with fail
          refine (unq_quote s _ hs).mono ?_
          rintro e w11 ⟨rfl, hb⟩
          have X11 := Lib.hid (X10.out.step hb)
          clear hb
          go_wp2_with fail
          refine (unq_no s _ hs HUQ.out).mono ?_
          rintro e w12 ⟨⟨u5, pl5, er5, rfl, her5⟩, hb⟩
          have X12 := Lib.hid (X11.out.step hb)
          clear hb
          go_wp2_with fail
          refine (AW.out _ X12.out).mono ?_
          rintro e w13 ⟨rfl, hb⟩
          have X13 := Lib.hid (X12.out.step hb)
          clear hb
          go_wp2
          go_ret
          exact ⟨rfl, X13.out.bel⟩
      · have HRD := Lib.hid hrd
        clear hrd
        by_cases huq : (unquoteF s).2.2 = 0
        · have HUQ := Lib.hid huq
          have HU := Lib.hid (unq_facts s hs huq)
          clear huq
          go_enter Tryd.func6, Tryd.ntmps6
          go_wp2_with fail
          refine (G1.out _ X0.out).mono ?_
          rintro e w1 ⟨rfl, hb⟩
          rw [← Hg1.out]
          have X1 := Lib.hid (X0.out.step hb)
          clear hb
          have p0 : w1.cell? ⟨w.heap.size, 0, none⟩ = some (.int .u8 k) := blk_cell X1.out.b0 0
          have q0 : w1.cell? ⟨w.heap.size + 1, 0, none⟩ = some (.int .u8 k2) := blk_cell X1.out.b1 0
          have p1 : w1.cell? ⟨w.heap.size, 1, none⟩ = some (.int .i64 n) := blk_cell X1.out.b0 1
          have q1 : w1.cell? ⟨w.heap.size + 1, 1, none⟩ = some (.int .i64 n2) := blk_cell X1.out.b1 1
          have p2 : w1.cell? ⟨w.heap.size, 2, none⟩ = some (.string st) := blk_cell X1.out.b0 2
          have q2 : w1.cell? ⟨w.heap.size + 1, 2, none⟩ = some (.string st2) := blk_cell X1.out.b1 2
          have p3 : w1.cell? ⟨w.heap.size, 3, none⟩ = some (.slice A m c) := blk_cell X1.out.b0 3
          have q3 : w1.cell? ⟨w.heap.size + 1, 3, none⟩ = some (.slice A2 m2 c2) := blk_cell X1.out.b1 3
          have p4 : w1.cell? ⟨w.heap.size, 4, none⟩ = some (.int .i64 r) := blk_cell X1.out.b0 4
          have q4 : w1.cell? ⟨w.heap.size + 1, 4, none⟩ = some (.int .i64 r2) := blk_cell X1.out.b1 4
          go_wp2_with fail
          refine (G2.out _ X1.out).mono ?_
          rintro e w2 ⟨rfl, hb⟩
          rw [← Hg2.out]
          have X2 := Lib.hid (X1.out.step hb)
          clear hb
          clear p0 p1 p2 p3 p4 q0 q1 q2 q3 q4
          have p0 : w2.cell? ⟨w.heap.size, 0, none⟩ = some (.int .u8 k) := blk_cell X2.out.b0 0
          have q0 : w2.cell? ⟨w.heap.size + 1, 0, none⟩ = some (.int .u8 k2) := blk_cell X2.out.b1 0
          have p1 : w2.cell? ⟨w.heap.size, 1, none⟩ = some (.int .i64 n) := blk_cell X2.out.b0 1
          have q1 : w2.cell? ⟨w.heap.size + 1, 1, none⟩ = some (.int .i64 n2) := blk_cell X2.out.b1 1
          have p2 : w2.cell? ⟨w.heap.size, 2, none⟩ = some (.string st) := blk_cell X2.out.b0 2
          have q2 : w2.cell? ⟨w.heap.size + 1, 2, none⟩ = some (.string st2) := blk_cell X2.out.b1 2
          have p3 : w2.cell? ⟨w.heap.size, 3, none⟩ = some (.slice A m c) := blk_cell X2.out.b0 3
          have q3 : w2.cell? ⟨w.heap.size + 1, 3, none⟩ = some (.slice A2 m2 c2) := blk_cell X2.out.b1 3
          have p4 : w2.cell? ⟨w.heap.size, 4, none⟩ = some (.int .i64 r) := blk_cell X2.out.b0 4
          have q4 : w2.cell? ⟨w.heap.size + 1, 4, none⟩ = some (.int .i64 r2) := blk_cell X2.out.b1 4
          go_wp2_with fail
          refine (text_no (hv.out.below X2.out.bel HS.out) (BD.out _ X2.out).1 hf.out (by omega) (TB.out _ X2.out) ha.out).mono ?_
          rintro e w3 ⟨rfl, hb⟩
          have X3 := Lib.hid (X2.out.step hb)
          clear hb
          clear p0 p1 p2 p3 p4 q0 q1 q2 q3 q4
          have p0 : w3.cell? ⟨w.heap.size, 0, none⟩ = some (.int .u8 k) := blk_cell X3.out.b0 0
          have q0 : w3.cell? ⟨w.heap.size + 1, 0, none⟩ = some (.int .u8 k2) := blk_cell X3.out.b1 0
          have p1 : w3.cell? ⟨w.heap.size, 1, none⟩ = some (.int .i64 n) := blk_cell X3.out.b0 1
          have q1 : w3.cell? ⟨w.heap.size + 1, 1, none⟩ = some (.int .i64 n2) := blk_cell X3.out.b1 1
          have p2 : w3.cell? ⟨w.heap.size, 2, none⟩ = some (.string st) := blk_cell X3.out.b0 2
          have q2 : w3.cell? ⟨w.heap.size + 1, 2, none⟩ = some (.string st2) := blk_cell X3.out.b1 2
          have p3 : w3.cell? ⟨w.heap.size, 3, none⟩ = some (.slice A m c) := blk_cell X3.out.b0 3
          have q3 : w3.cell? ⟨w.heap.size + 1, 3, none⟩ = some (.slice A2 m2 c2) := blk_cell X3.out.b1 3
          have p4 : w3.cell? ⟨w.heap.size, 4, none⟩ = some (.int .i64 r) := blk_cell X3.out.b0 4
          have q4 : w3.cell? ⟨w.heap.size + 1, 4, none⟩ = some (.int .i64 r2) := blk_cell X3.out.b1 4
          go_wp2_with fail
          refine (text_no (hv2.out.below X3.out.bel HS2.out) (BD.out _ X3.out).2 hf2.out (by omega) (TB.out _ X3.out) hb2.out).mono ?_
          rintro e w4 ⟨rfl, hb⟩
          have X4 := Lib.hid (X3.out.step hb)
          clear hb
          clear p0 p1 p2 p3 p4 q0 q1 q2 q3 q4
          have p0 : w4.cell? ⟨w.heap.size, 0, none⟩ = some (.int .u8 k) := blk_cell X4.out.b0 0
          have q0 : w4.cell? ⟨w.heap.size + 1, 0, none⟩ = some (.int .u8 k2) := blk_cell X4.out.b1 0
          have p1 : w4.cell? ⟨w.heap.size, 1, none⟩ = some (.int .i64 n) := blk_cell X4.out.b0 1
          have q1 : w4.cell? ⟨w.heap.size + 1, 1, none⟩ = some (.int .i64 n2) := blk_cell X4.out.b1 1
          have p2 : w4.cell? ⟨w.heap.size, 2, none⟩ = some (.string st) := blk_cell X4.out.b0 2
          have q2 : w4.cell? ⟨w.heap.size + 1, 2, none⟩ = some (.string st2) := blk_cell X4.out.b1 2
          have p3 : w4.cell? ⟨w.heap.size, 3, none⟩ = some (.slice A m c) := blk_cell X4.out.b0 3
          have q3 : w4.cell? ⟨w.heap.size + 1, 3, none⟩ = some (.slice A2 m2 c2) := blk_cell X4.out.b1 3
          have p4 : w4.cell? ⟨w.heap.size, 4, none⟩ = some (.int .i64 r) := blk_cell X4.out.b0 4
          have q4 : w4.cell? ⟨w.heap.size + 1, 4, none⟩ = some (.int .i64 r2) := blk_cell X4.out.b1 4
          go_wp2_with fail
          refine (M1.out _ X4.out).mono ?_
          rintro e w5 ⟨rfl, hb⟩
          rw [lm1.out, ha.out]
          have X5 := Lib.hid (X4.out.step hb)
          clear hb
          clear p0 p1 p2 p3 p4 q0 q1 q2 q3 q4
          have p0 : w5.cell? ⟨w.heap.size, 0, none⟩ = some (.int .u8 k) := blk_cell X5.out.b0 0
          have q0 : w5.cell? ⟨w.heap.size + 1, 0, none⟩ = some (.int .u8 k2) := blk_cell X5.out.b1 0
          have p1 : w5.cell? ⟨w.heap.size, 1, none⟩ = some (.int .i64 n) := blk_cell X5.out.b0 1
          have q1 : w5.cell? ⟨w.heap.size + 1, 1, none⟩ = some (.int .i64 n2) := blk_cell X5.out.b1 1
          have p2 : w5.cell? ⟨w.heap.size, 2, none⟩ = some (.string st) := blk_cell X5.out.b0 2
          have q2 : w5.cell? ⟨w.heap.size + 1, 2, none⟩ = some (.string st2) := blk_cell X5.out.b1 2
          have p3 : w5.cell? ⟨w.heap.size, 3, none⟩ = some (.slice A m c) := blk_cell X5.out.b0 3
          have q3 : w5.cell? ⟨w.heap.size + 1, 3, none⟩ = some (.slice A2 m2 c2) := blk_cell X5.out.b1 3
          have p4 : w5.cell? ⟨w.heap.size, 4, none⟩ = some (.int .i64 r) := blk_cell X5.out.b0 4
          have q4 : w5.cell? ⟨w.heap.size + 1, 4, none⟩ = some (.int .i64 r2) := blk_cell X5.out.b1 4
          go_wp2_with fail
          refine (M2.out _ X5.out).mono ?_
          rintro e w6 ⟨rfl, hb⟩
          rw [lm2.out, hb2.out]
          have X6 := Lib.hid (X5.out.step hb)
          clear hb
          clear p0 p1 p2 p3 p4 q0 q1 q2 q3 q4
          have p0 : w6.cell? ⟨w.heap.size, 0, none⟩ = some (.int .u8 k) := blk_cell X6.out.b0 0
          have q0 : w6.cell? ⟨w.heap.size + 1, 0, none⟩ = some (.int .u8 k2) := blk_cell X6.out.b1 0
          have p1 : w6.cell? ⟨w.heap.size, 1, none⟩ = some (.int .i64 n) := blk_cell X6.out.b0 1
          have q1 : w6.cell? ⟨w.heap.size + 1, 1, none⟩ = some (.int .i64 n2) := blk_cell X6.out.b1 1
          have p2 : w6.cell? ⟨w.heap.size, 2, none⟩ = some (.string st) := blk_cell X6.out.b0 2
          have q2 : w6.cell? ⟨w.heap.size + 1, 2, none⟩ = some (.string st2) := blk_cell X6.out.b1 2
          have p3 : w6.cell? ⟨w.heap.size, 3, none⟩ = some (.slice A m c) := blk_cell X6.out.b0 3
          have q3 : w6.cell? ⟨w.heap.size + 1, 3, none⟩ = some (.slice A2 m2 c2) := blk_cell X6.out.b1 3
          have p4 : w6.cell? ⟨w.heap.size, 4, none⟩ = some (.int .i64 r) := blk_cell X6.out.b0 4
          have q4 : w6.cell? ⟨w.heap.size + 1, 4, none⟩ = some (.int .i64 r2) := blk_cell X6.out.b1 4
          go_wp2_with fail
          refine (read_no s _ hs HRD.out).mono ?_
          rintro e w7 ⟨⟨k3, n3, st3, A3, m3, c3, r3, pl, er, rfl, her⟩, hb⟩
          have X7 := Lib.hid (X6.out.step hb)
          clear hb
          go_wp2_with fail
          have X8 := Lib.hid (X7.out.alloc (.cells #[.int .u8 k3, .int .i64 n3, .string st3, .slice A3 m3 c3, .int .i64 r3] 26))
          refine (quote_is s _ (by omega)).mono ?_
          rintro e w9 ⟨rfl, hb⟩
          have X9 := Lib.hid (X8.out.step hb)
          clear hb
          go_wp2_with fail
          refine (unq_quote s _ hs).mono ?_
          rintro e w10 ⟨rfl, hb⟩
          have X10 := Lib.hid (X9.out.step hb)
          clear hb
          go_wp2_with fail
          refine (unq_ok s _ hs HUQ.out).mono ?_
          rintro e w11 ⟨rfl, hb⟩
          have X11 := Lib.hid (X10.out.step hb)
          clear hb
          go_wp2_with fail
          refine (quote_is _ _ HU.out.2).mono ?_
          rw [HU.out.1, mk_list]
          rintro e w12 ⟨rfl, hb⟩
          have X12 := Lib.hid (X11.out.step hb)
          clear hb
          go_wp2_with fail
          refine (AW.out _ X12.out).mono ?_
          rintro e w13 ⟨rfl, hb⟩
          have X13 := Lib.hid (X12.out.step hb)
          clear hb
          go_wp2
          go_ret
          exact ⟨rfl, X13.out.bel⟩
        · have HUQ := Lib.hid huq
          clear huq
          go_enter Tryd.func6, Tryd.ntmps6
          go_wp2_with fail
          refine (G1.out _ X0.out).mono ?_
          rintro e w1 ⟨rfl, hb⟩
          rw [← Hg1.out]
          have X1 := Lib.hid (X0.out.step hb)
          clear hb
          have p0 : w1.cell? ⟨w.heap.size, 0, none⟩ = some (.int .u8 k) := blk_cell X1.out.b0 0
          have q0 : w1.cell? ⟨w.heap.size + 1, 0, none⟩ = some (.int .u8 k2) := blk_cell X1.out.b1 0
          have p1 : w1.cell? ⟨w.heap.size, 1, none⟩ = some (.int .i64 n) := blk_cell X1.out.b0 1
          have q1 : w1.cell? ⟨w.heap.size + 1, 1, none⟩ = some (.int .i64 n2) := blk_cell X1.out.b1 1
          have p2 : w1.cell? ⟨w.heap.size, 2, none⟩ = some (.string st) := blk_cell X1.out.b0 2
          have q2 : w1.cell? ⟨w.heap.size + 1, 2, none⟩ = some (.string st2) := blk_cell X1.out.b1 2
          have p3 : w1.cell? ⟨w.heap.size, 3, none⟩ = some (.slice A m c) := blk_cell X1.out.b0 3
          have q3 : w1.cell? ⟨w.heap.size + 1, 3, none⟩ = some (.slice A2 m2 c2) := blk_cell X1.out.b1 3
          have p4 : w1.cell? ⟨w.heap.size, 4, none⟩ = some (.int .i64 r) := blk_cell X1.out.b0 4
          have q4 : w1.cell? ⟨w.heap.size + 1, 4, none⟩ = some (.int .i64 r2) := blk_cell X1.out.b1 4
          go_wp2_with fail
          refine (G2.out _ X1.out).mono ?_
          rintro e w2 ⟨rfl, hb⟩
          rw [← Hg2.out]
          have X2 := Lib.hid (X1.out.step hb)
          clear hb
          clear p0 p1 p2 p3 p4 q0 q1 q2 q3 q4
          have p0 : w2.cell? ⟨w.heap.size, 0, none⟩ = some (.int .u8 k) := blk_cell X2.out.b0 0
          have q0 : w2.cell? ⟨w.heap.size + 1, 0, none⟩ = some (.int .u8 k2) := blk_cell X2.out.b1 0
          have p1 : w2.cell? ⟨w.heap.size, 1, none⟩ = some (.int .i64 n) := blk_cell X2.out.b0 1
          have q1 : w2.cell? ⟨w.heap.size + 1, 1, none⟩ = some (.int .i64 n2) := blk_cell X2.out.b1 1
          have p2 : w2.cell? ⟨w.heap.size, 2, none⟩ = some (.string st) := blk_cell X2.out.b0 2
          have q2 : w2.cell? ⟨w.heap.size + 1, 2, none⟩ = some (.string st2) := blk_cell X2.out.b1 2
          have p3 : w2.cell? ⟨w.heap.size, 3, none⟩ = some (.slice A m c) := blk_cell X2.out.b0 3
          have q3 : w2.cell? ⟨w.heap.size + 1, 3, none⟩ = some (.slice A2 m2 c2) := blk_cell X2.out.b1 3
          have p4 : w2.cell? ⟨w.heap.size, 4, none⟩ = some (.int .i64 r) := blk_cell X2.out.b0 4
          have q4 : w2.cell? ⟨w.heap.size + 1, 4, none⟩ = some (.int .i64 r2) := blk_cell X2.out.b1 4
          go_wp2_with fail
          refine (text_no (hv.out.below X2.out.bel HS.out) (BD.out _ X2.out).1 hf.out (by omega) (TB.out _ X2.out) ha.out).mono ?_
          rintro e w3 ⟨rfl, hb⟩
          have X3 := Lib.hid (X2.out.step hb)
          clear hb
          clear p0 p1 p2 p3 p4 q0 q1 q2 q3 q4
          have p0 : w3.cell? ⟨w.heap.size, 0, none⟩ = some (.int .u8 k) := blk_cell X3.out.b0 0
          have q0 : w3.cell? ⟨w.heap.size + 1, 0, none⟩ = some (.int .u8 k2) := blk_cell X3.out.b1 0
          have p1 : w3.cell? ⟨w.heap.size, 1, none⟩ = some (.int .i64 n) := blk_cell X3.out.b0 1
          have q1 : w3.cell? ⟨w.heap.size + 1, 1, none⟩ = some (.int .i64 n2) := blk_cell X3.out.b1 1
          have p2 : w3.cell? ⟨w.heap.size, 2, none⟩ = some (.string st) := blk_cell X3.out.b0 2
          have q2 : w3.cell? ⟨w.heap.size + 1, 2, none⟩ = some (.string st2) := blk_cell X3.out.b1 2
          have p3 : w3.cell? ⟨w.heap.size, 3, none⟩ = some (.slice A m c) := blk_cell X3.out.b0 3
          have q3 : w3.cell? ⟨w.heap.size + 1, 3, none⟩ = some (.slice A2 m2 c2) := blk_cell X3.out.b1 3
          have p4 : w3.cell? ⟨w.heap.size, 4, none⟩ = some (.int .i64 r) := blk_cell X3.out.b0 4
          have q4 : w3.cell? ⟨w.heap.size + 1, 4, none⟩ = some (.int .i64 r2) := blk_cell X3.out.b1 4
          go_wp2_with fail
          refine (text_no (hv2.out.below X3.out.bel HS2.out) (BD.out _ X3.out).2 hf2.out (by omega) (TB.out _ X3.out) hb2.out).mono ?_
          rintro e w4 ⟨rfl, hb⟩
          have X4 := Lib.hid (X3.out.step hb)
          clear hb
          clear p0 p1 p2 p3 p4 q0 q1 q2 q3 q4
          have p0 : w4.cell? ⟨w.heap.size, 0, none⟩ = some (.int .u8 k) := blk_cell X4.out.b0 0
          have q0 : w4.cell? ⟨w.heap.size + 1, 0, none⟩ = some (.int .u8 k2) := blk_cell X4.out.b1 0
          have p1 : w4.cell? ⟨w.heap.size, 1, none⟩ = some (.int .i64 n) := blk_cell X4.out.b0 1
          have q1 : w4.cell? ⟨w.heap.size + 1, 1, none⟩ = some (.int .i64 n2) := blk_cell X4.out.b1 1
          have p2 : w4.cell? ⟨w.heap.size, 2, none⟩ = some (.string st) := blk_cell X4.out.b0 2
          have q2 : w4.cell? ⟨w.heap.size + 1, 2, none⟩ = some (.string st2) := blk_cell X4.out.b1 2
          have p3 : w4.cell? ⟨w.heap.size, 3, none⟩ = some (.slice A m c) := blk_cell X4.out.b0 3
          have q3 : w4.cell? ⟨w.heap.size + 1, 3, none⟩ = some (.slice A2 m2 c2) := blk_cell X4.out.b1 3
          have p4 : w4.cell? ⟨w.heap.size, 4, none⟩ = some (.int .i64 r) := blk_cell X4.out.b0 4
          have q4 : w4.cell? ⟨w.heap.size + 1, 4, none⟩ = some (.int .i64 r2) := blk_cell X4.out.b1 4
          go_wp2_with fail
          refine (M1.out _ X4.out).mono ?_
          rintro e w5 ⟨rfl, hb⟩
          rw [lm1.out, ha.out]
          have X5 := Lib.hid (X4.out.step hb)
          clear hb
          clear p0 p1 p2 p3 p4 q0 q1 q2 q3 q4
          have p0 : w5.cell? ⟨w.heap.size, 0, none⟩ = some (.int .u8 k) := blk_cell X5.out.b0 0
          have q0 : w5.cell? ⟨w.heap.size + 1, 0, none⟩ = some (.int .u8 k2) := blk_cell X5.out.b1 0
          have p1 : w5.cell? ⟨w.heap.size, 1, none⟩ = some (.int .i64 n) := blk_cell X5.out.b0 1
          have q1 : w5.cell? ⟨w.heap.size + 1, 1, none⟩ = some (.int .i64 n2) := blk_cell X5.out.b1 1
          have p2 : w5.cell? ⟨w.heap.size, 2, none⟩ = some (.string st) := blk_cell X5.out.b0 2
          have q2 : w5.cell? ⟨w.heap.size + 1, 2, none⟩ = some (.string st2) := blk_cell X5.out.b1 2
          have p3 : w5.cell? ⟨w.heap.size, 3, none⟩ = some (.slice A m c) := blk_cell X5.out.b0 3
          have q3 : w5.cell? ⟨w.heap.size + 1, 3, none⟩ = some (.slice A2 m2 c2) := blk_cell X5.out.b1 3
          have p4 : w5.cell? ⟨w.heap.size, 4, none⟩ = some (.int .i64 r) := blk_cell X5.out.b0 4
          have q4 : w5.cell? ⟨w.heap.size + 1, 4, none⟩ = some (.int .i64 r2) := blk_cell X5.out.b1 4
          go_wp2_with fail
          refine (M2.out _ X5.out).mono ?_
          rintro e w6 ⟨rfl, hb⟩
          rw [lm2.out, hb2.out]
          have X6 := Lib.hid (X5.out.step hb)
          clear hb
          clear p0 p1 p2 p3 p4 q0 q1 q2 q3 q4
          have p0 : w6.cell? ⟨w.heap.size, 0, none⟩ = some (.int .u8 k) := blk_cell X6.out.b0 0
          have q0 : w6.cell? ⟨w.heap.size + 1, 0, none⟩ = some (.int .u8 k2) := blk_cell X6.out.b1 0
          have p1 : w6.cell? ⟨w.heap.size, 1, none⟩ = some (.int .i64 n) := blk_cell X6.out.b0 1
          have q1 : w6.cell? ⟨w.heap.size + 1, 1, none⟩ = some (.int .i64 n2) := blk_cell X6.out.b1 1
          have p2 : w6.cell? ⟨w.heap.size, 2, none⟩ = some (.string st) := blk_cell X6.out.b0 2
          have q2 : w6.cell? ⟨w.heap.size + 1, 2, none⟩ = some (.string st2) := blk_cell X6.out.b1 2
          have p3 : w6.cell? ⟨w.heap.size, 3, none⟩ = some (.slice A m c) := blk_cell X6.out.b0 3
          have q3 : w6.cell? ⟨w.heap.size + 1, 3, none⟩ = some (.slice A2 m2 c2) := blk_cell X6.out.b1 3
          have p4 : w6.cell? ⟨w.heap.size, 4, none⟩ = some (.int .i64 r) := blk_cell X6.out.b0 4
          have q4 : w6.cell? ⟨w.heap.size + 1, 4, none⟩ = some (.int .i64 r2) := blk_cell X6.out.b1 4
          go_wp2_with fail
          refine (read_no s _ hs HRD.out).mono ?_
          rintro e w7 ⟨⟨k3, n3, st3, A3, m3, c3, r3, pl, er, rfl, her⟩, hb⟩
          have X7 := Lib.hid (X6.out.step hb)
          clear hb
          go_wp2_with fail
          have X8 := Lib.hid (X7.out.alloc (.cells #[.int .u8 k3, .int .i64 n3, .string st3, .slice A3 m3 c3, .int .i64 r3] 26))
          refine (quote_is s _ (by omega)).mono ?_
          rintro e w9 ⟨rfl, hb⟩
          have X9 := Lib.hid (X8.out.step hb)
          clear hb
          go_wp2_with fail
          refine (unq_quote s _ hs).mono ?_
          rintro e w10 ⟨rfl, hb⟩
          have X10 := Lib.hid (X9.out.step hb)
          clear hb
          go_wp2_with fail
          refine (unq_no s _ hs HUQ.out).mono ?_
          rintro e w11 ⟨⟨u5, pl5, er5, rfl, her5⟩, hb⟩
          have X11 := Lib.hid (X10.out.step hb)
          clear hb
          go_wp2_with fail
          refine (AW.out _ X11.out).mono ?_
          rintro e w12 ⟨rfl, hb⟩
          have X12 := Lib.hid (X11.out.step hb)
          clear hb
          go_wp2
          go_ret
          exact ⟨rfl, X12.out.bel⟩
    | true =>
      have hb2 := Lib.hid hb'
      clear hb'
      by_cases hrd : (readF s).2.2 = 0
      · have HRD := Lib.hid hrd
        have HT := Lib.hid (readF_text s hrd)
        clear hrd
        by_cases huq : (unquoteF s).2.2 = 0
        · have HUQ := Lib.hid huq
          have HU := Lib.hid (unq_facts s hs huq)
          clear huq
          go_enter Tryd.func6, Tryd.ntmps6
          go_wp2_with fail
          refine (G1.out _ X0.out).mono ?_
          rintro e w1 ⟨rfl, hb⟩
          rw [← Hg1.out]
          have X1 := Lib.hid (X0.out.step hb)
          clear hb
          have p0 : w1.cell? ⟨w.heap.size, 0, none⟩ = some (.int .u8 k) := blk_cell X1.out.b0 0
          have q0 : w1.cell? ⟨w.heap.size + 1, 0, none⟩ = some (.int .u8 k2) := blk_cell X1.out.b1 0
          have p1 : w1.cell? ⟨w.heap.size, 1, none⟩ = some (.int .i64 n) := blk_cell X1.out.b0 1
          have q1 : w1.cell? ⟨w.heap.size + 1, 1, none⟩ = some (.int .i64 n2) := blk_cell X1.out.b1 1
          have p2 : w1.cell? ⟨w.heap.size, 2, none⟩ = some (.string st) := blk_cell X1.out.b0 2
          have q2 : w1.cell? ⟨w.heap.size + 1, 2, none⟩ = some (.string st2) := blk_cell X1.out.b1 2
          have p3 : w1.cell? ⟨w.heap.size, 3, none⟩ = some (.slice A m c) := blk_cell X1.out.b0 3
          have q3 : w1.cell? ⟨w.heap.size + 1, 3, none⟩ = some (.slice A2 m2 c2) := blk_cell X1.out.b1 3
          have p4 : w1.cell? ⟨w.heap.size, 4, none⟩ = some (.int .i64 r) := blk_cell X1.out.b0 4
          have q4 : w1.cell? ⟨w.heap.size + 1, 4, none⟩ = some (.int .i64 r2) := blk_cell X1.out.b1 4
          go_wp2_with fail
          refine (G2.out _ X1.out).mono ?_
          rintro e w2 ⟨rfl, hb⟩
          rw [← Hg2.out]
          have X2 := Lib.hid (X1.out.step hb)
          clear hb
          clear p0 p1 p2 p3 p4 q0 q1 q2 q3 q4
          have p0 : w2.cell? ⟨w.heap.size, 0, none⟩ = some (.int .u8 k) := blk_cell X2.out.b0 0
          have q0 : w2.cell? ⟨w.heap.size + 1, 0, none⟩ = some (.int .u8 k2) := blk_cell X2.out.b1 0
          have p1 : w2.cell? ⟨w.heap.size, 1, none⟩ = some (.int .i64 n) := blk_cell X2.out.b0 1
          have q1 : w2.cell? ⟨w.heap.size + 1, 1, none⟩ = some (.int .i64 n2) := blk_cell X2.out.b1 1
          have p2 : w2.cell? ⟨w.heap.size, 2, none⟩ = some (.string st) := blk_cell X2.out.b0 2
          have q2 : w2.cell? ⟨w.heap.size + 1, 2, none⟩ = some (.string st2) := blk_cell X2.out.b1 2
          have p3 : w2.cell? ⟨w.heap.size, 3, none⟩ = some (.slice A m c) := blk_cell X2.out.b0 3
          have q3 : w2.cell? ⟨w.heap.size + 1, 3, none⟩ = some (.slice A2 m2 c2) := blk_cell X2.out.b1 3
          have p4 : w2.cell? ⟨w.heap.size, 4, none⟩ = some (.int .i64 r) := blk_cell X2.out.b0 4
          have q4 : w2.cell? ⟨w.heap.size + 1, 4, none⟩ = some (.int .i64 r2) := blk_cell X2.out.b1 4
          go_wp2_with fail
          refine (text_no (hv.out.below X2.out.bel HS.out) (BD.out _ X2.out).1 hf.out (by omega) (TB.out _ X2.out) ha.out).mono ?_
          rintro e w3 ⟨rfl, hb⟩
          have X3 := Lib.hid (X2.out.step hb)
          clear hb
          clear p0 p1 p2 p3 p4 q0 q1 q2 q3 q4
          have p0 : w3.cell? ⟨w.heap.size, 0, none⟩ = some (.int .u8 k) := blk_cell X3.out.b0 0
          have q0 : w3.cell? ⟨w.heap.size + 1, 0, none⟩ = some (.int .u8 k2) := blk_cell X3.out.b1 0
          have p1 : w3.cell? ⟨w.heap.size, 1, none⟩ = some (.int .i64 n) := blk_cell X3.out.b0 1
          have q1 : w3.cell? ⟨w.heap.size + 1, 1, none⟩ = some (.int .i64 n2) := blk_cell X3.out.b1 1
          have p2 : w3.cell? ⟨w.heap.size, 2, none⟩ = some (.string st) := blk_cell X3.out.b0 2
          have q2 : w3.cell? ⟨w.heap.size + 1, 2, none⟩ = some (.string st2) := blk_cell X3.out.b1 2
          have p3 : w3.cell? ⟨w.heap.size, 3, none⟩ = some (.slice A m c) := blk_cell X3.out.b0 3
          have q3 : w3.cell? ⟨w.heap.size + 1, 3, none⟩ = some (.slice A2 m2 c2) := blk_cell X3.out.b1 3
          have p4 : w3.cell? ⟨w.heap.size, 4, none⟩ = some (.int .i64 r) := blk_cell X3.out.b0 4
          have q4 : w3.cell? ⟨w.heap.size + 1, 4, none⟩ = some (.int .i64 r2) := blk_cell X3.out.b1 4
          go_wp2_with fail
          refine (text_yes (hv2.out.below X3.out.bel HS2.out) (BD.out _ X3.out).2 hf2.out (by omega) (TB.out _ X3.out) hb2.out).mono ?_
          rintro e w4 ⟨rfl, hb⟩
          have X4 := Lib.hid (X3.out.step hb)
          clear hb
          clear p0 p1 p2 p3 p4 q0 q1 q2 q3 q4
          have p0 : w4.cell? ⟨w.heap.size, 0, none⟩ = some (.int .u8 k) := blk_cell X4.out.b0 0
          have q0 : w4.cell? ⟨w.heap.size + 1, 0, none⟩ = some (.int .u8 k2) := blk_cell X4.out.b1 0
          have p1 : w4.cell? ⟨w.heap.size, 1, none⟩ = some (.int .i64 n) := blk_cell X4.out.b0 1
          have q1 : w4.cell? ⟨w.heap.size + 1, 1, none⟩ = some (.int .i64 n2) := blk_cell X4.out.b1 1
          have p2 : w4.cell? ⟨w.heap.size, 2, none⟩ = some (.string st) := blk_cell X4.out.b0 2
          have q2 : w4.cell? ⟨w.heap.size + 1, 2, none⟩ = some (.string st2) := blk_cell X4.out.b1 2
          have p3 : w4.cell? ⟨w.heap.size, 3, none⟩ = some (.slice A m c) := blk_cell X4.out.b0 3
          have q3 : w4.cell? ⟨w.heap.size + 1, 3, none⟩ = some (.slice A2 m2 c2) := blk_cell X4.out.b1 3
          have p4 : w4.cell? ⟨w.heap.size, 4, none⟩ = some (.int .i64 r) := blk_cell X4.out.b0 4
          have q4 : w4.cell? ⟨w.heap.size + 1, 4, none⟩ = some (.int .i64 r2) := blk_cell X4.out.b1 4
          go_wp2_with fail
          refine (M1.out _ X4.out).mono ?_
          rintro e w5 ⟨rfl, hb⟩
          rw [lm1.out, ha.out]
          have X5 := Lib.hid (X4.out.step hb)
          clear hb
          clear p0 p1 p2 p3 p4 q0 q1 q2 q3 q4
          have p0 : w5.cell? ⟨w.heap.size, 0, none⟩ = some (.int .u8 k) := blk_cell X5.out.b0 0
          have q0 : w5.cell? ⟨w.heap.size + 1, 0, none⟩ = some (.int .u8 k2) := blk_cell X5.out.b1 0
          have p1 : w5.cell? ⟨w.heap.size, 1, none⟩ = some (.int .i64 n) := blk_cell X5.out.b0 1
          have q1 : w5.cell? ⟨w.heap.size + 1, 1, none⟩ = some (.int .i64 n2) := blk_cell X5.out.b1 1
          have p2 : w5.cell? ⟨w.heap.size, 2, none⟩ = some (.string st) := blk_cell X5.out.b0 2
          have q2 : w5.cell? ⟨w.heap.size + 1, 2, none⟩ = some (.string st2) := blk_cell X5.out.b1 2
          have p3 : w5.cell? ⟨w.heap.size, 3, none⟩ = some (.slice A m c) := blk_cell X5.out.b0 3
          have q3 : w5.cell? ⟨w.heap.size + 1, 3, none⟩ = some (.slice A2 m2 c2) := blk_cell X5.out.b1 3
          have p4 : w5.cell? ⟨w.heap.size, 4, none⟩ = some (.int .i64 r) := blk_cell X5.out.b0 4
          have q4 : w5.cell? ⟨w.heap.size + 1, 4, none⟩ = some (.int .i64 r2) := blk_cell X5.out.b1 4
          go_wp2_with fail
          refine (M2.out _ X5.out).mono ?_
          rintro e w6 ⟨rfl, hb⟩
          rw [lm2.out, hb2.out]
          have X6 := Lib.hid (X5.out.step hb)
          clear hb
          clear p0 p1 p2 p3 p4 q0 q1 q2 q3 q4
          have p0 : w6.cell? ⟨w.heap.size, 0, none⟩ = some (.int .u8 k) := blk_cell X6.out.b0 0
          have q0 : w6.cell? ⟨w.heap.size + 1, 0, none⟩ = some (.int .u8 k2) := blk_cell X6.out.b1 0
          have p1 : w6.cell? ⟨w.heap.size, 1, none⟩ = some (.int .i64 n) := blk_cell X6.out.b0 1
          have q1 : w6.cell? ⟨w.heap.size + 1, 1, none⟩ = some (.int .i64 n2) := blk_cell X6.out.b1 1
          have p2 : w6.cell? ⟨w.heap.size, 2, none⟩ = some (.string st) := blk_cell X6.out.b0 2
          have q2 : w6.cell? ⟨w.heap.size + 1, 2, none⟩ = some (.string st2) := blk_cell X6.out.b1 2
          have p3 : w6.cell? ⟨w.heap.size, 3, none⟩ = some (.slice A m c) := blk_cell X6.out.b0 3
          have q3 : w6.cell? ⟨w.heap.size + 1, 3, none⟩ = some (.slice A2 m2 c2) := blk_cell X6.out.b1 3
          have p4 : w6.cell? ⟨w.heap.size, 4, none⟩ = some (.int .i64 r) := blk_cell X6.out.b0 4
          have q4 : w6.cell? ⟨w.heap.size + 1, 4, none⟩ = some (.int .i64 r2) := blk_cell X6.out.b1 4
          go_wp2_with fail
          refine (read_ok s _ hs HRD.out).mono ?_
          rintro e w7 ⟨⟨k3, n3, st3, A3, m3, c3, r3, rfl, hv3⟩, hb⟩
          have X7 := Lib.hid (X6.out.step hb)
          have hv3 := Lib.hid hv3
          clear hb
          go_wp2_with fail
          have X8 := Lib.hid (X7.out.alloc (.cells #[.int .u8 k3, .int .i64 n3, .string st3, .slice A3 m3 c3, .int .i64 r3] 26))
          have hv4 := Lib.hid (hv3.out.below ((Below.refl _ _).alloc (Nat.le_refl _) (.cells #[.int .u8 k3, .int .i64 n3, .string st3, .slice A3 m3 c3, .int .i64 r3] 26)) (fun b h => h.2))
          refine (text_yes hv4.out (fun b h => by have := h.2; simp; omega) HT.out.2.2.2 (by rw [HT.out.2.1, size_list]; omega) (TB.out _ X8.out) HT.out.1).mono ?_
          rw [HT.out.2.1, mk_list]
          rintro e w9 ⟨rfl, hb⟩
          have X9 := Lib.hid (X8.out.step hb)
          clear hb
          go_wp2_with fail
          refine (quote_is s _ (by omega)).mono ?_
          rintro e w10 ⟨rfl, hb⟩
          have X10 := Lib.hid (X9.out.step hb)
          clear hb
          go_wp2_with fail
          refine (unq_quote s _ hs).mono ?_
          rintro e w11 ⟨rfl, hb⟩
          have X11 := Lib.hid (X10.out.step hb)
          clear hb
          go_wp2_with fail
          refine (unq_ok s _ hs HUQ.out).mono ?_
          rintro e w12 ⟨rfl, hb⟩
          have X12 := Lib.hid (X11.out.step hb)
          clear hb
          go_wp2_with fail
          refine (quote_is _ _ HU.out.2).mono ?_
          rw [HU.out.1, mk_list]
          rintro e w13 ⟨rfl, hb⟩
          have X13 := Lib.hid (X12.out.step hb)
          clear hb
          go_wp2_with fail
          refine (AW.out _ X13.out).mono ?_
          rintro e w14 ⟨rfl, hb⟩
          have X14 := Lib.hid (X13.out.step hb)
          clear hb
          go_wp2
          go_ret
          exact ⟨rfl, X14.out.bel⟩
        · have HUQ := Lib.hid huq
          clear huq
          go_enter Tryd.func6, Tryd.ntmps6
          go_wp2_with fail
          refine (G1.out _ X0.out).mono ?_
          rintro e w1 ⟨rfl, hb⟩
          rw [← Hg1.out]
          have X1 := Lib.hid (X0.out.step hb)
          clear hb
          have p0 : w1.cell? ⟨w.heap.size, 0, none⟩ = some (.int .u8 k) := blk_cell X1.out.b0 0
          have q0 : w1.cell? ⟨w.heap.size + 1, 0, none⟩ = some (.int .u8 k2) := blk_cell X1.out.b1 0
          have p1 : w1.cell? ⟨w.heap.size, 1, none⟩ = some (.int .i64 n) := blk_cell X1.out.b0 1
          have q1 : w1.cell? ⟨w.heap.size + 1, 1, none⟩ = some (.int .i64 n2) := blk_cell X1.out.b1 1
          have p2 : w1.cell? ⟨w.heap.size, 2, none⟩ = some (.string st) := blk_cell X1.out.b0 2
          have q2 : w1.cell? ⟨w.heap.size + 1, 2, none⟩ = some (.string st2) := blk_cell X1.out.b1 2
          have p3 : w1.cell? ⟨w.heap.size, 3, none⟩ = some (.slice A m c) := blk_cell X1.out.b0 3
          have q3 : w1.cell? ⟨w.heap.size + 1, 3, none⟩ = some (.slice A2 m2 c2) := blk_cell X1.out.b1 3
          have p4 : w1.cell? ⟨w.heap.size, 4, none⟩ = some (.int .i64 r) := blk_cell X1.out.b0 4
          have q4 : w1.cell? ⟨w.heap.size + 1, 4, none⟩ = some (.int .i64 r2) := blk_cell X1.out.b1 4
          go_wp2_with fail
          refine (G2.out _ X1.out).mono ?_
          rintro e w2 ⟨rfl, hb⟩
          rw [← Hg2.out]
          have X2 := Lib.hid (X1.out.step hb)
          clear hb
          clear p0 p1 p2 p3 p4 q0 q1 q2 q3 q4
          have p0 : w2.cell? ⟨w.heap.size, 0, none⟩ = some (.int .u8 k) := blk_cell X2.out.b0 0
          have q0 : w2.cell? ⟨w.heap.size + 1, 0, none⟩ = some (.int .u8 k2) := blk_cell X2.out.b1 0
          have p1 : w2.cell? ⟨w.heap.size, 1, none⟩ = some (.int .i64 n) := blk_cell X2.out.b0 1
          have q1 : w2.cell? ⟨w.heap.size + 1, 1, none⟩ = some (.int .i64 n2) := blk_cell X2.out.b1 1
          have p2 : w2.cell? ⟨w.heap.size, 2, none⟩ = some (.string st) := blk_cell X2.out.b0 2
          have q2 : w2.cell? ⟨w.heap.size + 1, 2, none⟩ = some (.string st2) := blk_cell X2.out.b1 2
          have p3 : w2.cell? ⟨w.heap.size, 3, none⟩ = some (.slice A m c) := blk_cell X2.out.b0 3
          have q3 : w2.cell? ⟨w.heap.size + 1, 3, none⟩ = some (.slice A2 m2 c2) := blk_cell X2.out.b1 3
          have p4 : w2.cell? ⟨w.heap.size, 4, none⟩ = some (.int .i64 r) := blk_cell X2.out.b0 4
          have q4 : w2.cell? ⟨w.heap.size + 1, 4, none⟩ = some (.int .i64 r2) := blk_cell X2.out.b1 4
          go_wp2_with fail
          refine (text_no (hv.out.below X2.out.bel HS.out) (BD.out _ X2.out).1 hf.out (by omega) (TB.out _ X2.out) ha.out).mono ?_
          rintro e w3 ⟨rfl, hb⟩
          have X3 := Lib.hid (X2.out.step hb)
          clear hb
          clear p0 p1 p2 p3 p4 q0 q1 q2 q3 q4
          have p0 : w3.cell? ⟨w.heap.size, 0, none⟩ = some (.int .u8 k) := blk_cell X3.out.b0 0
          have q0 : w3.cell? ⟨w.heap.size + 1, 0, none⟩ = some (.int .u8 k2) := blk_cell X3.out.b1 0
          have p1 : w3.cell? ⟨w.heap.size, 1, none⟩ = some (.int .i64 n) := blk_cell X3.out.b0 1
          have q1 : w3.cell? ⟨w.heap.size + 1, 1, none⟩ = some (.int .i64 n2) := blk_cell X3.out.b1 1
          have p2 : w3.cell? ⟨w.heap.size, 2, none⟩ = some (.string st) := blk_cell X3.out.b0 2
          have q2 : w3.cell? ⟨w.heap.size + 1, 2, none⟩ = some (.string st2) := blk_cell X3.out.b1 2
          have p3 : w3.cell? ⟨w.heap.size, 3, none⟩ = some (.slice A m c) := blk_cell X3.out.b0 3
          have q3 : w3.cell? ⟨w.heap.size + 1, 3, none⟩ = some (.slice A2 m2 c2) := blk_cell X3.out.b1 3
          have p4 : w3.cell? ⟨w.heap.size, 4, none⟩ = some (.int .i64 r) := blk_cell X3.out.b0 4
          have q4 : w3.cell? ⟨w.heap.size + 1, 4, none⟩ = some (.int .i64 r2) := blk_cell X3.out.b1 4
          go_wp2_with fail
          refine (text_yes (hv2.out.below X3.out.bel HS2.out) (BD.out _ X3.out).2 hf2.out (by omega) (TB.out _ X3.out) hb2.out).mono ?_
          rintro e w4 ⟨rfl, hb⟩
          have X4 := Lib.hid (X3.out.step hb)
          clear hb
          clear p0 p1 p2 p3 p4 q0 q1 q2 q3 q4
          have p0 : w4.cell? ⟨w.heap.size, 0, none⟩ = some (.int .u8 k) := blk_cell X4.out.b0 0
          have q0 : w4.cell? ⟨w.heap.size + 1, 0, none⟩ = some (.int .u8 k2) := blk_cell X4.out.b1 0
          have p1 : w4.cell? ⟨w.heap.size, 1, none⟩ = some (.int .i64 n) := blk_cell X4.out.b0 1
          have q1 : w4.cell? ⟨w.heap.size + 1, 1, none⟩ = some (.int .i64 n2) := blk_cell X4.out.b1 1
          have p2 : w4.cell? ⟨w.heap.size, 2, none⟩ = some (.string st) := blk_cell X4.out.b0 2
          have q2 : w4.cell? ⟨w.heap.size + 1, 2, none⟩ = some (.string st2) := blk_cell X4.out.b1 2
          have p3 : w4.cell? ⟨w.heap.size, 3, none⟩ = some (.slice A m c) := blk_cell X4.out.b0 3
          have q3 : w4.cell? ⟨w.heap.size + 1, 3, none⟩ = some (.slice A2 m2 c2) := blk_cell X4.out.b1 3
          have p4 : w4.cell? ⟨w.heap.size, 4, none⟩ = some (.int .i64 r) := blk_cell X4.out.b0 4
          have q4 : w4.cell? ⟨w.heap.size + 1, 4, none⟩ = some (.int .i64 r2) := blk_cell X4.out.b1 4
          go_wp2_with fail
          refine (M1.out _ X4.out).mono ?_
          rintro e w5 ⟨rfl, hb⟩
          rw [lm1.out, ha.out]
          have X5 := Lib.hid (X4.out.step hb)
          clear hb
          clear p0 p1 p2 p3 p4 q0 q1 q2 q3 q4
          have p0 : w5.cell? ⟨w.heap.size, 0, none⟩ = some (.int .u8 k) := blk_cell X5.out.b0 0
          have q0 : w5.cell? ⟨w.heap.size + 1, 0, none⟩ = some (.int .u8 k2) := blk_cell X5.out.b1 0
          have p1 : w5.cell? ⟨w.heap.size, 1, none⟩ = some (.int .i64 n) := blk_cell X5.out.b0 1
          have q1 : w5.cell? ⟨w.heap.size + 1, 1, none⟩ = some (.int .i64 n2) := blk_cell X5.out.b1 1
          have p2 : w5.cell? ⟨w.heap.size, 2, none⟩ = some (.string st) := blk_cell X5.out.b0 2
          have q2 : w5.cell? ⟨w.heap.size + 1, 2, none⟩ = some (.string st2) := blk_cell X5.out.b1 2
          have p3 : w5.cell? ⟨w.heap.size, 3, none⟩ = some (.slice A m c) := blk_cell X5.out.b0 3
          have q3 : w5.cell? ⟨w.heap.size + 1, 3, none⟩ = some (.slice A2 m2 c2) := blk_cell X5.out.b1 3
          have p4 : w5.cell? ⟨w.heap.size, 4, none⟩ = some (.int .i64 r) := blk_cell X5.out.b0 4
          have q4 : w5.cell? ⟨w.heap.size + 1, 4, none⟩ = some (.int .i64 r2) := blk_cell X5.out.b1 4
          go_wp2_with fail
          refine (M2.out _ X5.out).mono ?_
          rintro e w6 ⟨rfl, hb⟩
          rw [lm2.out, hb2.out]
          have X6 := Lib.hid (X5.out.step hb)
          clear hb
          clear p0 p1 p2 p3 p4 q0 q1 q2 q3 q4
          have p0 : w6.cell? ⟨w.heap.size, 0, none⟩ = some (.int .u8 k) := blk_cell X6.out.b0 0
          have q0 : w6.cell? ⟨w.heap.size + 1, 0, none⟩ = some (.int .u8 k2) := blk_cell X6.out.b1 0
          have p1 : w6.cell? ⟨w.heap.size, 1, none⟩ = some (.int .i64 n) := blk_cell X6.out.b0 1
          have q1 : w6.cell? ⟨w.heap.size + 1, 1, none⟩ = some (.int .i64 n2) := blk_cell X6.out.b1 1
          have p2 : w6.cell? ⟨w.heap.size, 2, none⟩ = some (.string st) := blk_cell X6.out.b0 2
          have q2 : w6.cell? ⟨w.heap.size + 1, 2, none⟩ = some (.string st2) := blk_cell X6.out.b1 2
          have p3 : w6.cell? ⟨w.heap.size, 3, none⟩ = some (.slice A m c) := blk_cell X6.out.b0 3
          have q3 : w6.cell? ⟨w.heap.size + 1, 3, none⟩ = some (.slice A2 m2 c2) := blk_cell X6.out.b1 3
          have p4 : w6.cell? ⟨w.heap.size, 4, none⟩ = some (.int .i64 r) := blk_cell X6.out.b0 4
          have q4 : w6.cell? ⟨w.heap.size + 1, 4, none⟩ = some (.int .i64 r2) := blk_cell X6.out.b1 4
          go_wp2_with fail
          refine (read_ok s _ hs HRD.out).mono ?_
          rintro e w7 ⟨⟨k3, n3, st3, A3, m3, c3, r3, rfl, hv3⟩, hb⟩
          have X7 := Lib.hid (X6.out.step hb)
          have hv3 := Lib.hid hv3
          clear hb
          go_wp2_with fail
          have X8 := Lib.hid (X7.out.alloc (.cells #[.int .u8 k3, .int .i64 n3, .string st3, .slice A3 m3 c3, .int .i64 r3] 26))
          have hv4 := Lib.hid (hv3.out.below ((Below.refl _ _).alloc (Nat.le_refl _) (.cells #[.int .u8 k3, .int .i64 n3, .string st3, .slice A3 m3 c3, .int .i64 r3] 26)) (fun b h => h.2))
          refine (text_yes hv4.out (fun b h => by have := h.2; simp; omega) HT.out.2.2.2 (by rw [HT.out.2.1, size_list]; omega) (TB.out _ X8.out) HT.out.1).mono ?_
          rw [HT.out.2.1, mk_list]
          rintro e w9 ⟨rfl, hb⟩
          have X9 := Lib.hid (X8.out.step hb)
          clear hb
          go_wp2_with fail
          refine (quote_is s _ (by omega)).mono ?_
          rintro e w10 ⟨rfl, hb⟩
          have X10 := Lib.hid (X9.out.step hb)
          clear hb
          go_wp2_with fail
          refine (unq_quote s _ hs).mono ?_
          rintro e w11 ⟨rfl, hb⟩
          have X11 := Lib.hid (X10.out.step hb)
          clear hb
          go_wp2_with fail
          refine (unq_no s _ hs HUQ.out).mono ?_
          rintro e w12 ⟨⟨u5, pl5, er5, rfl, her5⟩, hb⟩
          have X12 := Lib.hid (X11.out.step hb)
          clear hb
          go_wp2_with fail
          refine (AW.out _ X12.out).mono ?_
          rintro e w13 ⟨rfl, hb⟩
          have X13 := Lib.hid (X12.out.step hb)
          clear hb
          go_wp2
          go_ret
          exact ⟨rfl, X13.out.bel⟩
      · have HRD := Lib.hid hrd
        clear hrd
        by_cases huq : (unquoteF s).2.2 = 0
        · have HUQ := Lib.hid huq
          have HU := Lib.hid (unq_facts s hs huq)
          clear huq
          go_enter Tryd.func6, Tryd.ntmps6
          go_wp2_with fail
          refine (G1.out _ X0.out).mono ?_
          rintro e w1 ⟨rfl, hb⟩
          rw [← Hg1.out]
          have X1 := Lib.hid (X0.out.step hb)
          clear hb
          have p0 : w1.cell? ⟨w.heap.size, 0, none⟩ = some (.int .u8 k) := blk_cell X1.out.b0 0
          have q0 : w1.cell? ⟨w.heap.size + 1, 0, none⟩ = some (.int .u8 k2) := blk_cell X1.out.b1 0
          have p1 : w1.cell? ⟨w.heap.size, 1, none⟩ = some (.int .i64 n) := blk_cell X1.out.b0 1
          have q1 : w1.cell? ⟨w.heap.size + 1, 1, none⟩ = some (.int .i64 n2) := blk_cell X1.out.b1 1
          have p2 : w1.cell? ⟨w.heap.size, 2, none⟩ = some (.string st) := blk_cell X1.out.b0 2
          have q2 : w1.cell? ⟨w.heap.size + 1, 2, none⟩ = some (.string st2) := blk_cell X1.out.b1 2
          have p3 : w1.cell? ⟨w.heap.size, 3, none⟩ = some (.slice A m c) := blk_cell X1.out.b0 3
          have q3 : w1.cell? ⟨w.heap.size + 1, 3, none⟩ = some (.slice A2 m2 c2) := blk_cell X1.out.b1 3
          have p4 : w1.cell? ⟨w.heap.size, 4, none⟩ = some (.int .i64 r) := blk_cell X1.out.b0 4
          have q4 : w1.cell? ⟨w.heap.size + 1, 4, none⟩ = some (.int .i64 r2) := blk_cell X1.out.b1 4
          go_wp2_with fail
          refine (G2.out _ X1.out).mono ?_
          rintro e w2 ⟨rfl, hb⟩
          rw [← Hg2.out]
          have X2 := Lib.hid (X1.out.step hb)
          clear hb
          clear p0 p1 p2 p3 p4 q0 q1 q2 q3 q4
          have p0 : w2.cell? ⟨w.heap.size, 0, none⟩ = some (.int .u8 k) := blk_cell X2.out.b0 0
          have q0 : w2.cell? ⟨w.heap.size + 1, 0, none⟩ = some (.int .u8 k2) := blk_cell X2.out.b1 0
          have p1 : w2.cell? ⟨w.heap.size, 1, none⟩ = some (.int .i64 n) := blk_cell X2.out.b0 1
          have q1 : w2.cell? ⟨w.heap.size + 1, 1, none⟩ = some (.int .i64 n2) := blk_cell X2.out.b1 1
          have p2 : w2.cell? ⟨w.heap.size, 2, none⟩ = some (.string st) := blk_cell X2.out.b0 2
          have q2 : w2.cell? ⟨w.heap.size + 1, 2, none⟩ = some (.string st2) := blk_cell X2.out.b1 2
          have p3 : w2.cell? ⟨w.heap.size, 3, none⟩ = some (.slice A m c) := blk_cell X2.out.b0 3
          have q3 : w2.cell? ⟨w.heap.size + 1, 3, none⟩ = some (.slice A2 m2 c2) := blk_cell X2.out.b1 3
          have p4 : w2.cell? ⟨w.heap.size, 4, none⟩ = some (.int .i64 r) := blk_cell X2.out.b0 4
          have q4 : w2.cell? ⟨w.heap.size + 1, 4, none⟩ = some (.int .i64 r2) := blk_cell X2.out.b1 4
          go_wp2_with fail
          refine (text_no (hv.out.below X2.out.bel HS.out) (BD.out _ X2.out).1 hf.out (by omega) (TB.out _ X2.out) ha.out).mono ?_
          rintro e w3 ⟨rfl, hb⟩
          have X3 := Lib.hid (X2.out.step hb)
          clear hb
          clear p0 p1 p2 p3 p4 q0 q1 q2 q3 q4
          have p0 : w3.cell? ⟨w.heap.size, 0, none⟩ = some (.int .u8 k) := blk_cell X3.out.b0 0
          have q0 : w3.cell? ⟨w.heap.size + 1, 0, none⟩ = some (.int .u8 k2) := blk_cell X3.out.b1 0
          have p1 : w3.cell? ⟨w.heap.size, 1, none⟩ = some (.int .i64 n) := blk_cell X3.out.b0 1
          have q1 : w3.cell? ⟨w.heap.size + 1, 1, none⟩ = some (.int .i64 n2) := blk_cell X3.out.b1 1
          have p2 : w3.cell? ⟨w.heap.size, 2, none⟩ = some (.string st) := blk_cell X3.out.b0 2
          have q2 : w3.cell? ⟨w.heap.size + 1, 2, none⟩ = some (.string st2) := blk_cell X3.out.b1 2
          have p3 : w3.cell? ⟨w.heap.size, 3, none⟩ = some (.slice A m c) := blk_cell X3.out.b0 3
          have q3 : w3.cell? ⟨w.heap.size + 1, 3, none⟩ = some (.slice A2 m2 c2) := blk_cell X3.out.b1 3
          have p4 : w3.cell? ⟨w.heap.size, 4, none⟩ = some (.int .i64 r) := blk_cell X3.out.b0 4
          have q4 : w3.cell? ⟨w.heap.size + 1, 4, none⟩ = some (.int .i64 r2) := blk_cell X3.out.b1 4
          go_wp2_with fail
          refine (text_yes (hv2.out.below X3.out.bel HS2.out) (BD.out _ X3.out).2 hf2.out (by omega) (TB.out _ X3.out) hb2.out).mono ?_
          rintro e w4 ⟨rfl, hb⟩
          have X4 := Lib.hid (X3.out.step hb)
          clear hb
          clear p0 p1 p2 p3 p4 q0 q1 q2 q3 q4
          have p0 : w4.cell? ⟨w.heap.size, 0, none⟩ = some (.int .u8 k) := blk_cell X4.out.b0 0
          have q0 : w4.cell? ⟨w.heap.size + 1, 0, none⟩ = some (.int .u8 k2) := blk_cell X4.out.b1 0
          have p1 : w4.cell? ⟨w.heap.size, 1, none⟩ = some (.int .i64 n) := blk_cell X4.out.b0 1
          have q1 : w4.cell? ⟨w.heap.size + 1, 1, none⟩ = some (.int .i64 n2) := blk_cell X4.out.b1 1
          have p2 : w4.cell? ⟨w.heap.size, 2, none⟩ = some (.string st) := blk_cell X4.out.b0 2
          have q2 : w4.cell? ⟨w.heap.size + 1, 2, none⟩ = some (.string st2) := blk_cell X4.out.b1 2
          have p3 : w4.cell? ⟨w.heap.size, 3, none⟩ = some (.slice A m c) := blk_cell X4.out.b0 3
          have q3 : w4.cell? ⟨w.heap.size + 1, 3, none⟩ = some (.slice A2 m2 c2) := blk_cell X4.out.b1 3
          have p4 : w4.cell? ⟨w.heap.size, 4, none⟩ = some (.int .i64 r) := blk_cell X4.out.b0 4
          have q4 : w4.cell? ⟨w.heap.size + 1, 4, none⟩ = some (.int .i64 r2) := blk_cell X4.out.b1 4
          go_wp2_with fail
          refine (M1.out _ X4.out).mono ?_
          rintro e w5 ⟨rfl, hb⟩
          rw [lm1.out, ha.out]
          have X5 := Lib.hid (X4.out.step hb)
          clear hb
          clear p0 p1 p2 p3 p4 q0 q1 q2 q3 q4
          have p0 : w5.cell? ⟨w.heap.size, 0, none⟩ = some (.int .u8 k) := blk_cell X5.out.b0 0
          have q0 : w5.cell? ⟨w.heap.size + 1, 0, none⟩ = some (.int .u8 k2) := blk_cell X5.out.b1 0
          have p1 : w5.cell? ⟨w.heap.size, 1, none⟩ = some (.int .i64 n) := blk_cell X5.out.b0 1
          have q1 : w5.cell? ⟨w.heap.size + 1, 1, none⟩ = some (.int .i64 n2) := blk_cell X5.out.b1 1
          have p2 : w5.cell? ⟨w.heap.size, 2, none⟩ = some (.string st) := blk_cell X5.out.b0 2
          have q2 : w5.cell? ⟨w.heap.size + 1, 2, none⟩ = some (.string st2) := blk_cell X5.out.b1 2
          have p3 : w5.cell? ⟨w.heap.size, 3, none⟩ = some (.slice A m c) := blk_cell X5.out.b0 3
          have q3 : w5.cell? ⟨w.heap.size + 1, 3, none⟩ = some (.slice A2 m2 c2) := blk_cell X5.out.b1 3
          have p4 : w5.cell? ⟨w.heap.size, 4, none⟩ = some (.int .i64 r) := blk_cell X5.out.b0 4
          have q4 : w5.cell? ⟨w.heap.size + 1, 4, none⟩ = some (.int .i64 r2) := blk_cell X5.out.b1 4
          go_wp2_with fail
          refine (M2.out _ X5.out).mono ?_
          rintro e w6 ⟨rfl, hb⟩
          rw [lm2.out, hb2.out]
          have X6 := Lib.hid (X5.out.step hb)
          clear hb
          clear p0 p1 p2 p3 p4 q0 q1 q2 q3 q4
          have p0 : w6.cell? ⟨w.heap.size, 0, none⟩ = some (.int .u8 k) := blk_cell X6.out.b0 0
          have q0 : w6.cell? ⟨w.heap.size + 1, 0, none⟩ = some (.int .u8 k2) := blk_cell X6.out.b1 0
          have p1 : w6.cell? ⟨w.heap.size, 1, none⟩ = some (.int .i64 n) := blk_cell X6.out.b0 1
          have q1 : w6.cell? ⟨w.heap.size + 1, 1, none⟩ = some (.int .i64 n2) := blk_cell X6.out.b1 1
          have p2 : w6.cell? ⟨w.heap.size, 2, none⟩ = some (.string st) := blk_cell X6.out.b0 2
          have q2 : w6.cell? ⟨w.heap.size + 1, 2, none⟩ = some (.string st2) := blk_cell X6.out.b1 2
          have p3 : w6.cell? ⟨w.heap.size, 3, none⟩ = some (.slice A m c) := blk_cell X6.out.b0 3
          have q3 : w6.cell? ⟨w.heap.size + 1, 3, none⟩ = some (.slice A2 m2 c2) := blk_cell X6.out.b1 3
          have p4 : w6.cell? ⟨w.heap.size, 4, none⟩ = some (.int .i64 r) := blk_cell X6.out.b0 4
          have q4 : w6.cell? ⟨w.heap.size + 1, 4, none⟩ = some (.int .i64 r2) := blk_cell X6.out.b1 4
          go_wp2_with fail
          refine (read_no s _ hs HRD.out).mono ?_
          rintro e w7 ⟨⟨k3, n3, st3, A3, m3, c3, r3, pl, er, rfl, her⟩, hb⟩
          have X7 := Lib.hid (X6.out.step hb)
          clear hb
          go_wp2_with fail
          have X8 := Lib.hid (X7.out.alloc (.cells #[.int .u8 k3, .int .i64 n3, .string st3, .slice A3 m3 c3, .int .i64 r3] 26))
          refine (quote_is s _ (by omega)).mono ?_
          rintro e w9 ⟨rfl, hb⟩
          have X9 := Lib.hid (X8.out.step hb)
          clear hb
          go_wp2_with fail
          refine (unq_quote s _ hs).mono ?_
          rintro e w10 ⟨rfl, hb⟩
          have X10 := Lib.hid (X9.out.step hb)
          clear hb
          go_wp2_with fail
          refine (unq_ok s _ hs HUQ.out).mono ?_
          rintro e w11 ⟨rfl, hb⟩
          have X11 := Lib.hid (X10.out.step hb)
          clear hb
          go_wp2_with fail
          refine (quote_is _ _ HU.out.2).mono ?_
          rw [HU.out.1, mk_list]
          rintro e w12 ⟨rfl, hb⟩
          have X12 := Lib.hid (X11.out.step hb)
          clear hb
          go_wp2_with fail
          refine (AW.out _ X12.out).mono ?_
          rintro e w13 ⟨rfl, hb⟩
          have X13 := Lib.hid (X12.out.step hb)
          clear hb
          go_wp2
          go_ret
          exact ⟨rfl, X13.out.bel⟩
        · have HUQ := Lib.hid huq
          clear huq
          go_enter Tryd.func6, Tryd.ntmps6
          go_wp2_with fail
          refine (G1.out _ X0.out).mono ?_
          rintro e w1 ⟨rfl, hb⟩
          rw [← Hg1.out]
          have X1 := Lib.hid (X0.out.step hb)
          clear hb
          have p0 : w1.cell? ⟨w.heap.size, 0, none⟩ = some (.int .u8 k) := blk_cell X1.out.b0 0
          have q0 : w1.cell? ⟨w.heap.size + 1, 0, none⟩ = some (.int .u8 k2) := blk_cell X1.out.b1 0
          have p1 : w1.cell? ⟨w.heap.size, 1, none⟩ = some (.int .i64 n) := blk_cell X1.out.b0 1
          have q1 : w1.cell? ⟨w.heap.size + 1, 1, none⟩ = some (.int .i64 n2) := blk_cell X1.out.b1 1
          have p2 : w1.cell? ⟨w.heap.size, 2, none⟩ = some (.string st) := blk_cell X1.out.b0 2
          have q2 : w1.cell? ⟨w.heap.size + 1, 2, none⟩ = some (.string st2) := blk_cell X1.out.b1 2
          have p3 : w1.cell? ⟨w.heap.size, 3, none⟩ = some (.slice A m c) := blk_cell X1.out.b0 3
          have q3 : w1.cell? ⟨w.heap.size + 1, 3, none⟩ = some (.slice A2 m2 c2) := blk_cell X1.out.b1 3
          have p4 : w1.cell? ⟨w.heap.size, 4, none⟩ = some (.int .i64 r) := blk_cell X1.out.b0 4
          have q4 : w1.cell? ⟨w.heap.size + 1, 4, none⟩ = some (.int .i64 r2) := blk_cell X1.out.b1 4
          go_wp2_with fail
          refine (G2.out _ X1.out).mono ?_
          rintro e w2 ⟨rfl, hb⟩
          rw [← Hg2.out]
          have X2 := Lib.hid (X1.out.step hb)
          clear hb
          clear p0 p1 p2 p3 p4 q0 q1 q2 q3 q4
          have p0 : w2.cell? ⟨w.heap.size, 0, none⟩ = some (.int .u8 k) := blk_cell X2.out.b0 0
          have q0 : w2.cell? ⟨w.heap.size + 1, 0, none⟩ = some (.int .u8 k2) := blk_cell X2.out.b1 0
          have p1 : w2.cell? ⟨w.heap.size, 1, none⟩ = some (.int .i64 n) := blk_cell X2.out.b0 1
          have q1 : w2.cell? ⟨w.heap.size + 1, 1, none⟩ = some (.int .i64 n2) := blk_cell X2.out.b1 1
          have p2 : w2.cell? ⟨w.heap.size, 2, none⟩ = some (.string st) := blk_cell X2.out.b0 2
          have q2 : w2.cell? ⟨w.heap.size + 1, 2, none⟩ = some (.string st2) := blk_cell X2.out.b1 2
          have p3 : w2.cell? ⟨w.heap.size, 3, none⟩ = some (.slice A m c) := blk_cell X2.out.b0 3
          have q3 : w2.cell? ⟨w.heap.size + 1, 3, none⟩ = some (.slice A2 m2 c2) := blk_cell X2.out.b1 3
          have p4 : w2.cell? ⟨w.heap.size, 4, none⟩ = some (.int .i64 r) := blk_cell X2.out.b0 4
          have q4 : w2.cell? ⟨w.heap.size + 1, 4, none⟩ = some (.int .i64 r2) := blk_cell X2.out.b1 4
          go_wp2_with fail
          refine (text_no (hv.out.below X2.out.bel HS.out) (BD.out _ X2.out).1 hf.out (by omega) (TB.out _ X2.out) ha.out).mono ?_
          rintro e w3 ⟨rfl, hb⟩
          have X3 := Lib.hid (X2.out.step hb)
          clear hb
          clear p0 p1 p2 p3 p4 q0 q1 q2 q3 q4
          have p0 : w3.cell? ⟨w.heap.size, 0, none⟩ = some (.int .u8 k) := blk_cell X3.out.b0 0
          have q0 : w3.cell? ⟨w.heap.size + 1, 0, none⟩ = some (.int .u8 k2) := blk_cell X3.out.b1 0
          have p1 : w3.cell? ⟨w.heap.size, 1, none⟩ = some (.int .i64 n) := blk_cell X3.out.b0 1
          have q1 : w3.cell? ⟨w.heap.size + 1, 1, none⟩ = some (.int .i64 n2) := blk_cell X3.out.b1 1
          have p2 : w3.cell? ⟨w.heap.size, 2, none⟩ = some (.string st) := blk_cell X3.out.b0 2
          have q2 : w3.cell? ⟨w.heap.size + 1, 2, none⟩ = some (.string st2) := blk_cell X3.out.b1 2
          have p3 : w3.cell? ⟨w.heap.size, 3, none⟩ = some (.slice A m c) := blk_cell X3.out.b0 3
          have q3 : w3.cell? ⟨w.heap.size + 1, 3, none⟩ = some (.slice A2 m2 c2) := blk_cell X3.out.b1 3
          have p4 : w3.cell? ⟨w.heap.size, 4, none⟩ = some (.int .i64 r) := blk_cell X3.out.b0 4
          have q4 : w3.cell? ⟨w.heap.size + 1, 4, none⟩ = some (.int .i64 r2) := blk_cell X3.out.b1 4
          go_wp2_with fail
          refine (text_yes (hv2.out.below X3.out.bel HS2.out) (BD.out _ X3.out).2 hf2.out (by omega) (TB.out _ X3.out) hb2.out).mono ?_
          rintro e w4 ⟨rfl, hb⟩
          have X4 := Lib.hid (X3.out.step hb)
          clear hb
          clear p0 p1 p2 p3 p4 q0 q1 q2 q3 q4
          have p0 : w4.cell? ⟨w.heap.size, 0, none⟩ = some (.int .u8 k) := blk_cell X4.out.b0 0
          have q0 : w4.cell? ⟨w.heap.size + 1, 0, none⟩ = some (.int .u8 k2) := blk_cell X4.out.b1 0
          have p1 : w4.cell? ⟨w.heap.size, 1, none⟩ = some (.int .i64 n) := blk_cell X4.out.b0 1
          have q1 : w4.cell? ⟨w.heap.size + 1, 1, none⟩ = some (.int .i64 n2) := blk_cell X4.out.b1 1
          have p2 : w4.cell? ⟨w.heap.size, 2, none⟩ = some (.string st) := blk_cell X4.out.b0 2
          have q2 : w4.cell? ⟨w.heap.size + 1, 2, none⟩ = some (.string st2) := blk_cell X4.out.b1 2
          have p3 : w4.cell? ⟨w.heap.size, 3, none⟩ = some (.slice A m c) := blk_cell X4.out.b0 3
          have q3 : w4.cell? ⟨w.heap.size + 1, 3, none⟩ = some (.slice A2 m2 c2) := blk_cell X4.out.b1 3
          have p4 : w4.cell? ⟨w.heap.size, 4, none⟩ = some (.int .i64 r) := blk_cell X4.out.b0 4
          have q4 : w4.cell? ⟨w.heap.size + 1, 4, none⟩ = some (.int .i64 r2) := blk_cell X4.out.b1 4
          go_wp2_with fail
          refine (M1.out _ X4.out).mono ?_
          rintro e w5 ⟨rfl, hb⟩
          rw [lm1.out, ha.out]
          have X5 := Lib.hid (X4.out.step hb)
          clear hb
          clear p0 p1 p2 p3 p4 q0 q1 q2 q3 q4
          have p0 : w5.cell? ⟨w.heap.size, 0, none⟩ = some (.int .u8 k) := blk_cell X5.out.b0 0
          have q0 : w5.cell? ⟨w.heap.size + 1, 0, none⟩ = some (.int .u8 k2) := blk_cell X5.out.b1 0
          have p1 : w5.cell? ⟨w.heap.size, 1, none⟩ = some (.int .i64 n) := blk_cell X5.out.b0 1
          have q1 : w5.cell? ⟨w.heap.size + 1, 1, none⟩ = some (.int .i64 n2) := blk_cell X5.out.b1 1
          have p2 : w5.cell? ⟨w.heap.size, 2, none⟩ = some (.string st) := blk_cell X5.out.b0 2
          have q2 : w5.cell? ⟨w.heap.size + 1, 2, none⟩ = some (.string st2) := blk_cell X5.out.b1 2
          have p3 : w5.cell? ⟨w.heap.size, 3, none⟩ = some (.slice A m c) := blk_cell X5.out.b0 3
          have q3 : w5.cell? ⟨w.heap.size + 1, 3, none⟩ = some (.slice A2 m2 c2) := blk_cell X5.out.b1 3
          have p4 : w5.cell? ⟨w.heap.size, 4, none⟩ = some (.int .i64 r) := blk_cell X5.out.b0 4
          have q4 : w5.cell? ⟨w.heap.size + 1, 4, none⟩ = some (.int .i64 r2) := blk_cell X5.out.b1 4
          go_wp2_with fail
          refine (M2.out _ X5.out).mono ?_
          rintro e w6 ⟨rfl, hb⟩
          rw [lm2.out, hb2.out]
          have X6 := Lib.hid (X5.out.step hb)
          clear hb
          clear p0 p1 p2 p3 p4 q0 q1 q2 q3 q4
          have p0 : w6.cell? ⟨w.heap.size, 0, none⟩ = some (.int .u8 k) := blk_cell X6.out.b0 0
          have q0 : w6.cell? ⟨w.heap.size + 1, 0, none⟩ = some (.int .u8 k2) := blk_cell X6.out.b1 0
          have p1 : w6.cell? ⟨w.heap.size, 1, none⟩ = some (.int .i64 n) := blk_cell X6.out.b0 1
          have q1 : w6.cell? ⟨w.heap.size + 1, 1, none⟩ = some (.int .i64 n2) := blk_cell X6.out.b1 1
          have p2 : w6.cell? ⟨w.heap.size, 2, none⟩ = some (.string st) := blk_cell X6.out.b0 2
          have q2 : w6.cell? ⟨w.heap.size + 1, 2, none⟩ = some (.string st2) := blk_cell X6.out.b1 2
          have p3 : w6.cell? ⟨w.heap.size, 3, none⟩ = some (.slice A m c) := blk_cell X6.out.b0 3
          have q3 : w6.cell? ⟨w.heap.size + 1, 3, none⟩ = some (.slice A2 m2 c2) := blk_cell X6.out.b1 3
          have p4 : w6.cell? ⟨w.heap.size, 4, none⟩ = some (.int .i64 r) := blk_cell X6.out.b0 4
          have q4 : w6.cell? ⟨w.heap.size + 1, 4, none⟩ = some (.int .i64 r2) := blk_cell X6.out.b1 4
          go_wp2_with fail
          refine (read_no s _ hs HRD.out).mono ?_
          rintro e w7 ⟨⟨k3, n3, st3, A3, m3, c3, r3, pl, er, rfl, her⟩, hb⟩
          have X7 := Lib.hid (X6.out.step hb)
          clear hb
          go_wp2_with fail
          have X8 := Lib.hid (X7.out.alloc (.cells #[.int .u8 k3, .int .i64 n3, .string st3, .slice A3 m3 c3, .int .i64 r3] 26))
          refine (quote_is s _ (by omega)).mono ?_
          rintro e w9 ⟨rfl, hb⟩
          have X9 := Lib.hid (X8.out.step hb)
          clear hb
          go_wp2_with fail
          refine (unq_quote s _ hs).mono ?_
          rintro e w10 ⟨rfl, hb⟩
          have X10 := Lib.hid (X9.out.step hb)
          clear hb
          go_wp2_with fail
          refine (unq_no s _ hs HUQ.out).mono ?_
          rintro e w11 ⟨⟨u5, pl5, er5, rfl, her5⟩, hb⟩
          have X11 := Lib.hid (X10.out.step hb)
          clear hb
          go_wp2_with fail
          refine (AW.out _ X11.out).mono ?_
          rintro e w12 ⟨rfl, hb⟩
          have X12 := Lib.hid (X11.out.step hb)
          clear hb
          go_wp2
          go_ret
          exact ⟨rfl, X12.out.bel⟩
  | true =>
    have ha := Lib.hid ha'
    clear ha'
    cases hb' : mayV v2 with
    | false =>
      have hb2 := Lib.hid hb'
      clear hb'
      by_cases hrd : (readF s).2.2 = 0
      · have HRD := Lib.hid hrd
        have HT := Lib.hid (readF_text s hrd)
        clear hrd
        by_cases huq : (unquoteF s).2.2 = 0
        · have HUQ := Lib.hid huq
          have HU := Lib.hid (unq_facts s hs huq)
          clear huq
          go_enter Tryd.func6, Tryd.ntmps6
          go_wp2_with fail
          refine (G1.out _ X0.out).mono ?_
          rintro e w1 ⟨rfl, hb⟩
          rw [← Hg1.out]
          have X1 := Lib.hid (X0.out.step hb)
          clear hb
          have p0 : w1.cell? ⟨w.heap.size, 0, none⟩ = some (.int .u8 k) := blk_cell X1.out.b0 0
          have q0 : w1.cell? ⟨w.heap.size + 1, 0, none⟩ = some (.int .u8 k2) := blk_cell X1.out.b1 0
          have p1 : w1.cell? ⟨w.heap.size, 1, none⟩ = some (.int .i64 n) := blk_cell X1.out.b0 1
          have q1 : w1.cell? ⟨w.heap.size + 1, 1, none⟩ = some (.int .i64 n2) := blk_cell X1.out.b1 1
          have p2 : w1.cell? ⟨w.heap.size, 2, none⟩ = some (.string st) := blk_cell X1.out.b0 2
          have q2 : w1.cell? ⟨w.heap.size + 1, 2, none⟩ = some (.string st2) := blk_cell X1.out.b1 2
          have p3 : w1.cell? ⟨w.heap.size, 3, none⟩ = some (.slice A m c) := blk_cell X1.out.b0 3
          have q3 : w1.cell? ⟨w.heap.size + 1, 3, none⟩ = some (.slice A2 m2 c2) := blk_cell X1.out.b1 3
          have p4 : w1.cell? ⟨w.heap.size, 4, none⟩ = some (.int .i64 r) := blk_cell X1.out.b0 4
          have q4 : w1.cell? ⟨w.heap.size + 1, 4, none⟩ = some (.int .i64 r2) := blk_cell X1.out.b1 4
          go_wp2_with fail
          refine (G2.out _ X1.out).mono ?_
          rintro e w2 ⟨rfl, hb⟩
          rw [← Hg2.out]
          have X2 := Lib.hid (X1.out.step hb)
          clear hb
          clear p0 p1 p2 p3 p4 q0 q1 q2 q3 q4
          have p0 : w2.cell? ⟨w.heap.size, 0, none⟩ = some (.int .u8 k) := blk_cell X2.out.b0 0
          have q0 : w2.cell? ⟨w.heap.size + 1, 0, none⟩ = some (.int .u8 k2) := blk_cell X2.out.b1 0
          have p1 : w2.cell? ⟨w.heap.size, 1, none⟩ = some (.int .i64 n) := blk_cell X2.out.b0 1
          have q1 : w2.cell? ⟨w.heap.size + 1, 1, none⟩ = some (.int .i64 n2) := blk_cell X2.out.b1 1
          have p2 : w2.cell? ⟨w.heap.size, 2, none⟩ = some (.string st) := blk_cell X2.out.b0 2
          have q2 : w2.cell? ⟨w.heap.size + 1, 2, none⟩ = some (.string st2) := blk_cell X2.out.b1 2
          have p3 : w2.cell? ⟨w.heap.size, 3, none⟩ = some (.slice A m c) := blk_cell X2.out.b0 3
          have q3 : w2.cell? ⟨w.heap.size + 1, 3, none⟩ = some (.slice A2 m2 c2) := blk_cell X2.out.b1 3
          have p4 : w2.cell? ⟨w.heap.size, 4, none⟩ = some (.int .i64 r) := blk_cell X2.out.b0 4
          have q4 : w2.cell? ⟨w.heap.size + 1, 4, none⟩ = some (.int .i64 r2) := blk_cell X2.out.b1 4
          go_wp2_with fail
          refine (text_yes (hv.out.below X2.out.bel HS.out) (BD.out _ X2.out).1 hf.out (by omega) (TB.out _ X2.out) ha.out).mono ?_
          rintro e w3 ⟨rfl, hb⟩
          have X3 := Lib.hid (X2.out.step hb)
          clear hb
          clear p0 p1 p2 p3 p4 q0 q1 q2 q3 q4
          have p0 : w3.cell? ⟨w.heap.size, 0, none⟩ = some (.int .u8 k) := blk_cell X3.out.b0 0
          have q0 : w3.cell? ⟨w.heap.size + 1, 0, none⟩ = some (.int .u8 k2) := blk_cell X3.out.b1 0
          have p1 : w3.cell? ⟨w.heap.size, 1, none⟩ = some (.int .i64 n) := blk_cell X3.out.b0 1
          have q1 : w3.cell? ⟨w.heap.size + 1, 1, none⟩ = some (.int .i64 n2) := blk_cell X3.out.b1 1
          have p2 : w3.cell? ⟨w.heap.size, 2, none⟩ = some (.string st) := blk_cell X3.out.b0 2
          have q2 : w3.cell? ⟨w.heap.size + 1, 2, none⟩ = some (.string st2) := blk_cell X3.out.b1 2
          have p3 : w3.cell? ⟨w.heap.size, 3, none⟩ = some (.slice A m c) := blk_cell X3.out.b0 3
          have q3 : w3.cell? ⟨w.heap.size + 1, 3, none⟩ = some (.slice A2 m2 c2) := blk_cell X3.out.b1 3
          have p4 : w3.cell? ⟨w.heap.size, 4, none⟩ = some (.int .i64 r) := blk_cell X3.out.b0 4
          have q4 : w3.cell? ⟨w.heap.size + 1, 4, none⟩ = some (.int .i64 r2) := blk_cell X3.out.b1 4
          go_wp2_with fail
          refine (text_no (hv2.out.below X3.out.bel HS2.out) (BD.out _ X3.out).2 hf2.out (by omega) (TB.out _ X3.out) hb2.out).mono ?_
          rintro e w4 ⟨rfl, hb⟩
          have X4 := Lib.hid (X3.out.step hb)
          clear hb
          clear p0 p1 p2 p3 p4 q0 q1 q2 q3 q4
          have p0 : w4.cell? ⟨w.heap.size, 0, none⟩ = some (.int .u8 k) := blk_cell X4.out.b0 0
          have q0 : w4.cell? ⟨w.heap.size + 1, 0, none⟩ = some (.int .u8 k2) := blk_cell X4.out.b1 0
          have p1 : w4.cell? ⟨w.heap.size, 1, none⟩ = some (.int .i64 n) := blk_cell X4.out.b0 1
          have q1 : w4.cell? ⟨w.heap.size + 1, 1, none⟩ = some (.int .i64 n2) := blk_cell X4.out.b1 1
          have p2 : w4.cell? ⟨w.heap.size, 2, none⟩ = some (.string st) := blk_cell X4.out.b0 2
          have q2 : w4.cell? ⟨w.heap.size + 1, 2, none⟩ = some (.string st2) := blk_cell X4.out.b1 2
          have p3 : w4.cell? ⟨w.heap.size, 3, none⟩ = some (.slice A m c) := blk_cell X4.out.b0 3
          have q3 : w4.cell? ⟨w.heap.size + 1, 3, none⟩ = some (.slice A2 m2 c2) := blk_cell X4.out.b1 3
          have p4 : w4.cell? ⟨w.heap.size, 4, none⟩ = some (.int .i64 r) := blk_cell X4.out.b0 4
          have q4 : w4.cell? ⟨w.heap.size + 1, 4, none⟩ = some (.int .i64 r2) := blk_cell X4.out.b1 4
          go_wp2_with fail
          refine (M1.out _ X4.out).mono ?_
          rintro e w5 ⟨rfl, hb⟩
          rw [lm1.out, ha.out]
          have X5 := Lib.hid (X4.out.step hb)
          clear hb
          clear p0 p1 p2 p3 p4 q0 q1 q2 q3 q4
          have p0 : w5.cell? ⟨w.heap.size, 0, none⟩ = some (.int .u8 k) := blk_cell X5.out.b0 0
          have q0 : w5.cell? ⟨w.heap.size + 1, 0, none⟩ = some (.int .u8 k2) := blk_cell X5.out.b1 0
          have p1 : w5.cell? ⟨w.heap.size, 1, none⟩ = some (.int .i64 n) := blk_cell X5.out.b0 1
          have q1 : w5.cell? ⟨w.heap.size + 1, 1, none⟩ = some (.int .i64 n2) := blk_cell X5.out.b1 1
          have p2 : w5.cell? ⟨w.heap.size, 2, none⟩ = some (.string st) := blk_cell X5.out.b0 2
          have q2 : w5.cell? ⟨w.heap.size + 1, 2, none⟩ = some (.string st2) := blk_cell X5.out.b1 2
          have p3 : w5.cell? ⟨w.heap.size, 3, none⟩ = some (.slice A m c) := blk_cell X5.out.b0 3
          have q3 : w5.cell? ⟨w.heap.size + 1, 3, none⟩ = some (.slice A2 m2 c2) := blk_cell X5.out.b1 3
          have p4 : w5.cell? ⟨w.heap.size, 4, none⟩ = some (.int .i64 r) := blk_cell X5.out.b0 4
          have q4 : w5.cell? ⟨w.heap.size + 1, 4, none⟩ = some (.int .i64 r2) := blk_cell X5.out.b1 4
          go_wp2_with fail
          refine (M2.out _ X5.out).mono ?_
          rintro e w6 ⟨rfl, hb⟩
          rw [lm2.out, hb2.out]
          have X6 := Lib.hid (X5.out.step hb)
          clear hb
          clear p0 p1 p2 p3 p4 q0 q1 q2 q3 q4
          have p0 : w6.cell? ⟨w.heap.size, 0, none⟩ = some (.int .u8 k) := blk_cell X6.out.b0 0
          have q0 : w6.cell? ⟨w.heap.size + 1, 0, none⟩ = some (.int .u8 k2) := blk_cell X6.out.b1 0
          have p1 : w6.cell? ⟨w.heap.size, 1, none⟩ = some (.int .i64 n) := blk_cell X6.out.b0 1
          have q1 : w6.cell? ⟨w.heap.size + 1, 1, none⟩ = some (.int .i64 n2) := blk_cell X6.out.b1 1
          have p2 : w6.cell? ⟨w.heap.size, 2, none⟩ = some (.string st) := blk_cell X6.out.b0 2
          have q2 : w6.cell? ⟨w.heap.size + 1, 2, none⟩ = some (.string st2) := blk_cell X6.out.b1 2
          have p3 : w6.cell? ⟨w.heap.size, 3, none⟩ = some (.slice A m c) := blk_cell X6.out.b0 3
          have q3 : w6.cell? ⟨w.heap.size + 1, 3, none⟩ = some (.slice A2 m2 c2) := blk_cell X6.out.b1 3
          have p4 : w6.cell? ⟨w.heap.size, 4, none⟩ = some (.int .i64 r) := blk_cell X6.out.b0 4
          have q4 : w6.cell? ⟨w.heap.size + 1, 4, none⟩ = some (.int .i64 r2) := blk_cell X6.out.b1 4
          go_wp2_with fail
          refine (read_text_ok _ HL1.out ha.out hf.out).mono ?_
          rintro e w7 ⟨⟨k4, n4, st4, A4, m4, c4, r4, rfl, hv7⟩, hb⟩
          have X7 := Lib.hid (X6.out.step hb)
          have hv7 := Lib.hid hv7
          clear hb
          clear p0 p1 p2 p3 p4 q0 q1 q2 q3 q4
          have p0 : ∀ o, (w7.alloc o).cell? ⟨w.heap.size, 0, none⟩ = some (.int .u8 k) := fun o => blk_cell (X7.out.alloc o).b0 0
          have q0 : ∀ o, (w7.alloc o).cell? ⟨w.heap.size + 1, 0, none⟩ = some (.int .u8 k2) := fun o => blk_cell (X7.out.alloc o).b1 0
          have p1 : ∀ o, (w7.alloc o).cell? ⟨w.heap.size, 1, none⟩ = some (.int .i64 n) := fun o => blk_cell (X7.out.alloc o).b0 1
          have q1 : ∀ o, (w7.alloc o).cell? ⟨w.heap.size + 1, 1, none⟩ = some (.int .i64 n2) := fun o => blk_cell (X7.out.alloc o).b1 1
          have p2 : ∀ o, (w7.alloc o).cell? ⟨w.heap.size, 2, none⟩ = some (.string st) := fun o => blk_cell (X7.out.alloc o).b0 2
          have q2 : ∀ o, (w7.alloc o).cell? ⟨w.heap.size + 1, 2, none⟩ = some (.string st2) := fun o => blk_cell (X7.out.alloc o).b1 2
          have p3 : ∀ o, (w7.alloc o).cell? ⟨w.heap.size, 3, none⟩ = some (.slice A m c) := fun o => blk_cell (X7.out.alloc o).b0 3
          have q3 : ∀ o, (w7.alloc o).cell? ⟨w.heap.size + 1, 3, none⟩ = some (.slice A2 m2 c2) := fun o => blk_cell (X7.out.alloc o).b1 3
          have p4 : ∀ o, (w7.alloc o).cell? ⟨w.heap.size, 4, none⟩ = some (.int .i64 r) := fun o => blk_cell (X7.out.alloc o).b0 4
          have q4 : ∀ o, (w7.alloc o).cell? ⟨w.heap.size + 1, 4, none⟩ = some (.int .i64 r2) := fun o => blk_cell (X7.out.alloc o).b1 4
          go_wp2_with fail
          have X8 := Lib.hid (X7.out.alloc (.cells #[.int .u8 k4, .int .i64 n4, .string st4, .slice A4 m4 c4, .int .i64 r4] 26))
          refine (alike_any v v _ _ _ _ _ (hv7.out.below ((Below.refl _ _).alloc (Nat.le_refl _) _) (fun b h => h.2)) (hv.out.below X8.out.bel HS.out) (fun b h => by have := h.2; simp; omega) (BD.out _ X8.out).1).mono ?_
          rintro e w9 ⟨⟨bb, rfl, hbb⟩, hb⟩
          obtain rfl : bb = true := hbb.mpr rfl
          have X9 := Lib.hid (X8.out.step hb)
          clear hb hbb
          clear p0 p1 p2 p3 p4 q0 q1 q2 q3 q4
          have p0 : w9.cell? ⟨w.heap.size, 0, none⟩ = some (.int .u8 k) := blk_cell X9.out.b0 0
          have q0 : w9.cell? ⟨w.heap.size + 1, 0, none⟩ = some (.int .u8 k2) := blk_cell X9.out.b1 0
          have p1 : w9.cell? ⟨w.heap.size, 1, none⟩ = some (.int .i64 n) := blk_cell X9.out.b0 1
          have q1 : w9.cell? ⟨w.heap.size + 1, 1, none⟩ = some (.int .i64 n2) := blk_cell X9.out.b1 1
          have p2 : w9.cell? ⟨w.heap.size, 2, none⟩ = some (.string st) := blk_cell X9.out.b0 2
          have q2 : w9.cell? ⟨w.heap.size + 1, 2, none⟩ = some (.string st2) := blk_cell X9.out.b1 2
          have p3 : w9.cell? ⟨w.heap.size, 3, none⟩ = some (.slice A m c) := blk_cell X9.out.b0 3
          have q3 : w9.cell? ⟨w.heap.size + 1, 3, none⟩ = some (.slice A2 m2 c2) := blk_cell X9.out.b1 3
          have p4 : w9.cell? ⟨w.heap.size, 4, none⟩ = some (.int .i64 r) := blk_cell X9.out.b0 4
          have q4 : w9.cell? ⟨w.heap.size + 1, 4, none⟩ = some (.int .i64 r2) := blk_cell X9.out.b1 4
          go_wp2_with fail
          refine (read_ok s _ hs HRD.out).mono ?_
          rintro e w10 ⟨⟨k3, n3, st3, A3, m3, c3, r3, rfl, hv3⟩, hb⟩
          have X10 := Lib.hid (X9.out.step hb)
          have hv3 := Lib.hid hv3
          clear hb
          go_wp2_with fail
          have X11 := Lib.hid (X10.out.alloc (.cells #[.int .u8 k3, .int .i64 n3, .string st3, .slice A3 m3 c3, .int .i64 r3] 26))
          have hv4 := Lib.hid (hv3.out.below ((Below.refl _ _).alloc (Nat.le_refl _) (.cells #[.int .u8 k3, .int .i64 n3, .string st3, .slice A3 m3 c3, .int .i64 r3] 26)) (fun b h => h.2))
          refine (text_yes hv4.out (fun b h => by have := h.2; simp; omega) HT.out.2.2.2 (by rw [HT.out.2.1, size_list]; omega) (TB.out _ X11.out) HT.out.1).mono ?_
          rw [HT.out.2.1, mk_list]
          rintro e w12 ⟨rfl, hb⟩
          have X12 := Lib.hid (X11.out.step hb)
          clear hb
          go_wp2_with fail
          refine (quote_is s _ (by omega)).mono ?_
          rintro e w13 ⟨rfl, hb⟩
          have X13 := Lib.hid (X12.out.step hb)
          clear hb
          go_wp2_with fail
          refine (unq_quote s _ hs).mono ?_
          rintro e w14 ⟨rfl, hb⟩
          have X14 := Lib.hid (X13.out.step hb)
          clear hb
          go_wp2_with fail
          refine (unq_ok s _ hs HUQ.out).mono ?_
          rintro e w15 ⟨rfl, hb⟩
          have X15 := Lib.hid (X14.out.step hb)
          clear hb
          go_wp2_with fail
          refine (quote_is _ _ HU.out.2).mono ?_
          rw [HU.out.1, mk_list]
          rintro e w16 ⟨rfl, hb⟩
          have X16 := Lib.hid (X15.out.step hb)
          clear hb
          go_wp2_with fail
          refine (AW.out _ X16.out).mono ?_
          rintro e w17 ⟨rfl, hb⟩
          have X17 := Lib.hid (X16.out.step hb)
          clear hb
          go_wp2
          go_ret
          exact ⟨rfl, X17.out.bel⟩
        · have HUQ := Lib.hid huq
          clear huq
          go_enter Tryd.func6, Tryd.ntmps6
          go_wp2_with fail
          refine (G1.out _ X0.out).mono ?_
          rintro e w1 ⟨rfl, hb⟩
          rw [← Hg1.out]
          have X1 := Lib.hid (X0.out.step hb)
          clear hb
          have p0 : w1.cell? ⟨w.heap.size, 0, none⟩ = some (.int .u8 k) := blk_cell X1.out.b0 0
          have q0 : w1.cell? ⟨w.heap.size + 1, 0, none⟩ = some (.int .u8 k2) := blk_cell X1.out.b1 0
          have p1 : w1.cell? ⟨w.heap.size, 1, none⟩ = some (.int .i64 n) := blk_cell X1.out.b0 1
          have q1 : w1.cell? ⟨w.heap.size + 1, 1, none⟩ = some (.int .i64 n2) := blk_cell X1.out.b1 1
          have p2 : w1.cell? ⟨w.heap.size, 2, none⟩ = some (.string st) := blk_cell X1.out.b0 2
          have q2 : w1.cell? ⟨w.heap.size + 1, 2, none⟩ = some (.string st2) := blk_cell X1.out.b1 2
          have p3 : w1.cell? ⟨w.heap.size, 3, none⟩ = some (.slice A m c) := blk_cell X1.out.b0 3
          have q3 : w1.cell? ⟨w.heap.size + 1, 3, none⟩ = some (.slice A2 m2 c2) := blk_cell X1.out.b1 3
          have p4 : w1.cell? ⟨w.heap.size, 4, none⟩ = some (.int .i64 r) := blk_cell X1.out.b0 4
          have q4 : w1.cell? ⟨w.heap.size + 1, 4, none⟩ = some (.int .i64 r2) := blk_cell X1.out.b1 4
          go_wp2_with fail
          refine (G2.out _ X1.out).mono ?_
          rintro e w2 ⟨rfl, hb⟩
          rw [← Hg2.out]
          have X2 := Lib.hid (X1.out.step hb)
          clear hb
          clear p0 p1 p2 p3 p4 q0 q1 q2 q3 q4
          have p0 : w2.cell? ⟨w.heap.size, 0, none⟩ = some (.int .u8 k) := blk_cell X2.out.b0 0
          have q0 : w2.cell? ⟨w.heap.size + 1, 0, none⟩ = some (.int .u8 k2) := blk_cell X2.out.b1 0
          have p1 : w2.cell? ⟨w.heap.size, 1, none⟩ = some (.int .i64 n) := blk_cell X2.out.b0 1
          have q1 : w2.cell? ⟨w.heap.size + 1, 1, none⟩ = some (.int .i64 n2) := blk_cell X2.out.b1 1
          have p2 : w2.cell? ⟨w.heap.size, 2, none⟩ = some (.string st) := blk_cell X2.out.b0 2
          have q2 : w2.cell? ⟨w.heap.size + 1, 2, none⟩ = some (.string st2) := blk_cell X2.out.b1 2
          have p3 : w2.cell? ⟨w.heap.size, 3, none⟩ = some (.slice A m c) := blk_cell X2.out.b0 3
          have q3 : w2.cell? ⟨w.heap.size + 1, 3, none⟩ = some (.slice A2 m2 c2) := blk_cell X2.out.b1 3
          have p4 : w2.cell? ⟨w.heap.size, 4, none⟩ = some (.int .i64 r) := blk_cell X2.out.b0 4
          have q4 : w2.cell? ⟨w.heap.size + 1, 4, none⟩ = some (.int .i64 r2) := blk_cell X2.out.b1 4
          go_wp2_with fail
          refine (text_yes (hv.out.below X2.out.bel HS.out) (BD.out _ X2.out).1 hf.out (by omega) (TB.out _ X2.out) ha.out).mono ?_
          rintro e w3 ⟨rfl, hb⟩
          have X3 := Lib.hid (X2.out.step hb)
          clear hb
          clear p0 p1 p2 p3 p4 q0 q1 q2 q3 q4
          have p0 : w3.cell? ⟨w.heap.size, 0, none⟩ = some (.int .u8 k) := blk_cell X3.out.b0 0
          have q0 : w3.cell? ⟨w.heap.size + 1, 0, none⟩ = some (.int .u8 k2) := blk_cell X3.out.b1 0
          have p1 : w3.cell? ⟨w.heap.size, 1, none⟩ = some (.int .i64 n) := blk_cell X3.out.b0 1
          have q1 : w3.cell? ⟨w.heap.size + 1, 1, none⟩ = some (.int .i64 n2) := blk_cell X3.out.b1 1
          have p2 : w3.cell? ⟨w.heap.size, 2, none⟩ = some (.string st) := blk_cell X3.out.b0 2
          have q2 : w3.cell? ⟨w.heap.size + 1, 2, none⟩ = some (.string st2) := blk_cell X3.out.b1 2
          have p3 : w3.cell? ⟨w.heap.size, 3, none⟩ = some (.slice A m c) := blk_cell X3.out.b0 3
          have q3 : w3.cell? ⟨w.heap.size + 1, 3, none⟩ = some (.slice A2 m2 c2) := blk_cell X3.out.b1 3
          have p4 : w3.cell? ⟨w.heap.size, 4, none⟩ = some (.int .i64 r) := blk_cell X3.out.b0 4
          have q4 : w3.cell? ⟨w.heap.size + 1, 4, none⟩ = some (.int .i64 r2) := blk_cell X3.out.b1 4
          go_wp2_with fail
          refine (text_no (hv2.out.below X3.out.bel HS2.out) (BD.out _ X3.out).2 hf2.out (by omega) (TB.out _ X3.out) hb2.out).mono ?_
          rintro e w4 ⟨rfl, hb⟩
          have X4 := Lib.hid (X3.out.step hb)
          clear hb
          clear p0 p1 p2 p3 p4 q0 q1 q2 q3 q4
          have p0 : w4.cell? ⟨w.heap.size, 0, none⟩ = some (.int .u8 k) := blk_cell X4.out.b0 0
          have q0 : w4.cell? ⟨w.heap.size + 1, 0, none⟩ = some (.int .u8 k2) := blk_cell X4.out.b1 0
          have p1 : w4.cell? ⟨w.heap.size, 1, none⟩ = some (.int .i64 n) := blk_cell X4.out.b0 1
          have q1 : w4.cell? ⟨w.heap.size + 1, 1, none⟩ = some (.int .i64 n2) := blk_cell X4.out.b1 1
          have p2 : w4.cell? ⟨w.heap.size, 2, none⟩ = some (.string st) := blk_cell X4.out.b0 2
          have q2 : w4.cell? ⟨w.heap.size + 1, 2, none⟩ = some (.string st2) := blk_cell X4.out.b1 2
          have p3 : w4.cell? ⟨w.heap.size, 3, none⟩ = some (.slice A m c) := blk_cell X4.out.b0 3
          have q3 : w4.cell? ⟨w.heap.size + 1, 3, none⟩ = some (.slice A2 m2 c2) := blk_cell X4.out.b1 3
          have p4 : w4.cell? ⟨w.heap.size, 4, none⟩ = some (.int .i64 r) := blk_cell X4.out.b0 4
          have q4 : w4.cell? ⟨w.heap.size + 1, 4, none⟩ = some (.int .i64 r2) := blk_cell X4.out.b1 4
          go_wp2_with fail
          refine (M1.out _ X4.out).mono ?_
          rintro e w5 ⟨rfl, hb⟩
          rw [lm1.out, ha.out]
          have X5 := Lib.hid (X4.out.step hb)
          clear hb
          clear p0 p1 p2 p3 p4 q0 q1 q2 q3 q4
          have p0 : w5.cell? ⟨w.heap.size, 0, none⟩ = some (.int .u8 k) := blk_cell X5.out.b0 0
          have q0 : w5.cell? ⟨w.heap.size + 1, 0, none⟩ = some (.int .u8 k2) := blk_cell X5.out.b1 0
          have p1 : w5.cell? ⟨w.heap.size, 1, none⟩ = some (.int .i64 n) := blk_cell X5.out.b0 1
          have q1 : w5.cell? ⟨w.heap.size + 1, 1, none⟩ = some (.int .i64 n2) := blk_cell X5.out.b1 1
          have p2 : w5.cell? ⟨w.heap.size, 2, none⟩ = some (.string st) := blk_cell X5.out.b0 2
          have q2 : w5.cell? ⟨w.heap.size + 1, 2, none⟩ = some (.string st2) := blk_cell X5.out.b1 2
          have p3 : w5.cell? ⟨w.heap.size, 3, none⟩ = some (.slice A m c) := blk_cell X5.out.b0 3
          have q3 : w5.cell? ⟨w.heap.size + 1, 3, none⟩ = some (.slice A2 m2 c2) := blk_cell X5.out.b1 3
          have p4 : w5.cell? ⟨w.heap.size, 4, none⟩ = some (.int .i64 r) := blk_cell X5.out.b0 4
          have q4 : w5.cell? ⟨w.heap.size + 1, 4, none⟩ = some (.int .i64 r2) := blk_cell X5.out.b1 4
          go_wp2_with fail
          refine (M2.out _ X5.out).mono ?_
          rintro e w6 ⟨rfl, hb⟩
          rw [lm2.out, hb2.out]
          have X6 := Lib.hid (X5.out.step hb)
          clear hb
          clear p0 p1 p2 p3 p4 q0 q1 q2 q3 q4
          have p0 : w6.cell? ⟨w.heap.size, 0, none⟩ = some (.int .u8 k) := blk_cell X6.out.b0 0
          have q0 : w6.cell? ⟨w.heap.size + 1, 0, none⟩ = some (.int .u8 k2) := blk_cell X6.out.b1 0
          have p1 : w6.cell? ⟨w.heap.size, 1, none⟩ = some (.int .i64 n) := blk_cell X6.out.b0 1
          have q1 : w6.cell? ⟨w.heap.size + 1, 1, none⟩ = some (.int .i64 n2) := blk_cell X6.out.b1 1
          have p2 : w6.cell? ⟨w.heap.size, 2, none⟩ = some (.string st) := blk_cell X6.out.b0 2
          have q2 : w6.cell? ⟨w.heap.size + 1, 2, none⟩ = some (.string st2) := blk_cell X6.out.b1 2
          have p3 : w6.cell? ⟨w.heap.size, 3, none⟩ = some (.slice A m c) := blk_cell X6.out.b0 3
          have q3 : w6.cell? ⟨w.heap.size + 1, 3, none⟩ = some (.slice A2 m2 c2) := blk_cell X6.out.b1 3
          have p4 : w6.cell? ⟨w.heap.size, 4, none⟩ = some (.int .i64 r) := blk_cell X6.out.b0 4
          have q4 : w6.cell? ⟨w.heap.size + 1, 4, none⟩ = some (.int .i64 r2) := blk_cell X6.out.b1 4
          go_wp2_with fail
          refine (read_text_ok _ HL1.out ha.out hf.out).mono ?_
          rintro e w7 ⟨⟨k4, n4, st4, A4, m4, c4, r4, rfl, hv7⟩, hb⟩
          have X7 := Lib.hid (X6.out.step hb)
          have hv7 := Lib.hid hv7
          clear hb
          clear p0 p1 p2 p3 p4 q0 q1 q2 q3 q4
          have p0 : ∀ o, (w7.alloc o).cell? ⟨w.heap.size, 0, none⟩ = some (.int .u8 k) := fun o => blk_cell (X7.out.alloc o).b0 0
          have q0 : ∀ o, (w7.alloc o).cell? ⟨w.heap.size + 1, 0, none⟩ = some (.int .u8 k2) := fun o => blk_cell (X7.out.alloc o).b1 0
          have p1 : ∀ o, (w7.alloc o).cell? ⟨w.heap.size, 1, none⟩ = some (.int .i64 n) := fun o => blk_cell (X7.out.alloc o).b0 1
          have q1 : ∀ o, (w7.alloc o).cell? ⟨w.heap.size + 1, 1, none⟩ = some (.int .i64 n2) := fun o => blk_cell (X7.out.alloc o).b1 1
          have p2 : ∀ o, (w7.alloc o).cell? ⟨w.heap.size, 2, none⟩ = some (.string st) := fun o => blk_cell (X7.out.alloc o).b0 2
          have q2 : ∀ o, (w7.alloc o).cell? ⟨w.heap.size + 1, 2, none⟩ = some (.string st2) := fun o => blk_cell (X7.out.alloc o).b1 2
          have p3 : ∀ o, (w7.alloc o).cell? ⟨w.heap.size, 3, none⟩ = some (.slice A m c) := fun o => blk_cell (X7.out.alloc o).b0 3
          have q3 : ∀ o, (w7.alloc o).cell? ⟨w.heap.size + 1, 3, none⟩ = some (.slice A2 m2 c2) := fun o => blk_cell (X7.out.alloc o).b1 3
          have p4 : ∀ o, (w7.alloc o).cell? ⟨w.heap.size, 4, none⟩ = some (.int .i64 r) := fun o => blk_cell (X7.out.alloc o).b0 4
          have q4 : ∀ o, (w7.alloc o).cell? ⟨w.heap.size + 1, 4, none⟩ = some (.int .i64 r2) := fun o => blk_cell (X7.out.alloc o).b1 4
          go_wp2_with fail
          have X8 := Lib.hid (X7.out.alloc (.cells #[.int .u8 k4, .int .i64 n4, .string st4, .slice A4 m4 c4, .int .i64 r4] 26))
          refine (alike_any v v _ _ _ _ _ (hv7.out.below ((Below.refl _ _).alloc (Nat.le_refl _) _) (fun b h => h.2)) (hv.out.below X8.out.bel HS.out) (fun b h => by have := h.2; simp; omega) (BD.out _ X8.out).1).mono ?_
          rintro e w9 ⟨⟨bb, rfl, hbb⟩, hb⟩
          obtain rfl : bb = true := hbb.mpr rfl
          have X9 := Lib.hid (X8.out.step hb)
          clear hb hbb
          clear p0 p1 p2 p3 p4 q0 q1 q2 q3 q4
          have p0 : w9.cell? ⟨w.heap.size, 0, none⟩ = some (.int .u8 k) := blk_cell X9.out.b0 0
          have q0 : w9.cell? ⟨w.heap.size + 1, 0, none⟩ = some (.int .u8 k2) := blk_cell X9.out.b1 0
          have p1 : w9.cell? ⟨w.heap.size, 1, none⟩ = some (.int .i64 n) := blk_cell X9.out.b0 1
          have q1 : w9.cell? ⟨w.heap.size + 1, 1, none⟩ = some (.int .i64 n2) := blk_cell X9.out.b1 1
          have p2 : w9.cell? ⟨w.heap.size, 2, none⟩ = some (.string st) := blk_cell X9.out.b0 2
          have q2 : w9.cell? ⟨w.heap.size + 1, 2, none⟩ = some (.string st2) := blk_cell X9.out.b1 2
          have p3 : w9.cell? ⟨w.heap.size, 3, none⟩ = some (.slice A m c) := blk_cell X9.out.b0 3
          have q3 : w9.cell? ⟨w.heap.size + 1, 3, none⟩ = some (.slice A2 m2 c2) := blk_cell X9.out.b1 3
          have p4 : w9.cell? ⟨w.heap.size, 4, none⟩ = some (.int .i64 r) := blk_cell X9.out.b0 4
          have q4 : w9.cell? ⟨w.heap.size + 1, 4, none⟩ = some (.int .i64 r2) := blk_cell X9.out.b1 4
          go_wp2_with fail
          refine (read_ok s _ hs HRD.out).mono ?_
          rintro e w10 ⟨⟨k3, n3, st3, A3, m3, c3, r3, rfl, hv3⟩, hb⟩
          have X10 := Lib.hid (X9.out.step hb)
          have hv3 := Lib.hid hv3
          clear hb
          go_wp2_with fail
          have X11 := Lib.hid (X10.out.alloc (.cells #[.int .u8 k3, .int .i64 n3, .string st3, .slice A3 m3 c3, .int .i64 r3] 26))
          have hv4 := Lib.hid (hv3.out.below ((Below.refl _ _).alloc (Nat.le_refl _) (.cells #[.int .u8 k3, .int .i64 n3, .string st3, .slice A3 m3 c3, .int .i64 r3] 26)) (fun b h => h.2))
          refine (text_yes hv4.out (fun b h => by have := h.2; simp; omega) HT.out.2.2.2 (by rw [HT.out.2.1, size_list]; omega) (TB.out _ X11.out) HT.out.1).mono ?_
          rw [HT.out.2.1, mk_list]
          rintro e w12 ⟨rfl, hb⟩
          have X12 := Lib.hid (X11.out.step hb)
          clear hb
          go_wp2_with fail
          refine (quote_is s _ (by omega)).mono ?_
          rintro e w13 ⟨rfl, hb⟩
          have X13 := Lib.hid (X12.out.step hb)
          clear hb
          go_wp2_with fail
          refine (unq_quote s _ hs).mono ?_
          rintro e w14 ⟨rfl, hb⟩
          have X14 := Lib.hid (X13.out.step hb)
          clear hb
          go_wp2_with fail
          refine (unq_no s _ hs HUQ.out).mono ?_
          rintro e w15 ⟨⟨u5, pl5, er5, rfl, her5⟩, hb⟩
          have X15 := Lib.hid (X14.out.step hb)
          clear hb
          go_wp2_with fail
          refine (AW.out _ X15.out).mono ?_
          rintro e w16 ⟨rfl, hb⟩
          have X16 := Lib.hid (X15.out.step hb)
          clear hb
          go_wp2
          go_ret
          exact ⟨rfl, X16.out.bel⟩
      · have HRD := Lib.hid hrd
        clear hrd
        by_cases huq : (unquoteF s).2.2 = 0
        · have HUQ := Lib.hid huq
          have HU := Lib.hid (unq_facts s hs huq)
          clear huq
          go_enter Tryd.func6, Tryd.ntmps6
          go_wp2_with fail
          refine (G1.out _ X0.out).mono ?_
          rintro e w1 ⟨rfl, hb⟩
          rw [← Hg1.out]
          have X1 := Lib.hid (X0.out.step hb)
          clear hb
          have p0 : w1.cell? ⟨w.heap.size, 0, none⟩ = some (.int .u8 k) := blk_cell X1.out.b0 0
          have q0 : w1.cell? ⟨w.heap.size + 1, 0, none⟩ = some (.int .u8 k2) := blk_cell X1.out.b1 0
          have p1 : w1.cell? ⟨w.heap.size, 1, none⟩ = some (.int .i64 n) := blk_cell X1.out.b0 1
          have q1 : w1.cell? ⟨w.heap.size + 1, 1, none⟩ = some (.int .i64 n2) := blk_cell X1.out.b1 1
          have p2 : w1.cell? ⟨w.heap.size, 2, none⟩ = some (.string st) := blk_cell X1.out.b0 2
          have q2 : w1.cell? ⟨w.heap.size + 1, 2, none⟩ = some (.string st2) := blk_cell X1.out.b1 2
          have p3 : w1.cell? ⟨w.heap.size, 3, none⟩ = some (.slice A m c) := blk_cell X1.out.b0 3
          have q3 : w1.cell? ⟨w.heap.size + 1, 3, none⟩ = some (.slice A2 m2 c2) := blk_cell X1.out.b1 3
          have p4 : w1.cell? ⟨w.heap.size, 4, none⟩ = some (.int .i64 r) := blk_cell X1.out.b0 4
          have q4 : w1.cell? ⟨w.heap.size + 1, 4, none⟩ = some (.int .i64 r2) := blk_cell X1.out.b1 4
          go_wp2_with fail
          refine (G2.out _ X1.out).mono ?_
          rintro e w2 ⟨rfl, hb⟩
          rw [← Hg2.out]
          have X2 := Lib.hid (X1.out.step hb)
          clear hb
          clear p0 p1 p2 p3 p4 q0 q1 q2 q3 q4
          have p0 : w2.cell? ⟨w.heap.size, 0, none⟩ = some (.int .u8 k) := blk_cell X2.out.b0 0
          have q0 : w2.cell? ⟨w.heap.size + 1, 0, none⟩ = some (.int .u8 k2) := blk_cell X2.out.b1 0
          have p1 : w2.cell? ⟨w.heap.size, 1, none⟩ = some (.int .i64 n) := blk_cell X2.out.b0 1
          have q1 : w2.cell? ⟨w.heap.size + 1, 1, none⟩ = some (.int .i64 n2) := blk_cell X2.out.b1 1
          have p2 : w2.cell? ⟨w.heap.size, 2, none⟩ = some (.string st) := blk_cell X2.out.b0 2
          have q2 : w2.cell? ⟨w.heap.size + 1, 2, none⟩ = some (.string st2) := blk_cell X2.out.b1 2
          have p3 : w2.cell? ⟨w.heap.size, 3, none⟩ = some (.slice A m c) := blk_cell X2.out.b0 3
          have q3 : w2.cell? ⟨w.heap.size + 1, 3, none⟩ = some (.slice A2 m2 c2) := blk_cell X2.out.b1 3
          have p4 : w2.cell? ⟨w.heap.size, 4, none⟩ = some (.int .i64 r) := blk_cell X2.out.b0 4
          have q4 : w2.cell? ⟨w.heap.size + 1, 4, none⟩ = some (.int .i64 r2) := blk_cell X2.out.b1 4
          go_wp2_with fail
          refine (text_yes (hv.out.below X2.out.bel HS.out) (BD.out _ X2.out).1 hf.out (by omega) (TB.out _ X2.out) ha.out).mono ?_
          rintro e w3 ⟨rfl, hb⟩
          have X3 := Lib.hid (X2.out.step hb)
          clear hb
          clear p0 p1 p2 p3 p4 q0 q1 q2 q3 q4
          have p0 : w3.cell? ⟨w.heap.size, 0, none⟩ = some (.int .u8 k) := blk_cell X3.out.b0 0
          have q0 : w3.cell? ⟨w.heap.size + 1, 0, none⟩ = some (.int .u8 k2) := blk_cell X3.out.b1 0
          have p1 : w3.cell? ⟨w.heap.size, 1, none⟩ = some (.int .i64 n) := blk_cell X3.out.b0 1
          have q1 : w3.cell? ⟨w.heap.size + 1, 1, none⟩ = some (.int .i64 n2) := blk_cell X3.out.b1 1
          have p2 : w3.cell? ⟨w.heap.size, 2, none⟩ = some (.string st) := blk_cell X3.out.b0 2
          have q2 : w3.cell? ⟨w.heap.size + 1, 2, none⟩ = some (.string st2) := blk_cell X3.out.b1 2
          have p3 : w3.cell? ⟨w.heap.size, 3, none⟩ = some (.slice A m c) := blk_cell X3.out.b0 3
          have q3 : w3.cell? ⟨w.heap.size + 1, 3, none⟩ = some (.slice A2 m2 c2) := blk_cell X3.out.b1 3
          have p4 : w3.cell? ⟨w.heap.size, 4, none⟩ = some (.int .i64 r) := blk_cell X3.out.b0 4
          have q4 : w3.cell? ⟨w.heap.size + 1, 4, none⟩ = some (.int .i64 r2) := blk_cell X3.out.b1 4
          go_wp2_with fail
          refine (text_no (hv2.out.below X3.out.bel HS2.out) (BD.out _ X3.out).2 hf2.out (by omega) (TB.out _ X3.out) hb2.out).mono ?_
          rintro e w4 ⟨rfl, hb⟩
          have X4 := Lib.hid (X3.out.step hb)
          clear hb
          clear p0 p1 p2 p3 p4 q0 q1 q2 q3 q4
          have p0 : w4.cell? ⟨w.heap.size, 0, none⟩ = some (.int .u8 k) := blk_cell X4.out.b0 0
          have q0 : w4.cell? ⟨w.heap.size + 1, 0, none⟩ = some (.int .u8 k2) := blk_cell X4.out.b1 0
          have p1 : w4.cell? ⟨w.heap.size, 1, none⟩ = some (.int .i64 n) := blk_cell X4.out.b0 1
          have q1 : w4.cell? ⟨w.heap.size + 1, 1, none⟩ = some (.int .i64 n2) := blk_cell X4.out.b1 1
          have p2 : w4.cell? ⟨w.heap.size, 2, none⟩ = some (.string st) := blk_cell X4.out.b0 2
          have q2 : w4.cell? ⟨w.heap.size + 1, 2, none⟩ = some (.string st2) := blk_cell X4.out.b1 2
          have p3 : w4.cell? ⟨w.heap.size, 3, none⟩ = some (.slice A m c) := blk_cell X4.out.b0 3
          have q3 : w4.cell? ⟨w.heap.size + 1, 3, none⟩ = some (.slice A2 m2 c2) := blk_cell X4.out.b1 3
          have p4 : w4.cell? ⟨w.heap.size, 4, none⟩ = some (.int .i64 r) := blk_cell X4.out.b0 4
          have q4 : w4.cell? ⟨w.heap.size + 1, 4, none⟩ = some (.int .i64 r2) := blk_cell X4.out.b1 4
          go_wp2_with fail
          refine (M1.out _ X4.out).mono ?_
          rintro e w5 ⟨rfl, hb⟩
          rw [lm1.out, ha.out]
          have X5 := Lib.hid (X4.out.step hb)
          clear hb
          clear p0 p1 p2 p3 p4 q0 q1 q2 q3 q4
          have p0 : w5.cell? ⟨w.heap.size, 0, none⟩ = some (.int .u8 k) := blk_cell X5.out.b0 0
          have q0 : w5.cell? ⟨w.heap.size + 1, 0, none⟩ = some (.int .u8 k2) := blk_cell X5.out.b1 0
          have p1 : w5.cell? ⟨w.heap.size, 1, none⟩ = some (.int .i64 n) := blk_cell X5.out.b0 1
          have q1 : w5.cell? ⟨w.heap.size + 1, 1, none⟩ = some (.int .i64 n2) := blk_cell X5.out.b1 1
          have p2 : w5.cell? ⟨w.heap.size, 2, none⟩ = some (.string st) := blk_cell X5.out.b0 2
          have q2 : w5.cell? ⟨w.heap.size + 1, 2, none⟩ = some (.string st2) := blk_cell X5.out.b1 2
          have p3 : w5.cell? ⟨w.heap.size, 3, none⟩ = some (.slice A m c) := blk_cell X5.out.b0 3
          have q3 : w5.cell? ⟨w.heap.size + 1, 3, none⟩ = some (.slice A2 m2 c2) := blk_cell X5.out.b1 3
          have p4 : w5.cell? ⟨w.heap.size, 4, none⟩ = some (.int .i64 r) := blk_cell X5.out.b0 4
          have q4 : w5.cell? ⟨w.heap.size + 1, 4, none⟩ = some (.int .i64 r2) := blk_cell X5.out.b1 4
          go_wp2_with fail
          refine (M2.out _ X5.out).mono ?_
          rintro e w6 ⟨rfl, hb⟩
          rw [lm2.out, hb2.out]
          have X6 := Lib.hid (X5.out.step hb)
          clear hb
          clear p0 p1 p2 p3 p4 q0 q1 q2 q3 q4
          have p0 : w6.cell? ⟨w.heap.size, 0, none⟩ = some (.int .u8 k) := blk_cell X6.out.b0 0
          have q0 : w6.cell? ⟨w.heap.size + 1, 0, none⟩ = some (.int .u8 k2) := blk_cell X6.out.b1 0
          have p1 : w6.cell? ⟨w.heap.size, 1, none⟩ = some (.int .i64 n) := blk_cell X6.out.b0 1
          have q1 : w6.cell? ⟨w.heap.size + 1, 1, none⟩ = some (.int .i64 n2) := blk_cell X6.out.b1 1
          have p2 : w6.cell? ⟨w.heap.size, 2, none⟩ = some (.string st) := blk_cell X6.out.b0 2
          have q2 : w6.cell? ⟨w.heap.size + 1, 2, none⟩ = some (.string st2) := blk_cell X6.out.b1 2
          have p3 : w6.cell? ⟨w.heap.size, 3, none⟩ = some (.slice A m c) := blk_cell X6.out.b0 3
          have q3 : w6.cell? ⟨w.heap.size + 1, 3, none⟩ = some (.slice A2 m2 c2) := blk_cell X6.out.b1 3
          have p4 : w6.cell? ⟨w.heap.size, 4, none⟩ = some (.int .i64 r) := blk_cell X6.out.b0 4
          have q4 : w6.cell? ⟨w.heap.size + 1, 4, none⟩ = some (.int .i64 r2) := blk_cell X6.out.b1 4
          go_wp2_with fail
          refine (read_text_ok _ HL1.out ha.out hf.out).mono ?_
          rintro e w7 ⟨⟨k4, n4, st4, A4, m4, c4, r4, rfl, hv7⟩, hb⟩
          have X7 := Lib.hid (X6.out.step hb)
          have hv7 := Lib.hid hv7
          clear hb
          clear p0 p1 p2 p3 p4 q0 q1 q2 q3 q4
          have p0 : ∀ o, (w7.alloc o).cell? ⟨w.heap.size, 0, none⟩ = some (.int .u8 k) := fun o => blk_cell (X7.out.alloc o).b0 0
          have q0 : ∀ o, (w7.alloc o).cell? ⟨w.heap.size + 1, 0, none⟩ = some (.int .u8 k2) := fun o => blk_cell (X7.out.alloc o).b1 0
          have p1 : ∀ o, (w7.alloc o).cell? ⟨w.heap.size, 1, none⟩ = some (.int .i64 n) := fun o => blk_cell (X7.out.alloc o).b0 1
          have q1 : ∀ o, (w7.alloc o).cell? ⟨w.heap.size + 1, 1, none⟩ = some (.int .i64 n2) := fun o => blk_cell (X7.out.alloc o).b1 1
          have p2 : ∀ o, (w7.alloc o).cell? ⟨w.heap.size, 2, none⟩ = some (.string st) := fun o => blk_cell (X7.out.alloc o).b0 2
          have q2 : ∀ o, (w7.alloc o).cell? ⟨w.heap.size + 1, 2, none⟩ = some (.string st2) := fun o => blk_cell (X7.out.alloc o).b1 2
          have p3 : ∀ o, (w7.alloc o).cell? ⟨w.heap.size, 3, none⟩ = some (.slice A m c) := fun o => blk_cell (X7.out.alloc o).b0 3
          have q3 : ∀ o, (w7.alloc o).cell? ⟨w.heap.size + 1, 3, none⟩ = some (.slice A2 m2 c2) := fun o => blk_cell (X7.out.alloc o).b1 3
          have p4 : ∀ o, (w7.alloc o).cell? ⟨w.heap.size, 4, none⟩ = some (.int .i64 r) := fun o => blk_cell (X7.out.alloc o).b0 4
          have q4 : ∀ o, (w7.alloc o).cell? ⟨w.heap.size + 1, 4, none⟩ = some (.int .i64 r2) := fun o => blk_cell (X7.out.alloc o).b1 4
          go_wp2_with fail
          have X8 := Lib.hid (X7.out.alloc (.cells #[.int .u8 k4, .int .i64 n4, .string st4, .slice A4 m4 c4, .int .i64 r4] 26))
          refine (alike_any v v _ _ _ _ _ (hv7.out.below ((Below.refl _ _).alloc (Nat.le_refl _) _) (fun b h => h.2)) (hv.out.below X8.out.bel HS.out) (fun b h => by have := h.2; simp; omega) (BD.out _ X8.out).1).mono ?_
          rintro e w9 ⟨⟨bb, rfl, hbb⟩, hb⟩
          obtain rfl : bb = true := hbb.mpr rfl
          have X9 := Lib.hid (X8.out.step hb)
          clear hb hbb
          clear p0 p1 p2 p3 p4 q0 q1 q2 q3 q4
          have p0 : w9.cell? ⟨w.heap.size, 0, none⟩ = some (.int .u8 k) := blk_cell X9.out.b0 0
          have q0 : w9.cell? ⟨w.heap.size + 1, 0, none⟩ = some (.int .u8 k2) := blk_cell X9.out.b1 0
          have p1 : w9.cell? ⟨w.heap.size, 1, none⟩ = some (.int .i64 n) := blk_cell X9.out.b0 1
          have q1 : w9.cell? ⟨w.heap.size + 1, 1, none⟩ = some (.int .i64 n2) := blk_cell X9.out.b1 1
          have p2 : w9.cell? ⟨w.heap.size, 2, none⟩ = some (.string st) := blk_cell X9.out.b0 2
          have q2 : w9.cell? ⟨w.heap.size + 1, 2, none⟩ = some (.string st2) := blk_cell X9.out.b1 2
          have p3 : w9.cell? ⟨w.heap.size, 3, none⟩ = some (.slice A m c) := blk_cell X9.out.b0 3
          have q3 : w9.cell? ⟨w.heap.size + 1, 3, none⟩ = some (.slice A2 m2 c2) := blk_cell X9.out.b1 3
          have p4 : w9.cell? ⟨w.heap.size, 4, none⟩ = some (.int .i64 r) := blk_cell X9.out.b0 4
          have q4 : w9.cell? ⟨w.heap.size + 1, 4, none⟩ = some (.int .i64 r2) := blk_cell X9.out.b1 4
          go_wp2_with fail
          refine (read_no s _ hs HRD.out).mono ?_
          rintro e w10 ⟨⟨k3, n3, st3, A3, m3, c3, r3, pl, er, rfl, her⟩, hb⟩
          have X10 := Lib.hid (X9.out.step hb)
          clear hb
          go_wp2_with fail
          have X11 := Lib.hid (X10.out.alloc (.cells #[.int .u8 k3, .int .i64 n3, .string st3, .slice A3 m3 c3, .int .i64 r3] 26))
          refine (quote_is s _ (by omega)).mono ?_
          rintro e w12 ⟨rfl, hb⟩
          have X12 := Lib.hid (X11.out.step hb)
          clear hb
          go_wp2_with fail
          refine (unq_quote s _ hs).mono ?_
          rintro e w13 ⟨rfl, hb⟩
          have X13 := Lib.hid (X12.out.step hb)
          clear hb
          go_wp2_with fail
          refine (unq_ok s _ hs HUQ.out).mono ?_
          rintro e w14 ⟨rfl, hb⟩
          have X14 := Lib.hid (X13.out.step hb)
          clear hb
          go_wp2_with fail
          refine (quote_is _ _ HU.out.2).mono ?_
          rw [HU.out.1, mk_list]
          rintro e w15 ⟨rfl, hb⟩
          have X15 := Lib.hid (X14.out.step hb)
          clear hb
          go_wp2_with fail
          refine (AW.out _ X15.out).mono ?_
          rintro e w16 ⟨rfl, hb⟩
          have X16 := Lib.hid (X15.out.step hb)
          clear hb
          go_wp2
          go_ret
          exact ⟨rfl, X16.out.bel⟩
        · have HUQ := Lib.hid huq
          clear huq
          go_enter Tryd.func6, Tryd.ntmps6
          go_wp2_with fail
          refine (G1.out _ X0.out).mono ?_
          rintro e w1 ⟨rfl, hb⟩
          rw [← Hg1.out]
          have X1 := Lib.hid (X0.out.step hb)
          clear hb
          have p0 : w1.cell? ⟨w.heap.size, 0, none⟩ = some (.int .u8 k) := blk_cell X1.out.b0 0
          have q0 : w1.cell? ⟨w.heap.size + 1, 0, none⟩ = some (.int .u8 k2) := blk_cell X1.out.b1 0
          have p1 : w1.cell? ⟨w.heap.size, 1, none⟩ = some (.int .i64 n) := blk_cell X1.out.b0 1
          have q1 : w1.cell? ⟨w.heap.size + 1, 1, none⟩ = some (.int .i64 n2) := blk_cell X1.out.b1 1
          have p2 : w1.cell? ⟨w.heap.size, 2, none⟩ = some (.string st) := blk_cell X1.out.b0 2
          have q2 : w1.cell? ⟨w.heap.size + 1, 2, none⟩ = some (.string st2) := blk_cell X1.out.b1 2
          have p3 : w1.cell? ⟨w.heap.size, 3, none⟩ = some (.slice A m c) := blk_cell X1.out.b0 3
          have q3 : w1.cell? ⟨w.heap.size + 1, 3, none⟩ = some (.slice A2 m2 c2) := blk_cell X1.out.b1 3
          have p4 : w1.cell? ⟨w.heap.size, 4, none⟩ = some (.int .i64 r) := blk_cell X1.out.b0 4
          have q4 : w1.cell? ⟨w.heap.size + 1, 4, none⟩ = some (.int .i64 r2) := blk_cell X1.out.b1 4
          go_wp2_with fail
          refine (G2.out _ X1.out).mono ?_
          rintro e w2 ⟨rfl, hb⟩
          rw [← Hg2.out]
          have X2 := Lib.hid (X1.out.step hb)
          clear hb
          clear p0 p1 p2 p3 p4 q0 q1 q2 q3 q4
          have p0 : w2.cell? ⟨w.heap.size, 0, none⟩ = some (.int .u8 k) := blk_cell X2.out.b0 0
          have q0 : w2.cell? ⟨w.heap.size + 1, 0, none⟩ = some (.int .u8 k2) := blk_cell X2.out.b1 0
          have p1 : w2.cell? ⟨w.heap.size, 1, none⟩ = some (.int .i64 n) := blk_cell X2.out.b0 1
          have q1 : w2.cell? ⟨w.heap.size + 1, 1, none⟩ = some (.int .i64 n2) := blk_cell X2.out.b1 1
          have p2 : w2.cell? ⟨w.heap.size, 2, none⟩ = some (.string st) := blk_cell X2.out.b0 2
          have q2 : w2.cell? ⟨w.heap.size + 1, 2, none⟩ = some (.string st2) := blk_cell X2.out.b1 2
          have p3 : w2.cell? ⟨w.heap.size, 3, none⟩ = some (.slice A m c) := blk_cell X2.out.b0 3
          have q3 : w2.cell? ⟨w.heap.size + 1, 3, none⟩ = some (.slice A2 m2 c2) := blk_cell X2.out.b1 3
          have p4 : w2.cell? ⟨w.heap.size, 4, none⟩ = some (.int .i64 r) := blk_cell X2.out.b0 4
          have q4 : w2.cell? ⟨w.heap.size + 1, 4, none⟩ = some (.int .i64 r2) := blk_cell X2.out.b1 4
          go_wp2_with fail
          refine (text_yes (hv.out.below X2.out.bel HS.out) (BD.out _ X2.out).1 hf.out (by omega) (TB.out _ X2.out) ha.out).mono ?_
          rintro e w3 ⟨rfl, hb⟩
          have X3 := Lib.hid (X2.out.step hb)
          clear hb
          clear p0 p1 p2 p3 p4 q0 q1 q2 q3 q4
          have p0 : w3.cell? ⟨w.heap.size, 0, none⟩ = some (.int .u8 k) := blk_cell X3.out.b0 0
          have q0 : w3.cell? ⟨w.heap.size + 1, 0, none⟩ = some (.int .u8 k2) := blk_cell X3.out.b1 0
          have p1 : w3.cell? ⟨w.heap.size, 1, none⟩ = some (.int .i64 n) := blk_cell X3.out.b0 1
          have q1 : w3.cell? ⟨w.heap.size + 1, 1, none⟩ = some (.int .i64 n2) := blk_cell X3.out.b1 1
          have p2 : w3.cell? ⟨w.heap.size, 2, none⟩ = some (.string st) := blk_cell X3.out.b0 2
          have q2 : w3.cell? ⟨w.heap.size + 1, 2, none⟩ = some (.string st2) := blk_cell X3.out.b1 2
          have p3 : w3.cell? ⟨w.heap.size, 3, none⟩ = some (.slice A m c) := blk_cell X3.out.b0 3
          have q3 : w3.cell? ⟨w.heap.size + 1, 3, none⟩ = some (.slice A2 m2 c2) := blk_cell X3.out.b1 3
          have p4 : w3.cell? ⟨w.heap.size, 4, none⟩ = some (.int .i64 r) := blk_cell X3.out.b0 4
          have q4 : w3.cell? ⟨w.heap.size + 1, 4, none⟩ = some (.int .i64 r2) := blk_cell X3.out.b1 4
          go_wp2_with fail
          refine (text_no (hv2.out.below X3.out.bel HS2.out) (BD.out _ X3.out).2 hf2.out (by omega) (TB.out _ X3.out) hb2.out).mono ?_
          rintro e w4 ⟨rfl, hb⟩
          have X4 := Lib.hid (X3.out.step hb)
          clear hb
          clear p0 p1 p2 p3 p4 q0 q1 q2 q3 q4
          have p0 : w4.cell? ⟨w.heap.size, 0, none⟩ = some (.int .u8 k) := blk_cell X4.out.b0 0
          have q0 : w4.cell? ⟨w.heap.size + 1, 0, none⟩ = some (.int .u8 k2) := blk_cell X4.out.b1 0
          have p1 : w4.cell? ⟨w.heap.size, 1, none⟩ = some (.int .i64 n) := blk_cell X4.out.b0 1
          have q1 : w4.cell? ⟨w.heap.size + 1, 1, none⟩ = some (.int .i64 n2) := blk_cell X4.out.b1 1
          have p2 : w4.cell? ⟨w.heap.size, 2, none⟩ = some (.string st) := blk_cell X4.out.b0 2
          have q2 : w4.cell? ⟨w.heap.size + 1, 2, none⟩ = some (.string st2) := blk_cell X4.out.b1 2
          have p3 : w4.cell? ⟨w.heap.size, 3, none⟩ = some (.slice A m c) := blk_cell X4.out.b0 3
          have q3 : w4.cell? ⟨w.heap.size + 1, 3, none⟩ = some (.slice A2 m2 c2) := blk_cell X4.out.b1 3
          have p4 : w4.cell? ⟨w.heap.size, 4, none⟩ = some (.int .i64 r) := blk_cell X4.out.b0 4
          have q4 : w4.cell? ⟨w.heap.size + 1, 4, none⟩ = some (.int .i64 r2) := blk_cell X4.out.b1 4
          go_wp2_with fail
          refine (M1.out _ X4.out).mono ?_
          rintro e w5 ⟨rfl, hb⟩
          rw [lm1.out, ha.out]
          have X5 := Lib.hid (X4.out.step hb)
          clear hb
          clear p0 p1 p2 p3 p4 q0 q1 q2 q3 q4
          have p0 : w5.cell? ⟨w.heap.size, 0, none⟩ = some (.int .u8 k) := blk_cell X5.out.b0 0
          have q0 : w5.cell? ⟨w.heap.size + 1, 0, none⟩ = some (.int .u8 k2) := blk_cell X5.out.b1 0
          have p1 : w5.cell? ⟨w.heap.size, 1, none⟩ = some (.int .i64 n) := blk_cell X5.out.b0 1
          have q1 : w5.cell? ⟨w.heap.size + 1, 1, none⟩ = some (.int .i64 n2) := blk_cell X5.out.b1 1
          have p2 : w5.cell? ⟨w.heap.size, 2, none⟩ = some (.string st) := blk_cell X5.out.b0 2
          have q2 : w5.cell? ⟨w.heap.size + 1, 2, none⟩ = some (.string st2) := blk_cell X5.out.b1 2
          have p3 : w5.cell? ⟨w.heap.size, 3, none⟩ = some (.slice A m c) := blk_cell X5.out.b0 3
          have q3 : w5.cell? ⟨w.heap.size + 1, 3, none⟩ = some (.slice A2 m2 c2) := blk_cell X5.out.b1 3
          have p4 : w5.cell? ⟨w.heap.size, 4, none⟩ = some (.int .i64 r) := blk_cell X5.out.b0 4
          have q4 : w5.cell? ⟨w.heap.size + 1, 4, none⟩ = some (.int .i64 r2) := blk_cell X5.out.b1 4
          go_wp2_with fail
          refine (M2.out _ X5.out).mono ?_
          rintro e w6 ⟨rfl, hb⟩
          rw [lm2.out, hb2.out]
          have X6 := Lib.hid (X5.out.step hb)
          clear hb
          clear p0 p1 p2 p3 p4 q0 q1 q2 q3 q4
          have p0 : w6.cell? ⟨w.heap.size, 0, none⟩ = some (.int .u8 k) := blk_cell X6.out.b0 0
          have q0 : w6.cell? ⟨w.heap.size + 1, 0, none⟩ = some (.int .u8 k2) := blk_cell X6.out.b1 0
          have p1 : w6.cell? ⟨w.heap.size, 1, none⟩ = some (.int .i64 n) := blk_cell X6.out.b0 1
          have q1 : w6.cell? ⟨w.heap.size + 1, 1, none⟩ = some (.int .i64 n2) := blk_cell X6.out.b1 1
          have p2 : w6.cell? ⟨w.heap.size, 2, none⟩ = some (.string st) := blk_cell X6.out.b0 2
          have q2 : w6.cell? ⟨w.heap.size + 1, 2, none⟩ = some (.string st2) := blk_cell X6.out.b1 2
          have p3 : w6.cell? ⟨w.heap.size, 3, none⟩ = some (.slice A m c) := blk_cell X6.out.b0 3
          have q3 : w6.cell? ⟨w.heap.size + 1, 3, none⟩ = some (.slice A2 m2 c2) := blk_cell X6.out.b1 3
          have p4 : w6.cell? ⟨w.heap.size, 4, none⟩ = some (.int .i64 r) := blk_cell X6.out.b0 4
          have q4 : w6.cell? ⟨w.heap.size + 1, 4, none⟩ = some (.int .i64 r2) := blk_cell X6.out.b1 4
          go_wp2_with fail
          refine (read_text_ok _ HL1.out ha.out hf.out).mono ?_
          rintro e w7 ⟨⟨k4, n4, st4, A4, m4, c4, r4, rfl, hv7⟩, hb⟩
          have X7 := Lib.hid (X6.out.step hb)
          have hv7 := Lib.hid hv7
          clear hb
          clear p0 p1 p2 p3 p4 q0 q1 q2 q3 q4
          have p0 : ∀ o, (w7.alloc o).cell? ⟨w.heap.size, 0, none⟩ = some (.int .u8 k) := fun o => blk_cell (X7.out.alloc o).b0 0
          have q0 : ∀ o, (w7.alloc o).cell? ⟨w.heap.size + 1, 0, none⟩ = some (.int .u8 k2) := fun o => blk_cell (X7.out.alloc o).b1 0
          have p1 : ∀ o, (w7.alloc o).cell? ⟨w.heap.size, 1, none⟩ = some (.int .i64 n) := fun o => blk_cell (X7.out.alloc o).b0 1
          have q1 : ∀ o, (w7.alloc o).cell? ⟨w.heap.size + 1, 1, none⟩ = some (.int .i64 n2) := fun o => blk_cell (X7.out.alloc o).b1 1
          have p2 : ∀ o, (w7.alloc o).cell? ⟨w.heap.size, 2, none⟩ = some (.string st) := fun o => blk_cell (X7.out.alloc o).b0 2
          have q2 : ∀ o, (w7.alloc o).cell? ⟨w.heap.size + 1, 2, none⟩ = some (.string st2) := fun o => blk_cell (X7.out.alloc o).b1 2
          have p3 : ∀ o, (w7.alloc o).cell? ⟨w.heap.size, 3, none⟩ = some (.slice A m c) := fun o => blk_cell (X7.out.alloc o).b0 3
          have q3 : ∀ o, (w7.alloc o).cell? ⟨w.heap.size + 1, 3, none⟩ = some (.slice A2 m2 c2) := fun o => blk_cell (X7.out.alloc o).b1 3
          have p4 : ∀ o, (w7.alloc o).cell? ⟨w.heap.size, 4, none⟩ = some (.int .i64 r) := fun o => blk_cell (X7.out.alloc o).b0 4
          have q4 : ∀ o, (w7.alloc o).cell? ⟨w.heap.size + 1, 4, none⟩ = some (.int .i64 r2) := fun o => blk_cell (X7.out.alloc o).b1 4
          go_wp2_with fail
          have X8 := Lib.hid (X7.out.alloc (.cells #[.int .u8 k4, .int .i64 n4, .string st4, .slice A4 m4 c4, .int .i64 r4] 26))
          refine (alike_any v v _ _ _ _ _ (hv7.out.below ((Below.refl _ _).alloc (Nat.le_refl _) _) (fun b h => h.2)) (hv.out.below X8.out.bel HS.out) (fun b h => by have := h.2; simp; omega) (BD.out _ X8.out).1).mono ?_
          rintro e w9 ⟨⟨bb, rfl, hbb⟩, hb⟩
          obtain rfl : bb = true := hbb.mpr rfl
          have X9 := Lib.hid (X8.out.step hb)
          clear hb hbb
          clear p0 p1 p2 p3 p4 q0 q1 q2 q3 q4
          have p0 : w9.cell? ⟨w.heap.size, 0, none⟩ = some (.int .u8 k) := blk_cell X9.out.b0 0
          have q0 : w9.cell? ⟨w.heap.size + 1, 0, none⟩ = some (.int .u8 k2) := blk_cell X9.out.b1 0
          have p1 : w9.cell? ⟨w.heap.size, 1, none⟩ = some (.int .i64 n) := blk_cell X9.out.b0 1
          have q1 : w9.cell? ⟨w.heap.size + 1, 1, none⟩ = some (.int .i64 n2) := blk_cell X9.out.b1 1
          have p2 : w9.cell? ⟨w.heap.size, 2, none⟩ = some (.string st) := blk_cell X9.out.b0 2
          have q2 : w9.cell? ⟨w.heap.size + 1, 2, none⟩ = some (.string st2) := blk_cell X9.out.b1 2
          have p3 : w9.cell? ⟨w.heap.size, 3, none⟩ = some (.slice A m c) := blk_cell X9.out.b0 3
          have q3 : w9.cell? ⟨w.heap.size + 1, 3, none⟩ = some (.slice A2 m2 c2) := blk_cell X9.out.b1 3
          have p4 : w9.cell? ⟨w.heap.size, 4, none⟩ = some (.int .i64 r) := blk_cell X9.out.b0 4
          have q4 : w9.cell? ⟨w.heap.size + 1, 4, none⟩ = some (.int .i64 r2) := blk_cell X9.out.b1 4
          go_wp2_with fail
          refine (read_no s _ hs HRD.out).mono ?_
          rintro e w10 ⟨⟨k3, n3, st3, A3, m3, c3, r3, pl, er, rfl, her⟩, hb⟩
          have X10 := Lib.hid (X9.out.step hb)
          clear hb
          go_wp2_with fail
          have X11 := Lib.hid (X10.out.alloc (.cells #[.int .u8 k3, .int .i64 n3, .string st3, .slice A3 m3 c3, .int .i64 r3] 26))
          refine (quote_is s _ (by omega)).mono ?_
          rintro e w12 ⟨rfl, hb⟩
          have X12 := Lib.hid (X11.out.step hb)
          clear hb
          go_wp2_with fail
          refine (unq_quote s _ hs).mono ?_
          rintro e w13 ⟨rfl, hb⟩
          have X13 := Lib.hid (X12.out.step hb)
          clear hb
          go_wp2_with fail
          refine (unq_no s _ hs HUQ.out).mono ?_
          rintro e w14 ⟨⟨u5, pl5, er5, rfl, her5⟩, hb⟩
          have X14 := Lib.hid (X13.out.step hb)
          clear hb
          go_wp2_with fail
          refine (AW.out _ X14.out).mono ?_
          rintro e w15 ⟨rfl, hb⟩
          have X15 := Lib.hid (X14.out.step hb)
          clear hb
          go_wp2
          go_ret
          exact ⟨rfl, X15.out.bel⟩
    | true =>
      have hb2 := Lib.hid hb'
      clear hb'
      by_cases hvv : v = v2
      · subst hvv
        by_cases hrd : (readF s).2.2 = 0
        · have HRD := Lib.hid hrd
          have HT := Lib.hid (readF_text s hrd)
          clear hrd
          by_cases huq : (unquoteF s).2.2 = 0
          · have HUQ := Lib.hid huq
            have HU := Lib.hid (unq_facts s hs huq)
            clear huq
            go_enter Tryd.func6, Tryd.ntmps6
            go_wp2_with fail
            refine (G1.out _ X0.out).mono ?_
            rintro e w1 ⟨rfl, hb⟩
            rw [← Hg1.out]
            have X1 := Lib.hid (X0.out.step hb)
            clear hb
            have p0 : w1.cell? ⟨w.heap.size, 0, none⟩ = some (.int .u8 k) := blk_cell X1.out.b0 0
            have q0 : w1.cell? ⟨w.heap.size + 1, 0, none⟩ = some (.int .u8 k2) := blk_cell X1.out.b1 0
            have p1 : w1.cell? ⟨w.heap.size, 1, none⟩ = some (.int .i64 n) := blk_cell X1.out.b0 1
            have q1 : w1.cell? ⟨w.heap.size + 1, 1, none⟩ = some (.int .i64 n2) := blk_cell X1.out.b1 1
            have p2 : w1.cell? ⟨w.heap.size, 2, none⟩ = some (.string st) := blk_cell X1.out.b0 2
            have q2 : w1.cell? ⟨w.heap.size + 1, 2, none⟩ = some (.string st2) := blk_cell X1.out.b1 2
            have p3 : w1.cell? ⟨w.heap.size, 3, none⟩ = some (.slice A m c) := blk_cell X1.out.b0 3
            have q3 : w1.cell? ⟨w.heap.size + 1, 3, none⟩ = some (.slice A2 m2 c2) := blk_cell X1.out.b1 3
            have p4 : w1.cell? ⟨w.heap.size, 4, none⟩ = some (.int .i64 r) := blk_cell X1.out.b0 4
            have q4 : w1.cell? ⟨w.heap.size + 1, 4, none⟩ = some (.int .i64 r2) := blk_cell X1.out.b1 4
            go_wp2_with fail
            refine (G2.out _ X1.out).mono ?_
            rintro e w2 ⟨rfl, hb⟩
            rw [← Hg2.out]
            have X2 := Lib.hid (X1.out.step hb)
            clear hb
            clear p0 p1 p2 p3 p4 q0 q1 q2 q3 q4
            have p0 : w2.cell? ⟨w.heap.size, 0, none⟩ = some (.int .u8 k) := blk_cell X2.out.b0 0
            have q0 : w2.cell? ⟨w.heap.size + 1, 0, none⟩ = some (.int .u8 k2) := blk_cell X2.out.b1 0
            have p1 : w2.cell? ⟨w.heap.size, 1, none⟩ = some (.int .i64 n) := blk_cell X2.out.b0 1
            have q1 : w2.cell? ⟨w.heap.size + 1, 1, none⟩ = some (.int .i64 n2) := blk_cell X2.out.b1 1
            have p2 : w2.cell? ⟨w.heap.size, 2, none⟩ = some (.string st) := blk_cell X2.out.b0 2
            have q2 : w2.cell? ⟨w.heap.size + 1, 2, none⟩ = some (.string st2) := blk_cell X2.out.b1 2
            have p3 : w2.cell? ⟨w.heap.size, 3, none⟩ = some (.slice A m c) := blk_cell X2.out.b0 3
            have q3 : w2.cell? ⟨w.heap.size + 1, 3, none⟩ = some (.slice A2 m2 c2) := blk_cell X2.out.b1 3
            have p4 : w2.cell? ⟨w.heap.size, 4, none⟩ = some (.int .i64 r) := blk_cell X2.out.b0 4
            have q4 : w2.cell? ⟨w.heap.size + 1, 4, none⟩ = some (.int .i64 r2) := blk_cell X2.out.b1 4
            go_wp2_with fail
            refine (text_yes (hv.out.below X2.out.bel HS.out) (BD.out _ X2.out).1 hf.out (by omega) (TB.out _ X2.out) ha.out).mono ?_
            rintro e w3 ⟨rfl, hb⟩
            have X3 := Lib.hid (X2.out.step hb)
            clear hb
            clear p0 p1 p2 p3 p4 q0 q1 q2 q3 q4
            have p0 : w3.cell? ⟨w.heap.size, 0, none⟩ = some (.int .u8 k) := blk_cell X3.out.b0 0
            have q0 : w3.cell? ⟨w.heap.size + 1, 0, none⟩ = some (.int .u8 k2) := blk_cell X3.out.b1 0
            have p1 : w3.cell? ⟨w.heap.size, 1, none⟩ = some (.int .i64 n) := blk_cell X3.out.b0 1
            have q1 : w3.cell? ⟨w.heap.size + 1, 1, none⟩ = some (.int .i64 n2) := blk_cell X3.out.b1 1
            have p2 : w3.cell? ⟨w.heap.size, 2, none⟩ = some (.string st) := blk_cell X3.out.b0 2
            have q2 : w3.cell? ⟨w.heap.size + 1, 2, none⟩ = some (.string st2) := blk_cell X3.out.b1 2
            have p3 : w3.cell? ⟨w.heap.size, 3, none⟩ = some (.slice A m c) := blk_cell X3.out.b0 3
            have q3 : w3.cell? ⟨w.heap.size + 1, 3, none⟩ = some (.slice A2 m2 c2) := blk_cell X3.out.b1 3
            have p4 : w3.cell? ⟨w.heap.size, 4, none⟩ = some (.int .i64 r) := blk_cell X3.out.b0 4
            have q4 : w3.cell? ⟨w.heap.size + 1, 4, none⟩ = some (.int .i64 r2) := blk_cell X3.out.b1 4
            go_wp2_with fail
            refine (text_yes (hv2.out.below X3.out.bel HS2.out) (BD.out _ X3.out).2 hf2.out (by omega) (TB.out _ X3.out) hb2.out).mono ?_
            rintro e w4 ⟨rfl, hb⟩
            have X4 := Lib.hid (X3.out.step hb)
            clear hb
            clear p0 p1 p2 p3 p4 q0 q1 q2 q3 q4
            have p0 : w4.cell? ⟨w.heap.size, 0, none⟩ = some (.int .u8 k) := blk_cell X4.out.b0 0
            have q0 : w4.cell? ⟨w.heap.size + 1, 0, none⟩ = some (.int .u8 k2) := blk_cell X4.out.b1 0
            have p1 : w4.cell? ⟨w.heap.size, 1, none⟩ = some (.int .i64 n) := blk_cell X4.out.b0 1
            have q1 : w4.cell? ⟨w.heap.size + 1, 1, none⟩ = some (.int .i64 n2) := blk_cell X4.out.b1 1
            have p2 : w4.cell? ⟨w.heap.size, 2, none⟩ = some (.string st) := blk_cell X4.out.b0 2
            have q2 : w4.cell? ⟨w.heap.size + 1, 2, none⟩ = some (.string st2) := blk_cell X4.out.b1 2
            have p3 : w4.cell? ⟨w.heap.size, 3, none⟩ = some (.slice A m c) := blk_cell X4.out.b0 3
            have q3 : w4.cell? ⟨w.heap.size + 1, 3, none⟩ = some (.slice A2 m2 c2) := blk_cell X4.out.b1 3
            have p4 : w4.cell? ⟨w.heap.size, 4, none⟩ = some (.int .i64 r) := blk_cell X4.out.b0 4
            have q4 : w4.cell? ⟨w.heap.size + 1, 4, none⟩ = some (.int .i64 r2) := blk_cell X4.out.b1 4
            go_wp2_with fail
            refine (M1.out _ X4.out).mono ?_
            rintro e w5 ⟨rfl, hb⟩
            rw [lm1.out, ha.out]
            have X5 := Lib.hid (X4.out.step hb)
            clear hb
            clear p0 p1 p2 p3 p4 q0 q1 q2 q3 q4
            have p0 : w5.cell? ⟨w.heap.size, 0, none⟩ = some (.int .u8 k) := blk_cell X5.out.b0 0
            have q0 : w5.cell? ⟨w.heap.size + 1, 0, none⟩ = some (.int .u8 k2) := blk_cell X5.out.b1 0
            have p1 : w5.cell? ⟨w.heap.size, 1, none⟩ = some (.int .i64 n) := blk_cell X5.out.b0 1
            have q1 : w5.cell? ⟨w.heap.size + 1, 1, none⟩ = some (.int .i64 n2) := blk_cell X5.out.b1 1
            have p2 : w5.cell? ⟨w.heap.size, 2, none⟩ = some (.string st) := blk_cell X5.out.b0 2
            have q2 : w5.cell? ⟨w.heap.size + 1, 2, none⟩ = some (.string st2) := blk_cell X5.out.b1 2
            have p3 : w5.cell? ⟨w.heap.size, 3, none⟩ = some (.slice A m c) := blk_cell X5.out.b0 3
            have q3 : w5.cell? ⟨w.heap.size + 1, 3, none⟩ = some (.slice A2 m2 c2) := blk_cell X5.out.b1 3
            have p4 : w5.cell? ⟨w.heap.size, 4, none⟩ = some (.int .i64 r) := blk_cell X5.out.b0 4
            have q4 : w5.cell? ⟨w.heap.size + 1, 4, none⟩ = some (.int .i64 r2) := blk_cell X5.out.b1 4
            go_wp2_with fail
            refine (M2.out _ X5.out).mono ?_
            rintro e w6 ⟨rfl, hb⟩
            rw [lm2.out, hb2.out]
            have X6 := Lib.hid (X5.out.step hb)
            clear hb
            clear p0 p1 p2 p3 p4 q0 q1 q2 q3 q4
            have p0 : w6.cell? ⟨w.heap.size, 0, none⟩ = some (.int .u8 k) := blk_cell X6.out.b0 0
            have q0 : w6.cell? ⟨w.heap.size + 1, 0, none⟩ = some (.int .u8 k2) := blk_cell X6.out.b1 0
            have p1 : w6.cell? ⟨w.heap.size, 1, none⟩ = some (.int .i64 n) := blk_cell X6.out.b0 1
            have q1 : w6.cell? ⟨w.heap.size + 1, 1, none⟩ = some (.int .i64 n2) := blk_cell X6.out.b1 1
            have p2 : w6.cell? ⟨w.heap.size, 2, none⟩ = some (.string st) := blk_cell X6.out.b0 2
            have q2 : w6.cell? ⟨w.heap.size + 1, 2, none⟩ = some (.string st2) := blk_cell X6.out.b1 2
            have p3 : w6.cell? ⟨w.heap.size, 3, none⟩ = some (.slice A m c) := blk_cell X6.out.b0 3
            have q3 : w6.cell? ⟨w.heap.size + 1, 3, none⟩ = some (.slice A2 m2 c2) := blk_cell X6.out.b1 3
            have p4 : w6.cell? ⟨w.heap.size, 4, none⟩ = some (.int .i64 r) := blk_cell X6.out.b0 4
            have q4 : w6.cell? ⟨w.heap.size + 1, 4, none⟩ = some (.int .i64 r2) := blk_cell X6.out.b1 4
            go_wp2_with fail
            refine (read_text_ok _ HL1.out ha.out hf.out).mono ?_
            rintro e w7 ⟨⟨k4, n4, st4, A4, m4, c4, r4, rfl, hv7⟩, hb⟩
            have X7 := Lib.hid (X6.out.step hb)
            have hv7 := Lib.hid hv7
            clear hb
            clear p0 p1 p2 p3 p4 q0 q1 q2 q3 q4
            have p0 : ∀ o, (w7.alloc o).cell? ⟨w.heap.size, 0, none⟩ = some (.int .u8 k) := fun o => blk_cell (X7.out.alloc o).b0 0
            have q0 : ∀ o, (w7.alloc o).cell? ⟨w.heap.size + 1, 0, none⟩ = some (.int .u8 k2) := fun o => blk_cell (X7.out.alloc o).b1 0
            have p1 : ∀ o, (w7.alloc o).cell? ⟨w.heap.size, 1, none⟩ = some (.int .i64 n) := fun o => blk_cell (X7.out.alloc o).b0 1
            have q1 : ∀ o, (w7.alloc o).cell? ⟨w.heap.size + 1, 1, none⟩ = some (.int .i64 n2) := fun o => blk_cell (X7.out.alloc o).b1 1
            have p2 : ∀ o, (w7.alloc o).cell? ⟨w.heap.size, 2, none⟩ = some (.string st) := fun o => blk_cell (X7.out.alloc o).b0 2
            have q2 : ∀ o, (w7.alloc o).cell? ⟨w.heap.size + 1, 2, none⟩ = some (.string st2) := fun o => blk_cell (X7.out.alloc o).b1 2
            have p3 : ∀ o, (w7.alloc o).cell? ⟨w.heap.size, 3, none⟩ = some (.slice A m c) := fun o => blk_cell (X7.out.alloc o).b0 3
            have q3 : ∀ o, (w7.alloc o).cell? ⟨w.heap.size + 1, 3, none⟩ = some (.slice A2 m2 c2) := fun o => blk_cell (X7.out.alloc o).b1 3
            have p4 : ∀ o, (w7.alloc o).cell? ⟨w.heap.size, 4, none⟩ = some (.int .i64 r) := fun o => blk_cell (X7.out.alloc o).b0 4
            have q4 : ∀ o, (w7.alloc o).cell? ⟨w.heap.size + 1, 4, none⟩ = some (.int .i64 r2) := fun o => blk_cell (X7.out.alloc o).b1 4
            go_wp2_with fail
            have X8 := Lib.hid (X7.out.alloc (.cells #[.int .u8 k4, .int .i64 n4, .string st4, .slice A4 m4 c4, .int .i64 r4] 26))
            refine (alike_any v v _ _ _ _ _ (hv7.out.below ((Below.refl _ _).alloc (Nat.le_refl _) _) (fun b h => h.2)) (hv.out.below X8.out.bel HS.out) (fun b h => by have := h.2; simp; omega) (BD.out _ X8.out).1).mono ?_
            rintro e w9 ⟨⟨bb, rfl, hbb⟩, hb⟩
            obtain rfl : bb = true := hbb.mpr rfl
            have X9 := Lib.hid (X8.out.step hb)
            clear hb hbb
            clear p0 p1 p2 p3 p4 q0 q1 q2 q3 q4
            have p0 : w9.cell? ⟨w.heap.size, 0, none⟩ = some (.int .u8 k) := blk_cell X9.out.b0 0
            have q0 : w9.cell? ⟨w.heap.size + 1, 0, none⟩ = some (.int .u8 k2) := blk_cell X9.out.b1 0
            have p1 : w9.cell? ⟨w.heap.size, 1, none⟩ = some (.int .i64 n) := blk_cell X9.out.b0 1
            have q1 : w9.cell? ⟨w.heap.size + 1, 1, none⟩ = some (.int .i64 n2) := blk_cell X9.out.b1 1
            have p2 : w9.cell? ⟨w.heap.size, 2, none⟩ = some (.string st) := blk_cell X9.out.b0 2
            have q2 : w9.cell? ⟨w.heap.size + 1, 2, none⟩ = some (.string st2) := blk_cell X9.out.b1 2
            have p3 : w9.cell? ⟨w.heap.size, 3, none⟩ = some (.slice A m c) := blk_cell X9.out.b0 3
            have q3 : w9.cell? ⟨w.heap.size + 1, 3, none⟩ = some (.slice A2 m2 c2) := blk_cell X9.out.b1 3
            have p4 : w9.cell? ⟨w.heap.size, 4, none⟩ = some (.int .i64 r) := blk_cell X9.out.b0 4
            have q4 : w9.cell? ⟨w.heap.size + 1, 4, none⟩ = some (.int .i64 r2) := blk_cell X9.out.b1 4
            go_wp2_with fail
            refine (alike_any v v _ _ _ _ _ (hv.out.below X9.out.bel HS.out) (hv2.out.below X9.out.bel HS2.out) (BD.out _ X9.out).1 (BD.out _ X9.out).2).mono ?_
            rintro e w10 ⟨⟨bb, rfl, hbb⟩, hb⟩
            obtain rfl : bb = true := hbb.mpr rfl
            have X10 := Lib.hid (X9.out.step hb)
            clear hb hbb
            clear p0 p1 p2 p3 p4 q0 q1 q2 q3 q4
            go_wp2_with fail
            refine (read_ok s _ hs HRD.out).mono ?_
            rintro e w11 ⟨⟨k3, n3, st3, A3, m3, c3, r3, rfl, hv3⟩, hb⟩
            have X11 := Lib.hid (X10.out.step hb)
            have hv3 := Lib.hid hv3
            clear hb
            go_wp2_with fail
            have X12 := Lib.hid (X11.out.alloc (.cells #[.int .u8 k3, .int .i64 n3, .string st3, .slice A3 m3 c3, .int .i64 r3] 26))
            have hv4 := Lib.hid (hv3.out.below ((Below.refl _ _).alloc (Nat.le_refl _) (.cells #[.int .u8 k3, .int .i64 n3, .string st3, .slice A3 m3 c3, .int .i64 r3] 26)) (fun b h => h.2))
            refine (text_yes hv4.out (fun b h => by have := h.2; simp; omega) HT.out.2.2.2 (by rw [HT.out.2.1, size_list]; omega) (TB.out _ X12.out) HT.out.1).mono ?_
            rw [HT.out.2.1, mk_list]
            rintro e w13 ⟨rfl, hb⟩
            have X13 := Lib.hid (X12.out.step hb)
            clear hb
            go_wp2_with fail
            refine (quote_is s _ (by omega)).mono ?_
            rintro e w14 ⟨rfl, hb⟩
            have X14 := Lib.hid (X13.out.step hb)
            clear hb
            go_wp2_with fail
            refine (unq_quote s _ hs).mono ?_
            rintro e w15 ⟨rfl, hb⟩
            have X15 := Lib.hid (X14.out.step hb)
            clear hb
            go_wp2_with fail
            refine (unq_ok s _ hs HUQ.out).mono ?_
            rintro e w16 ⟨rfl, hb⟩
            have X16 := Lib.hid (X15.out.step hb)
            clear hb
            go_wp2_with fail
            refine (quote_is _ _ HU.out.2).mono ?_
            rw [HU.out.1, mk_list]
            rintro e w17 ⟨rfl, hb⟩
            have X17 := Lib.hid (X16.out.step hb)
            clear hb
            go_wp2_with fail
            refine (AW.out _ X17.out).mono ?_
            rintro e w18 ⟨rfl, hb⟩
            have X18 := Lib.hid (X17.out.step hb)
            clear hb
            go_wp2
            go_ret
            exact ⟨rfl, X18.out.bel⟩
          · have HUQ := Lib.hid huq
            clear huq
            go_enter Tryd.func6, Tryd.ntmps6
            go_wp2_with fail
            refine (G1.out _ X0.out).mono ?_
            rintro e w1 ⟨rfl, hb⟩
            rw [← Hg1.out]
            have X1 := Lib.hid (X0.out.step hb)
            clear hb
            have p0 : w1.cell? ⟨w.heap.size, 0, none⟩ = some (.int .u8 k) := blk_cell X1.out.b0 0
            have q0 : w1.cell? ⟨w.heap.size + 1, 0, none⟩ = some (.int .u8 k2) := blk_cell X1.out.b1 0
            have p1 : w1.cell? ⟨w.heap.size, 1, none⟩ = some (.int .i64 n) := blk_cell X1.out.b0 1
            have q1 : w1.cell? ⟨w.heap.size + 1, 1, none⟩ = some (.int .i64 n2) := blk_cell X1.out.b1 1
            have p2 : w1.cell? ⟨w.heap.size, 2, none⟩ = some (.string st) := blk_cell X1.out.b0 2
            have q2 : w1.cell? ⟨w.heap.size + 1, 2, none⟩ = some (.string st2) := blk_cell X1.out.b1 2
            have p3 : w1.cell? ⟨w.heap.size, 3, none⟩ = some (.slice A m c) := blk_cell X1.out.b0 3
            have q3 : w1.cell? ⟨w.heap.size + 1, 3, none⟩ = some (.slice A2 m2 c2) := blk_cell X1.out.b1 3
            have p4 : w1.cell? ⟨w.heap.size, 4, none⟩ = some (.int .i64 r) := blk_cell X1.out.b0 4
            have q4 : w1.cell? ⟨w.heap.size + 1, 4, none⟩ = some (.int .i64 r2) := blk_cell X1.out.b1 4
            go_wp2_with fail
            refine (G2.out _ X1.out).mono ?_
            rintro e w2 ⟨rfl, hb⟩
            rw [← Hg2.out]
            have X2 := Lib.hid (X1.out.step hb)
            clear hb
            clear p0 p1 p2 p3 p4 q0 q1 q2 q3 q4
            have p0 : w2.cell? ⟨w.heap.size, 0, none⟩ = some (.int .u8 k) := blk_cell X2.out.b0 0
            have q0 : w2.cell? ⟨w.heap.size + 1, 0, none⟩ = some (.int .u8 k2) := blk_cell X2.out.b1 0
            have p1 : w2.cell? ⟨w.heap.size, 1, none⟩ = some (.int .i64 n) := blk_cell X2.out.b0 1
            have q1 : w2.cell? ⟨w.heap.size + 1, 1, none⟩ = some (.int .i64 n2) := blk_cell X2.out.b1 1
            have p2 : w2.cell? ⟨w.heap.size, 2, none⟩ = some (.string st) := blk_cell X2.out.b0 2
            have q2 : w2.cell? ⟨w.heap.size + 1, 2, none⟩ = some (.string st2) := blk_cell X2.out.b1 2
            have p3 : w2.cell? ⟨w.heap.size, 3, none⟩ = some (.slice A m c) := blk_cell X2.out.b0 3
            have q3 : w2.cell? ⟨w.heap.size + 1, 3, none⟩ = some (.slice A2 m2 c2) := blk_cell X2.out.b1 3
            have p4 : w2.cell? ⟨w.heap.size, 4, none⟩ = some (.int .i64 r) := blk_cell X2.out.b0 4
            have q4 : w2.cell? ⟨w.heap.size + 1, 4, none⟩ = some (.int .i64 r2) := blk_cell X2.out.b1 4
            go_wp2_with fail
            refine (text_yes (hv.out.below X2.out.bel HS.out) (BD.out _ X2.out).1 hf.out (by omega) (TB.out _ X2.out) ha.out).mono ?_
            rintro e w3 ⟨rfl, hb⟩
            have X3 := Lib.hid (X2.out.step hb)
            clear hb
            clear p0 p1 p2 p3 p4 q0 q1 q2 q3 q4
            have p0 : w3.cell? ⟨w.heap.size, 0, none⟩ = some (.int .u8 k) := blk_cell X3.out.b0 0
            have q0 : w3.cell? ⟨w.heap.size + 1, 0, none⟩ = some (.int .u8 k2) := blk_cell X3.out.b1 0
            have p1 : w3.cell? ⟨w.heap.size, 1, none⟩ = some (.int .i64 n) := blk_cell X3.out.b0 1
            have q1 : w3.cell? ⟨w.heap.size + 1, 1, none⟩ = some (.int .i64 n2) := blk_cell X3.out.b1 1
            have p2 : w3.cell? ⟨w.heap.size, 2, none⟩ = some (.string st) := blk_cell X3.out.b0 2
            have q2 : w3.cell? ⟨w.heap.size + 1, 2, none⟩ = some (.string st2) := blk_cell X3.out.b1 2
            have p3 : w3.cell? ⟨w.heap.size, 3, none⟩ = some (.slice A m c) := blk_cell X3.out.b0 3
            have q3 : w3.cell? ⟨w.heap.size + 1, 3, none⟩ = some (.slice A2 m2 c2) := blk_cell X3.out.b1 3
            have p4 : w3.cell? ⟨w.heap.size, 4, none⟩ = some (.int .i64 r) := blk_cell X3.out.b0 4
            have q4 : w3.cell? ⟨w.heap.size + 1, 4, none⟩ = some (.int .i64 r2) := blk_cell X3.out.b1 4
            go_wp2_with fail
            refine (text_yes (hv2.out.below X3.out.bel HS2.out) (BD.out _ X3.out).2 hf2.out (by omega) (TB.out _ X3.out) hb2.out).mono ?_
            rintro e w4 ⟨rfl, hb⟩
            have X4 := Lib.hid (X3.out.step hb)
            clear hb
            clear p0 p1 p2 p3 p4 q0 q1 q2 q3 q4
            have p0 : w4.cell? ⟨w.heap.size, 0, none⟩ = some (.int .u8 k) := blk_cell X4.out.b0 0
            have q0 : w4.cell? ⟨w.heap.size + 1, 0, none⟩ = some (.int .u8 k2) := blk_cell X4.out.b1 0
            have p1 : w4.cell? ⟨w.heap.size, 1, none⟩ = some (.int .i64 n) := blk_cell X4.out.b0 1
            have q1 : w4.cell? ⟨w.heap.size + 1, 1, none⟩ = some (.int .i64 n2) := blk_cell X4.out.b1 1
            have p2 : w4.cell? ⟨w.heap.size, 2, none⟩ = some (.string st) := blk_cell X4.out.b0 2
            have q2 : w4.cell? ⟨w.heap.size + 1, 2, none⟩ = some (.string st2) := blk_cell X4.out.b1 2
            have p3 : w4.cell? ⟨w.heap.size, 3, none⟩ = some (.slice A m c) := blk_cell X4.out.b0 3
            have q3 : w4.cell? ⟨w.heap.size + 1, 3, none⟩ = some (.slice A2 m2 c2) := blk_cell X4.out.b1 3
            have p4 : w4.cell? ⟨w.heap.size, 4, none⟩ = some (.int .i64 r) := blk_cell X4.out.b0 4
            have q4 : w4.cell? ⟨w.heap.size + 1, 4, none⟩ = some (.int .i64 r2) := blk_cell X4.out.b1 4
            go_wp2_with fail
            refine (M1.out _ X4.out).mono ?_
            rintro e w5 ⟨rfl, hb⟩
            rw [lm1.out, ha.out]
            have X5 := Lib.hid (X4.out.step hb)
            clear hb
            clear p0 p1 p2 p3 p4 q0 q1 q2 q3 q4
            have p0 : w5.cell? ⟨w.heap.size, 0, none⟩ = some (.int .u8 k) := blk_cell X5.out.b0 0
            have q0 : w5.cell? ⟨w.heap.size + 1, 0, none⟩ = some (.int .u8 k2) := blk_cell X5.out.b1 0
            have p1 : w5.cell? ⟨w.heap.size, 1, none⟩ = some (.int .i64 n) := blk_cell X5.out.b0 1
            have q1 : w5.cell? ⟨w.heap.size + 1, 1, none⟩ = some (.int .i64 n2) := blk_cell X5.out.b1 1
            have p2 : w5.cell? ⟨w.heap.size, 2, none⟩ = some (.string st) := blk_cell X5.out.b0 2
            have q2 : w5.cell? ⟨w.heap.size + 1, 2, none⟩ = some (.string st2) := blk_cell X5.out.b1 2
            have p3 : w5.cell? ⟨w.heap.size, 3, none⟩ = some (.slice A m c) := blk_cell X5.out.b0 3
            have q3 : w5.cell? ⟨w.heap.size + 1, 3, none⟩ = some (.slice A2 m2 c2) := blk_cell X5.out.b1 3
            have p4 : w5.cell? ⟨w.heap.size, 4, none⟩ = some (.int .i64 r) := blk_cell X5.out.b0 4
            have q4 : w5.cell? ⟨w.heap.size + 1, 4, none⟩ = some (.int .i64 r2) := blk_cell X5.out.b1 4
            go_wp2_with fail
            refine (M2.out _ X5.out).mono ?_
            rintro e w6 ⟨rfl, hb⟩
            rw [lm2.out, hb2.out]
            have X6 := Lib.hid (X5.out.step hb)
            clear hb
            clear p0 p1 p2 p3 p4 q0 q1 q2 q3 q4
            have p0 : w6.cell? ⟨w.heap.size, 0, none⟩ = some (.int .u8 k) := blk_cell X6.out.b0 0
            have q0 : w6.cell? ⟨w.heap.size + 1, 0, none⟩ = some (.int .u8 k2) := blk_cell X6.out.b1 0
            have p1 : w6.cell? ⟨w.heap.size, 1, none⟩ = some (.int .i64 n) := blk_cell X6.out.b0 1
            have q1 : w6.cell? ⟨w.heap.size + 1, 1, none⟩ = some (.int .i64 n2) := blk_cell X6.out.b1 1
            have p2 : w6.cell? ⟨w.heap.size, 2, none⟩ = some (.string st) := blk_cell X6.out.b0 2
            have q2 : w6.cell? ⟨w.heap.size + 1, 2, none⟩ = some (.string st2) := blk_cell X6.out.b1 2
            have p3 : w6.cell? ⟨w.heap.size, 3, none⟩ = some (.slice A m c) := blk_cell X6.out.b0 3
            have q3 : w6.cell? ⟨w.heap.size + 1, 3, none⟩ = some (.slice A2 m2 c2) := blk_cell X6.out.b1 3
            have p4 : w6.cell? ⟨w.heap.size, 4, none⟩ = some (.int .i64 r) := blk_cell X6.out.b0 4
            have q4 : w6.cell? ⟨w.heap.size + 1, 4, none⟩ = some (.int .i64 r2) := blk_cell X6.out.b1 4
            go_wp2_with fail
            refine (read_text_ok _ HL1.out ha.out hf.out).mono ?_
            rintro e w7 ⟨⟨k4, n4, st4, A4, m4, c4, r4, rfl, hv7⟩, hb⟩
            have X7 := Lib.hid (X6.out.step hb)
            have hv7 := Lib.hid hv7
            clear hb
            clear p0 p1 p2 p3 p4 q0 q1 q2 q3 q4
            have p0 : ∀ o, (w7.alloc o).cell? ⟨w.heap.size, 0, none⟩ = some (.int .u8 k) := fun o => blk_cell (X7.out.alloc o).b0 0
            have q0 : ∀ o, (w7.alloc o).cell? ⟨w.heap.size + 1, 0, none⟩ = some (.int .u8 k2) := fun o => blk_cell (X7.out.alloc o).b1 0
            have p1 : ∀ o, (w7.alloc o).cell? ⟨w.heap.size, 1, none⟩ = some (.int .i64 n) := fun o => blk_cell (X7.out.alloc o).b0 1
            have q1 : ∀ o, (w7.alloc o).cell? ⟨w.heap.size + 1, 1, none⟩ = some (.int .i64 n2) := fun o => blk_cell (X7.out.alloc o).b1 1
            have p2 : ∀ o, (w7.alloc o).cell? ⟨w.heap.size, 2, none⟩ = some (.string st) := fun o => blk_cell (X7.out.alloc o).b0 2
            have q2 : ∀ o, (w7.alloc o).cell? ⟨w.heap.size + 1, 2, none⟩ = some (.string st2) := fun o => blk_cell (X7.out.alloc o).b1 2
            have p3 : ∀ o, (w7.alloc o).cell? ⟨w.heap.size, 3, none⟩ = some (.slice A m c) := fun o => blk_cell (X7.out.alloc o).b0 3
            have q3 : ∀ o, (w7.alloc o).cell? ⟨w.heap.size + 1, 3, none⟩ = some (.slice A2 m2 c2) := fun o => blk_cell (X7.out.alloc o).b1 3
            have p4 : ∀ o, (w7.alloc o).cell? ⟨w.heap.size, 4, none⟩ = some (.int .i64 r) := fun o => blk_cell (X7.out.alloc o).b0 4
            have q4 : ∀ o, (w7.alloc o).cell? ⟨w.heap.size + 1, 4, none⟩ = some (.int .i64 r2) := fun o => blk_cell (X7.out.alloc o).b1 4
            go_wp2_with fail
            have X8 := Lib.hid (X7.out.alloc (.cells #[.int .u8 k4, .int .i64 n4, .string st4, .slice A4 m4 c4, .int .i64 r4] 26))
            refine (alike_any v v _ _ _ _ _ (hv7.out.below ((Below.refl _ _).alloc (Nat.le_refl _) _) (fun b h => h.2)) (hv.out.below X8.out.bel HS.out) (fun b h => by have := h.2; simp; omega) (BD.out _ X8.out).1).mono ?_
            rintro e w9 ⟨⟨bb, rfl, hbb⟩, hb⟩
            obtain rfl : bb = true := hbb.mpr rfl
            have X9 := Lib.hid (X8.out.step hb)
            clear hb hbb
            clear p0 p1 p2 p3 p4 q0 q1 q2 q3 q4
            have p0 : w9.cell? ⟨w.heap.size, 0, none⟩ = some (.int .u8 k) := blk_cell X9.out.b0 0
            have q0 : w9.cell? ⟨w.heap.size + 1, 0, none⟩ = some (.int .u8 k2) := blk_cell X9.out.b1 0
            have p1 : w9.cell? ⟨w.heap.size, 1, none⟩ = some (.int .i64 n) := blk_cell X9.out.b0 1
            have q1 : w9.cell? ⟨w.heap.size + 1, 1, none⟩ = some (.int .i64 n2) := blk_cell X9.out.b1 1
            have p2 : w9.cell? ⟨w.heap.size, 2, none⟩ = some (.string st) := blk_cell X9.out.b0 2
            have q2 : w9.cell? ⟨w.heap.size + 1, 2, none⟩ = some (.string st2) := blk_cell X9.out.b1 2
            have p3 : w9.cell? ⟨w.heap.size, 3, none⟩ = some (.slice A m c) := blk_cell X9.out.b0 3
            have q3 : w9.cell? ⟨w.heap.size + 1, 3, none⟩ = some (.slice A2 m2 c2) := blk_cell X9.out.b1 3
            have p4 : w9.cell? ⟨w.heap.size, 4, none⟩ = some (.int .i64 r) := blk_cell X9.out.b0 4
            have q4 : w9.cell? ⟨w.heap.size + 1, 4, none⟩ = some (.int .i64 r2) := blk_cell X9.out.b1 4
            go_wp2_with fail
            refine (alike_any v v _ _ _ _ _ (hv.out.below X9.out.bel HS.out) (hv2.out.below X9.out.bel HS2.out) (BD.out _ X9.out).1 (BD.out _ X9.out).2).mono ?_
            rintro e w10 ⟨⟨bb, rfl, hbb⟩, hb⟩
            obtain rfl : bb = true := hbb.mpr rfl
            have X10 := Lib.hid (X9.out.step hb)
            clear hb hbb
            clear p0 p1 p2 p3 p4 q0 q1 q2 q3 q4
            go_wp2_with fail
            refine (read_ok s _ hs HRD.out).mono ?_
            rintro e w11 ⟨⟨k3, n3, st3, A3, m3, c3, r3, rfl, hv3⟩, hb⟩
            have X11 := Lib.hid (X10.out.step hb)
            have hv3 := Lib.hid hv3
            clear hb
            go_wp2_with fail
            have X12 := Lib.hid (X11.out.alloc (.cells #[.int .u8 k3, .int .i64 n3, .string st3, .slice A3 m3 c3, .int .i64 r3] 26))
            have hv4 := Lib.hid (hv3.out.below ((Below.refl _ _).alloc (Nat.le_refl _) (.cells #[.int .u8 k3, .int .i64 n3, .string st3, .slice A3 m3 c3, .int .i64 r3] 26)) (fun b h => h.2))
            refine (text_yes hv4.out (fun b h => by have := h.2; simp; omega) HT.out.2.2.2 (by rw [HT.out.2.1, size_list]; omega) (TB.out _ X12.out) HT.out.1).mono ?_
            rw [HT.out.2.1, mk_list]
            rintro e w13 ⟨rfl, hb⟩
            have X13 := Lib.hid (X12.out.step hb)
            clear hb
            go_wp2_with fail
            refine (quote_is s _ (by omega)).mono ?_
            rintro e w14 ⟨rfl, hb⟩
            have X14 := Lib.hid (X13.out.step hb)
            clear hb
            go_wp2_with fail
            refine (unq_quote s _ hs).mono ?_
            rintro e w15 ⟨rfl, hb⟩
            have X15 := Lib.hid (X14.out.step hb)
            clear hb
            go_wp2_with fail
            refine (unq_no s _ hs HUQ.out).mono ?_
            rintro e w16 ⟨⟨u5, pl5, er5, rfl, her5⟩, hb⟩
            have X16 := Lib.hid (X15.out.step hb)
            clear hb
            go_wp2_with fail
            refine (AW.out _ X16.out).mono ?_
            rintro e w17 ⟨rfl, hb⟩
            have X17 := Lib.hid (X16.out.step hb)
            clear hb
            go_wp2
            go_ret
            exact ⟨rfl, X17.out.bel⟩
        · have HRD := Lib.hid hrd
          clear hrd
          by_cases huq : (unquoteF s).2.2 = 0
          · have HUQ := Lib.hid huq
            have HU := Lib.hid (unq_facts s hs huq)
            clear huq
            go_enter Tryd.func6, Tryd.ntmps6
            go_wp2_with fail
            refine (G1.out _ X0.out).mono ?_
            rintro e w1 ⟨rfl, hb⟩
            rw [← Hg1.out]
            have X1 := Lib.hid (X0.out.step hb)
            clear hb
            have p0 : w1.cell? ⟨w.heap.size, 0, none⟩ = some (.int .u8 k) := blk_cell X1.out.b0 0
            have q0 : w1.cell? ⟨w.heap.size + 1, 0, none⟩ = some (.int .u8 k2) := blk_cell X1.out.b1 0
            have p1 : w1.cell? ⟨w.heap.size, 1, none⟩ = some (.int .i64 n) := blk_cell X1.out.b0 1
            have q1 : w1.cell? ⟨w.heap.size + 1, 1, none⟩ = some (.int .i64 n2) := blk_cell X1.out.b1 1
            have p2 : w1.cell? ⟨w.heap.size, 2, none⟩ = some (.string st) := blk_cell X1.out.b0 2
            have q2 : w1.cell? ⟨w.heap.size + 1, 2, none⟩ = some (.string st2) := blk_cell X1.out.b1 2
            have p3 : w1.cell? ⟨w.heap.size, 3, none⟩ = some (.slice A m c) := blk_cell X1.out.b0 3
            have q3 : w1.cell? ⟨w.heap.size + 1, 3, none⟩ = some (.slice A2 m2 c2) := blk_cell X1.out.b1 3
            have p4 : w1.cell? ⟨w.heap.size, 4, none⟩ = some (.int .i64 r) := blk_cell X1.out.b0 4
            have q4 : w1.cell? ⟨w.heap.size + 1, 4, none⟩ = some (.int .i64 r2) := blk_cell X1.out.b1 4
            go_wp2_with fail
            refine (G2.out _ X1.out).mono ?_
            rintro e w2 ⟨rfl, hb⟩
            rw [← Hg2.out]
            have X2 := Lib.hid (X1.out.step hb)
            clear hb
            clear p0 p1 p2 p3 p4 q0 q1 q2 q3 q4
            have p0 : w2.cell? ⟨w.heap.size, 0, none⟩ = some (.int .u8 k) := blk_cell X2.out.b0 0
            have q0 : w2.cell? ⟨w.heap.size + 1, 0, none⟩ = some (.int .u8 k2) := blk_cell X2.out.b1 0
            have p1 : w2.cell? ⟨w.heap.size, 1, none⟩ = some (.int .i64 n) := blk_cell X2.out.b0 1
            have q1 : w2.cell? ⟨w.heap.size + 1, 1, none⟩ = some (.int .i64 n2) := blk_cell X2.out.b1 1
            have p2 : w2.cell? ⟨w.heap.size, 2, none⟩ = some (.string st) := blk_cell X2.out.b0 2
            have q2 : w2.cell? ⟨w.heap.size + 1, 2, none⟩ = some (.string st2) := blk_cell X2.out.b1 2
            have p3 : w2.cell? ⟨w.heap.size, 3, none⟩ = some (.slice A m c) := blk_cell X2.out.b0 3
            have q3 : w2.cell? ⟨w.heap.size + 1, 3, none⟩ = some (.slice A2 m2 c2) := blk_cell X2.out.b1 3
            have p4 : w2.cell? ⟨w.heap.size, 4, none⟩ = some (.int .i64 r) := blk_cell X2.out.b0 4
            have q4 : w2.cell? ⟨w.heap.size + 1, 4, none⟩ = some (.int .i64 r2) := blk_cell X2.out.b1 4
            go_wp2_with fail
            refine (text_yes (hv.out.below X2.out.bel HS.out) (BD.out _ X2.out).1 hf.out (by omega) (TB.out _ X2.out) ha.out).mono ?_
            rintro e w3 ⟨rfl, hb⟩
            have X3 := Lib.hid (X2.out.step hb)
            clear hb
            clear p0 p1 p2 p3 p4 q0 q1 q2 q3 q4
            have p0 : w3.cell? ⟨w.heap.size, 0, none⟩ = some (.int .u8 k) := blk_cell X3.out.b0 0
            have q0 : w3.cell? ⟨w.heap.size + 1, 0, none⟩ = some (.int .u8 k2) := blk_cell X3.out.b1 0
            have p1 : w3.cell? ⟨w.heap.size, 1, none⟩ = some (.int .i64 n) := blk_cell X3.out.b0 1
            have q1 : w3.cell? ⟨w.heap.size + 1, 1, none⟩ = some (.int .i64 n2) := blk_cell X3.out.b1 1
            have p2 : w3.cell? ⟨w.heap.size, 2, none⟩ = some (.string st) := blk_cell X3.out.b0 2
            have q2 : w3.cell? ⟨w.heap.size + 1, 2, none⟩ = some (.string st2) := blk_cell X3.out.b1 2
            have p3 : w3.cell? ⟨w.heap.size, 3, none⟩ = some (.slice A m c) := blk_cell X3.out.b0 3
            have q3 : w3.cell? ⟨w.heap.size + 1, 3, none⟩ = some (.slice A2 m2 c2) := blk_cell X3.out.b1 3
            have p4 : w3.cell? ⟨w.heap.size, 4, none⟩ = some (.int .i64 r) := blk_cell X3.out.b0 4
            have q4 : w3.cell? ⟨w.heap.size + 1, 4, none⟩ = some (.int .i64 r2) := blk_cell X3.out.b1 4
            go_wp2_with fail
            refine (text_yes (hv2.out.below X3.out.bel HS2.out) (BD.out _ X3.out).2 hf2.out (by omega) (TB.out _ X3.out) hb2.out).mono ?_
            rintro e w4 ⟨rfl, hb⟩
            have X4 := Lib.hid (X3.out.step hb)
            clear hb
            clear p0 p1 p2 p3 p4 q0 q1 q2 q3 q4
            have p0 : w4.cell? ⟨w.heap.size, 0, none⟩ = some (.int .u8 k) := blk_cell X4.out.b0 0
            have q0 : w4.cell? ⟨w.heap.size + 1, 0, none⟩ = some (.int .u8 k2) := blk_cell X4.out.b1 0
            have p1 : w4.cell? ⟨w.heap.size, 1, none⟩ = some (.int .i64 n) := blk_cell X4.out.b0 1
            have q1 : w4.cell? ⟨w.heap.size + 1, 1, none⟩ = some (.int .i64 n2) := blk_cell X4.out.b1 1
            have p2 : w4.cell? ⟨w.heap.size, 2, none⟩ = some (.string st) := blk_cell X4.out.b0 2
            have q2 : w4.cell? ⟨w.heap.size + 1, 2, none⟩ = some (.string st2) := blk_cell X4.out.b1 2
            have p3 : w4.cell? ⟨w.heap.size, 3, none⟩ = some (.slice A m c) := blk_cell X4.out.b0 3
            have q3 : w4.cell? ⟨w.heap.size + 1, 3, none⟩ = some (.slice A2 m2 c2) := blk_cell X4.out.b1 3
            have p4 : w4.cell? ⟨w.heap.size, 4, none⟩ = some (.int .i64 r) := blk_cell X4.out.b0 4
            have q4 : w4.cell? ⟨w.heap.size + 1, 4, none⟩ = some (.int .i64 r2) := blk_cell X4.out.b1 4
            go_wp2_with fail
            refine (M1.out _ X4.out).mono ?_
            rintro e w5 ⟨rfl, hb⟩
            rw [lm1.out, ha.out]
            have X5 := Lib.hid (X4.out.step hb)
            clear hb
            clear p0 p1 p2 p3 p4 q0 q1 q2 q3 q4
            have p0 : w5.cell? ⟨w.heap.size, 0, none⟩ = some (.int .u8 k) := blk_cell X5.out.b0 0
            have q0 : w5.cell? ⟨w.heap.size + 1, 0, none⟩ = some (.int .u8 k2) := blk_cell X5.out.b1 0
            have p1 : w5.cell? ⟨w.heap.size, 1, none⟩ = some (.int .i64 n) := blk_cell X5.out.b0 1
            have q1 : w5.cell? ⟨w.heap.size + 1, 1, none⟩ = some (.int .i64 n2) := blk_cell X5.out.b1 1
            have p2 : w5.cell? ⟨w.heap.size, 2, none⟩ = some (.string st) := blk_cell X5.out.b0 2
            have q2 : w5.cell? ⟨w.heap.size + 1, 2, none⟩ = some (.string st2) := blk_cell X5.out.b1 2
            have p3 : w5.cell? ⟨w.heap.size, 3, none⟩ = some (.slice A m c) := blk_cell X5.out.b0 3
            have q3 : w5.cell? ⟨w.heap.size + 1, 3, none⟩ = some (.slice A2 m2 c2) := blk_cell X5.out.b1 3
            have p4 : w5.cell? ⟨w.heap.size, 4, none⟩ = some (.int .i64 r) := blk_cell X5.out.b0 4
            have q4 : w5.cell? ⟨w.heap.size + 1, 4, none⟩ = some (.int .i64 r2) := blk_cell X5.out.b1 4
            go_wp2_with fail
            refine (M2.out _ X5.out).mono ?_
            rintro e w6 ⟨rfl, hb⟩
            rw [lm2.out, hb2.out]
            have X6 := Lib.hid (X5.out.step hb)
            clear hb
            clear p0 p1 p2 p3 p4 q0 q1 q2 q3 q4
            have p0 : w6.cell? ⟨w.heap.size, 0, none⟩ = some (.int .u8 k) := blk_cell X6.out.b0 0
            have q0 : w6.cell? ⟨w.heap.size + 1, 0, none⟩ = some (.int .u8 k2) := blk_cell X6.out.b1 0
            have p1 : w6.cell? ⟨w.heap.size, 1, none⟩ = some (.int .i64 n) := blk_cell X6.out.b0 1
            have q1 : w6.cell? ⟨w.heap.size + 1, 1, none⟩ = some (.int .i64 n2) := blk_cell X6.out.b1 1
            have p2 : w6.cell? ⟨w.heap.size, 2, none⟩ = some (.string st) := blk_cell X6.out.b0 2
            have q2 : w6.cell? ⟨w.heap.size + 1, 2, none⟩ = some (.string st2) := blk_cell X6.out.b1 2
            have p3 : w6.cell? ⟨w.heap.size, 3, none⟩ = some (.slice A m c) := blk_cell X6.out.b0 3
            have q3 : w6.cell? ⟨w.heap.size + 1, 3, none⟩ = some (.slice A2 m2 c2) := blk_cell X6.out.b1 3
            have p4 : w6.cell? ⟨w.heap.size, 4, none⟩ = some (.int .i64 r) := blk_cell X6.out.b0 4
            have q4 : w6.cell? ⟨w.heap.size + 1, 4, none⟩ = some (.int .i64 r2) := blk_cell X6.out.b1 4
            go_wp2_with fail
            refine (read_text_ok _ HL1.out ha.out hf.out).mono ?_
            rintro e w7 ⟨⟨k4, n4, st4, A4, m4, c4, r4, rfl, hv7⟩, hb⟩
            have X7 := Lib.hid (X6.out.step hb)
            have hv7 := Lib.hid hv7
            clear hb
            clear p0 p1 p2 p3 p4 q0 q1 q2 q3 q4
            have p0 : ∀ o, (w7.alloc o).cell? ⟨w.heap.size, 0, none⟩ = some (.int .u8 k) := fun o => blk_cell (X7.out.alloc o).b0 0
            have q0 : ∀ o, (w7.alloc o).cell? ⟨w.heap.size + 1, 0, none⟩ = some (.int .u8 k2) := fun o => blk_cell (X7.out.alloc o).b1 0
            have p1 : ∀ o, (w7.alloc o).cell? ⟨w.heap.size, 1, none⟩ = some (.int .i64 n) := fun o => blk_cell (X7.out.alloc o).b0 1
            have q1 : ∀ o, (w7.alloc o).cell? ⟨w.heap.size + 1, 1, none⟩ = some (.int .i64 n2) := fun o => blk_cell (X7.out.alloc o).b1 1
            have p2 : ∀ o, (w7.alloc o).cell? ⟨w.heap.size, 2, none⟩ = some (.string st) := fun o => blk_cell (X7.out.alloc o).b0 2
            have q2 : ∀ o, (w7.alloc o).cell? ⟨w.heap.size + 1, 2, none⟩ = some (.string st2) := fun o => blk_cell (X7.out.alloc o).b1 2
            have p3 : ∀ o, (w7.alloc o).cell? ⟨w.heap.size, 3, none⟩ = some (.slice A m c) := fun o => blk_cell (X7.out.alloc o).b0 3
            have q3 : ∀ o, (w7.alloc o).cell? ⟨w.heap.size + 1, 3, none⟩ = some (.slice A2 m2 c2) := fun o => blk_cell (X7.out.alloc o).b1 3
            have p4 : ∀ o, (w7.alloc o).cell? ⟨w.heap.size, 4, none⟩ = some (.int .i64 r) := fun o => blk_cell (X7.out.alloc o).b0 4
            have q4 : ∀ o, (w7.alloc o).cell? ⟨w.heap.size + 1, 4, none⟩ = some (.int .i64 r2) := fun o => blk_cell (X7.out.alloc o).b1 4
            go_wp2_with fail
            have X8 := Lib.hid (X7.out.alloc (.cells #[.int .u8 k4, .int .i64 n4, .string st4, .slice A4 m4 c4, .int .i64 r4] 26))
            refine (alike_any v v _ _ _ _ _ (hv7.out.below ((Below.refl _ _).alloc (Nat.le_refl _) _) (fun b h => h.2)) (hv.out.below X8.out.bel HS.out) (fun b h => by have := h.2; simp; omega) (BD.out _ X8.out).1).mono ?_
            rintro e w9 ⟨⟨bb, rfl, hbb⟩, hb⟩
            obtain rfl : bb = true := hbb.mpr rfl
            have X9 := Lib.hid (X8.out.step hb)
            clear hb hbb
            clear p0 p1 p2 p3 p4 q0 q1 q2 q3 q4
            have p0 : w9.cell? ⟨w.heap.size, 0, none⟩ = some (.int .u8 k) := blk_cell X9.out.b0 0
            have q0 : w9.cell? ⟨w.heap.size + 1, 0, none⟩ = some (.int .u8 k2) := blk_cell X9.out.b1 0
            have p1 : w9.cell? ⟨w.heap.size, 1, none⟩ = some (.int .i64 n) := blk_cell X9.out.b0 1
            have q1 : w9.cell? ⟨w.heap.size + 1, 1, none⟩ = some (.int .i64 n2) := blk_cell X9.out.b1 1
            have p2 : w9.cell? ⟨w.heap.size, 2, none⟩ = some (.string st) := blk_cell X9.out.b0 2
            have q2 : w9.cell? ⟨w.heap.size + 1, 2, none⟩ = some (.string st2) := blk_cell X9.out.b1 2
            have p3 : w9.cell? ⟨w.heap.size, 3, none⟩ = some (.slice A m c) := blk_cell X9.out.b0 3
            have q3 : w9.cell? ⟨w.heap.size + 1, 3, none⟩ = some (.slice A2 m2 c2) := blk_cell X9.out.b1 3
            have p4 : w9.cell? ⟨w.heap.size, 4, none⟩ = some (.int .i64 r) := blk_cell X9.out.b0 4
            have q4 : w9.cell? ⟨w.heap.size + 1, 4, none⟩ = some (.int .i64 r2) := blk_cell X9.out.b1 4
            go_wp2_with fail
            refine (alike_any v v _ _ _ _ _ (hv.out.below X9.out.bel HS.out) (hv2.out.below X9.out.bel HS2.out) (BD.out _ X9.out).1 (BD.out _ X9.out).2).mono ?_
            rintro e w10 ⟨⟨bb, rfl, hbb⟩, hb⟩
            obtain rfl : bb = true := hbb.mpr rfl
            have X10 := Lib.hid (X9.out.step hb)
            clear hb hbb
            clear p0 p1 p2 p3 p4 q0 q1 q2 q3 q4
            go_wp2_with fail
            refine (read_no s _ hs HRD.out).mono ?_
            rintro e w11 ⟨⟨k3, n3, st3, A3, m3, c3, r3, pl, er, rfl, her⟩, hb⟩
            have X11 := Lib.hid (X10.out.step hb)
            clear hb
            go_wp2_with fail
            have X12 := Lib.hid (X11.out.alloc (.cells #[.int .u8 k3, .int .i64 n3, .string st3, .slice A3 m3 c3, .int .i64 r3] 26))
            refine (quote_is s _ (by omega)).mono ?_
            rintro e w13 ⟨rfl, hb⟩
            have X13 := Lib.hid (X12.out.step hb)
            clear hb
            go_wp2_with fail
            refine (unq_quote s _ hs).mono ?_
            rintro e w14 ⟨rfl, hb⟩
            have X14 := Lib.hid (X13.out.step hb)
            clear hb
            go_wp2_with fail
            refine (unq_ok s _ hs HUQ.out).mono ?_
            rintro e w15 ⟨rfl, hb⟩
            have X15 := Lib.hid (X14.out.step hb)
            clear hb
            go_wp2_with fail
            refine (quote_is _ _ HU.out.2).mono ?_
            rw [HU.out.1, mk_list]
            rintro e w16 ⟨rfl, hb⟩
            have X16 := Lib.hid (X15.out.step hb)
            clear hb
            go_wp2_with fail
            refine (AW.out _ X16.out).mono ?_
            rintro e w17 ⟨rfl, hb⟩
            have X17 := Lib.hid (X16.out.step hb)
            clear hb
            go_wp2
            go_ret
            exact ⟨rfl, X17.out.bel⟩
          · have HUQ := Lib.hid huq
            clear huq
            go_enter Tryd.func6, Tryd.ntmps6
            go_wp2_with fail
            refine (G1.out _ X0.out).mono ?_
            rintro e w1 ⟨rfl, hb⟩
            rw [← Hg1.out]
            have X1 := Lib.hid (X0.out.step hb)
            clear hb
            have p0 : w1.cell? ⟨w.heap.size, 0, none⟩ = some (.int .u8 k) := blk_cell X1.out.b0 0
            have q0 : w1.cell? ⟨w.heap.size + 1, 0, none⟩ = some (.int .u8 k2) := blk_cell X1.out.b1 0
            have p1 : w1.cell? ⟨w.heap.size, 1, none⟩ = some (.int .i64 n) := blk_cell X1.out.b0 1
            have q1 : w1.cell? ⟨w.heap.size + 1, 1, none⟩ = some (.int .i64 n2) := blk_cell X1.out.b1 1
            have p2 : w1.cell? ⟨w.heap.size, 2, none⟩ = some (.string st) := blk_cell X1.out.b0 2
            have q2 : w1.cell? ⟨w.heap.size + 1, 2, none⟩ = some (.string st2) := blk_cell X1.out.b1 2
            have p3 : w1.cell? ⟨w.heap.size, 3, none⟩ = some (.slice A m c) := blk_cell X1.out.b0 3
            have q3 : w1.cell? ⟨w.heap.size + 1, 3, none⟩ = some (.slice A2 m2 c2) := blk_cell X1.out.b1 3
            have p4 : w1.cell? ⟨w.heap.size, 4, none⟩ = some (.int .i64 r) := blk_cell X1.out.b0 4
            have q4 : w1.cell? ⟨w.heap.size + 1, 4, none⟩ = some (.int .i64 r2) := blk_cell X1.out.b1 4
            go_wp2_with fail
            refine (G2.out _ X1.out).mono ?_
            rintro e w2 ⟨rfl, hb⟩
            rw [← Hg2.out]
            have X2 := Lib.hid (X1.out.step hb)
            clear hb
            clear p0 p1 p2 p3 p4 q0 q1 q2 q3 q4
            have p0 : w2.cell? ⟨w.heap.size, 0, none⟩ = some (.int .u8 k) := blk_cell X2.out.b0 0
            have q0 : w2.cell? ⟨w.heap.size + 1, 0, none⟩ = some (.int .u8 k2) := blk_cell X2.out.b1 0
            have p1 : w2.cell? ⟨w.heap.size, 1, none⟩ = some (.int .i64 n) := blk_cell X2.out.b0 1
            have q1 : w2.cell? ⟨w.heap.size + 1, 1, none⟩ = some (.int .i64 n2) := blk_cell X2.out.b1 1
            have p2 : w2.cell? ⟨w.heap.size, 2, none⟩ = some (.string st) := blk_cell X2.out.b0 2
            have q2 : w2.cell? ⟨w.heap.size + 1, 2, none⟩ = some (.string st2) := blk_cell X2.out.b1 2
            have p3 : w2.cell? ⟨w.heap.size, 3, none⟩ = some (.slice A m c) := blk_cell X2.out.b0 3
            have q3 : w2.cell? ⟨w.heap.size + 1, 3, none⟩ = some (.slice A2 m2 c2) := blk_cell X2.out.b1 3
            have p4 : w2.cell? ⟨w.heap.size, 4, none⟩ = some (.int .i64 r) := blk_cell X2.out.b0 4
            have q4 : w2.cell? ⟨w.heap.size + 1, 4, none⟩ = some (.int .i64 r2) := blk_cell X2.out.b1 4
            go_wp2_with fail
            refine (text_yes (hv.out.below X2.out.bel HS.out) (BD.out _ X2.out).1 hf.out (by omega) (TB.out _ X2.out) ha.out).mono ?_
            rintro e w3 ⟨rfl, hb⟩
            have X3 := Lib.hid (X2.out.step hb)
            clear hb
            clear p0 p1 p2 p3 p4 q0 q1 q2 q3 q4
            have p0 : w3.cell? ⟨w.heap.size, 0, none⟩ = some (.int .u8 k) := blk_cell X3.out.b0 0
            have q0 : w3.cell? ⟨w.heap.size + 1, 0, none⟩ = some (.int .u8 k2) := blk_cell X3.out.b1 0
            have p1 : w3.cell? ⟨w.heap.size, 1, none⟩ = some (.int .i64 n) := blk_cell X3.out.b0 1
            have q1 : w3.cell? ⟨w.heap.size + 1, 1, none⟩ = some (.int .i64 n2) := blk_cell X3.out.b1 1
            have p2 : w3.cell? ⟨w.heap.size, 2, none⟩ = some (.string st) := blk_cell X3.out.b0 2
            have q2 : w3.cell? ⟨w.heap.size + 1, 2, none⟩ = some (.string st2) := blk_cell X3.out.b1 2
            have p3 : w3.cell? ⟨w.heap.size, 3, none⟩ = some (.slice A m c) := blk_cell X3.out.b0 3
            have q3 : w3.cell? ⟨w.heap.size + 1, 3, none⟩ = some (.slice A2 m2 c2) := blk_cell X3.out.b1 3
            have p4 : w3.cell? ⟨w.heap.size, 4, none⟩ = some (.int .i64 r) := blk_cell X3.out.b0 4
            have q4 : w3.cell? ⟨w.heap.size + 1, 4, none⟩ = some (.int .i64 r2) := blk_cell X3.out.b1 4
            go_wp2_with fail
            refine (text_yes (hv2.out.below X3.out.bel HS2.out) (BD.out _ X3.out).2 hf2.out (by omega) (TB.out _ X3.out) hb2.out).mono ?_
            rintro e w4 ⟨rfl, hb⟩
            have X4 := Lib.hid (X3.out.step hb)
            clear hb
            clear p0 p1 p2 p3 p4 q0 q1 q2 q3 q4
            have p0 : w4.cell? ⟨w.heap.size, 0, none⟩ = some (.int .u8 k) := blk_cell X4.out.b0 0
            have q0 : w4.cell? ⟨w.heap.size + 1, 0, none⟩ = some (.int .u8 k2) := blk_cell X4.out.b1 0
            have p1 : w4.cell? ⟨w.heap.size, 1, none⟩ = some (.int .i64 n) := blk_cell X4.out.b0 1
            have q1 : w4.cell? ⟨w.heap.size + 1, 1, none⟩ = some (.int .i64 n2) := blk_cell X4.out.b1 1
            have p2 : w4.cell? ⟨w.heap.size, 2, none⟩ = some (.string st) := blk_cell X4.out.b0 2
            have q2 : w4.cell? ⟨w.heap.size + 1, 2, none⟩ = some (.string st2) := blk_cell X4.out.b1 2
            have p3 : w4.cell? ⟨w.heap.size, 3, none⟩ = some (.slice A m c) := blk_cell X4.out.b0 3
            have q3 : w4.cell? ⟨w.heap.size + 1, 3, none⟩ = some (.slice A2 m2 c2) := blk_cell X4.out.b1 3
            have p4 : w4.cell? ⟨w.heap.size, 4, none⟩ = some (.int .i64 r) := blk_cell X4.out.b0 4
            have q4 : w4.cell? ⟨w.heap.size + 1, 4, none⟩ = some (.int .i64 r2) := blk_cell X4.out.b1 4
            go_wp2_with fail
            refine (M1.out _ X4.out).mono ?_
            rintro e w5 ⟨rfl, hb⟩
            rw [lm1.out, ha.out]
            have X5 := Lib.hid (X4.out.step hb)
            clear hb
            clear p0 p1 p2 p3 p4 q0 q1 q2 q3 q4
            have p0 : w5.cell? ⟨w.heap.size, 0, none⟩ = some (.int .u8 k) := blk_cell X5.out.b0 0
            have q0 : w5.cell? ⟨w.heap.size + 1, 0, none⟩ = some (.int .u8 k2) := blk_cell X5.out.b1 0
            have p1 : w5.cell? ⟨w.heap.size, 1, none⟩ = some (.int .i64 n) := blk_cell X5.out.b0 1
            have q1 : w5.cell? ⟨w.heap.size + 1, 1, none⟩ = some (.int .i64 n2) := blk_cell X5.out.b1 1
            have p2 : w5.cell? ⟨w.heap.size, 2, none⟩ = some (.string st) := blk_cell X5.out.b0 2
            have q2 : w5.cell? ⟨w.heap.size + 1, 2, none⟩ = some (.string st2) := blk_cell X5.out.b1 2
            have p3 : w5.cell? ⟨w.heap.size, 3, none⟩ = some (.slice A m c) := blk_cell X5.out.b0 3
            have q3 : w5.cell? ⟨w.heap.size + 1, 3, none⟩ = some (.slice A2 m2 c2) := blk_cell X5.out.b1 3
            have p4 : w5.cell? ⟨w.heap.size, 4, none⟩ = some (.int .i64 r) := blk_cell X5.out.b0 4
            have q4 : w5.cell? ⟨w.heap.size + 1, 4, none⟩ = some (.int .i64 r2) := blk_cell X5.out.b1 4
            go_wp2_with fail
            refine (M2.out _ X5.out).mono ?_
            rintro e w6 ⟨rfl, hb⟩
            rw [lm2.out, hb2.out]
            have X6 := Lib.hid (X5.out.step hb)
            clear hb
            clear p0 p1 p2 p3 p4 q0 q1 q2 q3 q4
            have p0 : w6.cell? ⟨w.heap.size, 0, none⟩ = some (.int .u8 k) := blk_cell X6.out.b0 0
            have q0 : w6.cell? ⟨w.heap.size + 1, 0, none⟩ = some (.int .u8 k2) := blk_cell X6.out.b1 0
            have p1 : w6.cell? ⟨w.heap.size, 1, none⟩ = some (.int .i64 n) := blk_cell X6.out.b0 1
            have q1 : w6.cell? ⟨w.heap.size + 1, 1, none⟩ = some (.int .i64 n2) := blk_cell X6.out.b1 1
            have p2 : w6.cell? ⟨w.heap.size, 2, none⟩ = some (.string st) := blk_cell X6.out.b0 2
            have q2 : w6.cell? ⟨w.heap.size + 1, 2, none⟩ = some (.string st2) := blk_cell X6.out.b1 2
            have p3 : w6.cell? ⟨w.heap.size, 3, none⟩ = some (.slice A m c) := blk_cell X6.out.b0 3
            have q3 : w6.cell? ⟨w.heap.size + 1, 3, none⟩ = some (.slice A2 m2 c2) := blk_cell X6.out.b1 3
            have p4 : w6.cell? ⟨w.heap.size, 4, none⟩ = some (.int .i64 r) := blk_cell X6.out.b0 4
            have q4 : w6.cell? ⟨w.heap.size + 1, 4, none⟩ = some (.int .i64 r2) := blk_cell X6.out.b1 4
            go_wp2_with fail
            refine (read_text_ok _ HL1.out ha.out hf.out).mono ?_
            rintro e w7 ⟨⟨k4, n4, st4, A4, m4, c4, r4, rfl, hv7⟩, hb⟩
            have X7 := Lib.hid (X6.out.step hb)
            have hv7 := Lib.hid hv7
            clear hb
            clear p0 p1 p2 p3 p4 q0 q1 q2 q3 q4
            have p0 : ∀ o, (w7.alloc o).cell? ⟨w.heap.size, 0, none⟩ = some (.int .u8 k) := fun o => blk_cell (X7.out.alloc o).b0 0
            have q0 : ∀ o, (w7.alloc o).cell? ⟨w.heap.size + 1, 0, none⟩ = some (.int .u8 k2) := fun o => blk_cell (X7.out.alloc o).b1 0
            have p1 : ∀ o, (w7.alloc o).cell? ⟨w.heap.size, 1, none⟩ = some (.int .i64 n) := fun o => blk_cell (X7.out.alloc o).b0 1
            have q1 : ∀ o, (w7.alloc o).cell? ⟨w.heap.size + 1, 1, none⟩ = some (.int .i64 n2) := fun o => blk_cell (X7.out.alloc o).b1 1
            have p2 : ∀ o, (w7.alloc o).cell? ⟨w.heap.size, 2, none⟩ = some (.string st) := fun o => blk_cell (X7.out.alloc o).b0 2
            have q2 : ∀ o, (w7.alloc o).cell? ⟨w.heap.size + 1, 2, none⟩ = some (.string st2) := fun o => blk_cell (X7.out.alloc o).b1 2
            have p3 : ∀ o, (w7.alloc o).cell? ⟨w.heap.size, 3, none⟩ = some (.slice A m c) := fun o => blk_cell (X7.out.alloc o).b0 3
            have q3 : ∀ o, (w7.alloc o).cell? ⟨w.heap.size + 1, 3, none⟩ = some (.slice A2 m2 c2) := fun o => blk_cell (X7.out.alloc o).b1 3
            have p4 : ∀ o, (w7.alloc o).cell? ⟨w.heap.size, 4, none⟩ = some (.int .i64 r) := fun o => blk_cell (X7.out.alloc o).b0 4
            have q4 : ∀ o, (w7.alloc o).cell? ⟨w.heap.size + 1, 4, none⟩ = some (.int .i64 r2) := fun o => blk_cell (X7.out.alloc o).b1 4
            go_wp2_with fail
            have X8 := Lib.hid (X7.out.alloc (.cells #[.int .u8 k4, .int .i64 n4, .string st4, .slice A4 m4 c4, .int .i64 r4] 26))
            refine (alike_any v v _ _ _ _ _ (hv7.out.below ((Below.refl _ _).alloc (Nat.le_refl _) _) (fun b h => h.2)) (hv.out.below X8.out.bel HS.out) (fun b h => by have := h.2; simp; omega) (BD.out _ X8.out).1).mono ?_
            rintro e w9 ⟨⟨bb, rfl, hbb⟩, hb⟩
            obtain rfl : bb = true := hbb.mpr rfl
            have X9 := Lib.hid (X8.out.step hb)
            clear hb hbb
            clear p0 p1 p2 p3 p4 q0 q1 q2 q3 q4
            have p0 : w9.cell? ⟨w.heap.size, 0, none⟩ = some (.int .u8 k) := blk_cell X9.out.b0 0
            have q0 : w9.cell? ⟨w.heap.size + 1, 0, none⟩ = some (.int .u8 k2) := blk_cell X9.out.b1 0
            have p1 : w9.cell? ⟨w.heap.size, 1, none⟩ = some (.int .i64 n) := blk_cell X9.out.b0 1
            have q1 : w9.cell? ⟨w.heap.size + 1, 1, none⟩ = some (.int .i64 n2) := blk_cell X9.out.b1 1
            have p2 : w9.cell? ⟨w.heap.size, 2, none⟩ = some (.string st) := blk_cell X9.out.b0 2
            have q2 : w9.cell? ⟨w.heap.size + 1, 2, none⟩ = some (.string st2) := blk_cell X9.out.b1 2
            have p3 : w9.cell? ⟨w.heap.size, 3, none⟩ = some (.slice A m c) := blk_cell X9.out.b0 3
            have q3 : w9.cell? ⟨w.heap.size + 1, 3, none⟩ = some (.slice A2 m2 c2) := blk_cell X9.out.b1 3
            have p4 : w9.cell? ⟨w.heap.size, 4, none⟩ = some (.int .i64 r) := blk_cell X9.out.b0 4
            have q4 : w9.cell? ⟨w.heap.size + 1, 4, none⟩ = some (.int .i64 r2) := blk_cell X9.out.b1 4
            go_wp2_with fail
            refine (alike_any v v _ _ _ _ _ (hv.out.below X9.out.bel HS.out) (hv2.out.below X9.out.bel HS2.out) (BD.out _ X9.out).1 (BD.out _ X9.out).2).mono ?_
            rintro e w10 ⟨⟨bb, rfl, hbb⟩, hb⟩
            obtain rfl : bb = true := hbb.mpr rfl
            have X10 := Lib.hid (X9.out.step hb)
            clear hb hbb
            clear p0 p1 p2 p3 p4 q0 q1 q2 q3 q4
            go_wp2_with fail
            refine (read_no s _ hs HRD.out).mono ?_
            rintro e w11 ⟨⟨k3, n3, st3, A3, m3, c3, r3, pl, er, rfl, her⟩, hb⟩
            have X11 := Lib.hid (X10.out.step hb)
            clear hb
            go_wp2_with fail
            have X12 := Lib.hid (X11.out.alloc (.cells #[.int .u8 k3, .int .i64 n3, .string st3, .slice A3 m3 c3, .int .i64 r3] 26))
            refine (quote_is s _ (by omega)).mono ?_
            rintro e w13 ⟨rfl, hb⟩
            have X13 := Lib.hid (X12.out.step hb)
            clear hb
            go_wp2_with fail
            refine (unq_quote s _ hs).mono ?_
            rintro e w14 ⟨rfl, hb⟩
            have X14 := Lib.hid (X13.out.step hb)
            clear hb
            go_wp2_with fail
            refine (unq_no s _ hs HUQ.out).mono ?_
            rintro e w15 ⟨⟨u5, pl5, er5, rfl, her5⟩, hb⟩
            have X15 := Lib.hid (X14.out.step hb)
            clear hb
            go_wp2_with fail
            refine (AW.out _ X15.out).mono ?_
            rintro e w16 ⟨rfl, hb⟩
            have X16 := Lib.hid (X15.out.step hb)
            clear hb
            go_wp2
            go_ret
            exact ⟨rfl, X16.out.bel⟩
      · obtain ⟨tv, htv⟩ : ∃ tv : ByteArray, tv = ⟨(textL v).toArray⟩ := ⟨_, rfl⟩
        obtain ⟨tv2, htv2⟩ : ∃ tv2 : ByteArray, tv2 = ⟨(textL v2).toArray⟩ := ⟨_, rfl⟩
        have hne3 : ¬ tv = tv2 := fun e => hvv (text_inj ha.out hb2.out hf.out hf2.out (by rw [← htv, ← htv2, e]))
        have hne : ¬ tv.toList = tv2.toList := fun e => hne3 (eq_of_toList e)
        have hneB : (tv.toList == tv2.toList) = false := beq_eq_false_iff_ne.mpr hne
        have Htv := Lib.hid htv
        have Htv2 := Lib.hid htv2
        have hvv := Lib.hid hvv
        clear htv htv2
        by_cases hrd : (readF s).2.2 = 0
        · have HRD := Lib.hid hrd
          have HT := Lib.hid (readF_text s hrd)
          clear hrd
          by_cases huq : (unquoteF s).2.2 = 0
          · have HUQ := Lib.hid huq
            have HU := Lib.hid (unq_facts s hs huq)
            clear huq
            go_enter Tryd.func6, Tryd.ntmps6
            go_wp2_with fail
            refine (G1.out _ X0.out).mono ?_
            rintro e w1 ⟨rfl, hb⟩
            rw [← Hg1.out]
            have X1 := Lib.hid (X0.out.step hb)
            clear hb
            have p0 : w1.cell? ⟨w.heap.size, 0, none⟩ = some (.int .u8 k) := blk_cell X1.out.b0 0
            have q0 : w1.cell? ⟨w.heap.size + 1, 0, none⟩ = some (.int .u8 k2) := blk_cell X1.out.b1 0
            have p1 : w1.cell? ⟨w.heap.size, 1, none⟩ = some (.int .i64 n) := blk_cell X1.out.b0 1
            have q1 : w1.cell? ⟨w.heap.size + 1, 1, none⟩ = some (.int .i64 n2) := blk_cell X1.out.b1 1
            have p2 : w1.cell? ⟨w.heap.size, 2, none⟩ = some (.string st) := blk_cell X1.out.b0 2
            have q2 : w1.cell? ⟨w.heap.size + 1, 2, none⟩ = some (.string st2) := blk_cell X1.out.b1 2
            have p3 : w1.cell? ⟨w.heap.size, 3, none⟩ = some (.slice A m c) := blk_cell X1.out.b0 3
            have q3 : w1.cell? ⟨w.heap.size + 1, 3, none⟩ = some (.slice A2 m2 c2) := blk_cell X1.out.b1 3
            have p4 : w1.cell? ⟨w.heap.size, 4, none⟩ = some (.int .i64 r) := blk_cell X1.out.b0 4
            have q4 : w1.cell? ⟨w.heap.size + 1, 4, none⟩ = some (.int .i64 r2) := blk_cell X1.out.b1 4
            go_wp2_with fail
            refine (G2.out _ X1.out).mono ?_
            rintro e w2 ⟨rfl, hb⟩
            rw [← Hg2.out]
            have X2 := Lib.hid (X1.out.step hb)
            clear hb
            clear p0 p1 p2 p3 p4 q0 q1 q2 q3 q4
            have p0 : w2.cell? ⟨w.heap.size, 0, none⟩ = some (.int .u8 k) := blk_cell X2.out.b0 0
            have q0 : w2.cell? ⟨w.heap.size + 1, 0, none⟩ = some (.int .u8 k2) := blk_cell X2.out.b1 0
            have p1 : w2.cell? ⟨w.heap.size, 1, none⟩ = some (.int .i64 n) := blk_cell X2.out.b0 1
            have q1 : w2.cell? ⟨w.heap.size + 1, 1, none⟩ = some (.int .i64 n2) := blk_cell X2.out.b1 1
            have p2 : w2.cell? ⟨w.heap.size, 2, none⟩ = some (.string st) := blk_cell X2.out.b0 2
            have q2 : w2.cell? ⟨w.heap.size + 1, 2, none⟩ = some (.string st2) := blk_cell X2.out.b1 2
            have p3 : w2.cell? ⟨w.heap.size, 3, none⟩ = some (.slice A m c) := blk_cell X2.out.b0 3
            have q3 : w2.cell? ⟨w.heap.size + 1, 3, none⟩ = some (.slice A2 m2 c2) := blk_cell X2.out.b1 3
            have p4 : w2.cell? ⟨w.heap.size, 4, none⟩ = some (.int .i64 r) := blk_cell X2.out.b0 4
            have q4 : w2.cell? ⟨w.heap.size + 1, 4, none⟩ = some (.int .i64 r2) := blk_cell X2.out.b1 4
            go_wp2_with fail
            refine (text_yes (hv.out.below X2.out.bel HS.out) (BD.out _ X2.out).1 hf.out (by omega) (TB.out _ X2.out) ha.out).mono ?_
            rintro e w3 ⟨rfl, hb⟩
            rw [← Htv.out]
            have X3 := Lib.hid (X2.out.step hb)
            clear hb
            clear p0 p1 p2 p3 p4 q0 q1 q2 q3 q4
            have p0 : w3.cell? ⟨w.heap.size, 0, none⟩ = some (.int .u8 k) := blk_cell X3.out.b0 0
            have q0 : w3.cell? ⟨w.heap.size + 1, 0, none⟩ = some (.int .u8 k2) := blk_cell X3.out.b1 0
            have p1 : w3.cell? ⟨w.heap.size, 1, none⟩ = some (.int .i64 n) := blk_cell X3.out.b0 1
            have q1 : w3.cell? ⟨w.heap.size + 1, 1, none⟩ = some (.int .i64 n2) := blk_cell X3.out.b1 1
            have p2 : w3.cell? ⟨w.heap.size, 2, none⟩ = some (.string st) := blk_cell X3.out.b0 2
            have q2 : w3.cell? ⟨w.heap.size + 1, 2, none⟩ = some (.string st2) := blk_cell X3.out.b1 2
            have p3 : w3.cell? ⟨w.heap.size, 3, none⟩ = some (.slice A m c) := blk_cell X3.out.b0 3
            have q3 : w3.cell? ⟨w.heap.size + 1, 3, none⟩ = some (.slice A2 m2 c2) := blk_cell X3.out.b1 3
            have p4 : w3.cell? ⟨w.heap.size, 4, none⟩ = some (.int .i64 r) := blk_cell X3.out.b0 4
            have q4 : w3.cell? ⟨w.heap.size + 1, 4, none⟩ = some (.int .i64 r2) := blk_cell X3.out.b1 4
            go_wp2_with fail
            refine (text_yes (hv2.out.below X3.out.bel HS2.out) (BD.out _ X3.out).2 hf2.out (by omega) (TB.out _ X3.out) hb2.out).mono ?_
            rintro e w4 ⟨rfl, hb⟩
            rw [← Htv2.out]
            have X4 := Lib.hid (X3.out.step hb)
            clear hb
            clear p0 p1 p2 p3 p4 q0 q1 q2 q3 q4
            have p0 : w4.cell? ⟨w.heap.size, 0, none⟩ = some (.int .u8 k) := blk_cell X4.out.b0 0
            have q0 : w4.cell? ⟨w.heap.size + 1, 0, none⟩ = some (.int .u8 k2) := blk_cell X4.out.b1 0
            have p1 : w4.cell? ⟨w.heap.size, 1, none⟩ = some (.int .i64 n) := blk_cell X4.out.b0 1
            have q1 : w4.cell? ⟨w.heap.size + 1, 1, none⟩ = some (.int .i64 n2) := blk_cell X4.out.b1 1
            have p2 : w4.cell? ⟨w.heap.size, 2, none⟩ = some (.string st) := blk_cell X4.out.b0 2
            have q2 : w4.cell? ⟨w.heap.size + 1, 2, none⟩ = some (.string st2) := blk_cell X4.out.b1 2
            have p3 : w4.cell? ⟨w.heap.size, 3, none⟩ = some (.slice A m c) := blk_cell X4.out.b0 3
            have q3 : w4.cell? ⟨w.heap.size + 1, 3, none⟩ = some (.slice A2 m2 c2) := blk_cell X4.out.b1 3
            have p4 : w4.cell? ⟨w.heap.size, 4, none⟩ = some (.int .i64 r) := blk_cell X4.out.b0 4
            have q4 : w4.cell? ⟨w.heap.size + 1, 4, none⟩ = some (.int .i64 r2) := blk_cell X4.out.b1 4
            go_wp2_with fail
            refine (M1.out _ X4.out).mono ?_
            rintro e w5 ⟨rfl, hb⟩
            rw [lm1.out, ha.out]
            have X5 := Lib.hid (X4.out.step hb)
            clear hb
            clear p0 p1 p2 p3 p4 q0 q1 q2 q3 q4
            have p0 : w5.cell? ⟨w.heap.size, 0, none⟩ = some (.int .u8 k) := blk_cell X5.out.b0 0
            have q0 : w5.cell? ⟨w.heap.size + 1, 0, none⟩ = some (.int .u8 k2) := blk_cell X5.out.b1 0
            have p1 : w5.cell? ⟨w.heap.size, 1, none⟩ = some (.int .i64 n) := blk_cell X5.out.b0 1
            have q1 : w5.cell? ⟨w.heap.size + 1, 1, none⟩ = some (.int .i64 n2) := blk_cell X5.out.b1 1
            have p2 : w5.cell? ⟨w.heap.size, 2, none⟩ = some (.string st) := blk_cell X5.out.b0 2
            have q2 : w5.cell? ⟨w.heap.size + 1, 2, none⟩ = some (.string st2) := blk_cell X5.out.b1 2
            have p3 : w5.cell? ⟨w.heap.size, 3, none⟩ = some (.slice A m c) := blk_cell X5.out.b0 3
            have q3 : w5.cell? ⟨w.heap.size + 1, 3, none⟩ = some (.slice A2 m2 c2) := blk_cell X5.out.b1 3
            have p4 : w5.cell? ⟨w.heap.size, 4, none⟩ = some (.int .i64 r) := blk_cell X5.out.b0 4
            have q4 : w5.cell? ⟨w.heap.size + 1, 4, none⟩ = some (.int .i64 r2) := blk_cell X5.out.b1 4
            go_wp2_with fail
            refine (M2.out _ X5.out).mono ?_
            rintro e w6 ⟨rfl, hb⟩
            rw [lm2.out, hb2.out]
            have X6 := Lib.hid (X5.out.step hb)
            clear hb
            clear p0 p1 p2 p3 p4 q0 q1 q2 q3 q4
            have p0 : w6.cell? ⟨w.heap.size, 0, none⟩ = some (.int .u8 k) := blk_cell X6.out.b0 0
            have q0 : w6.cell? ⟨w.heap.size + 1, 0, none⟩ = some (.int .u8 k2) := blk_cell X6.out.b1 0
            have p1 : w6.cell? ⟨w.heap.size, 1, none⟩ = some (.int .i64 n) := blk_cell X6.out.b0 1
            have q1 : w6.cell? ⟨w.heap.size + 1, 1, none⟩ = some (.int .i64 n2) := blk_cell X6.out.b1 1
            have p2 : w6.cell? ⟨w.heap.size, 2, none⟩ = some (.string st) := blk_cell X6.out.b0 2
            have q2 : w6.cell? ⟨w.heap.size + 1, 2, none⟩ = some (.string st2) := blk_cell X6.out.b1 2
            have p3 : w6.cell? ⟨w.heap.size, 3, none⟩ = some (.slice A m c) := blk_cell X6.out.b0 3
            have q3 : w6.cell? ⟨w.heap.size + 1, 3, none⟩ = some (.slice A2 m2 c2) := blk_cell X6.out.b1 3
            have p4 : w6.cell? ⟨w.heap.size, 4, none⟩ = some (.int .i64 r) := blk_cell X6.out.b0 4
            have q4 : w6.cell? ⟨w.heap.size + 1, 4, none⟩ = some (.int .i64 r2) := blk_cell X6.out.b1 4
            go_wp2_with fail
            refine (by rw [Htv.out]; exact read_text_ok _ HL1.out ha.out hf.out : Calls Tryd.prog 12 #[.string tv] _ _).mono ?_
            rintro e w7 ⟨⟨k4, n4, st4, A4, m4, c4, r4, rfl, hv7⟩, hb⟩
            have X7 := Lib.hid (X6.out.step hb)
            have hv7 := Lib.hid hv7
            clear hb
            clear p0 p1 p2 p3 p4 q0 q1 q2 q3 q4
            have p0 : ∀ o, (w7.alloc o).cell? ⟨w.heap.size, 0, none⟩ = some (.int .u8 k) := fun o => blk_cell (X7.out.alloc o).b0 0
            have q0 : ∀ o, (w7.alloc o).cell? ⟨w.heap.size + 1, 0, none⟩ = some (.int .u8 k2) := fun o => blk_cell (X7.out.alloc o).b1 0
            have p1 : ∀ o, (w7.alloc o).cell? ⟨w.heap.size, 1, none⟩ = some (.int .i64 n) := fun o => blk_cell (X7.out.alloc o).b0 1
            have q1 : ∀ o, (w7.alloc o).cell? ⟨w.heap.size + 1, 1, none⟩ = some (.int .i64 n2) := fun o => blk_cell (X7.out.alloc o).b1 1
            have p2 : ∀ o, (w7.alloc o).cell? ⟨w.heap.size, 2, none⟩ = some (.string st) := fun o => blk_cell (X7.out.alloc o).b0 2
            have q2 : ∀ o, (w7.alloc o).cell? ⟨w.heap.size + 1, 2, none⟩ = some (.string st2) := fun o => blk_cell (X7.out.alloc o).b1 2
            have p3 : ∀ o, (w7.alloc o).cell? ⟨w.heap.size, 3, none⟩ = some (.slice A m c) := fun o => blk_cell (X7.out.alloc o).b0 3
            have q3 : ∀ o, (w7.alloc o).cell? ⟨w.heap.size + 1, 3, none⟩ = some (.slice A2 m2 c2) := fun o => blk_cell (X7.out.alloc o).b1 3
            have p4 : ∀ o, (w7.alloc o).cell? ⟨w.heap.size, 4, none⟩ = some (.int .i64 r) := fun o => blk_cell (X7.out.alloc o).b0 4
            have q4 : ∀ o, (w7.alloc o).cell? ⟨w.heap.size + 1, 4, none⟩ = some (.int .i64 r2) := fun o => blk_cell (X7.out.alloc o).b1 4
            go_wp2_with fail
            have X8 := Lib.hid (X7.out.alloc (.cells #[.int .u8 k4, .int .i64 n4, .string st4, .slice A4 m4 c4, .int .i64 r4] 26))
            refine (alike_any v v _ _ _ _ _ (hv7.out.below ((Below.refl _ _).alloc (Nat.le_refl _) _) (fun b h => h.2)) (hv.out.below X8.out.bel HS.out) (fun b h => by have := h.2; simp; omega) (BD.out _ X8.out).1).mono ?_
            rintro e w9 ⟨⟨bb, rfl, hbb⟩, hb⟩
            obtain rfl : bb = true := hbb.mpr rfl
            have X9 := Lib.hid (X8.out.step hb)
            clear hb hbb
            clear p0 p1 p2 p3 p4 q0 q1 q2 q3 q4
            have p0 : w9.cell? ⟨w.heap.size, 0, none⟩ = some (.int .u8 k) := blk_cell X9.out.b0 0
            have q0 : w9.cell? ⟨w.heap.size + 1, 0, none⟩ = some (.int .u8 k2) := blk_cell X9.out.b1 0
            have p1 : w9.cell? ⟨w.heap.size, 1, none⟩ = some (.int .i64 n) := blk_cell X9.out.b0 1
            have q1 : w9.cell? ⟨w.heap.size + 1, 1, none⟩ = some (.int .i64 n2) := blk_cell X9.out.b1 1
            have p2 : w9.cell? ⟨w.heap.size, 2, none⟩ = some (.string st) := blk_cell X9.out.b0 2
            have q2 : w9.cell? ⟨w.heap.size + 1, 2, none⟩ = some (.string st2) := blk_cell X9.out.b1 2
            have p3 : w9.cell? ⟨w.heap.size, 3, none⟩ = some (.slice A m c) := blk_cell X9.out.b0 3
            have q3 : w9.cell? ⟨w.heap.size + 1, 3, none⟩ = some (.slice A2 m2 c2) := blk_cell X9.out.b1 3
            have p4 : w9.cell? ⟨w.heap.size, 4, none⟩ = some (.int .i64 r) := blk_cell X9.out.b0 4
            have q4 : w9.cell? ⟨w.heap.size + 1, 4, none⟩ = some (.int .i64 r2) := blk_cell X9.out.b1 4
            go_wp2_with fail
            refine (alike_any v v2 _ _ _ _ _ (hv.out.below X9.out.bel HS.out) (hv2.out.below X9.out.bel HS2.out) (BD.out _ X9.out).1 (BD.out _ X9.out).2).mono ?_
            rintro e w10 ⟨⟨bb, rfl, hbb⟩, hb⟩
            obtain rfl : bb = false := by cases bb with | false => rfl | true => exact absurd (hbb.mp rfl) hvv.out
            have X10 := Lib.hid (X9.out.step hb)
            clear hb hbb
            clear p0 p1 p2 p3 p4 q0 q1 q2 q3 q4
            go_wp2_with fail
            refine (read_ok s _ hs HRD.out).mono ?_
            rintro e w11 ⟨⟨k3, n3, st3, A3, m3, c3, r3, rfl, hv3⟩, hb⟩
            have X11 := Lib.hid (X10.out.step hb)
            have hv3 := Lib.hid hv3
            clear hb
            go_wp2_with fail
            have X12 := Lib.hid (X11.out.alloc (.cells #[.int .u8 k3, .int .i64 n3, .string st3, .slice A3 m3 c3, .int .i64 r3] 26))
            have hv4 := Lib.hid (hv3.out.below ((Below.refl _ _).alloc (Nat.le_refl _) (.cells #[.int .u8 k3, .int .i64 n3, .string st3, .slice A3 m3 c3, .int .i64 r3] 26)) (fun b h => h.2))
            refine (text_yes hv4.out (fun b h => by have := h.2; simp; omega) HT.out.2.2.2 (by rw [HT.out.2.1, size_list]; omega) (TB.out _ X12.out) HT.out.1).mono ?_
            rw [HT.out.2.1, mk_list]
            rintro e w13 ⟨rfl, hb⟩
            have X13 := Lib.hid (X12.out.step hb)
            clear hb
            go_wp2_with fail
            refine (quote_is s _ (by omega)).mono ?_
            rintro e w14 ⟨rfl, hb⟩
            have X14 := Lib.hid (X13.out.step hb)
            clear hb
            go_wp2_with fail
            refine (unq_quote s _ hs).mono ?_
            rintro e w15 ⟨rfl, hb⟩
            have X15 := Lib.hid (X14.out.step hb)
            clear hb
            go_wp2_with fail
            refine (unq_ok s _ hs HUQ.out).mono ?_
            rintro e w16 ⟨rfl, hb⟩
            have X16 := Lib.hid (X15.out.step hb)
            clear hb
            go_wp2_with fail
            refine (quote_is _ _ HU.out.2).mono ?_
            rw [HU.out.1, mk_list]
            rintro e w17 ⟨rfl, hb⟩
            have X17 := Lib.hid (X16.out.step hb)
            clear hb
            go_wp2_with fail
            refine (AW.out _ X17.out).mono ?_
            rintro e w18 ⟨rfl, hb⟩
            have X18 := Lib.hid (X17.out.step hb)
            clear hb
            go_wp2
            go_ret
            exact ⟨rfl, X18.out.bel⟩
          · have HUQ := Lib.hid huq
            clear huq
            go_enter Tryd.func6, Tryd.ntmps6
            go_wp2_with fail
            refine (G1.out _ X0.out).mono ?_
            rintro e w1 ⟨rfl, hb⟩
            rw [← Hg1.out]
            have X1 := Lib.hid (X0.out.step hb)
            clear hb
            have p0 : w1.cell? ⟨w.heap.size, 0, none⟩ = some (.int .u8 k) := blk_cell X1.out.b0 0
            have q0 : w1.cell? ⟨w.heap.size + 1, 0, none⟩ = some (.int .u8 k2) := blk_cell X1.out.b1 0
            have p1 : w1.cell? ⟨w.heap.size, 1, none⟩ = some (.int .i64 n) := blk_cell X1.out.b0 1
            have q1 : w1.cell? ⟨w.heap.size + 1, 1, none⟩ = some (.int .i64 n2) := blk_cell X1.out.b1 1
            have p2 : w1.cell? ⟨w.heap.size, 2, none⟩ = some (.string st) := blk_cell X1.out.b0 2
            have q2 : w1.cell? ⟨w.heap.size + 1, 2, none⟩ = some (.string st2) := blk_cell X1.out.b1 2
            have p3 : w1.cell? ⟨w.heap.size, 3, none⟩ = some (.slice A m c) := blk_cell X1.out.b0 3
            have q3 : w1.cell? ⟨w.heap.size + 1, 3, none⟩ = some (.slice A2 m2 c2) := blk_cell X1.out.b1 3
            have p4 : w1.cell? ⟨w.heap.size, 4, none⟩ = some (.int .i64 r) := blk_cell X1.out.b0 4
            have q4 : w1.cell? ⟨w.heap.size + 1, 4, none⟩ = some (.int .i64 r2) := blk_cell X1.out.b1 4
            go_wp2_with fail
            refine (G2.out _ X1.out).mono ?_
            rintro e w2 ⟨rfl, hb⟩
            rw [← Hg2.out]
            have X2 := Lib.hid (X1.out.step hb)
            clear hb
            clear p0 p1 p2 p3 p4 q0 q1 q2 q3 q4
            have p0 : w2.cell? ⟨w.heap.size, 0, none⟩ = some (.int .u8 k) := blk_cell X2.out.b0 0
            have q0 : w2.cell? ⟨w.heap.size + 1, 0, none⟩ = some (.int .u8 k2) := blk_cell X2.out.b1 0
            have p1 : w2.cell? ⟨w.heap.size, 1, none⟩ = some (.int .i64 n) := blk_cell X2.out.b0 1
            have q1 : w2.cell? ⟨w.heap.size + 1, 1, none⟩ = some (.int .i64 n2) := blk_cell X2.out.b1 1
            have p2 : w2.cell? ⟨w.heap.size, 2, none⟩ = some (.string st) := blk_cell X2.out.b0 2
            have q2 : w2.cell? ⟨w.heap.size + 1, 2, none⟩ = some (.string st2) := blk_cell X2.out.b1 2
            have p3 : w2.cell? ⟨w.heap.size, 3, none⟩ = some (.slice A m c) := blk_cell X2.out.b0 3
            have q3 : w2.cell? ⟨w.heap.size + 1, 3, none⟩ = some (.slice A2 m2 c2) := blk_cell X2.out.b1 3
            have p4 : w2.cell? ⟨w.heap.size, 4, none⟩ = some (.int .i64 r) := blk_cell X2.out.b0 4
            have q4 : w2.cell? ⟨w.heap.size + 1, 4, none⟩ = some (.int .i64 r2) := blk_cell X2.out.b1 4
            go_wp2_with fail
            refine (text_yes (hv.out.below X2.out.bel HS.out) (BD.out _ X2.out).1 hf.out (by omega) (TB.out _ X2.out) ha.out).mono ?_
            rintro e w3 ⟨rfl, hb⟩
            rw [← Htv.out]
            have X3 := Lib.hid (X2.out.step hb)
            clear hb
            clear p0 p1 p2 p3 p4 q0 q1 q2 q3 q4
            have p0 : w3.cell? ⟨w.heap.size, 0, none⟩ = some (.int .u8 k) := blk_cell X3.out.b0 0
            have q0 : w3.cell? ⟨w.heap.size + 1, 0, none⟩ = some (.int .u8 k2) := blk_cell X3.out.b1 0
            have p1 : w3.cell? ⟨w.heap.size, 1, none⟩ = some (.int .i64 n) := blk_cell X3.out.b0 1
            have q1 : w3.cell? ⟨w.heap.size + 1, 1, none⟩ = some (.int .i64 n2) := blk_cell X3.out.b1 1
            have p2 : w3.cell? ⟨w.heap.size, 2, none⟩ = some (.string st) := blk_cell X3.out.b0 2
            have q2 : w3.cell? ⟨w.heap.size + 1, 2, none⟩ = some (.string st2) := blk_cell X3.out.b1 2
            have p3 : w3.cell? ⟨w.heap.size, 3, none⟩ = some (.slice A m c) := blk_cell X3.out.b0 3
            have q3 : w3.cell? ⟨w.heap.size + 1, 3, none⟩ = some (.slice A2 m2 c2) := blk_cell X3.out.b1 3
            have p4 : w3.cell? ⟨w.heap.size, 4, none⟩ = some (.int .i64 r) := blk_cell X3.out.b0 4
            have q4 : w3.cell? ⟨w.heap.size + 1, 4, none⟩ = some (.int .i64 r2) := blk_cell X3.out.b1 4
            go_wp2_with fail
            refine (text_yes (hv2.out.below X3.out.bel HS2.out) (BD.out _ X3.out).2 hf2.out (by omega) (TB.out _ X3.out) hb2.out).mono ?_
            rintro e w4 ⟨rfl, hb⟩
            rw [← Htv2.out]
            have X4 := Lib.hid (X3.out.step hb)
            clear hb
            clear p0 p1 p2 p3 p4 q0 q1 q2 q3 q4
            have p0 : w4.cell? ⟨w.heap.size, 0, none⟩ = some (.int .u8 k) := blk_cell X4.out.b0 0
            have q0 : w4.cell? ⟨w.heap.size + 1, 0, none⟩ = some (.int .u8 k2) := blk_cell X4.out.b1 0
            have p1 : w4.cell? ⟨w.heap.size, 1, none⟩ = some (.int .i64 n) := blk_cell X4.out.b0 1
            have q1 : w4.cell? ⟨w.heap.size + 1, 1, none⟩ = some (.int .i64 n2) := blk_cell X4.out.b1 1
            have p2 : w4.cell? ⟨w.heap.size, 2, none⟩ = some (.string st) := blk_cell X4.out.b0 2
            have q2 : w4.cell? ⟨w.heap.size + 1, 2, none⟩ = some (.string st2) := blk_cell X4.out.b1 2
            have p3 : w4.cell? ⟨w.heap.size, 3, none⟩ = some (.slice A m c) := blk_cell X4.out.b0 3
            have q3 : w4.cell? ⟨w.heap.size + 1, 3, none⟩ = some (.slice A2 m2 c2) := blk_cell X4.out.b1 3
            have p4 : w4.cell? ⟨w.heap.size, 4, none⟩ = some (.int .i64 r) := blk_cell X4.out.b0 4
            have q4 : w4.cell? ⟨w.heap.size + 1, 4, none⟩ = some (.int .i64 r2) := blk_cell X4.out.b1 4
            go_wp2_with fail
            refine (M1.out _ X4.out).mono ?_
            rintro e w5 ⟨rfl, hb⟩
            rw [lm1.out, ha.out]
            have X5 := Lib.hid (X4.out.step hb)
            clear hb
            clear p0 p1 p2 p3 p4 q0 q1 q2 q3 q4
            have p0 : w5.cell? ⟨w.heap.size, 0, none⟩ = some (.int .u8 k) := blk_cell X5.out.b0 0
            have q0 : w5.cell? ⟨w.heap.size + 1, 0, none⟩ = some (.int .u8 k2) := blk_cell X5.out.b1 0
            have p1 : w5.cell? ⟨w.heap.size, 1, none⟩ = some (.int .i64 n) := blk_cell X5.out.b0 1
            have q1 : w5.cell? ⟨w.heap.size + 1, 1, none⟩ = some (.int .i64 n2) := blk_cell X5.out.b1 1
            have p2 : w5.cell? ⟨w.heap.size, 2, none⟩ = some (.string st) := blk_cell X5.out.b0 2
            have q2 : w5.cell? ⟨w.heap.size + 1, 2, none⟩ = some (.string st2) := blk_cell X5.out.b1 2
            have p3 : w5.cell? ⟨w.heap.size, 3, none⟩ = some (.slice A m c) := blk_cell X5.out.b0 3
            have q3 : w5.cell? ⟨w.heap.size + 1, 3, none⟩ = some (.slice A2 m2 c2) := blk_cell X5.out.b1 3
            have p4 : w5.cell? ⟨w.heap.size, 4, none⟩ = some (.int .i64 r) := blk_cell X5.out.b0 4
            have q4 : w5.cell? ⟨w.heap.size + 1, 4, none⟩ = some (.int .i64 r2) := blk_cell X5.out.b1 4
            go_wp2_with fail
            refine (M2.out _ X5.out).mono ?_
            rintro e w6 ⟨rfl, hb⟩
            rw [lm2.out, hb2.out]
            have X6 := Lib.hid (X5.out.step hb)
            clear hb
            clear p0 p1 p2 p3 p4 q0 q1 q2 q3 q4
            have p0 : w6.cell? ⟨w.heap.size, 0, none⟩ = some (.int .u8 k) := blk_cell X6.out.b0 0
            have q0 : w6.cell? ⟨w.heap.size + 1, 0, none⟩ = some (.int .u8 k2) := blk_cell X6.out.b1 0
            have p1 : w6.cell? ⟨w.heap.size, 1, none⟩ = some (.int .i64 n) := blk_cell X6.out.b0 1
            have q1 : w6.cell? ⟨w.heap.size + 1, 1, none⟩ = some (.int .i64 n2) := blk_cell X6.out.b1 1
            have p2 : w6.cell? ⟨w.heap.size, 2, none⟩ = some (.string st) := blk_cell X6.out.b0 2
            have q2 : w6.cell? ⟨w.heap.size + 1, 2, none⟩ = some (.string st2) := blk_cell X6.out.b1 2
            have p3 : w6.cell? ⟨w.heap.size, 3, none⟩ = some (.slice A m c) := blk_cell X6.out.b0 3
            have q3 : w6.cell? ⟨w.heap.size + 1, 3, none⟩ = some (.slice A2 m2 c2) := blk_cell X6.out.b1 3
            have p4 : w6.cell? ⟨w.heap.size, 4, none⟩ = some (.int .i64 r) := blk_cell X6.out.b0 4
            have q4 : w6.cell? ⟨w.heap.size + 1, 4, none⟩ = some (.int .i64 r2) := blk_cell X6.out.b1 4
            go_wp2_with fail
            refine (by rw [Htv.out]; exact read_text_ok _ HL1.out ha.out hf.out : Calls Tryd.prog 12 #[.string tv] _ _).mono ?_
            rintro e w7 ⟨⟨k4, n4, st4, A4, m4, c4, r4, rfl, hv7⟩, hb⟩
            have X7 := Lib.hid (X6.out.step hb)
            have hv7 := Lib.hid hv7
            clear hb
            clear p0 p1 p2 p3 p4 q0 q1 q2 q3 q4
            have p0 : ∀ o, (w7.alloc o).cell? ⟨w.heap.size, 0, none⟩ = some (.int .u8 k) := fun o => blk_cell (X7.out.alloc o).b0 0
            have q0 : ∀ o, (w7.alloc o).cell? ⟨w.heap.size + 1, 0, none⟩ = some (.int .u8 k2) := fun o => blk_cell (X7.out.alloc o).b1 0
            have p1 : ∀ o, (w7.alloc o).cell? ⟨w.heap.size, 1, none⟩ = some (.int .i64 n) := fun o => blk_cell (X7.out.alloc o).b0 1
            have q1 : ∀ o, (w7.alloc o).cell? ⟨w.heap.size + 1, 1, none⟩ = some (.int .i64 n2) := fun o => blk_cell (X7.out.alloc o).b1 1
            have p2 : ∀ o, (w7.alloc o).cell? ⟨w.heap.size, 2, none⟩ = some (.string st) := fun o => blk_cell (X7.out.alloc o).b0 2
            have q2 : ∀ o, (w7.alloc o).cell? ⟨w.heap.size + 1, 2, none⟩ = some (.string st2) := fun o => blk_cell (X7.out.alloc o).b1 2
            have p3 : ∀ o, (w7.alloc o).cell? ⟨w.heap.size, 3, none⟩ = some (.slice A m c) := fun o => blk_cell (X7.out.alloc o).b0 3
            have q3 : ∀ o, (w7.alloc o).cell? ⟨w.heap.size + 1, 3, none⟩ = some (.slice A2 m2 c2) := fun o => blk_cell (X7.out.alloc o).b1 3
            have p4 : ∀ o, (w7.alloc o).cell? ⟨w.heap.size, 4, none⟩ = some (.int .i64 r) := fun o => blk_cell (X7.out.alloc o).b0 4
            have q4 : ∀ o, (w7.alloc o).cell? ⟨w.heap.size + 1, 4, none⟩ = some (.int .i64 r2) := fun o => blk_cell (X7.out.alloc o).b1 4
            go_wp2_with fail
            have X8 := Lib.hid (X7.out.alloc (.cells #[.int .u8 k4, .int .i64 n4, .string st4, .slice A4 m4 c4, .int .i64 r4] 26))
            refine (alike_any v v _ _ _ _ _ (hv7.out.below ((Below.refl _ _).alloc (Nat.le_refl _) _) (fun b h => h.2)) (hv.out.below X8.out.bel HS.out) (fun b h => by have := h.2; simp; omega) (BD.out _ X8.out).1).mono ?_
            rintro e w9 ⟨⟨bb, rfl, hbb⟩, hb⟩
            obtain rfl : bb = true := hbb.mpr rfl
            have X9 := Lib.hid (X8.out.step hb)
            clear hb hbb
            clear p0 p1 p2 p3 p4 q0 q1 q2 q3 q4
            have p0 : w9.cell? ⟨w.heap.size, 0, none⟩ = some (.int .u8 k) := blk_cell X9.out.b0 0
            have q0 : w9.cell? ⟨w.heap.size + 1, 0, none⟩ = some (.int .u8 k2) := blk_cell X9.out.b1 0
            have p1 : w9.cell? ⟨w.heap.size, 1, none⟩ = some (.int .i64 n) := blk_cell X9.out.b0 1
            have q1 : w9.cell? ⟨w.heap.size + 1, 1, none⟩ = some (.int .i64 n2) := blk_cell X9.out.b1 1
            have p2 : w9.cell? ⟨w.heap.size, 2, none⟩ = some (.string st) := blk_cell X9.out.b0 2
            have q2 : w9.cell? ⟨w.heap.size + 1, 2, none⟩ = some (.string st2) := blk_cell X9.out.b1 2
            have p3 : w9.cell? ⟨w.heap.size, 3, none⟩ = some (.slice A m c) := blk_cell X9.out.b0 3
            have q3 : w9.cell? ⟨w.heap.size + 1, 3, none⟩ = some (.slice A2 m2 c2) := blk_cell X9.out.b1 3
            have p4 : w9.cell? ⟨w.heap.size, 4, none⟩ = some (.int .i64 r) := blk_cell X9.out.b0 4
            have q4 : w9.cell? ⟨w.heap.size + 1, 4, none⟩ = some (.int .i64 r2) := blk_cell X9.out.b1 4
            go_wp2_with fail
            refine (alike_any v v2 _ _ _ _ _ (hv.out.below X9.out.bel HS.out) (hv2.out.below X9.out.bel HS2.out) (BD.out _ X9.out).1 (BD.out _ X9.out).2).mono ?_
            rintro e w10 ⟨⟨bb, rfl, hbb⟩, hb⟩
            obtain rfl : bb = false := by cases bb with | false => rfl | true => exact absurd (hbb.mp rfl) hvv.out
            have X10 := Lib.hid (X9.out.step hb)
            clear hb hbb
            clear p0 p1 p2 p3 p4 q0 q1 q2 q3 q4
            go_wp2_with fail
            refine (read_ok s _ hs HRD.out).mono ?_
            rintro e w11 ⟨⟨k3, n3, st3, A3, m3, c3, r3, rfl, hv3⟩, hb⟩
            have X11 := Lib.hid (X10.out.step hb)
            have hv3 := Lib.hid hv3
            clear hb
            go_wp2_with fail
            have X12 := Lib.hid (X11.out.alloc (.cells #[.int .u8 k3, .int .i64 n3, .string st3, .slice A3 m3 c3, .int .i64 r3] 26))
            have hv4 := Lib.hid (hv3.out.below ((Below.refl _ _).alloc (Nat.le_refl _) (.cells #[.int .u8 k3, .int .i64 n3, .string st3, .slice A3 m3 c3, .int .i64 r3] 26)) (fun b h => h.2))
            refine (text_yes hv4.out (fun b h => by have := h.2; simp; omega) HT.out.2.2.2 (by rw [HT.out.2.1, size_list]; omega) (TB.out _ X12.out) HT.out.1).mono ?_
            rw [HT.out.2.1, mk_list]
            rintro e w13 ⟨rfl, hb⟩
            have X13 := Lib.hid (X12.out.step hb)
            clear hb
            go_wp2_with fail
            refine (quote_is s _ (by omega)).mono ?_
            rintro e w14 ⟨rfl, hb⟩
            have X14 := Lib.hid (X13.out.step hb)
            clear hb
            go_wp2_with fail
            refine (unq_quote s _ hs).mono ?_
            rintro e w15 ⟨rfl, hb⟩
            have X15 := Lib.hid (X14.out.step hb)
            clear hb
            go_wp2_with fail
            refine (unq_no s _ hs HUQ.out).mono ?_
            rintro e w16 ⟨⟨u5, pl5, er5, rfl, her5⟩, hb⟩
            have X16 := Lib.hid (X15.out.step hb)
            clear hb
            go_wp2_with fail
            refine (AW.out _ X16.out).mono ?_
            rintro e w17 ⟨rfl, hb⟩
            have X17 := Lib.hid (X16.out.step hb)
            clear hb
            go_wp2
            go_ret
            exact ⟨rfl, X17.out.bel⟩
        · have HRD := Lib.hid hrd
          clear hrd
          by_cases huq : (unquoteF s).2.2 = 0
          · have HUQ := Lib.hid huq
            have HU := Lib.hid (unq_facts s hs huq)
            clear huq
            go_enter Tryd.func6, Tryd.ntmps6
            go_wp2_with fail
            refine (G1.out _ X0.out).mono ?_
            rintro e w1 ⟨rfl, hb⟩
            rw [← Hg1.out]
            have X1 := Lib.hid (X0.out.step hb)
            clear hb
            have p0 : w1.cell? ⟨w.heap.size, 0, none⟩ = some (.int .u8 k) := blk_cell X1.out.b0 0
            have q0 : w1.cell? ⟨w.heap.size + 1, 0, none⟩ = some (.int .u8 k2) := blk_cell X1.out.b1 0
            have p1 : w1.cell? ⟨w.heap.size, 1, none⟩ = some (.int .i64 n) := blk_cell X1.out.b0 1
            have q1 : w1.cell? ⟨w.heap.size + 1, 1, none⟩ = some (.int .i64 n2) := blk_cell X1.out.b1 1
            have p2 : w1.cell? ⟨w.heap.size, 2, none⟩ = some (.string st) := blk_cell X1.out.b0 2
            have q2 : w1.cell? ⟨w.heap.size + 1, 2, none⟩ = some (.string st2) := blk_cell X1.out.b1 2
            have p3 : w1.cell? ⟨w.heap.size, 3, none⟩ = some (.slice A m c) := blk_cell X1.out.b0 3
            have q3 : w1.cell? ⟨w.heap.size + 1, 3, none⟩ = some (.slice A2 m2 c2) := blk_cell X1.out.b1 3
            have p4 : w1.cell? ⟨w.heap.size, 4, none⟩ = some (.int .i64 r) := blk_cell X1.out.b0 4
            have q4 : w1.cell? ⟨w.heap.size + 1, 4, none⟩ = some (.int .i64 r2) := blk_cell X1.out.b1 4
            go_wp2_with fail
            refine (G2.out _ X1.out).mono ?_
            rintro e w2 ⟨rfl, hb⟩
            rw [← Hg2.out]
            have X2 := Lib.hid (X1.out.step hb)
            clear hb
            clear p0 p1 p2 p3 p4 q0 q1 q2 q3 q4
            have p0 : w2.cell? ⟨w.heap.size, 0, none⟩ = some (.int .u8 k) := blk_cell X2.out.b0 0
            have q0 : w2.cell? ⟨w.heap.size + 1, 0, none⟩ = some (.int .u8 k2) := blk_cell X2.out.b1 0
            have p1 : w2.cell? ⟨w.heap.size, 1, none⟩ = some (.int .i64 n) := blk_cell X2.out.b0 1
            have q1 : w2.cell? ⟨w.heap.size + 1, 1, none⟩ = some (.int .i64 n2) := blk_cell X2.out.b1 1
            have p2 : w2.cell? ⟨w.heap.size, 2, none⟩ = some (.string st) := blk_cell X2.out.b0 2
            have q2 : w2.cell? ⟨w.heap.size + 1, 2, none⟩ = some (.string st2) := blk_cell X2.out.b1 2
            have p3 : w2.cell? ⟨w.heap.size, 3, none⟩ = some (.slice A m c) := blk_cell X2.out.b0 3
            have q3 : w2.cell? ⟨w.heap.size + 1, 3, none⟩ = some (.slice A2 m2 c2) := blk_cell X2.out.b1 3
            have p4 : w2.cell? ⟨w.heap.size, 4, none⟩ = some (.int .i64 r) := blk_cell X2.out.b0 4
            have q4 : w2.cell? ⟨w.heap.size + 1, 4, none⟩ = some (.int .i64 r2) := blk_cell X2.out.b1 4
            go_wp2_with fail
            refine (text_yes (hv.out.below X2.out.bel HS.out) (BD.out _ X2.out).1 hf.out (by omega) (TB.out _ X2.out) ha.out).mono ?_
            rintro e w3 ⟨rfl, hb⟩
            rw [← Htv.out]
            have X3 := Lib.hid (X2.out.step hb)
            clear hb
            clear p0 p1 p2 p3 p4 q0 q1 q2 q3 q4
            have p0 : w3.cell? ⟨w.heap.size, 0, none⟩ = some (.int .u8 k) := blk_cell X3.out.b0 0
            have q0 : w3.cell? ⟨w.heap.size + 1, 0, none⟩ = some (.int .u8 k2) := blk_cell X3.out.b1 0
            have p1 : w3.cell? ⟨w.heap.size, 1, none⟩ = some (.int .i64 n) := blk_cell X3.out.b0 1
            have q1 : w3.cell? ⟨w.heap.size + 1, 1, none⟩ = some (.int .i64 n2) := blk_cell X3.out.b1 1
            have p2 : w3.cell? ⟨w.heap.size, 2, none⟩ = some (.string st) := blk_cell X3.out.b0 2
            have q2 : w3.cell? ⟨w.heap.size + 1, 2, none⟩ = some (.string st2) := blk_cell X3.out.b1 2
            have p3 : w3.cell? ⟨w.heap.size, 3, none⟩ = some (.slice A m c) := blk_cell X3.out.b0 3
            have q3 : w3.cell? ⟨w.heap.size + 1, 3, none⟩ = some (.slice A2 m2 c2) := blk_cell X3.out.b1 3
            have p4 : w3.cell? ⟨w.heap.size, 4, none⟩ = some (.int .i64 r) := blk_cell X3.out.b0 4
            have q4 : w3.cell? ⟨w.heap.size + 1, 4, none⟩ = some (.int .i64 r2) := blk_cell X3.out.b1 4
            go_wp2_with fail
            refine (text_yes (hv2.out.below X3.out.bel HS2.out) (BD.out _ X3.out).2 hf2.out (by omega) (TB.out _ X3.out) hb2.out).mono ?_
            rintro e w4 ⟨rfl, hb⟩
            rw [← Htv2.out]
            have X4 := Lib.hid (X3.out.step hb)
            clear hb
            clear p0 p1 p2 p3 p4 q0 q1 q2 q3 q4
            have p0 : w4.cell? ⟨w.heap.size, 0, none⟩ = some (.int .u8 k) := blk_cell X4.out.b0 0
            have q0 : w4.cell? ⟨w.heap.size + 1, 0, none⟩ = some (.int .u8 k2) := blk_cell X4.out.b1 0
            have p1 : w4.cell? ⟨w.heap.size, 1, none⟩ = some (.int .i64 n) := blk_cell X4.out.b0 1
            have q1 : w4.cell? ⟨w.heap.size + 1, 1, none⟩ = some (.int .i64 n2) := blk_cell X4.out.b1 1
            have p2 : w4.cell? ⟨w.heap.size, 2, none⟩ = some (.string st) := blk_cell X4.out.b0 2
            have q2 : w4.cell? ⟨w.heap.size + 1, 2, none⟩ = some (.string st2) := blk_cell X4.out.b1 2
            have p3 : w4.cell? ⟨w.heap.size, 3, none⟩ = some (.slice A m c) := blk_cell X4.out.b0 3
            have q3 : w4.cell? ⟨w.heap.size + 1, 3, none⟩ = some (.slice A2 m2 c2) := blk_cell X4.out.b1 3
            have p4 : w4.cell? ⟨w.heap.size, 4, none⟩ = some (.int .i64 r) := blk_cell X4.out.b0 4
            have q4 : w4.cell? ⟨w.heap.size + 1, 4, none⟩ = some (.int .i64 r2) := blk_cell X4.out.b1 4
            go_wp2_with fail
            refine (M1.out _ X4.out).mono ?_
            rintro e w5 ⟨rfl, hb⟩
            rw [lm1.out, ha.out]
            have X5 := Lib.hid (X4.out.step hb)
            clear hb
            clear p0 p1 p2 p3 p4 q0 q1 q2 q3 q4
            have p0 : w5.cell? ⟨w.heap.size, 0, none⟩ = some (.int .u8 k) := blk_cell X5.out.b0 0
            have q0 : w5.cell? ⟨w.heap.size + 1, 0, none⟩ = some (.int .u8 k2) := blk_cell X5.out.b1 0
            have p1 : w5.cell? ⟨w.heap.size, 1, none⟩ = some (.int .i64 n) := blk_cell X5.out.b0 1
            have q1 : w5.cell? ⟨w.heap.size + 1, 1, none⟩ = some (.int .i64 n2) := blk_cell X5.out.b1 1
            have p2 : w5.cell? ⟨w.heap.size, 2, none⟩ = some (.string st) := blk_cell X5.out.b0 2
            have q2 : w5.cell? ⟨w.heap.size + 1, 2, none⟩ = some (.string st2) := blk_cell X5.out.b1 2
            have p3 : w5.cell? ⟨w.heap.size, 3, none⟩ = some (.slice A m c) := blk_cell X5.out.b0 3
            have q3 : w5.cell? ⟨w.heap.size + 1, 3, none⟩ = some (.slice A2 m2 c2) := blk_cell X5.out.b1 3
            have p4 : w5.cell? ⟨w.heap.size, 4, none⟩ = some (.int .i64 r) := blk_cell X5.out.b0 4
            have q4 : w5.cell? ⟨w.heap.size + 1, 4, none⟩ = some (.int .i64 r2) := blk_cell X5.out.b1 4
            go_wp2_with fail
            refine (M2.out _ X5.out).mono ?_
            rintro e w6 ⟨rfl, hb⟩
            rw [lm2.out, hb2.out]
            have X6 := Lib.hid (X5.out.step hb)
            clear hb
            clear p0 p1 p2 p3 p4 q0 q1 q2 q3 q4
            have p0 : w6.cell? ⟨w.heap.size, 0, none⟩ = some (.int .u8 k) := blk_cell X6.out.b0 0
            have q0 : w6.cell? ⟨w.heap.size + 1, 0, none⟩ = some (.int .u8 k2) := blk_cell X6.out.b1 0
            have p1 : w6.cell? ⟨w.heap.size, 1, none⟩ = some (.int .i64 n) := blk_cell X6.out.b0 1
            have q1 : w6.cell? ⟨w.heap.size + 1, 1, none⟩ = some (.int .i64 n2) := blk_cell X6.out.b1 1
            have p2 : w6.cell? ⟨w.heap.size, 2, none⟩ = some (.string st) := blk_cell X6.out.b0 2
            have q2 : w6.cell? ⟨w.heap.size + 1, 2, none⟩ = some (.string st2) := blk_cell X6.out.b1 2
            have p3 : w6.cell? ⟨w.heap.size, 3, none⟩ = some (.slice A m c) := blk_cell X6.out.b0 3
            have q3 : w6.cell? ⟨w.heap.size + 1, 3, none⟩ = some (.slice A2 m2 c2) := blk_cell X6.out.b1 3
            have p4 : w6.cell? ⟨w.heap.size, 4, none⟩ = some (.int .i64 r) := blk_cell X6.out.b0 4
            have q4 : w6.cell? ⟨w.heap.size + 1, 4, none⟩ = some (.int .i64 r2) := blk_cell X6.out.b1 4
            go_wp2_with fail
            refine (by rw [Htv.out]; exact read_text_ok _ HL1.out ha.out hf.out : Calls Tryd.prog 12 #[.string tv] _ _).mono ?_
            rintro e w7 ⟨⟨k4, n4, st4, A4, m4, c4, r4, rfl, hv7⟩, hb⟩
            have X7 := Lib.hid (X6.out.step hb)
            have hv7 := Lib.hid hv7
            clear hb
            clear p0 p1 p2 p3 p4 q0 q1 q2 q3 q4
            have p0 : ∀ o, (w7.alloc o).cell? ⟨w.heap.size, 0, none⟩ = some (.int .u8 k) := fun o => blk_cell (X7.out.alloc o).b0 0
            have q0 : ∀ o, (w7.alloc o).cell? ⟨w.heap.size + 1, 0, none⟩ = some (.int .u8 k2) := fun o => blk_cell (X7.out.alloc o).b1 0
            have p1 : ∀ o, (w7.alloc o).cell? ⟨w.heap.size, 1, none⟩ = some (.int .i64 n) := fun o => blk_cell (X7.out.alloc o).b0 1
            have q1 : ∀ o, (w7.alloc o).cell? ⟨w.heap.size + 1, 1, none⟩ = some (.int .i64 n2) := fun o => blk_cell (X7.out.alloc o).b1 1
            have p2 : ∀ o, (w7.alloc o).cell? ⟨w.heap.size, 2, none⟩ = some (.string st) := fun o => blk_cell (X7.out.alloc o).b0 2
            have q2 : ∀ o, (w7.alloc o).cell? ⟨w.heap.size + 1, 2, none⟩ = some (.string st2) := fun o => blk_cell (X7.out.alloc o).b1 2
            have p3 : ∀ o, (w7.alloc o).cell? ⟨w.heap.size, 3, none⟩ = some (.slice A m c) := fun o => blk_cell (X7.out.alloc o).b0 3
            have q3 : ∀ o, (w7.alloc o).cell? ⟨w.heap.size + 1, 3, none⟩ = some (.slice A2 m2 c2) := fun o => blk_cell (X7.out.alloc o).b1 3
            have p4 : ∀ o, (w7.alloc o).cell? ⟨w.heap.size, 4, none⟩ = some (.int .i64 r) := fun o => blk_cell (X7.out.alloc o).b0 4
            have q4 : ∀ o, (w7.alloc o).cell? ⟨w.heap.size + 1, 4, none⟩ = some (.int .i64 r2) := fun o => blk_cell (X7.out.alloc o).b1 4
            go_wp2_with fail
            have X8 := Lib.hid (X7.out.alloc (.cells #[.int .u8 k4, .int .i64 n4, .string st4, .slice A4 m4 c4, .int .i64 r4] 26))
            refine (alike_any v v _ _ _ _ _ (hv7.out.below ((Below.refl _ _).alloc (Nat.le_refl _) _) (fun b h => h.2)) (hv.out.below X8.out.bel HS.out) (fun b h => by have := h.2; simp; omega) (BD.out _ X8.out).1).mono ?_
            rintro e w9 ⟨⟨bb, rfl, hbb⟩, hb⟩
            obtain rfl : bb = true := hbb.mpr rfl
            have X9 := Lib.hid (X8.out.step hb)
            clear hb hbb
            clear p0 p1 p2 p3 p4 q0 q1 q2 q3 q4
            have p0 : w9.cell? ⟨w.heap.size, 0, none⟩ = some (.int .u8 k) := blk_cell X9.out.b0 0
            have q0 : w9.cell? ⟨w.heap.size + 1, 0, none⟩ = some (.int .u8 k2) := blk_cell X9.out.b1 0
            have p1 : w9.cell? ⟨w.heap.size, 1, none⟩ = some (.int .i64 n) := blk_cell X9.out.b0 1
            have q1 : w9.cell? ⟨w.heap.size + 1, 1, none⟩ = some (.int .i64 n2) := blk_cell X9.out.b1 1
            have p2 : w9.cell? ⟨w.heap.size, 2, none⟩ = some (.string st) := blk_cell X9.out.b0 2
            have q2 : w9.cell? ⟨w.heap.size + 1, 2, none⟩ = some (.string st2) := blk_cell X9.out.b1 2
            have p3 : w9.cell? ⟨w.heap.size, 3, none⟩ = some (.slice A m c) := blk_cell X9.out.b0 3
            have q3 : w9.cell? ⟨w.heap.size + 1, 3, none⟩ = some (.slice A2 m2 c2) := blk_cell X9.out.b1 3
            have p4 : w9.cell? ⟨w.heap.size, 4, none⟩ = some (.int .i64 r) := blk_cell X9.out.b0 4
            have q4 : w9.cell? ⟨w.heap.size + 1, 4, none⟩ = some (.int .i64 r2) := blk_cell X9.out.b1 4
            go_wp2_with fail
            refine (alike_any v v2 _ _ _ _ _ (hv.out.below X9.out.bel HS.out) (hv2.out.below X9.out.bel HS2.out) (BD.out _ X9.out).1 (BD.out _ X9.out).2).mono ?_
            rintro e w10 ⟨⟨bb, rfl, hbb⟩, hb⟩
            obtain rfl : bb = false := by cases bb with | false => rfl | true => exact absurd (hbb.mp rfl) hvv.out
            have X10 := Lib.hid (X9.out.step hb)
            clear hb hbb
            clear p0 p1 p2 p3 p4 q0 q1 q2 q3 q4
            go_wp2_with fail
            refine (read_no s _ hs HRD.out).mono ?_
            rintro e w11 ⟨⟨k3, n3, st3, A3, m3, c3, r3, pl, er, rfl, her⟩, hb⟩
            have X11 := Lib.hid (X10.out.step hb)
            clear hb
            go_wp2_with fail
            have X12 := Lib.hid (X11.out.alloc (.cells #[.int .u8 k3, .int .i64 n3, .string st3, .slice A3 m3 c3, .int .i64 r3] 26))
            refine (quote_is s _ (by omega)).mono ?_
            rintro e w13 ⟨rfl, hb⟩
            have X13 := Lib.hid (X12.out.step hb)
            clear hb
            go_wp2_with fail
            refine (unq_quote s _ hs).mono ?_
            rintro e w14 ⟨rfl, hb⟩
            have X14 := Lib.hid (X13.out.step hb)
            clear hb
            go_wp2_with fail
            refine (unq_ok s _ hs HUQ.out).mono ?_
            rintro e w15 ⟨rfl, hb⟩
            have X15 := Lib.hid (X14.out.step hb)
            clear hb
            go_wp2_with fail
            refine (quote_is _ _ HU.out.2).mono ?_
            rw [HU.out.1, mk_list]
            rintro e w16 ⟨rfl, hb⟩
            have X16 := Lib.hid (X15.out.step hb)
            clear hb
            go_wp2_with fail
            refine (AW.out _ X16.out).mono ?_
            rintro e w17 ⟨rfl, hb⟩
            have X17 := Lib.hid (X16.out.step hb)
            clear hb
            go_wp2
            go_ret
            exact ⟨rfl, X17.out.bel⟩
          · have HUQ := Lib.hid huq
            clear huq
            go_enter Tryd.func6, Tryd.ntmps6
            go_wp2_with fail
            refine (G1.out _ X0.out).mono ?_
            rintro e w1 ⟨rfl, hb⟩
            rw [← Hg1.out]
            have X1 := Lib.hid (X0.out.step hb)
            clear hb
            have p0 : w1.cell? ⟨w.heap.size, 0, none⟩ = some (.int .u8 k) := blk_cell X1.out.b0 0
            have q0 : w1.cell? ⟨w.heap.size + 1, 0, none⟩ = some (.int .u8 k2) := blk_cell X1.out.b1 0
            have p1 : w1.cell? ⟨w.heap.size, 1, none⟩ = some (.int .i64 n) := blk_cell X1.out.b0 1
            have q1 : w1.cell? ⟨w.heap.size + 1, 1, none⟩ = some (.int .i64 n2) := blk_cell X1.out.b1 1
            have p2 : w1.cell? ⟨w.heap.size, 2, none⟩ = some (.string st) := blk_cell X1.out.b0 2
            have q2 : w1.cell? ⟨w.heap.size + 1, 2, none⟩ = some (.string st2) := blk_cell X1.out.b1 2
            have p3 : w1.cell? ⟨w.heap.size, 3, none⟩ = some (.slice A m c) := blk_cell X1.out.b0 3
            have q3 : w1.cell? ⟨w.heap.size + 1, 3, none⟩ = some (.slice A2 m2 c2) := blk_cell X1.out.b1 3
            have p4 : w1.cell? ⟨w.heap.size, 4, none⟩ = some (.int .i64 r) := blk_cell X1.out.b0 4
            have q4 : w1.cell? ⟨w.heap.size + 1, 4, none⟩ = some (.int .i64 r2) := blk_cell X1.out.b1 4
            go_wp2_with fail
            refine (G2.out _ X1.out).mono ?_
            rintro e w2 ⟨rfl, hb⟩
            rw [← Hg2.out]
            have X2 := Lib.hid (X1.out.step hb)
            clear hb
            clear p0 p1 p2 p3 p4 q0 q1 q2 q3 q4
            have p0 : w2.cell? ⟨w.heap.size, 0, none⟩ = some (.int .u8 k) := blk_cell X2.out.b0 0
            have q0 : w2.cell? ⟨w.heap.size + 1, 0, none⟩ = some (.int .u8 k2) := blk_cell X2.out.b1 0
            have p1 : w2.cell? ⟨w.heap.size, 1, none⟩ = some (.int .i64 n) := blk_cell X2.out.b0 1
            have q1 : w2.cell? ⟨w.heap.size + 1, 1, none⟩ = some (.int .i64 n2) := blk_cell X2.out.b1 1
            have p2 : w2.cell? ⟨w.heap.size, 2, none⟩ = some (.string st) := blk_cell X2.out.b0 2
            have q2 : w2.cell? ⟨w.heap.size + 1, 2, none⟩ = some (.string st2) := blk_cell X2.out.b1 2
            have p3 : w2.cell? ⟨w.heap.size, 3, none⟩ = some (.slice A m c) := blk_cell X2.out.b0 3
            have q3 : w2.cell? ⟨w.heap.size + 1, 3, none⟩ = some (.slice A2 m2 c2) := blk_cell X2.out.b1 3
            have p4 : w2.cell? ⟨w.heap.size, 4, none⟩ = some (.int .i64 r) := blk_cell X2.out.b0 4
            have q4 : w2.cell? ⟨w.heap.size + 1, 4, none⟩ = some (.int .i64 r2) := blk_cell X2.out.b1 4
            go_wp2_with fail
            refine (text_yes (hv.out.below X2.out.bel HS.out) (BD.out _ X2.out).1 hf.out (by omega) (TB.out _ X2.out) ha.out).mono ?_
            rintro e w3 ⟨rfl, hb⟩
            rw [← Htv.out]
            have X3 := Lib.hid (X2.out.step hb)
            clear hb
            clear p0 p1 p2 p3 p4 q0 q1 q2 q3 q4
            have p0 : w3.cell? ⟨w.heap.size, 0, none⟩ = some (.int .u8 k) := blk_cell X3.out.b0 0
            have q0 : w3.cell? ⟨w.heap.size + 1, 0, none⟩ = some (.int .u8 k2) := blk_cell X3.out.b1 0
            have p1 : w3.cell? ⟨w.heap.size, 1, none⟩ = some (.int .i64 n) := blk_cell X3.out.b0 1
            have q1 : w3.cell? ⟨w.heap.size + 1, 1, none⟩ = some (.int .i64 n2) := blk_cell X3.out.b1 1
            have p2 : w3.cell? ⟨w.heap.size, 2, none⟩ = some (.string st) := blk_cell X3.out.b0 2
            have q2 : w3.cell? ⟨w.heap.size + 1, 2, none⟩ = some (.string st2) := blk_cell X3.out.b1 2
            have p3 : w3.cell? ⟨w.heap.size, 3, none⟩ = some (.slice A m c) := blk_cell X3.out.b0 3
            have q3 : w3.cell? ⟨w.heap.size + 1, 3, none⟩ = some (.slice A2 m2 c2) := blk_cell X3.out.b1 3
            have p4 : w3.cell? ⟨w.heap.size, 4, none⟩ = some (.int .i64 r) := blk_cell X3.out.b0 4
            have q4 : w3.cell? ⟨w.heap.size + 1, 4, none⟩ = some (.int .i64 r2) := blk_cell X3.out.b1 4
            go_wp2_with fail
            refine (text_yes (hv2.out.below X3.out.bel HS2.out) (BD.out _ X3.out).2 hf2.out (by omega) (TB.out _ X3.out) hb2.out).mono ?_
            rintro e w4 ⟨rfl, hb⟩
            rw [← Htv2.out]
            have X4 := Lib.hid (X3.out.step hb)
            clear hb
            clear p0 p1 p2 p3 p4 q0 q1 q2 q3 q4
            have p0 : w4.cell? ⟨w.heap.size, 0, none⟩ = some (.int .u8 k) := blk_cell X4.out.b0 0
            have q0 : w4.cell? ⟨w.heap.size + 1, 0, none⟩ = some (.int .u8 k2) := blk_cell X4.out.b1 0
            have p1 : w4.cell? ⟨w.heap.size, 1, none⟩ = some (.int .i64 n) := blk_cell X4.out.b0 1
            have q1 : w4.cell? ⟨w.heap.size + 1, 1, none⟩ = some (.int .i64 n2) := blk_cell X4.out.b1 1
            have p2 : w4.cell? ⟨w.heap.size, 2, none⟩ = some (.string st) := blk_cell X4.out.b0 2
            have q2 : w4.cell? ⟨w.heap.size + 1, 2, none⟩ = some (.string st2) := blk_cell X4.out.b1 2
            have p3 : w4.cell? ⟨w.heap.size, 3, none⟩ = some (.slice A m c) := blk_cell X4.out.b0 3
            have q3 : w4.cell? ⟨w.heap.size + 1, 3, none⟩ = some (.slice A2 m2 c2) := blk_cell X4.out.b1 3
            have p4 : w4.cell? ⟨w.heap.size, 4, none⟩ = some (.int .i64 r) := blk_cell X4.out.b0 4
            have q4 : w4.cell? ⟨w.heap.size + 1, 4, none⟩ = some (.int .i64 r2) := blk_cell X4.out.b1 4
            go_wp2_with fail
            refine (M1.out _ X4.out).mono ?_
            rintro e w5 ⟨rfl, hb⟩
            rw [lm1.out, ha.out]
            have X5 := Lib.hid (X4.out.step hb)
            clear hb
            clear p0 p1 p2 p3 p4 q0 q1 q2 q3 q4
            have p0 : w5.cell? ⟨w.heap.size, 0, none⟩ = some (.int .u8 k) := blk_cell X5.out.b0 0
            have q0 : w5.cell? ⟨w.heap.size + 1, 0, none⟩ = some (.int .u8 k2) := blk_cell X5.out.b1 0
            have p1 : w5.cell? ⟨w.heap.size, 1, none⟩ = some (.int .i64 n) := blk_cell X5.out.b0 1
            have q1 : w5.cell? ⟨w.heap.size + 1, 1, none⟩ = some (.int .i64 n2) := blk_cell X5.out.b1 1
            have p2 : w5.cell? ⟨w.heap.size, 2, none⟩ = some (.string st) := blk_cell X5.out.b0 2
            have q2 : w5.cell? ⟨w.heap.size + 1, 2, none⟩ = some (.string st2) := blk_cell X5.out.b1 2
            have p3 : w5.cell? ⟨w.heap.size, 3, none⟩ = some (.slice A m c) := blk_cell X5.out.b0 3
            have q3 : w5.cell? ⟨w.heap.size + 1, 3, none⟩ = some (.slice A2 m2 c2) := blk_cell X5.out.b1 3
            have p4 : w5.cell? ⟨w.heap.size, 4, none⟩ = some (.int .i64 r) := blk_cell X5.out.b0 4
            have q4 : w5.cell? ⟨w.heap.size + 1, 4, none⟩ = some (.int .i64 r2) := blk_cell X5.out.b1 4
            go_wp2_with fail
            refine (M2.out _ X5.out).mono ?_
            rintro e w6 ⟨rfl, hb⟩
            rw [lm2.out, hb2.out]
            have X6 := Lib.hid (X5.out.step hb)
            clear hb
            clear p0 p1 p2 p3 p4 q0 q1 q2 q3 q4
            have p0 : w6.cell? ⟨w.heap.size, 0, none⟩ = some (.int .u8 k) := blk_cell X6.out.b0 0
            have q0 : w6.cell? ⟨w.heap.size + 1, 0, none⟩ = some (.int .u8 k2) := blk_cell X6.out.b1 0
            have p1 : w6.cell? ⟨w.heap.size, 1, none⟩ = some (.int .i64 n) := blk_cell X6.out.b0 1
            have q1 : w6.cell? ⟨w.heap.size + 1, 1, none⟩ = some (.int .i64 n2) := blk_cell X6.out.b1 1
            have p2 : w6.cell? ⟨w.heap.size, 2, none⟩ = some (.string st) := blk_cell X6.out.b0 2
            have q2 : w6.cell? ⟨w.heap.size + 1, 2, none⟩ = some (.string st2) := blk_cell X6.out.b1 2
            have p3 : w6.cell? ⟨w.heap.size, 3, none⟩ = some (.slice A m c) := blk_cell X6.out.b0 3
            have q3 : w6.cell? ⟨w.heap.size + 1, 3, none⟩ = some (.slice A2 m2 c2) := blk_cell X6.out.b1 3
            have p4 : w6.cell? ⟨w.heap.size, 4, none⟩ = some (.int .i64 r) := blk_cell X6.out.b0 4
            have q4 : w6.cell? ⟨w.heap.size + 1, 4, none⟩ = some (.int .i64 r2) := blk_cell X6.out.b1 4
            go_wp2_with fail
            refine (by rw [Htv.out]; exact read_text_ok _ HL1.out ha.out hf.out : Calls Tryd.prog 12 #[.string tv] _ _).mono ?_
            rintro e w7 ⟨⟨k4, n4, st4, A4, m4, c4, r4, rfl, hv7⟩, hb⟩
            have X7 := Lib.hid (X6.out.step hb)
            have hv7 := Lib.hid hv7
            clear hb
            clear p0 p1 p2 p3 p4 q0 q1 q2 q3 q4
            have p0 : ∀ o, (w7.alloc o).cell? ⟨w.heap.size, 0, none⟩ = some (.int .u8 k) := fun o => blk_cell (X7.out.alloc o).b0 0
            have q0 : ∀ o, (w7.alloc o).cell? ⟨w.heap.size + 1, 0, none⟩ = some (.int .u8 k2) := fun o => blk_cell (X7.out.alloc o).b1 0
            have p1 : ∀ o, (w7.alloc o).cell? ⟨w.heap.size, 1, none⟩ = some (.int .i64 n) := fun o => blk_cell (X7.out.alloc o).b0 1
            have q1 : ∀ o, (w7.alloc o).cell? ⟨w.heap.size + 1, 1, none⟩ = some (.int .i64 n2) := fun o => blk_cell (X7.out.alloc o).b1 1
            have p2 : ∀ o, (w7.alloc o).cell? ⟨w.heap.size, 2, none⟩ = some (.string st) := fun o => blk_cell (X7.out.alloc o).b0 2
            have q2 : ∀ o, (w7.alloc o).cell? ⟨w.heap.size + 1, 2, none⟩ = some (.string st2) := fun o => blk_cell (X7.out.alloc o).b1 2
            have p3 : ∀ o, (w7.alloc o).cell? ⟨w.heap.size, 3, none⟩ = some (.slice A m c) := fun o => blk_cell (X7.out.alloc o).b0 3
            have q3 : ∀ o, (w7.alloc o).cell? ⟨w.heap.size + 1, 3, none⟩ = some (.slice A2 m2 c2) := fun o => blk_cell (X7.out.alloc o).b1 3
            have p4 : ∀ o, (w7.alloc o).cell? ⟨w.heap.size, 4, none⟩ = some (.int .i64 r) := fun o => blk_cell (X7.out.alloc o).b0 4
            have q4 : ∀ o, (w7.alloc o).cell? ⟨w.heap.size + 1, 4, none⟩ = some (.int .i64 r2) := fun o => blk_cell (X7.out.alloc o).b1 4
            go_wp2_with fail
            have X8 := Lib.hid (X7.out.alloc (.cells #[.int .u8 k4, .int .i64 n4, .string st4, .slice A4 m4 c4, .int .i64 r4] 26))
            refine (alike_any v v _ _ _ _ _ (hv7.out.below ((Below.refl _ _).alloc (Nat.le_refl _) _) (fun b h => h.2)) (hv.out.below X8.out.bel HS.out) (fun b h => by have := h.2; simp; omega) (BD.out _ X8.out).1).mono ?_
            rintro e w9 ⟨⟨bb, rfl, hbb⟩, hb⟩
            obtain rfl : bb = true := hbb.mpr rfl
            have X9 := Lib.hid (X8.out.step hb)
            clear hb hbb
            clear p0 p1 p2 p3 p4 q0 q1 q2 q3 q4
            have p0 : w9.cell? ⟨w.heap.size, 0, none⟩ = some (.int .u8 k) := blk_cell X9.out.b0 0
            have q0 : w9.cell? ⟨w.heap.size + 1, 0, none⟩ = some (.int .u8 k2) := blk_cell X9.out.b1 0
            have p1 : w9.cell? ⟨w.heap.size, 1, none⟩ = some (.int .i64 n) := blk_cell X9.out.b0 1
            have q1 : w9.cell? ⟨w.heap.size + 1, 1, none⟩ = some (.int .i64 n2) := blk_cell X9.out.b1 1
            have p2 : w9.cell? ⟨w.heap.size, 2, none⟩ = some (.string st) := blk_cell X9.out.b0 2
            have q2 : w9.cell? ⟨w.heap.size + 1, 2, none⟩ = some (.string st2) := blk_cell X9.out.b1 2
            have p3 : w9.cell? ⟨w.heap.size, 3, none⟩ = some (.slice A m c) := blk_cell X9.out.b0 3
            have q3 : w9.cell? ⟨w.heap.size + 1, 3, none⟩ = some (.slice A2 m2 c2) := blk_cell X9.out.b1 3
            have p4 : w9.cell? ⟨w.heap.size, 4, none⟩ = some (.int .i64 r) := blk_cell X9.out.b0 4
            have q4 : w9.cell? ⟨w.heap.size + 1, 4, none⟩ = some (.int .i64 r2) := blk_cell X9.out.b1 4
            go_wp2_with fail
            refine (alike_any v v2 _ _ _ _ _ (hv.out.below X9.out.bel HS.out) (hv2.out.below X9.out.bel HS2.out) (BD.out _ X9.out).1 (BD.out _ X9.out).2).mono ?_
            rintro e w10 ⟨⟨bb, rfl, hbb⟩, hb⟩
            obtain rfl : bb = false := by cases bb with | false => rfl | true => exact absurd (hbb.mp rfl) hvv.out
            have X10 := Lib.hid (X9.out.step hb)
            clear hb hbb
            clear p0 p1 p2 p3 p4 q0 q1 q2 q3 q4
            go_wp2_with fail
            refine (read_no s _ hs HRD.out).mono ?_
            rintro e w11 ⟨⟨k3, n3, st3, A3, m3, c3, r3, pl, er, rfl, her⟩, hb⟩
            have X11 := Lib.hid (X10.out.step hb)
            clear hb
            go_wp2_with fail
            have X12 := Lib.hid (X11.out.alloc (.cells #[.int .u8 k3, .int .i64 n3, .string st3, .slice A3 m3 c3, .int .i64 r3] 26))
            refine (quote_is s _ (by omega)).mono ?_
            rintro e w13 ⟨rfl, hb⟩
            have X13 := Lib.hid (X12.out.step hb)
            clear hb
            go_wp2_with fail
            refine (unq_quote s _ hs).mono ?_
            rintro e w14 ⟨rfl, hb⟩
            have X14 := Lib.hid (X13.out.step hb)
            clear hb
            go_wp2_with fail
            refine (unq_no s _ hs HUQ.out).mono ?_
            rintro e w15 ⟨⟨u5, pl5, er5, rfl, her5⟩, hb⟩
            have X15 := Lib.hid (X14.out.step hb)
            clear hb
            go_wp2_with fail
            refine (AW.out _ X15.out).mono ?_
            rintro e w16 ⟨rfl, hb⟩
            have X16 := Lib.hid (X15.out.step hb)
            clear hb
            go_wp2
            go_ret
            exact ⟨rfl, X16.out.bel⟩
end Go.Proofs.YtmiipfdndgjndaaDoor
