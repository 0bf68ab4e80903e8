/- The contract of the program's Cut. -/
import Derived.Test.YtmiipfdndgjndaaDoorS
import Derived.Outline
namespace Go.Proofs.YtmiipfdndgjndaaDoor
open Go.RowKit Go.Lib
set_option maxHeartbeats 1000000
theorem info56 : (Tryd.prog.info? 56).map (fun i => (i.zero, i.size, i.bytes)) = some (some (.agg #[.int .u8 0, .int .i64 0, .int .i64 0, .string ⟨#[]⟩, .int .i64 0]), 5, 48) := by kernel_rfl
def tokC (t : T) : List Value := [.int .u8 t.kind, .int .i64 t.place, .int .i64 t.n, .string t.s, .int .i64 t.r]
def tokCs (l : List T) : List Value := l.flatMap tokC
theorem tokCs_snoc (l : List T) (t : T) : tokCs (l ++ [t]) = tokCs l ++ tokC t := by simp [tokCs]
def cutRes : Except Nat (List T) → List T × Nat × Int
  | .error q => ([], q, 30)
  | .ok l => (l, 0, 0)
def CutPost (r : List T × Nat × Int) (w : World) (e : Ending) (w' : World) : Prop :=
  (∃ (A : Option Addr) (cap : Nat), e = .returned (.tuple #[.slice A r.1.length cap, .int .i64 (r.2.1 : Int), .int .i64 r.2.2]) ∧ w'.ownsRow w.heap.size 56 5 (.slice A r.1.length cap) r.1.length (tokCs r.1)) ∧ Below w.heap.size w w'
def cutCaught (w : World) (H0 H1 H2 : Nat) (n : Int) : World := ((w.setCell ⟨H0, 0, none⟩ (.slice none 0 0)).setCell ⟨H1, 0, none⟩ (.int .i64 n)).setCell ⟨H2, 0, none⟩ (.int .i64 30)
set_option maxRecDepth 100000 in
theorem cutCatch (H0 H1 H2 : Nat) (x y z : Value) (n : Int) (w : World) (hb0 : w.heap[H0]? = some (.cells #[x] 40 (0, 0))) (hb1 : w.heap[H1]? = some (.cells #[y] 3 (0, 0))) (hb2 : w.heap[H2]? = some (.cells #[z] 27 (0, 0))) (h01 : H1 ≠ H0) (h02 : H2 ≠ H0) (h12 : H2 ≠ H1) :
    CallsD Tryd.prog 48 #[.pointer (some ⟨H0, 0, none⟩), .pointer (some ⟨H1, 0, none⟩), .pointer (some ⟨H2, 0, none⟩)] (.panicking [{ v := .iface 73 (.int .i64 n), recovered := false }]) w fun e u' w' =>
      e = .returned (.tuple #[]) ∧ u' = .panicking [{ v := .iface 73 (.int .i64 n), recovered := true }] ∧ w' = cutCaught w H0 H1 H2 n := by
  refine callsD_of_wpS Tryd.func48 rfl fun c₀ cs hu => ?_
  apply wpS_seq
  apply wpS_region
  simp [wpOpsS, go_sem, recoverD, hu, Tryd.ntmps48, Exit.thenS]
  refine wpS_of_wp (Code.wp_mono (Q := fun e a' w' => e = .normal ∧ a'.defers = [] ∧ w' = cutCaught w H0 H1 H2 n) ?_ ?_)
  · rintro e a' w' ⟨rfl, hd, rfl⟩
    exact ⟨hd, _, rfl, _, results_none rfl _ _ _, rfl, rfl, rfl⟩
  · have hta := assertStuck
    have e0 := blk_cell hb0 0
    have g0 := blk_free hb0 0
    have k1 := blk_cell hb1 0
    have k2 := blk_free hb1 0
    have k3 := blk_cell hb2 0
    have k4 := blk_free hb2 0
    simp only [Array.replicate_succ, Array.replicate_zero, List.push_toArray, List.append_toArray, List.nil_append, List.cons_append, List.setIfInBounds_toArray, List.set_cons_succ, List.set_cons_zero]
    go_wp2_with fail
    rfl
theorem cutIdle (p0 p1 p2 : Addr) (w : World) :
    CallsD Tryd.prog 48 #[.pointer (some p0), .pointer (some p1), .pointer (some p2)] .returning w fun e u' w' => e = .returned (.tuple #[]) ∧ u' = .returning ∧ w' = w := by
  refine callsD_of_wpS Tryd.func48 rfl fun c₀ cs hu => ?_
  apply wpS_seq
  apply wpS_region
  simp [wpOpsS, go_sem, recoverD, hu, Tryd.ntmps48, Exit.thenS]
  refine wpS_of_wp (Code.wp_mono (Q := fun e a' w' => e = .ret ∧ a'.defers = [] ∧ w' = w) ?_ ?_)
  · rintro e a' w' ⟨rfl, hd, rfl⟩
    exact ⟨hd, _, by rw [← hu], _, results_none rfl _ _ _, rfl, rfl, rfl⟩
  · go_wp2
theorem cutCaught_0 {w : World} {H0 H1 H2 : Nat} {x : Value} (n : Int) (h : w.heap[H0]? = some (.cells #[x] 40 (0, 0))) (h01 : H1 ≠ H0) (h02 : H2 ≠ H0) :
    (cutCaught w H0 H1 H2 n).heap[H0]? = some (.cells #[.slice none 0 0] 40 (0, 0)) :=
  (Below.heap_setCell _ _ _ _ (Ne.symm h02)).trans ((Below.heap_setCell _ _ _ _ (Ne.symm h01)).trans (one_set h _))
theorem cutCaught_1 {w : World} {H0 H1 H2 : Nat} {y : Value} (n : Int) (h : w.heap[H1]? = some (.cells #[y] 3 (0, 0))) (h01 : H1 ≠ H0) (h12 : H2 ≠ H1) :
    (cutCaught w H0 H1 H2 n).heap[H1]? = some (.cells #[.int .i64 n] 3 (0, 0)) :=
  (Below.heap_setCell _ _ _ _ (Ne.symm h12)).trans (one_set ((Below.heap_setCell _ _ _ _ h01).trans h) _)
theorem cutCaught_2 {w : World} {H0 H1 H2 : Nat} {z : Value} (n : Int) (h : w.heap[H2]? = some (.cells #[z] 27 (0, 0))) (h02 : H2 ≠ H0) (h12 : H2 ≠ H1) :
    (cutCaught w H0 H1 H2 n).heap[H2]? = some (.cells #[.int .i64 30] 27 (0, 0)) :=
  one_set ((Below.heap_setCell _ _ _ _ h12).trans ((Below.heap_setCell _ _ _ _ h02).trans h)) _
theorem cutCaught_below {a w : World} {H0 H1 H2 : Nat} (n : Int) (h : Below a.heap.size a w) (h0 : a.heap.size ≤ H0) (h1 : a.heap.size ≤ H1) (h2 : a.heap.size ≤ H2) : Below a.heap.size a (cutCaught w H0 H1 H2 n) :=
  ((h.setCell (p := ⟨H0, 0, none⟩) h0 _).setCell (p := ⟨H1, 0, none⟩) h1 _).setCell (p := ⟨H2, 0, none⟩) h2 _
theorem cut_start (s : ByteArray) (w : World) :
    ∀ w0, w0 = ((((w.alloc (.cells #[.slice none 0 0] 40)).alloc (.cells #[.int .i64 0] 3)).alloc (.cells #[.int .i64 0] 27)).alloc (.cells #[.string s, .int .i64 0, .int .i64 0] 77)) →
    w0.heap[w.heap.size]? = some (.cells #[.slice none 0 0] 40 (0, 0)) ∧ w0.heap[w.heap.size + 1]? = some (.cells #[.int .i64 0] 3 (0, 0)) ∧ w0.heap[w.heap.size + 1 + 1]? = some (.cells #[.int .i64 0] 27 (0, 0)) ∧ Rd w0 (w.heap.size + 1 + 1 + 1) s 0 0 ∧ Below w.heap.size w w0 ∧ w0.heap.size = w.heap.size + 4 := by
  rintro w0 rfl
  refine ⟨?_, ?_, ?_, ?_, ?_, by simp⟩
  · exact (Below.heap_alloc _ _ _ (by simp; omega)).trans ((Below.heap_alloc _ _ _ (by simp; omega)).trans ((Below.heap_alloc _ _ _ (by simp)).trans (heap_alloc_new w _)))
  · have := heap_alloc_new (w.alloc (.cells #[.slice none 0 0] 40)) (.cells #[.int .i64 0] 3)
    rw [World.size_alloc] at this
    exact (Below.heap_alloc _ _ _ (by simp <;> omega)).trans ((Below.heap_alloc _ _ _ (by simp)).trans this)
  · have := heap_alloc_new ((w.alloc (.cells #[.slice none 0 0] 40)).alloc (.cells #[.int .i64 0] 3)) (.cells #[.int .i64 0] 27)
    rw [World.size_alloc, World.size_alloc] at this
    exact (Below.heap_alloc _ _ _ (by simp)).trans this
  · have := heap_alloc_new (((w.alloc (.cells #[.slice none 0 0] 40)).alloc (.cells #[.int .i64 0] 3)).alloc (.cells #[.int .i64 0] 27)) (.cells #[.string s, .int .i64 0, .int .i64 0] 77)
    rw [World.size_alloc, World.size_alloc, World.size_alloc] at this
    exact this
  · exact ((((Below.refl _ w).alloc (Nat.le_refl _) _).alloc (by simp) _).alloc (by simp; omega) _).alloc (by simp; omega) _
theorem own_weaken {w : World} {base base' : Nat} {e : TypeId} {size : Nat} {v : Value} {n : Nat} {xs : List Value} (h : w.ownsRow base e size v n xs) (hb : base' ≤ base) : w.ownsRow base' e size v n xs := by
  obtain ⟨h1, h2 | ⟨g, cap, cur, a, b, c⟩⟩ := h
  · exact ⟨h1, .inl h2⟩
  · exact ⟨h1, .inr ⟨g, cap, cur, a, Nat.le_trans hb b, c⟩⟩
/-- What Cut's loop keeps. -/
structure CutIn (s : ByteArray) (w wr : World) (k : Nat) (sv : Value) (acc : List T) : Prop where
  rd : Rd wr (w.heap.size + 1 + 1 + 1) s (k : Int) 0
  b0 : wr.heap[w.heap.size]? = some (.cells #[sv] 40 (0, 0))
  b1 : wr.heap[w.heap.size + 1]? = some (.cells #[.int .i64 0] 3 (0, 0))
  b2 : wr.heap[w.heap.size + 1 + 1]? = some (.cells #[.int .i64 0] 27 (0, 0))
  own : wr.ownsRow (w.heap.size + 4) 56 5 sv acc.length (tokCs acc)
  below : Below w.heap.size w wr
  size : w.heap.size + 4 ≤ wr.heap.size
set_option maxRecDepth 100000 in
theorem cut_long (s : ByteArray) (w : World) (hlong : 1048576 < s.size) : Calls Tryd.prog 20 #[.string s] w (CutPost ([], 0, 4) w) := by
  have t0 : decide ((1048576 : Int) < (s.size : Int)) = true := by simp; omega
  go_enter_defers Tryd.func20, Tryd.ntmps20
  go_wp2_with fail
  have hfin : Below w.heap.size w (((w.alloc (.cells #[.slice none 0 0] 40)).alloc (.cells #[.int .i64 0] 3)).alloc (.cells #[.int .i64 4] 27)) := (((Below.refl _ w).alloc (Nat.le_refl _) _).alloc (by simp) _).alloc (by simp; omega) _
  simp [bodyPostD, Leaves, results, Tryd.results20, go_sem]
  exact ⟨⟨_, _, rfl, World.ownsRow_nil _ _ _ _⟩, hfin⟩
set_option maxRecDepth 100000 in
theorem cut_any (s : ByteArray) (w : World) (hs : ¬ 1048576 < s.size) (hE : ErrVar w) : Calls Tryd.prog 20 #[.string s] w (CutPost (cutF s) w) := by
  have t0 : decide ((1048576 : Int) < (s.size : Int)) = false := by simp; omega
  have hmf : ∀ (fn : Fn) (first cap : Array Value) (w : World), (Instr.makeFunc fn first cap).run Tryd.prog w = .ok (.func fn first cap) w := fun _ _ _ _ => rfl
  obtain ⟨i0, hi, hz0, hz1, hz2⟩ := info_parts info56
  obtain ⟨R, hR⟩ : ∃ R, cutL s (s.size + 1) false 0 [] = R := ⟨_, rfl⟩
  have hcf : cutF s = cutRes R := by
    unfold cutF
    rw [if_neg hs, hR]
    cases R <;> rfl
  rw [hcf]
  have HR := Lib.hid hR
  clear hR hcf
  go_enter_defers Tryd.func20, Tryd.ntmps20
  go_wp2_with fail
  obtain ⟨w0, hw0⟩ : ∃ w0, w0 = ((((w.alloc (.cells #[.slice none 0 0] 40)).alloc (.cells #[.int .i64 0] 3)).alloc (.cells #[.int .i64 0] 27)).alloc (.cells #[.string s, .int .i64 0, .int .i64 0] 77)) := ⟨_, rfl⟩
  rw [← hw0]
  obtain ⟨z0, z1, z2, z3, z4, z5⟩ := cut_start s w w0 hw0
  have hin0 : CutIn s w w0 0 (.slice none 0 0) [] := ⟨z3, z0, z1, z2, World.ownsRow_nil _ _ _ _, z4, by omega⟩
  have Hin0 := Lib.hid hin0
  clear z0 z1 z2 z3 z4 z5 hw0 hin0 hmf
  have h2lt := hE.lt
  go_loopw [6] (fun b6 wr => ∃ (k' f : Nat) (bh : Int) (acc : List T) (sv : Value), CutIn s w wr k' sv acc ∧ b6 = .int .i64 bh ∧ bh ≤ (k' : Int) ∧ s.size < k' + f ∧ cutL s f (bh == (k' : Int)) k' acc = R ∧ k' ≤ s.size ∧ acc.length ≤ k') (fun _ wr => s.size + 1 - atOf (w.heap.size + 1 + 1 + 1) wr)
  case atStart => exact ⟨0, s.size + 1, -1, [], _, Hin0.out, rfl, by omega, by omega, HR.out, by omega, by simp⟩
  case round =>
    obtain ⟨k', f, bh, acc, sv, hin, rfl, hbh, hf, hq, hks, hal⟩ := hrel
    obtain ⟨f, rfl⟩ : ∃ g, f = g + 1 := ⟨f - 1, by omega⟩
    have HI := Lib.hid hin
    have hsz := hin.size
    have c0 := hin.rd.c0
    have c1 := hin.rd.c1
    have f1 := hin.rd.f 1
    have hat0 := atOf_rd hin.rd
    have b0c := blk_cell hin.b0 0
    have b0f := blk_free hin.b0 0
    have hEr := hE.below hin.below
    have HEr := Lib.hid hEr
    clear hin hEr
    rw [cutL] at hq
    by_cases hk : k' < s.size
    · rw [if_pos hk] at hq
      have hkI : decide ((k' : Int) < (s.size : Int)) = true := by simp; omega
      have g0 : (0 : Int) ≤ (k' : Int) := by omega
      have g1 : (k' : Int) < (s.size : Int) := by omega
      have hbe := bAt_eq s k' hk
      have Hat := Lib.hid hat0
      by_cases h32 : bAt s k' = 32
      · rw [if_pos h32] at hq
        rw [h32] at hbe
        have hneq : (bh == ((k' + 1 : Nat) : Int)) = false := by simp; omega
        have Hneq := Lib.hid hneq
        have Hq := Lib.hid hq
        clear hq hneq hat0 h32
        go_wp2_with fail
        refine ⟨⟨k' + 1, f, bh, acc, sv, ⟨Rd.at (Rd.set1 HI.out.rd _) (by omega), (Below.heap_setCell _ _ _ _ (by show w.heap.size ≠ (w.heap.size + 1 + 1 + 1); omega)).trans HI.out.b0, (Below.heap_setCell _ _ _ _ (by show w.heap.size + 1 ≠ (w.heap.size + 1 + 1 + 1); omega)).trans HI.out.b1, (Below.heap_setCell _ _ _ _ (by show w.heap.size + 1 + 1 ≠ (w.heap.size + 1 + 1 + 1); omega)).trans HI.out.b2, own_of_block HI.out.own (fun g hg => Below.heap_setCell _ _ _ g (by have := (HI.out.own.lt g hg).1; show g ≠ (w.heap.size + 1 + 1 + 1); omega)), HI.out.below.setCell (p := ⟨(w.heap.size + 1 + 1 + 1), 1, none⟩) (by show w.heap.size ≤ (w.heap.size + 1 + 1 + 1); omega) _, by simp [World.setCell]; omega⟩, rfl, by omega, by omega, by rw [Hneq.out]; exact Hq.out, by omega, by omega⟩, ?_⟩
        rw [atOf_rd (k := k' + 1) (Rd.at (Rd.set1 HI.out.rd ((k' : Int) + 1)) (by omega)), Hat.out]
        omega
      · rw [if_neg h32] at hq
        have t32 : (bAt s k' == 32) = false := by simpa using h32
        have hsg := fun W => sign_any (bAt s k') W
        by_cases hbad : (bh == (k' : Int)) = true ∧ signI (bAt s k') = false
        · rw [if_pos hbad] at hq
          subst hq
          obtain ⟨hb1, hb2⟩ := hbad
          rw [hb2] at hsg
          have tb : ((k' : Int) == bh) = true := by simp at hb1 ⊢; omega
          generalize bAt s k' = c at hbe t32 hsg
          have HSG := Lib.hid hsg
          clear hsg hb1 hb2 h32 hat0
          go_wp2_with fail
          refine (HSG.out _).mono ?_
          rintro e w' ⟨rfl, rfl⟩
          go_wp2_with fail
          refine (wrong_any (w.heap.size + 1 + 1 + 1) s k' 0 _ (by exact HI.out.rd)).mono ?_
          rintro e w' ⟨rfl, rfl⟩
          have f0 := cutCaught_0 (k' : Int) HI.out.b0 (by omega : w.heap.size + 1 ≠ w.heap.size) (by omega : w.heap.size + 1 + 1 ≠ w.heap.size)
          have f1 := cutCaught_1 (H0 := w.heap.size) (H2 := w.heap.size + 1 + 1) (k' : Int) HI.out.b1 (by omega) (by omega)
          have f2 := cutCaught_2 (H0 := w.heap.size) (H1 := w.heap.size + 1) (k' : Int) HI.out.b2 (by omega) (by omega)
          have hfin := cutCaught_below (k' : Int) HI.out.below (Nat.le_refl _) (by omega : w.heap.size ≤ w.heap.size + 1) (by omega : w.heap.size ≤ w.heap.size + 1 + 1)
          refine leaves_cons (f := 48) (args := #[.pointer (some ⟨w.heap.size, 0, none⟩), .pointer (some ⟨w.heap.size + 1, 0, none⟩), .pointer (some ⟨w.heap.size + 1 + 1, 0, none⟩)]) (by simp) (by simp [go_sem]) ?_
          refine (cutCatch w.heap.size (w.heap.size + 1) (w.heap.size + 1 + 1) _ _ _ (k' : Int) _ HI.out.b0 HI.out.b1 HI.out.b2 (by omega) (by omega) (by omega)).mono ?_
          rintro e u' w3 ⟨rfl, rfl, rfl⟩
          have c0 := blk_cell f0 0
          have c1 := blk_cell f1 0
          have c2 := blk_cell f2 0
          simp [Leaves, settle, results, Tryd.results20, go_sem, c0, c1, c2]
          exact ⟨⟨none, 0, rfl, World.ownsRow_nil _ _ _ _⟩, hfin⟩
        · rw [if_neg hbad] at hq
          have htok := tok_any (w.heap.size + 1 + 1 + 1) s k' 0 wr (by omega) HI.out.rd hk (by omega) HEr.out
          have hcase : (((k' : Int) == bh) = false) ∨ (((k' : Int) == bh) = true ∧ signI (bAt s k') = true) := by
            cases hh : ((k' : Int) == bh) with
            | false => exact .inl rfl
            | true =>
              refine .inr ⟨rfl, ?_⟩
              cases hs2 : signI (bAt s k') with
              | true => rfl
              | false => exact absurd ⟨by simp at hh ⊢; omega, hs2⟩ hbad
          cases hT : tokF s k' with
          | error q =>
            rw [hT] at hq htok
            dsimp only at hq
            subst hq
            generalize bAt s k' = c at hbe t32 hsg htok hcase
            have HT := Lib.hid htok
            clear htok hT hbad h32 hat0
            rcases hcase with tb | ⟨tb, hsgn⟩
            · clear hsg
              go_wp2_with fail
              refine (HT.out).mono ?_
              rintro e w2 ⟨rfl, hb2⟩
              have hd0 := (hb2.block w.heap.size (by omega) (by omega)).trans HI.out.b0
              have hd1 := (hb2.block (w.heap.size + 1) (by omega) (by omega)).trans HI.out.b1
              have hd2 := (hb2.block (w.heap.size + 1 + 1) (by omega) (by omega)).trans HI.out.b2
              have hbw2 : Below w.heap.size w w2 := HI.out.below.trans ⟨hb2.os, hb2.tape, hb2.output, hb2.size, fun i hi => hb2.block i (by omega) (by omega)⟩
              have f0 := cutCaught_0 (q : Int) hd0 (by omega : w.heap.size + 1 ≠ w.heap.size) (by omega : w.heap.size + 1 + 1 ≠ w.heap.size)
              have f1 := cutCaught_1 (H0 := w.heap.size) (H2 := w.heap.size + 1 + 1) (q : Int) hd1 (by omega) (by omega)
              have f2 := cutCaught_2 (H0 := w.heap.size) (H1 := w.heap.size + 1) (q : Int) hd2 (by omega) (by omega)
              have hfin := cutCaught_below (q : Int) hbw2 (Nat.le_refl _) (by omega : w.heap.size ≤ w.heap.size + 1) (by omega : w.heap.size ≤ w.heap.size + 1 + 1)
              refine leaves_cons (f := 48) (args := #[.pointer (some ⟨w.heap.size, 0, none⟩), .pointer (some ⟨w.heap.size + 1, 0, none⟩), .pointer (some ⟨w.heap.size + 1 + 1, 0, none⟩)]) (by simp) (by simp [go_sem]) ?_
              refine (cutCatch w.heap.size (w.heap.size + 1) (w.heap.size + 1 + 1) _ _ _ (q : Int) _ hd0 hd1 hd2 (by omega) (by omega) (by omega)).mono ?_
              rintro e u' w3 ⟨rfl, rfl, rfl⟩
              have c0 := blk_cell f0 0
              have c1 := blk_cell f1 0
              have c2 := blk_cell f2 0
              simp [Leaves, settle, results, Tryd.results20, go_sem, c0, c1, c2]
              exact ⟨⟨none, 0, rfl, World.ownsRow_nil _ _ _ _⟩, hfin⟩
            · rw [hsgn] at hsg
              have HSG := Lib.hid hsg
              clear hsg hsgn
              go_wp2_with fail
              refine (HSG.out _).mono ?_
              rintro e w' ⟨rfl, rfl⟩
              go_wp2_with fail
              refine (HT.out).mono ?_
              rintro e w2 ⟨rfl, hb2⟩
              have hd0 := (hb2.block w.heap.size (by omega) (by omega)).trans HI.out.b0
              have hd1 := (hb2.block (w.heap.size + 1) (by omega) (by omega)).trans HI.out.b1
              have hd2 := (hb2.block (w.heap.size + 1 + 1) (by omega) (by omega)).trans HI.out.b2
              have hbw2 : Below w.heap.size w w2 := HI.out.below.trans ⟨hb2.os, hb2.tape, hb2.output, hb2.size, fun i hi => hb2.block i (by omega) (by omega)⟩
              have f0 := cutCaught_0 (q : Int) hd0 (by omega : w.heap.size + 1 ≠ w.heap.size) (by omega : w.heap.size + 1 + 1 ≠ w.heap.size)
              have f1 := cutCaught_1 (H0 := w.heap.size) (H2 := w.heap.size + 1 + 1) (q : Int) hd1 (by omega) (by omega)
              have f2 := cutCaught_2 (H0 := w.heap.size) (H1 := w.heap.size + 1) (q : Int) hd2 (by omega) (by omega)
              have hfin := cutCaught_below (q : Int) hbw2 (Nat.le_refl _) (by omega : w.heap.size ≤ w.heap.size + 1) (by omega : w.heap.size ≤ w.heap.size + 1 + 1)
              refine leaves_cons (f := 48) (args := #[.pointer (some ⟨w.heap.size, 0, none⟩), .pointer (some ⟨w.heap.size + 1, 0, none⟩), .pointer (some ⟨w.heap.size + 1 + 1, 0, none⟩)]) (by simp) (by simp [go_sem]) ?_
              refine (cutCatch w.heap.size (w.heap.size + 1) (w.heap.size + 1 + 1) _ _ _ (q : Int) _ hd0 hd1 hd2 (by omega) (by omega) (by omega)).mono ?_
              rintro e u' w3 ⟨rfl, rfl, rfl⟩
              have c0 := blk_cell f0 0
              have c1 := blk_cell f1 0
              have c2 := blk_cell f2 0
              simp [Leaves, settle, results, Tryd.results20, go_sem, c0, c1, c2]
              exact ⟨⟨none, 0, rfl, World.ownsRow_nil _ _ _ _⟩, hfin⟩
          | ok rr =>
            obtain ⟨tk, k2⟩ := rr
            obtain ⟨hk2, hk2s, -⟩ := tokF_lt s k' hk tk k2 hT
            rw [hT] at hq htok
            dsimp only at hq
            generalize bAt s k' = c at hbe t32 hsg htok hcase
            have HT := Lib.hid htok
            have Hq := Lib.hid hq
            clear htok hT hbad h32 hat0 hq
            rcases hcase with tb | ⟨tb, hsgn⟩
            · clear hsg
              by_cases h5 : tk.kind = 5
              · have t56' : (tk.kind == 5) = true := by rw [h5]; rfl
                have n56 : (tk.kind != 5) = false := by rw [h5]; rfl
                clear h5
                go_wp2_with fail
                refine (HT.out).mono ?_
                rintro e w2 ⟨⟨rfl, hrd2⟩, hb2⟩
                unfold tokV
                have hs2 := hb2.size
                have hd0 := (hb2.block w.heap.size (by omega) (by omega)).trans HI.out.b0
                have hd1 := (hb2.block (w.heap.size + 1) (by omega) (by omega)).trans HI.out.b1
                have hd2 := (hb2.block (w.heap.size + 1 + 1) (by omega) (by omega)).trans HI.out.b2
                have ho2 : w2.ownsRow (w.heap.size + 4) 56 5 sv acc.length (tokCs acc) := own_but HI.out.own (by omega) hb2
                have hbw2 : Below w.heap.size w w2 := HI.out.below.trans ⟨hb2.os, hb2.tape, hb2.output, hb2.size, fun i hi => hb2.block i (by omega) (by omega)⟩
                have e0 : ∀ o, (w2.alloc o).cell? ⟨w.heap.size, 0, none⟩ = some sv := fun o => blk_cell ((Below.heap_alloc _ _ _ (by omega)).trans hd0) 0
                have r1 : ∀ o, (w2.alloc o).cell? ⟨w.heap.size + 1 + 1 + 1, 1, none⟩ = some (.int .i64 (k2 : Int)) := fun o => (Rd.alloc hrd2 o).c1
                have D0 := Lib.hid hd0
                have D1 := Lib.hid hd1
                have D2 := Lib.hid hd2
                have HO2 := Lib.hid ho2
                have HBW2 := Lib.hid hbw2
                have HR2 := Lib.hid hrd2
                clear hd0 hd1 hd2 ho2 hbw2 hrd2 hb2
                go_wp2_with (at_builtin; go_loud (refine wpList_append_lies _ rfl _ _ 40 rfl (w.heap.size + 4) 56 i0 (.agg #[.int .u8 0, .int .i64 0, .int .i64 0, .string ⟨#[]⟩, .int .i64 0]) 5 48 Tryd.underlying40 hi hz0 hz1 hz2 rfl (by decide) _ acc.length (tokCs acc) rfl (by exact (HO2.out.alloc _).alloc _) _ 1 1 _ rfl rfl (cells_at _ _ (by simp) _ _) (by simp [Value.oneCell']) (by decide) (by unfold maxLen; omega) (by omega) (by (try simp) <;> omega) _ rfl ?_; intro g cap3 w3 hown3 hgrow3 hat3 hlt3; have hd0 := (hgrow3.block w.heap.size (by (try simp) <;> omega) (fun e => by have := (HO2.out.lt _ e.symm).1; omega)).trans ((Below.heap_alloc _ _ _ (by (try simp) <;> omega)).trans ((Below.heap_alloc _ _ _ (by omega)).trans D0.out)); have hd1 := (hgrow3.block (w.heap.size + 1) (by (try simp) <;> omega) (fun e => by have := (HO2.out.lt _ e.symm).1; omega)).trans ((Below.heap_alloc _ _ _ (by (try simp) <;> omega)).trans ((Below.heap_alloc _ _ _ (by omega)).trans D1.out)); have hd2 := (hgrow3.block (w.heap.size + 1 + 1) (by (try simp) <;> omega) (fun e => by have := (HO2.out.lt _ e.symm).1; omega)).trans ((Below.heap_alloc _ _ _ (by (try simp) <;> omega)).trans ((Below.heap_alloc _ _ _ (by omega)).trans D2.out)); have hrd3 : Rd w3 (w.heap.size + 1 + 1 + 1) s (k2 : Int) 0 := (hgrow3.block (w.heap.size + 1 + 1 + 1) (by (try simp) <;> omega) (fun e => by have := (HO2.out.lt _ e.symm).1; omega)).trans ((Below.heap_alloc _ _ _ (by (try simp) <;> omega)).trans ((Below.heap_alloc _ _ _ (by omega)).trans HR2.out)); have hbw3 : Below w.heap.size w w3 := ((HBW2.out.alloc (by omega) _).alloc (by (try simp) <;> omega) _).trans ⟨hgrow3.os, hgrow3.tape, hgrow3.output, hgrow3.size, fun i hi => hgrow3.block i (by (try simp) <;> omega) (fun e => by have := (HO2.out.lt _ e.symm).1; omega)⟩; have hs3 : w.heap.size + 4 ≤ w3.heap.size := (by have := hgrow3.size; simp at this; omega); have e0 := blk_cell hd0 0; have g0 := blk_free hd0 0; have D03 := Lib.hid hd0; have D13 := Lib.hid hd1; have D23 := Lib.hid hd2; have HO3 := Lib.hid hown3; have HR3 := Lib.hid hrd3; have HB3 := Lib.hid hbw3; clear hown3 hgrow3 hat3 hlt3 hd0 hd1 hd2 hrd3 hbw3))
                go_wp2_with fail
                refine ⟨⟨k2, f, bh, acc ++ [tk], _, ⟨HR3.out.far (q := ⟨w.heap.size, 0, none⟩) (by show (w.heap.size + 1 + 1 + 1) ≠ w.heap.size; omega) _, one_set D03.out _, (Below.heap_setCell _ _ _ _ (by show w.heap.size + 1 ≠ w.heap.size; omega)).trans D13.out, (Below.heap_setCell _ _ _ _ (by show w.heap.size + 1 + 1 ≠ w.heap.size; omega)).trans D23.out, ?_, HB3.out.setCell (p := ⟨w.heap.size, 0, none⟩) (Nat.le_refl _) _, by simp [World.setCell]; omega⟩, rfl, by omega, by omega, ?_, hk2s, by (try simp) <;> omega⟩, ?_⟩
                · rw [List.length_append, tokCs_snoc]
                  exact own_of_block HO3.out (fun g hg => Below.heap_setCell _ _ _ g (by have := (HO3.out.lt g hg).1; show g ≠ w.heap.size; omega))
                · rw [← Hq.out]
                  congr 1
                  rw [n56]
                  simp; omega
                · rw [atOf_rd (HR3.out.far (q := ⟨w.heap.size, 0, none⟩) (by show (w.heap.size + 1 + 1 + 1) ≠ w.heap.size; omega) _), Hat.out]
                  omega
              · have t56' : (tk.kind == 5) = false := by simpa using h5
                have n56 : (tk.kind != 5) = true := by simpa using h5
                clear h5
                go_wp2_with fail
                refine (HT.out).mono ?_
                rintro e w2 ⟨⟨rfl, hrd2⟩, hb2⟩
                unfold tokV
                have hs2 := hb2.size
                have hd0 := (hb2.block w.heap.size (by omega) (by omega)).trans HI.out.b0
                have hd1 := (hb2.block (w.heap.size + 1) (by omega) (by omega)).trans HI.out.b1
                have hd2 := (hb2.block (w.heap.size + 1 + 1) (by omega) (by omega)).trans HI.out.b2
                have ho2 : w2.ownsRow (w.heap.size + 4) 56 5 sv acc.length (tokCs acc) := own_but HI.out.own (by omega) hb2
                have hbw2 : Below w.heap.size w w2 := HI.out.below.trans ⟨hb2.os, hb2.tape, hb2.output, hb2.size, fun i hi => hb2.block i (by omega) (by omega)⟩
                have e0 : ∀ o, (w2.alloc o).cell? ⟨w.heap.size, 0, none⟩ = some sv := fun o => blk_cell ((Below.heap_alloc _ _ _ (by omega)).trans hd0) 0
                have r1 : ∀ o, (w2.alloc o).cell? ⟨w.heap.size + 1 + 1 + 1, 1, none⟩ = some (.int .i64 (k2 : Int)) := fun o => (Rd.alloc hrd2 o).c1
                have D0 := Lib.hid hd0
                have D1 := Lib.hid hd1
                have D2 := Lib.hid hd2
                have HO2 := Lib.hid ho2
                have HBW2 := Lib.hid hbw2
                have HR2 := Lib.hid hrd2
                clear hd0 hd1 hd2 ho2 hbw2 hrd2 hb2
                go_wp2_with (at_builtin; go_loud (refine wpList_append_lies _ rfl _ _ 40 rfl (w.heap.size + 4) 56 i0 (.agg #[.int .u8 0, .int .i64 0, .int .i64 0, .string ⟨#[]⟩, .int .i64 0]) 5 48 Tryd.underlying40 hi hz0 hz1 hz2 rfl (by decide) _ acc.length (tokCs acc) rfl (by exact (HO2.out.alloc _).alloc _) _ 1 1 _ rfl rfl (cells_at _ _ (by simp) _ _) (by simp [Value.oneCell']) (by decide) (by unfold maxLen; omega) (by omega) (by (try simp) <;> omega) _ rfl ?_; intro g cap3 w3 hown3 hgrow3 hat3 hlt3; have hd0 := (hgrow3.block w.heap.size (by (try simp) <;> omega) (fun e => by have := (HO2.out.lt _ e.symm).1; omega)).trans ((Below.heap_alloc _ _ _ (by (try simp) <;> omega)).trans ((Below.heap_alloc _ _ _ (by omega)).trans D0.out)); have hd1 := (hgrow3.block (w.heap.size + 1) (by (try simp) <;> omega) (fun e => by have := (HO2.out.lt _ e.symm).1; omega)).trans ((Below.heap_alloc _ _ _ (by (try simp) <;> omega)).trans ((Below.heap_alloc _ _ _ (by omega)).trans D1.out)); have hd2 := (hgrow3.block (w.heap.size + 1 + 1) (by (try simp) <;> omega) (fun e => by have := (HO2.out.lt _ e.symm).1; omega)).trans ((Below.heap_alloc _ _ _ (by (try simp) <;> omega)).trans ((Below.heap_alloc _ _ _ (by omega)).trans D2.out)); have hrd3 : Rd w3 (w.heap.size + 1 + 1 + 1) s (k2 : Int) 0 := (hgrow3.block (w.heap.size + 1 + 1 + 1) (by (try simp) <;> omega) (fun e => by have := (HO2.out.lt _ e.symm).1; omega)).trans ((Below.heap_alloc _ _ _ (by (try simp) <;> omega)).trans ((Below.heap_alloc _ _ _ (by omega)).trans HR2.out)); have hbw3 : Below w.heap.size w w3 := ((HBW2.out.alloc (by omega) _).alloc (by (try simp) <;> omega) _).trans ⟨hgrow3.os, hgrow3.tape, hgrow3.output, hgrow3.size, fun i hi => hgrow3.block i (by (try simp) <;> omega) (fun e => by have := (HO2.out.lt _ e.symm).1; omega)⟩; have hs3 : w.heap.size + 4 ≤ w3.heap.size := (by have := hgrow3.size; simp at this; omega); have e0 := blk_cell hd0 0; have g0 := blk_free hd0 0; have D03 := Lib.hid hd0; have D13 := Lib.hid hd1; have D23 := Lib.hid hd2; have HO3 := Lib.hid hown3; have HR3 := Lib.hid hrd3; have HB3 := Lib.hid hbw3; clear hown3 hgrow3 hat3 hlt3 hd0 hd1 hd2 hrd3 hbw3))
                go_wp2_with fail
                refine ⟨⟨k2, f, (k2 : Int), acc ++ [tk], _, ⟨HR3.out.far (q := ⟨w.heap.size, 0, none⟩) (by show (w.heap.size + 1 + 1 + 1) ≠ w.heap.size; omega) _, one_set D03.out _, (Below.heap_setCell _ _ _ _ (by show w.heap.size + 1 ≠ w.heap.size; omega)).trans D13.out, (Below.heap_setCell _ _ _ _ (by show w.heap.size + 1 + 1 ≠ w.heap.size; omega)).trans D23.out, ?_, HB3.out.setCell (p := ⟨w.heap.size, 0, none⟩) (Nat.le_refl _) _, by simp [World.setCell]; omega⟩, rfl, by omega, by omega, ?_, hk2s, by (try simp) <;> omega⟩, ?_⟩
                · rw [List.length_append, tokCs_snoc]
                  exact own_of_block HO3.out (fun g hg => Below.heap_setCell _ _ _ g (by have := (HO3.out.lt g hg).1; show g ≠ w.heap.size; omega))
                · rw [← Hq.out]
                  congr 1
                  rw [n56]
                  simp
                · rw [atOf_rd (HR3.out.far (q := ⟨w.heap.size, 0, none⟩) (by show (w.heap.size + 1 + 1 + 1) ≠ w.heap.size; omega) _), Hat.out]
                  omega
            · rw [hsgn] at hsg
              have HSG := Lib.hid hsg
              clear hsg hsgn
              by_cases h5 : tk.kind = 5
              · have t56' : (tk.kind == 5) = true := by rw [h5]; rfl
                have n56 : (tk.kind != 5) = false := by rw [h5]; rfl
                clear h5
                go_wp2_with fail
                refine (HSG.out _).mono ?_
                rintro e w' ⟨rfl, rfl⟩
                go_wp2_with fail
                refine (HT.out).mono ?_
                rintro e w2 ⟨⟨rfl, hrd2⟩, hb2⟩
                unfold tokV
                have hs2 := hb2.size
                have hd0 := (hb2.block w.heap.size (by omega) (by omega)).trans HI.out.b0
                have hd1 := (hb2.block (w.heap.size + 1) (by omega) (by omega)).trans HI.out.b1
                have hd2 := (hb2.block (w.heap.size + 1 + 1) (by omega) (by omega)).trans HI.out.b2
                have ho2 : w2.ownsRow (w.heap.size + 4) 56 5 sv acc.length (tokCs acc) := own_but HI.out.own (by omega) hb2
                have hbw2 : Below w.heap.size w w2 := HI.out.below.trans ⟨hb2.os, hb2.tape, hb2.output, hb2.size, fun i hi => hb2.block i (by omega) (by omega)⟩
                have e0 : ∀ o, (w2.alloc o).cell? ⟨w.heap.size, 0, none⟩ = some sv := fun o => blk_cell ((Below.heap_alloc _ _ _ (by omega)).trans hd0) 0
                have r1 : ∀ o, (w2.alloc o).cell? ⟨w.heap.size + 1 + 1 + 1, 1, none⟩ = some (.int .i64 (k2 : Int)) := fun o => (Rd.alloc hrd2 o).c1
                have D0 := Lib.hid hd0
                have D1 := Lib.hid hd1
                have D2 := Lib.hid hd2
                have HO2 := Lib.hid ho2
                have HBW2 := Lib.hid hbw2
                have HR2 := Lib.hid hrd2
                clear hd0 hd1 hd2 ho2 hbw2 hrd2 hb2
                go_wp2_with (at_builtin; go_loud (refine wpList_append_lies _ rfl _ _ 40 rfl (w.heap.size + 4) 56 i0 (.agg #[.int .u8 0, .int .i64 0, .int .i64 0, .string ⟨#[]⟩, .int .i64 0]) 5 48 Tryd.underlying40 hi hz0 hz1 hz2 rfl (by decide) _ acc.length (tokCs acc) rfl (by exact (HO2.out.alloc _).alloc _) _ 1 1 _ rfl rfl (cells_at _ _ (by simp) _ _) (by simp [Value.oneCell']) (by decide) (by unfold maxLen; omega) (by omega) (by (try simp) <;> omega) _ rfl ?_; intro g cap3 w3 hown3 hgrow3 hat3 hlt3; have hd0 := (hgrow3.block w.heap.size (by (try simp) <;> omega) (fun e => by have := (HO2.out.lt _ e.symm).1; omega)).trans ((Below.heap_alloc _ _ _ (by (try simp) <;> omega)).trans ((Below.heap_alloc _ _ _ (by omega)).trans D0.out)); have hd1 := (hgrow3.block (w.heap.size + 1) (by (try simp) <;> omega) (fun e => by have := (HO2.out.lt _ e.symm).1; omega)).trans ((Below.heap_alloc _ _ _ (by (try simp) <;> omega)).trans ((Below.heap_alloc _ _ _ (by omega)).trans D1.out)); have hd2 := (hgrow3.block (w.heap.size + 1 + 1) (by (try simp) <;> omega) (fun e => by have := (HO2.out.lt _ e.symm).1; omega)).trans ((Below.heap_alloc _ _ _ (by (try simp) <;> omega)).trans ((Below.heap_alloc _ _ _ (by omega)).trans D2.out)); have hrd3 : Rd w3 (w.heap.size + 1 + 1 + 1) s (k2 : Int) 0 := (hgrow3.block (w.heap.size + 1 + 1 + 1) (by (try simp) <;> omega) (fun e => by have := (HO2.out.lt _ e.symm).1; omega)).trans ((Below.heap_alloc _ _ _ (by (try simp) <;> omega)).trans ((Below.heap_alloc _ _ _ (by omega)).trans HR2.out)); have hbw3 : Below w.heap.size w w3 := ((HBW2.out.alloc (by omega) _).alloc (by (try simp) <;> omega) _).trans ⟨hgrow3.os, hgrow3.tape, hgrow3.output, hgrow3.size, fun i hi => hgrow3.block i (by (try simp) <;> omega) (fun e => by have := (HO2.out.lt _ e.symm).1; omega)⟩; have hs3 : w.heap.size + 4 ≤ w3.heap.size := (by have := hgrow3.size; simp at this; omega); have e0 := blk_cell hd0 0; have g0 := blk_free hd0 0; have D03 := Lib.hid hd0; have D13 := Lib.hid hd1; have D23 := Lib.hid hd2; have HO3 := Lib.hid hown3; have HR3 := Lib.hid hrd3; have HB3 := Lib.hid hbw3; clear hown3 hgrow3 hat3 hlt3 hd0 hd1 hd2 hrd3 hbw3))
                go_wp2_with fail
                refine ⟨⟨k2, f, bh, acc ++ [tk], _, ⟨HR3.out.far (q := ⟨w.heap.size, 0, none⟩) (by show (w.heap.size + 1 + 1 + 1) ≠ w.heap.size; omega) _, one_set D03.out _, (Below.heap_setCell _ _ _ _ (by show w.heap.size + 1 ≠ w.heap.size; omega)).trans D13.out, (Below.heap_setCell _ _ _ _ (by show w.heap.size + 1 + 1 ≠ w.heap.size; omega)).trans D23.out, ?_, HB3.out.setCell (p := ⟨w.heap.size, 0, none⟩) (Nat.le_refl _) _, by simp [World.setCell]; omega⟩, rfl, by omega, by omega, ?_, hk2s, by (try simp) <;> omega⟩, ?_⟩
                · rw [List.length_append, tokCs_snoc]
                  exact own_of_block HO3.out (fun g hg => Below.heap_setCell _ _ _ g (by have := (HO3.out.lt g hg).1; show g ≠ w.heap.size; omega))
                · rw [← Hq.out]
                  congr 1
                  rw [n56]
                  simp; omega
                · rw [atOf_rd (HR3.out.far (q := ⟨w.heap.size, 0, none⟩) (by show (w.heap.size + 1 + 1 + 1) ≠ w.heap.size; omega) _), Hat.out]
                  omega
              · have t56' : (tk.kind == 5) = false := by simpa using h5
                have n56 : (tk.kind != 5) = true := by simpa using h5
                clear h5
                go_wp2_with fail
                refine (HSG.out _).mono ?_
                rintro e w' ⟨rfl, rfl⟩
                go_wp2_with fail
                refine (HT.out).mono ?_
                rintro e w2 ⟨⟨rfl, hrd2⟩, hb2⟩
                unfold tokV
                have hs2 := hb2.size
                have hd0 := (hb2.block w.heap.size (by omega) (by omega)).trans HI.out.b0
                have hd1 := (hb2.block (w.heap.size + 1) (by omega) (by omega)).trans HI.out.b1
                have hd2 := (hb2.block (w.heap.size + 1 + 1) (by omega) (by omega)).trans HI.out.b2
                have ho2 : w2.ownsRow (w.heap.size + 4) 56 5 sv acc.length (tokCs acc) := own_but HI.out.own (by omega) hb2
                have hbw2 : Below w.heap.size w w2 := HI.out.below.trans ⟨hb2.os, hb2.tape, hb2.output, hb2.size, fun i hi => hb2.block i (by omega) (by omega)⟩
                have e0 : ∀ o, (w2.alloc o).cell? ⟨w.heap.size, 0, none⟩ = some sv := fun o => blk_cell ((Below.heap_alloc _ _ _ (by omega)).trans hd0) 0
                have r1 : ∀ o, (w2.alloc o).cell? ⟨w.heap.size + 1 + 1 + 1, 1, none⟩ = some (.int .i64 (k2 : Int)) := fun o => (Rd.alloc hrd2 o).c1
                have D0 := Lib.hid hd0
                have D1 := Lib.hid hd1
                have D2 := Lib.hid hd2
                have HO2 := Lib.hid ho2
                have HBW2 := Lib.hid hbw2
                have HR2 := Lib.hid hrd2
                clear hd0 hd1 hd2 ho2 hbw2 hrd2 hb2
                go_wp2_with (at_builtin; go_loud (refine wpList_append_lies _ rfl _ _ 40 rfl (w.heap.size + 4) 56 i0 (.agg #[.int .u8 0, .int .i64 0, .int .i64 0, .string ⟨#[]⟩, .int .i64 0]) 5 48 Tryd.underlying40 hi hz0 hz1 hz2 rfl (by decide) _ acc.length (tokCs acc) rfl (by exact (HO2.out.alloc _).alloc _) _ 1 1 _ rfl rfl (cells_at _ _ (by simp) _ _) (by simp [Value.oneCell']) (by decide) (by unfold maxLen; omega) (by omega) (by (try simp) <;> omega) _ rfl ?_; intro g cap3 w3 hown3 hgrow3 hat3 hlt3; have hd0 := (hgrow3.block w.heap.size (by (try simp) <;> omega) (fun e => by have := (HO2.out.lt _ e.symm).1; omega)).trans ((Below.heap_alloc _ _ _ (by (try simp) <;> omega)).trans ((Below.heap_alloc _ _ _ (by omega)).trans D0.out)); have hd1 := (hgrow3.block (w.heap.size + 1) (by (try simp) <;> omega) (fun e => by have := (HO2.out.lt _ e.symm).1; omega)).trans ((Below.heap_alloc _ _ _ (by (try simp) <;> omega)).trans ((Below.heap_alloc _ _ _ (by omega)).trans D1.out)); have hd2 := (hgrow3.block (w.heap.size + 1 + 1) (by (try simp) <;> omega) (fun e => by have := (HO2.out.lt _ e.symm).1; omega)).trans ((Below.heap_alloc _ _ _ (by (try simp) <;> omega)).trans ((Below.heap_alloc _ _ _ (by omega)).trans D2.out)); have hrd3 : Rd w3 (w.heap.size + 1 + 1 + 1) s (k2 : Int) 0 := (hgrow3.block (w.heap.size + 1 + 1 + 1) (by (try simp) <;> omega) (fun e => by have := (HO2.out.lt _ e.symm).1; omega)).trans ((Below.heap_alloc _ _ _ (by (try simp) <;> omega)).trans ((Below.heap_alloc _ _ _ (by omega)).trans HR2.out)); have hbw3 : Below w.heap.size w w3 := ((HBW2.out.alloc (by omega) _).alloc (by (try simp) <;> omega) _).trans ⟨hgrow3.os, hgrow3.tape, hgrow3.output, hgrow3.size, fun i hi => hgrow3.block i (by (try simp) <;> omega) (fun e => by have := (HO2.out.lt _ e.symm).1; omega)⟩; have hs3 : w.heap.size + 4 ≤ w3.heap.size := (by have := hgrow3.size; simp at this; omega); have e0 := blk_cell hd0 0; have g0 := blk_free hd0 0; have D03 := Lib.hid hd0; have D13 := Lib.hid hd1; have D23 := Lib.hid hd2; have HO3 := Lib.hid hown3; have HR3 := Lib.hid hrd3; have HB3 := Lib.hid hbw3; clear hown3 hgrow3 hat3 hlt3 hd0 hd1 hd2 hrd3 hbw3))
                go_wp2_with fail
                refine ⟨⟨k2, f, (k2 : Int), acc ++ [tk], _, ⟨HR3.out.far (q := ⟨w.heap.size, 0, none⟩) (by show (w.heap.size + 1 + 1 + 1) ≠ w.heap.size; omega) _, one_set D03.out _, (Below.heap_setCell _ _ _ _ (by show w.heap.size + 1 ≠ w.heap.size; omega)).trans D13.out, (Below.heap_setCell _ _ _ _ (by show w.heap.size + 1 + 1 ≠ w.heap.size; omega)).trans D23.out, ?_, HB3.out.setCell (p := ⟨w.heap.size, 0, none⟩) (Nat.le_refl _) _, by simp [World.setCell]; omega⟩, rfl, by omega, by omega, ?_, hk2s, by (try simp) <;> omega⟩, ?_⟩
                · rw [List.length_append, tokCs_snoc]
                  exact own_of_block HO3.out (fun g hg => Below.heap_setCell _ _ _ g (by have := (HO3.out.lt g hg).1; show g ≠ w.heap.size; omega))
                · rw [← Hq.out]
                  congr 1
                  rw [n56]
                  simp
                · rw [atOf_rd (HR3.out.far (q := ⟨w.heap.size, 0, none⟩) (by show (w.heap.size + 1 + 1 + 1) ≠ w.heap.size; omega) _), Hat.out]
                  omega
    · rw [if_neg hk] at hq
      subst hq
      obtain ⟨A, cap, rfl⟩ := own_slice HI.out.own
      have b0c : wr.cell? ⟨w.heap.size, 0, none⟩ = some (.slice A acc.length cap) := blk_cell HI.out.b0 0
      have b1c : wr.cell? ⟨w.heap.size + 1, 0, none⟩ = some (.int .i64 0) := blk_cell HI.out.b1 0
      have b1f : wr.frozen? ⟨w.heap.size + 1, 0, none⟩ = false := blk_free HI.out.b1 0
      have b2c : wr.cell? ⟨w.heap.size + 1 + 1, 0, none⟩ = some (.int .i64 0) := blk_cell HI.out.b2 0
      have b2f : wr.frozen? ⟨w.heap.size + 1 + 1, 0, none⟩ = false := blk_free HI.out.b2 0
      have hkI : decide ((k' : Int) < (s.size : Int)) = false := by simp; omega
      go_wp2_with fail
      have f0 := (Below.heap_setCell _ ⟨w.heap.size + 1 + 1, 0, none⟩ (.int .i64 0) _ (by show w.heap.size ≠ w.heap.size + 1 + 1; omega)).trans ((Below.heap_setCell _ ⟨w.heap.size + 1, 0, none⟩ (.int .i64 0) _ (by show w.heap.size ≠ w.heap.size + 1; omega)).trans (one_set HI.out.b0 (.slice A acc.length cap)))
      have f1 := (Below.heap_setCell _ ⟨w.heap.size + 1 + 1, 0, none⟩ (.int .i64 0) _ (by show w.heap.size + 1 ≠ w.heap.size + 1 + 1; omega)).trans (one_set ((Below.heap_setCell _ ⟨w.heap.size, 0, none⟩ (.slice A acc.length cap) _ (by show w.heap.size + 1 ≠ w.heap.size; omega)).trans HI.out.b1) (.int .i64 0))
      have f2 := one_set ((Below.heap_setCell _ ⟨w.heap.size + 1, 0, none⟩ (.int .i64 0) _ (by show w.heap.size + 1 + 1 ≠ w.heap.size + 1; omega)).trans ((Below.heap_setCell _ ⟨w.heap.size, 0, none⟩ (.slice A acc.length cap) _ (by show w.heap.size + 1 + 1 ≠ w.heap.size; omega)).trans HI.out.b2)) (.int .i64 0)
      have hfin := ((HI.out.below.setCell (p := ⟨w.heap.size, 0, none⟩) (Nat.le_refl _) (.slice A acc.length cap)).setCell (p := ⟨w.heap.size + 1, 0, none⟩) (by show w.heap.size ≤ w.heap.size + 1; omega) (.int .i64 0)).setCell (p := ⟨w.heap.size + 1 + 1, 0, none⟩) (by show w.heap.size ≤ w.heap.size + 1 + 1; omega) (.int .i64 0)
      have ho3 := own_of_block HI.out.own (fun g hg => (Below.heap_setCell ((wr.setCell ⟨w.heap.size, 0, none⟩ (.slice A acc.length cap)).setCell ⟨w.heap.size + 1, 0, none⟩ (.int .i64 0)) ⟨w.heap.size + 1 + 1, 0, none⟩ (.int .i64 0) g (by have := (HI.out.own.lt g hg).1; show g ≠ w.heap.size + 1 + 1; omega)).trans ((Below.heap_setCell (wr.setCell ⟨w.heap.size, 0, none⟩ (.slice A acc.length cap)) ⟨w.heap.size + 1, 0, none⟩ (.int .i64 0) g (by have := (HI.out.own.lt g hg).1; show g ≠ w.heap.size + 1; omega)).trans (Below.heap_setCell wr ⟨w.heap.size, 0, none⟩ (.slice A acc.length cap) g (by have := (HI.out.own.lt g hg).1; show g ≠ w.heap.size; omega))))
      refine leaves_cons (f := 48) (args := #[.pointer (some ⟨w.heap.size, 0, none⟩), .pointer (some ⟨w.heap.size + 1, 0, none⟩), .pointer (some ⟨w.heap.size + 1 + 1, 0, none⟩)]) (by simp) (by simp [go_sem]) ?_
      refine (cutIdle ⟨w.heap.size, 0, none⟩ ⟨w.heap.size + 1, 0, none⟩ ⟨w.heap.size + 1 + 1, 0, none⟩ _).mono ?_
      rintro e u' w3 ⟨rfl, rfl, rfl⟩
      have c0 := blk_cell f0 0
      have c1 := blk_cell f1 0
      have c2 := blk_cell f2 0
      simp [Leaves, settle, results, Tryd.results20, go_sem, c0, c1, c2]
      exact ⟨⟨A, cap, rfl, own_weaken ho3 (by omega)⟩, hfin⟩

end Go.Proofs.YtmiipfdndgjndaaDoor
