/- The contract of the program's Read. -/
import Derived.Test.YtmiipfdndgjndaaDoorN
namespace Go.Proofs.YtmiipfdndgjndaaDoor
open Go.RowKit Go.Lib
set_option maxHeartbeats 1000000
theorem blk_free {w : World} {b : Nat} {cs : Array Value} {t : TypeId} (h : w.heap[b]? = some (.cells cs t (0, 0))) (i : Nat) : w.frozen? ⟨b, i, none⟩ = false := by simp [World.frozen?, h]
/-- The world behind the closure that catches: the results are nothing, the place, ErrForm. -/
def caught (w : World) (H0 H1 H2 : Nat) (n : Int) : World :=
  ((((((w.setCell ⟨H0, 0, none⟩ (.int .u8 0)).setCell ⟨H0, 1, none⟩ (.int .i64 0)).setCell ⟨H0, 2, none⟩ (.string ⟨#[]⟩)).setCell ⟨H0, 3, none⟩ (.slice none 0 0)).setCell ⟨H0, 4, none⟩ (.int .i64 0)).setCell ⟨H1, 0, none⟩ (.int .i64 n)).setCell ⟨H2, 0, none⟩ (.int .i64 30)
set_option maxRecDepth 100000 in
theorem rdCatch (H0 H1 H2 : Nat) (x0 x1 x2 x3 x4 : Value) (y z n : Int) (w : World) (hb0 : w.heap[H0]? = some (.cells #[x0, x1, x2, x3, x4] 26 (0, 0))) (hb1 : w.heap[H1]? = some (.cells #[.int .i64 y] 3 (0, 0))) (hb2 : w.heap[H2]? = some (.cells #[.int .i64 z] 27 (0, 0))) (h01 : H1 ≠ H0) (h02 : H2 ≠ H0) (h12 : H2 ≠ H1) :
    CallsD Tryd.prog 39 #[.pointer (some ⟨H0, 0, none⟩), .pointer (some ⟨H1, 0, none⟩), .pointer (some ⟨H2, 0, none⟩)] (.panicking [{ v := .iface 73 (.int .i64 n), recovered := false }]) w fun e u' w' =>
      e = .returned (.tuple #[]) ∧ u' = .panicking [{ v := .iface 73 (.int .i64 n), recovered := true }] ∧ w' = caught w H0 H1 H2 n := by
  refine callsD_of_wpS Tryd.func39 rfl fun c₀ cs hu => ?_
  apply wpS_seq
  apply wpS_region
  simp [wpOpsS, go_sem, recoverD, hu, Tryd.ntmps39, Exit.thenS]
  refine wpS_of_wp (Code.wp_mono (Q := fun e a' w' => e = .normal ∧ a'.defers = [] ∧ w' = caught w H0 H1 H2 n) ?_ ?_)
  · rintro e a' w' ⟨rfl, hd, rfl⟩
    exact ⟨hd, _, rfl, _, results_none rfl _ _ _, rfl, rfl, rfl⟩
  · have hta := assertStuck
    have e0 := blk_cell hb0 0
    have e1 := blk_cell hb0 1
    have e2 := blk_cell hb0 2
    have e3 := blk_cell hb0 3
    have e4 := blk_cell hb0 4
    have g0 := blk_free hb0 0
    have g1 := blk_free hb0 1
    have g2 := blk_free hb0 2
    have g3 := blk_free hb0 3
    have g4 := blk_free hb0 4
    have k1 := blk_cell hb1 0
    have k2 := blk_free hb1 0
    have k3 := blk_cell hb2 0
    have k4 := blk_free hb2 0
    simp only [Array.replicate_succ, Array.replicate_zero, List.push_toArray, List.append_toArray, List.nil_append, List.cons_append, List.setIfInBounds_toArray, List.set_cons_succ, List.set_cons_zero]
    go_wp2_with fail
    rfl
theorem rdIdle (p0 p1 p2 : Addr) (w : World) :
    CallsD Tryd.prog 39 #[.pointer (some p0), .pointer (some p1), .pointer (some p2)] .returning w fun e u' w' => e = .returned (.tuple #[]) ∧ u' = .returning ∧ w' = w := by
  refine callsD_of_wpS Tryd.func39 rfl fun c₀ cs hu => ?_
  apply wpS_seq
  apply wpS_region
  simp [wpOpsS, go_sem, recoverD, hu, Tryd.ntmps39, Exit.thenS]
  refine wpS_of_wp (Code.wp_mono (Q := fun e a' w' => e = .ret ∧ a'.defers = [] ∧ w' = w) ?_ ?_)
  · rintro e a' w' ⟨rfl, hd, rfl⟩
    exact ⟨hd, _, by rw [← hu], _, results_none rfl _ _ _, rfl, rfl, rfl⟩
  · go_wp2
theorem one_set {W : World} {H : Nat} {t : TypeId} {x : Value} (h : W.heap[H]? = some (.cells #[x] t (0, 0))) (y : Value) : (W.setCell ⟨H, 0, none⟩ y).heap[H]? = some (.cells #[y] t (0, 0)) := by
  simp [World.setCell, Array.getElem?_modify, h]
theorem caught_b0 {w : World} {H0 H1 H2 : Nat} {x0 x1 x2 x3 x4 : Value} (n : Int) (h : w.heap[H0]? = some (.cells #[x0, x1, x2, x3, x4] 26 (0, 0))) (h01 : H1 ≠ H0) (h02 : H2 ≠ H0) :
    (caught w H0 H1 H2 n).heap[H0]? = some (.cells #[.int .u8 0, .int .i64 0, .string ⟨#[]⟩, .slice none 0 0, .int .i64 0] 26 (0, 0)) :=
  (Below.heap_setCell _ _ _ _ (Ne.symm h02)).trans ((Below.heap_setCell _ _ _ _ (Ne.symm h01)).trans (set5 h _ _ _ _ _))
theorem caught_b1 {w : World} {H0 H1 H2 : Nat} {y : Value} (n : Int) (h : w.heap[H1]? = some (.cells #[y] 3 (0, 0))) (h01 : H1 ≠ H0) (h12 : H2 ≠ H1) :
    (caught w H0 H1 H2 n).heap[H1]? = some (.cells #[.int .i64 n] 3 (0, 0)) :=
  (Below.heap_setCell _ _ _ _ (Ne.symm h12)).trans (one_set ((five_far _ h01 _ _ _ _ _).trans h) _)
theorem caught_b2 {w : World} {H0 H1 H2 : Nat} {z : Value} (n : Int) (h : w.heap[H2]? = some (.cells #[z] 27 (0, 0))) (h02 : H2 ≠ H0) (h12 : H2 ≠ H1) :
    (caught w H0 H1 H2 n).heap[H2]? = some (.cells #[.int .i64 30] 27 (0, 0)) :=
  one_set ((Below.heap_setCell _ _ _ _ h12).trans ((five_far _ h02 _ _ _ _ _).trans h)) _
theorem caught_below {a w : World} {H0 H1 H2 : Nat} (n : Int) (h : Below a.heap.size a w) (h0 : a.heap.size ≤ H0) (h1 : a.heap.size ≤ H1) (h2 : a.heap.size ≤ H2) : Below a.heap.size a (caught w H0 H1 H2 n) :=
  ((((((h.setCell (p := ⟨H0, 0, none⟩) h0 _).setCell (p := ⟨H0, 1, none⟩) h0 _).setCell (p := ⟨H0, 2, none⟩) h0 _).setCell (p := ⟨H0, 3, none⟩) h0 _).setCell (p := ⟨H0, 4, none⟩) h0 _).setCell (p := ⟨H1, 0, none⟩) h1 _).setCell (p := ⟨H2, 0, none⟩) h2 _
def ReadPost (r : V × Nat × Int) (w : World) (e : Ending) (w' : World) : Prop :=
  (∃ cs : List Value, e = .returned (.tuple #[.agg cs.toArray, .int .i64 (r.2.1 : Int), .int .i64 r.2.2]) ∧ VIn w' (NewB w.heap.size w') r.1 cs) ∧ Below w.heap.size w w'
set_option maxRecDepth 100000 in
theorem read_bad (s : ByteArray) (w : World) (hS : s.size ≤ 140737488351232) (q : Nat) (hV : valF s 16 0 0 = .error q) : Calls Tryd.prog 12 #[.string s] w (ReadPost (.nothing, q, 30) w) := by
  have hmf : ∀ (fn : Fn) (first cap : Array Value) (w : World), (Instr.makeFunc fn first cap).run Tryd.prog w = .ok (.func fn first cap) w := fun _ _ _ _ => rfl
  have z0 : ((((w.alloc (.cells #[.int .u8 0, .int .i64 0, .string ⟨#[]⟩, .slice none 0 0, .int .i64 0] 26)).alloc (.cells #[.int .i64 0] 3)).alloc (.cells #[.int .i64 0] 27)).alloc (.cells #[.string s, .int .i64 0, .int .i64 0] 77)).heap[w.heap.size]? = some (.cells #[.int .u8 0, .int .i64 0, .string ⟨#[]⟩, .slice none 0 0, .int .i64 0] 26 (0, 0)) := (Below.heap_alloc _ _ _ (by simp; omega)).trans ((Below.heap_alloc _ _ _ (by simp; omega)).trans ((Below.heap_alloc _ _ _ (by simp)).trans (heap_alloc_new w (.cells #[.int .u8 0, .int .i64 0, .string ⟨#[]⟩, .slice none 0 0, .int .i64 0] 26))))
  have z1 : ((((w.alloc (.cells #[.int .u8 0, .int .i64 0, .string ⟨#[]⟩, .slice none 0 0, .int .i64 0] 26)).alloc (.cells #[.int .i64 0] 3)).alloc (.cells #[.int .i64 0] 27)).alloc (.cells #[.string s, .int .i64 0, .int .i64 0] 77)).heap[w.heap.size + 1]? = some (.cells #[.int .i64 0] 3 (0, 0)) := by
    have := heap_alloc_new (w.alloc (.cells #[.int .u8 0, .int .i64 0, .string ⟨#[]⟩, .slice none 0 0, .int .i64 0] 26)) (.cells #[.int .i64 0] 3)
    rw [World.size_alloc] at this
    exact (Below.heap_alloc _ _ _ (by simp <;> omega)).trans ((Below.heap_alloc _ _ _ (by simp)).trans this)
  have z2 : ((((w.alloc (.cells #[.int .u8 0, .int .i64 0, .string ⟨#[]⟩, .slice none 0 0, .int .i64 0] 26)).alloc (.cells #[.int .i64 0] 3)).alloc (.cells #[.int .i64 0] 27)).alloc (.cells #[.string s, .int .i64 0, .int .i64 0] 77)).heap[w.heap.size + 2]? = some (.cells #[.int .i64 0] 27 (0, 0)) := by
    have := heap_alloc_new ((w.alloc (.cells #[.int .u8 0, .int .i64 0, .string ⟨#[]⟩, .slice none 0 0, .int .i64 0] 26)).alloc (.cells #[.int .i64 0] 3)) (.cells #[.int .i64 0] 27)
    rw [World.size_alloc, World.size_alloc] at this
    exact (Below.heap_alloc _ _ _ (by simp)).trans this
  have z3 : Rd ((((w.alloc (.cells #[.int .u8 0, .int .i64 0, .string ⟨#[]⟩, .slice none 0 0, .int .i64 0] 26)).alloc (.cells #[.int .i64 0] 3)).alloc (.cells #[.int .i64 0] 27)).alloc (.cells #[.string s, .int .i64 0, .int .i64 0] 77)) (w.heap.size + 3) s ((0 : Nat) : Int) ((0 : Nat) : Int) := by
    have := heap_alloc_new (((w.alloc (.cells #[.int .u8 0, .int .i64 0, .string ⟨#[]⟩, .slice none 0 0, .int .i64 0] 26)).alloc (.cells #[.int .i64 0] 3)).alloc (.cells #[.int .i64 0] 27)) (.cells #[.string s, .int .i64 0, .int .i64 0] 77)
    rw [World.size_alloc, World.size_alloc, World.size_alloc] at this
    exact this
  have hB0 : Below w.heap.size w ((((w.alloc (.cells #[.int .u8 0, .int .i64 0, .string ⟨#[]⟩, .slice none 0 0, .int .i64 0] 26)).alloc (.cells #[.int .i64 0] 3)).alloc (.cells #[.int .i64 0] 27)).alloc (.cells #[.string s, .int .i64 0, .int .i64 0] 77)) := ((((Below.refl _ w).alloc (Nat.le_refl _) _).alloc (by simp) _).alloc (by simp; omega) _).alloc (by simp; omega) _
  have hsz0 : ((((w.alloc (.cells #[.int .u8 0, .int .i64 0, .string ⟨#[]⟩, .slice none 0 0, .int .i64 0] 26)).alloc (.cells #[.int .i64 0] 3)).alloc (.cells #[.int .i64 0] 27)).alloc (.cells #[.string s, .int .i64 0, .int .i64 0] 77)).heap.size = w.heap.size + 4 := by simp
  have hcall := value_ok s hS 16 (by omega) (w.heap.size + 3) 0 0 _ z3 (by omega) (by omega)
  rw [show (16 : Int) - ((16 : Nat) : Int) = 0 by omega] at hcall
  have hbel : ∀ W', But (w.heap.size + 3) ((((w.alloc (.cells #[.int .u8 0, .int .i64 0, .string ⟨#[]⟩, .slice none 0 0, .int .i64 0] 26)).alloc (.cells #[.int .i64 0] 3)).alloc (.cells #[.int .i64 0] 27)).alloc (.cells #[.string s, .int .i64 0, .int .i64 0] 77)) W' → Below w.heap.size w W' := fun W' hb => hB0.trans ⟨hb.os, hb.tape, hb.output, hb.size, fun i hi => hb.block i (by rw [hsz0]; omega) (by omega)⟩
  have Hz0 := Lib.hid z0
  have Hz1 := Lib.hid z1
  have Hz2 := Lib.hid z2
  have Hbel := Lib.hid hbel
  have Hsz0 := Lib.hid hsz0
  clear z0 z1 z2 z3 hB0 hbel hsz0
  rw [hV] at hcall
  have HC := Lib.hid hcall
  clear hcall
  go_enter_defers Tryd.func12, Tryd.ntmps12
  go_wp2_with fail
  refine HC.out.mono ?_
  rintro e w' ⟨rfl, hb⟩
  have d0 := (hb.block w.heap.size (by rw [Hsz0.out]; omega) (by omega)).trans Hz0.out
  have d1 := (hb.block (w.heap.size + 1) (by rw [Hsz0.out]; omega) (by omega)).trans Hz1.out
  have d2 := (hb.block (w.heap.size + 2) (by rw [Hsz0.out]; omega) (by omega)).trans Hz2.out
  have hbw := Hbel.out _ hb
  refine leaves_cons (f := 39) (args := #[.pointer (some ⟨w.heap.size, 0, none⟩), .pointer (some ⟨w.heap.size + 1, 0, none⟩), .pointer (some ⟨w.heap.size + 1 + 1, 0, none⟩)]) (by simp) (by simp [go_sem]) ?_
  refine (rdCatch w.heap.size (w.heap.size + 1) (w.heap.size + 1 + 1) _ _ _ _ _ _ _ (q : Int) w' d0 d1 d2 (by omega) (by omega) (by omega)).mono ?_
  rintro e u' w'' ⟨rfl, rfl, rfl⟩
  have f0 := caught_b0 (q : Int) d0 (by omega : w.heap.size + 1 ≠ w.heap.size) (by omega : w.heap.size + 1 + 1 ≠ w.heap.size)
  have f1 := caught_b1 (H0 := w.heap.size) (H2 := w.heap.size + 1 + 1) (q : Int) d1 (by omega) (by omega)
  have f2 := caught_b2 (H0 := w.heap.size) (H1 := w.heap.size + 1) (q : Int) (show w'.heap[w.heap.size + 1 + 1]? = _ from d2) (by omega) (by omega)
  have c0 := blk_cell f0 0
  have c1 := blk_cell f0 1
  have c2 := blk_cell f0 2
  have c3 := blk_cell f0 3
  have c4 := blk_cell f0 4
  have c5 := blk_cell f1 0
  have c6 := blk_cell f2 0
  have hfin := caught_below (q : Int) hbw (Nat.le_refl _) (by omega : w.heap.size ≤ w.heap.size + 1) (by omega : w.heap.size ≤ w.heap.size + 1 + 1)
  simp [Leaves, settle, results, Tryd.results12, go_sem, c0, c1, c2, c3, c4, c5, c6]
  exact ⟨⟨_, rfl, VIn.plain _ _ 0 0 ⟨#[]⟩ 0 (by decide)⟩, hfin⟩
set_option maxRecDepth 100000 in
theorem read_more (s : ByteArray) (w : World) (hS : s.size ≤ 140737488351232) (v : V) (k p : Nat) (hV : valF s 16 0 0 = .ok (v, k, p)) (hk : k < s.size) : Calls Tryd.prog 12 #[.string s] w (ReadPost (.nothing, k, 30) w) := by
  have hmf : ∀ (fn : Fn) (first cap : Array Value) (w : World), (Instr.makeFunc fn first cap).run Tryd.prog w = .ok (.func fn first cap) w := fun _ _ _ _ => rfl
  have z0 : ((((w.alloc (.cells #[.int .u8 0, .int .i64 0, .string ⟨#[]⟩, .slice none 0 0, .int .i64 0] 26)).alloc (.cells #[.int .i64 0] 3)).alloc (.cells #[.int .i64 0] 27)).alloc (.cells #[.string s, .int .i64 0, .int .i64 0] 77)).heap[w.heap.size]? = some (.cells #[.int .u8 0, .int .i64 0, .string ⟨#[]⟩, .slice none 0 0, .int .i64 0] 26 (0, 0)) := (Below.heap_alloc _ _ _ (by simp; omega)).trans ((Below.heap_alloc _ _ _ (by simp; omega)).trans ((Below.heap_alloc _ _ _ (by simp)).trans (heap_alloc_new w (.cells #[.int .u8 0, .int .i64 0, .string ⟨#[]⟩, .slice none 0 0, .int .i64 0] 26))))
  have z1 : ((((w.alloc (.cells #[.int .u8 0, .int .i64 0, .string ⟨#[]⟩, .slice none 0 0, .int .i64 0] 26)).alloc (.cells #[.int .i64 0] 3)).alloc (.cells #[.int .i64 0] 27)).alloc (.cells #[.string s, .int .i64 0, .int .i64 0] 77)).heap[w.heap.size + 1]? = some (.cells #[.int .i64 0] 3 (0, 0)) := by
    have := heap_alloc_new (w.alloc (.cells #[.int .u8 0, .int .i64 0, .string ⟨#[]⟩, .slice none 0 0, .int .i64 0] 26)) (.cells #[.int .i64 0] 3)
    rw [World.size_alloc] at this
    exact (Below.heap_alloc _ _ _ (by simp <;> omega)).trans ((Below.heap_alloc _ _ _ (by simp)).trans this)
  have z2 : ((((w.alloc (.cells #[.int .u8 0, .int .i64 0, .string ⟨#[]⟩, .slice none 0 0, .int .i64 0] 26)).alloc (.cells #[.int .i64 0] 3)).alloc (.cells #[.int .i64 0] 27)).alloc (.cells #[.string s, .int .i64 0, .int .i64 0] 77)).heap[w.heap.size + 2]? = some (.cells #[.int .i64 0] 27 (0, 0)) := by
    have := heap_alloc_new ((w.alloc (.cells #[.int .u8 0, .int .i64 0, .string ⟨#[]⟩, .slice none 0 0, .int .i64 0] 26)).alloc (.cells #[.int .i64 0] 3)) (.cells #[.int .i64 0] 27)
    rw [World.size_alloc, World.size_alloc] at this
    exact (Below.heap_alloc _ _ _ (by simp)).trans this
  have z3 : Rd ((((w.alloc (.cells #[.int .u8 0, .int .i64 0, .string ⟨#[]⟩, .slice none 0 0, .int .i64 0] 26)).alloc (.cells #[.int .i64 0] 3)).alloc (.cells #[.int .i64 0] 27)).alloc (.cells #[.string s, .int .i64 0, .int .i64 0] 77)) (w.heap.size + 3) s ((0 : Nat) : Int) ((0 : Nat) : Int) := by
    have := heap_alloc_new (((w.alloc (.cells #[.int .u8 0, .int .i64 0, .string ⟨#[]⟩, .slice none 0 0, .int .i64 0] 26)).alloc (.cells #[.int .i64 0] 3)).alloc (.cells #[.int .i64 0] 27)) (.cells #[.string s, .int .i64 0, .int .i64 0] 77)
    rw [World.size_alloc, World.size_alloc, World.size_alloc] at this
    exact this
  have hB0 : Below w.heap.size w ((((w.alloc (.cells #[.int .u8 0, .int .i64 0, .string ⟨#[]⟩, .slice none 0 0, .int .i64 0] 26)).alloc (.cells #[.int .i64 0] 3)).alloc (.cells #[.int .i64 0] 27)).alloc (.cells #[.string s, .int .i64 0, .int .i64 0] 77)) := ((((Below.refl _ w).alloc (Nat.le_refl _) _).alloc (by simp) _).alloc (by simp; omega) _).alloc (by simp; omega) _
  have hsz0 : ((((w.alloc (.cells #[.int .u8 0, .int .i64 0, .string ⟨#[]⟩, .slice none 0 0, .int .i64 0] 26)).alloc (.cells #[.int .i64 0] 3)).alloc (.cells #[.int .i64 0] 27)).alloc (.cells #[.string s, .int .i64 0, .int .i64 0] 77)).heap.size = w.heap.size + 4 := by simp
  have hcall := value_ok s hS 16 (by omega) (w.heap.size + 3) 0 0 _ z3 (by omega) (by omega)
  rw [show (16 : Int) - ((16 : Nat) : Int) = 0 by omega] at hcall
  have hbel : ∀ W', But (w.heap.size + 3) ((((w.alloc (.cells #[.int .u8 0, .int .i64 0, .string ⟨#[]⟩, .slice none 0 0, .int .i64 0] 26)).alloc (.cells #[.int .i64 0] 3)).alloc (.cells #[.int .i64 0] 27)).alloc (.cells #[.string s, .int .i64 0, .int .i64 0] 77)) W' → Below w.heap.size w W' := fun W' hb => hB0.trans ⟨hb.os, hb.tape, hb.output, hb.size, fun i hi => hb.block i (by rw [hsz0]; omega) (by omega)⟩
  have Hz0 := Lib.hid z0
  have Hz1 := Lib.hid z1
  have Hz2 := Lib.hid z2
  have Hbel := Lib.hid hbel
  have Hsz0 := Lib.hid hsz0
  clear z0 z1 z2 z3 hB0 hbel hsz0
  rw [hV] at hcall
  have HC := Lib.hid hcall
  clear hcall hV
  have hlt1 : decide ((k : Int) < (s.size : Int)) = true := by simpa using hk
  go_enter_defers Tryd.func12, Tryd.ntmps12
  go_wp2_with fail
  refine HC.out.mono ?_
  rintro e w' ⟨⟨⟨cs, rfl, hv⟩, hrd⟩, hb⟩
  obtain ⟨xk, xn, xs0, xA, xc, xr, -, rfl⟩ := hv.forms
  generalize v.lst.length = xm at *
  have d0 := (hb.block w.heap.size (by rw [Hsz0.out]; omega) (by omega)).trans Hz0.out
  have d1 := (hb.block (w.heap.size + 1) (by rw [Hsz0.out]; omega) (by omega)).trans Hz1.out
  have d2 := (hb.block (w.heap.size + 1 + 1) (by rw [Hsz0.out]; omega) (by omega)).trans Hz2.out
  have e0 := blk_cell d0 0
  have e1 := blk_cell d0 1
  have e2 := blk_cell d0 2
  have e3 := blk_cell d0 3
  have e4 := blk_cell d0 4
  have g0 := blk_free d0 0
  have g1 := blk_free d0 1
  have g2 := blk_free d0 2
  have g3 := blk_free d0 3
  have g4 := blk_free d0 4
  have hsz' := hb.size
  rw [Hsz0.out] at hsz'
  have D0 := Lib.hid (set5 d0 (.int .u8 xk) (.int .i64 xn) (.string xs0) (.slice xA xm xc) (.int .i64 xr))
  have D1 := Lib.hid ((five_far w' (b := w.heap.size + 1) (H := w.heap.size) (by omega) (.int .u8 xk) (.int .i64 xn) (.string xs0) (.slice xA xm xc) (.int .i64 xr)).trans d1)
  have D2 := Lib.hid ((five_far w' (b := w.heap.size + 1 + 1) (H := w.heap.size) (by omega) (.int .u8 xk) (.int .i64 xn) (.string xs0) (.slice xA xm xc) (.int .i64 xr)).trans d2)
  have HBW := Lib.hid (((((((Hbel.out _ hb).setCell (p := ⟨w.heap.size, 0, none⟩) (Nat.le_refl _) (.int .u8 xk)).setCell (p := ⟨w.heap.size, 1, none⟩) (Nat.le_refl _) (.int .i64 xn)).setCell (p := ⟨w.heap.size, 2, none⟩) (Nat.le_refl _) (.string xs0)).setCell (p := ⟨w.heap.size, 3, none⟩) (Nat.le_refl _) (.slice xA xm xc)).setCell (p := ⟨w.heap.size, 4, none⟩) (Nat.le_refl _) (.int .i64 xr)))
  have Hv := Lib.hid hv
  have hrd2 := hrd.set5 (H := w.heap.size) (by omega) (.int .u8 xk) (.int .i64 xn) (.string xs0) (.slice xA xm xc) (.int .i64 xr)
  have rc1 := hrd2.c1
  have Hrd2 := Lib.hid hrd2
  clear hrd hrd2 d0 d1 d2 hv hb
  go_wp2_with fail
  refine (wrong_any (w.heap.size + 3) s k _ _ (by exact Hrd2.out)).mono ?_
  rintro e w'' ⟨rfl, rfl⟩
  have f0 := caught_b0 (k : Int) D0.out (by omega : w.heap.size + 1 ≠ w.heap.size) (by omega : w.heap.size + 1 + 1 ≠ w.heap.size)
  have f1 := caught_b1 (H0 := w.heap.size) (H2 := w.heap.size + 1 + 1) (k : Int) D1.out (by omega) (by omega)
  have f2 := caught_b2 (H0 := w.heap.size) (H1 := w.heap.size + 1) (k : Int) D2.out (by omega) (by omega)
  have hfin := caught_below (k : Int) HBW.out (Nat.le_refl _) (by omega : w.heap.size ≤ w.heap.size + 1) (by omega : w.heap.size ≤ w.heap.size + 1 + 1)
  refine leaves_cons (f := 39) (args := #[.pointer (some ⟨w.heap.size, 0, none⟩), .pointer (some ⟨w.heap.size + 1, 0, none⟩), .pointer (some ⟨w.heap.size + 1 + 1, 0, none⟩)]) (by simp) (by simp [go_sem]) ?_
  refine (rdCatch w.heap.size (w.heap.size + 1) (w.heap.size + 1 + 1) _ _ _ _ _ _ _ (k : Int) _ D0.out D1.out D2.out (by omega) (by omega) (by omega)).mono ?_
  rintro e u' w3 ⟨rfl, rfl, rfl⟩
  have c0 := blk_cell f0 0
  have c1 := blk_cell f0 1
  have c2 := blk_cell f0 2
  have c3 := blk_cell f0 3
  have c4 := blk_cell f0 4
  have c5 := blk_cell f1 0
  have c6 := blk_cell f2 0
  simp [Leaves, settle, results, Tryd.results12, go_sem, c0, c1, c2, c3, c4, c5, c6]
  exact ⟨⟨_, rfl, VIn.plain _ _ 0 0 ⟨#[]⟩ 0 (by decide)⟩, hfin⟩
end Go.Proofs.YtmiipfdndgjndaaDoor
