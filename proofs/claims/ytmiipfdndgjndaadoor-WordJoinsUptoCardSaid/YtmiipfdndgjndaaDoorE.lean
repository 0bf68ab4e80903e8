/- The contract of the program's Unquote. -/
import Derived.Test.YtmiipfdndgjndaaDoorD
import Derived.Tactics2
import Derived.Defers
import Derived.Recover
import Derived.Laws.Pointers
import Derived.RangeFuncBox
namespace Go.Proofs.YtmiipfdndgjndaaDoor
open Go.RowKit Go.Lib
set_option maxHeartbeats 1000000
theorem assertStuck (w : World) (v : Value) : (Instr.typeAssert (.iface 73 v) 20 73 true).run Tryd.prog w = .ok (.tuple #[v, .bool true]) w := by kernel_rfl
set_option maxRecDepth 100000 in
theorem uqCatch (p0 p1 p2 : Addr) (x : ByteArray) (y z n : Int) (w : World) (h0 : w.cell? p0 = some (.string x)) (f0 : w.frozen? p0 = false) (h1 : (w.setCell p0 (.string ⟨#[]⟩)).cell? p1 = some (.int .i64 y)) (f1 : (w.setCell p0 (.string ⟨#[]⟩)).frozen? p1 = false) (h2 : ((w.setCell p0 (.string ⟨#[]⟩)).setCell p1 (.int .i64 n)).cell? p2 = some (.int .i64 z)) (f2 : ((w.setCell p0 (.string ⟨#[]⟩)).setCell p1 (.int .i64 n)).frozen? p2 = false) :
    CallsD Tryd.prog 43 #[.pointer (some p0), .pointer (some p1), .pointer (some p2)] (.panicking [{ v := .iface 73 (.int .i64 n), recovered := false }]) w fun e u' w' =>
      e = .returned (.tuple #[]) ∧ u' = .panicking [{ v := .iface 73 (.int .i64 n), recovered := true }] ∧ w' = ((w.setCell p0 (.string ⟨#[]⟩)).setCell p1 (.int .i64 n)).setCell p2 (.int .i64 30) := by
  refine callsD_of_wpS Tryd.func43 rfl fun c₀ cs hu => ?_
  apply wpS_seq
  apply wpS_region
  simp [wpOpsS, go_sem, recoverD, hu, Tryd.ntmps43, Exit.thenS]
  refine wpS_of_wp (Code.wp_mono (Q := fun e a' w' => e = .normal ∧ a'.defers = [] ∧ w' = ((w.setCell p0 (.string ⟨#[]⟩)).setCell p1 (.int .i64 n)).setCell p2 (.int .i64 30)) ?_ ?_)
  · rintro e a' w' ⟨rfl, hd, rfl⟩
    exact ⟨hd, _, rfl, _, results_none rfl _ _ _, rfl, rfl, rfl⟩
  · have hta := assertStuck
    simp only [Array.replicate_succ, Array.replicate_zero, List.push_toArray, List.append_toArray, List.nil_append, List.cons_append, List.setIfInBounds_toArray, List.set_cons_succ, List.set_cons_zero]
    go_wp2_with fail
theorem uqIdle (p0 p1 p2 : Addr) (w : World) :
    CallsD Tryd.prog 43 #[.pointer (some p0), .pointer (some p1), .pointer (some p2)] .returning w fun e u' w' => e = .returned (.tuple #[]) ∧ u' = .returning ∧ w' = w := by
  refine callsD_of_wpS Tryd.func43 rfl fun c₀ cs hu => ?_
  apply wpS_seq
  apply wpS_region
  simp [wpOpsS, go_sem, recoverD, hu, Tryd.ntmps43, Exit.thenS]
  refine wpS_of_wp (Code.wp_mono (Q := fun e a' w' => e = .ret ∧ a'.defers = [] ∧ w' = w) ?_ ?_)
  · rintro e a' w' ⟨rfl, hd, rfl⟩
    exact ⟨hd, _, by rw [← hu], _, results_none rfl _ _ _, rfl, rfl, rfl⟩
  · go_wp2
theorem box_set0 {W : World} {B : Nat} {t : TypeId} {u : Value} (v : Value) (h : Boxed W B t u) : Boxed (W.setCell ⟨B, 0, none⟩ v) B t v := h.set v
theorem box_oth {W : World} {B B' : Nat} {t : TypeId} {u v : Value} (h : Boxed W B t u) (hne : B ≠ B') : Boxed (W.setCell ⟨B', 0, none⟩ v) B t u := h.kept (grownBy_setCell' W B' v) (by simpa using hne)
theorem box_but {W W' : World} {B B' : Nat} {t : TypeId} {u : Value} (h : Boxed W B t u) (hb : But B' W W') (hne : B ≠ B') : Boxed W' B t u := (hb.block B h.lt hne).trans h
set_option maxRecDepth 100000 in
theorem unquote_any (s : ByteArray) (w : World) (hS : s.size ≤ 140737488351232) :
    Calls Tryd.prog 16 #[.string s] w fun e w' => e = .returned (.tuple #[.string ⟨(unquoteF s).1.toArray⟩, .int .i64 ((unquoteF s).2.1 : Int), .int .i64 (unquoteF s).2.2]) ∧ Below w.heap.size w w' := by
  have hmf : ∀ (fn : Fn) (first cap : Array Value) (w : World), (Instr.makeFunc fn first cap).run Tryd.prog w = .ok (.func fn first cap) w := fun _ _ _ _ => rfl
  have b0 := Boxed.new w 9 (.string ⟨#[]⟩)
  have b1 := Boxed.new (w.alloc (.cells #[.string ⟨#[]⟩] 9)) 3 (.int .i64 0)
  have b2 := Boxed.new ((w.alloc (.cells #[.string ⟨#[]⟩] 9)).alloc (.cells #[.int .i64 0] 3)) 27 (.int .i64 0)
  have b3 : Rd ((((w.alloc (.cells #[.string ⟨#[]⟩] 9)).alloc (.cells #[.int .i64 0] 3)).alloc (.cells #[.int .i64 0] 27)).alloc (.cells #[.string s, .int .i64 0, .int .i64 0] 77)) (((w.alloc (.cells #[.string ⟨#[]⟩] 9)).alloc (.cells #[.int .i64 0] 3)).alloc (.cells #[.int .i64 0] 27)).heap.size s ((0 : Nat) : Int) 0 := World.alloc_heap_new _ _
  simp only [World.size_alloc] at b1 b2 b3
  replace b0 := ((b0.alloc (.cells #[.int .i64 0] 3)).alloc (.cells #[.int .i64 0] 27)).alloc (.cells #[.string s, .int .i64 0, .int .i64 0] 77)
  replace b1 := (b1.alloc (.cells #[.int .i64 0] 27)).alloc (.cells #[.string s, .int .i64 0, .int .i64 0] 77)
  replace b2 := b2.alloc (.cells #[.string s, .int .i64 0, .int .i64 0] 77)
  have hB0 : Below w.heap.size w ((((w.alloc (.cells #[.string ⟨#[]⟩] 9)).alloc (.cells #[.int .i64 0] 3)).alloc (.cells #[.int .i64 0] 27)).alloc (.cells #[.string s, .int .i64 0, .int .i64 0] 77)) := ((((Below.refl _ w).alloc (Nat.le_refl _) _).alloc (by simp only [World.size_alloc]; omega) _).alloc (by simp only [World.size_alloc]; omega) _).alloc (by simp only [World.size_alloc]; omega) _
  have hq := quoted_any (w.heap.size + 1 + 1 + 1) s 0 0 s.size _ hS b3
  have hbel : ∀ W', But (w.heap.size + 1 + 1 + 1) ((((w.alloc (.cells #[.string ⟨#[]⟩] 9)).alloc (.cells #[.int .i64 0] 3)).alloc (.cells #[.int .i64 0] 27)).alloc (.cells #[.string s, .int .i64 0, .int .i64 0] 77)) W' → Below w.heap.size w W' := fun W' hb =>
    hB0.trans ⟨hb.os, hb.tape, hb.output, hb.size, fun i hi => hb.block i (by simp only [World.size_alloc]; omega) (by omega)⟩
  have Hbel := Lib.hid hbel
  unfold unquoteF
  cases hQ : quotedF s (fun n => decide ((s.size : Int) ≤ (n : Int))) 0 with
  | error q =>
    rw [hQ] at hq
    have Hq := Lib.hid hq
    clear hq hbel hB0
    go_enter_defers Tryd.func16, Tryd.ntmps16
    go_wp2_with fail
    refine Hq.out.mono ?_
    rintro e w' ⟨rfl, hb⟩
    have d0 := box_but b0 hb (by omega)
    have d1 := box_but b1 hb (by omega)
    have d2 := box_but b2 hb (by omega)
    have e0 := box_set0 (.string ⟨#[]⟩) d0
    have e1 := box_oth (v := .string ⟨#[]⟩) d1 (by omega : w.heap.size + 1 ≠ w.heap.size)
    have e2 := box_oth (v := .string ⟨#[]⟩) d2 (by omega : w.heap.size + 1 + 1 ≠ w.heap.size)
    have g0 := box_oth (v := .int .i64 (q : Int)) e0 (by omega : w.heap.size ≠ w.heap.size + 1)
    have g1 := box_set0 (.int .i64 (q : Int)) e1
    have g2 := box_oth (v := .int .i64 (q : Int)) e2 (by omega : w.heap.size + 1 + 1 ≠ w.heap.size + 1)
    have k0 := (box_oth (v := .int .i64 30) g0 (by omega : w.heap.size ≠ w.heap.size + 1 + 1)).cell
    have k1 := (box_oth (v := .int .i64 30) g1 (by omega : w.heap.size + 1 ≠ w.heap.size + 1 + 1)).cell
    have k2 := (box_set0 (.int .i64 30) g2).cell
    have hfin : Below w.heap.size w _ := (((Hbel.out _ hb).setCell (p := ⟨w.heap.size, 0, none⟩) (Nat.le_refl _) (.string ⟨#[]⟩)).setCell (p := ⟨w.heap.size + 1, 0, none⟩) (by simp) (.int .i64 (q : Int))).setCell (p := ⟨w.heap.size + 1 + 1, 0, none⟩) (by simp; omega) (.int .i64 30)
    refine leaves_cons (f := 43) (args := #[.pointer (some ⟨w.heap.size, 0, none⟩), .pointer (some ⟨w.heap.size + 1, 0, none⟩), .pointer (some ⟨w.heap.size + 1 + 1, 0, none⟩)]) (by simp) (by simp [go_sem]) ?_
    refine (uqCatch ⟨w.heap.size, 0, none⟩ ⟨w.heap.size + 1, 0, none⟩ ⟨w.heap.size + 1 + 1, 0, none⟩ ⟨#[]⟩ 0 0 (q : Int) w' d0.cell d0.frozen e1.cell e1.frozen g2.cell g2.frozen).mono ?_
    rintro e u' w'' ⟨rfl, rfl, rfl⟩
    simp [Leaves, settle, results, Tryd.results16, go_sem, k0, k1, k2]
    exact hfin
  | ok r =>
    obtain ⟨b, k⟩ := r
    rw [hQ] at hq
    have Hq := Lib.hid hq
    clear hq hbel hB0
    dsimp only
    by_cases hk : k < s.size
    · rw [if_pos hk]
      go_enter_defers Tryd.func16, Tryd.ntmps16
      go_wp2_with fail
      refine Hq.out.mono ?_
      rintro e w' ⟨⟨rfl, hrd⟩, hb⟩
      have d0 := box_but b0 hb (by omega)
      have d1 := box_but b1 hb (by omega)
      have d2 := box_but b2 hb (by omega)
      have hr2 : Rd (w'.setCell ⟨w.heap.size, 0, none⟩ (.string ⟨b.toArray⟩)) (w.heap.size + 1 + 1 + 1) s (k : Int) 0 := (Below.heap_setCell _ _ _ _ (by simp; omega)).trans hrd
      have rc1 := hr2.c1
      have cd0 := d0.cell
      have fd0 := d0.frozen
      have c0 := box_set0 (.string ⟨b.toArray⟩) d0
      have c1 := box_oth (v := .string ⟨b.toArray⟩) d1 (by omega : w.heap.size + 1 ≠ w.heap.size)
      have c2 := box_oth (v := .string ⟨b.toArray⟩) d2 (by omega : w.heap.size + 1 + 1 ≠ w.heap.size)
      have e0 := box_set0 (.string ⟨#[]⟩) c0
      have e1 := box_oth (v := .string ⟨#[]⟩) c1 (by omega : w.heap.size + 1 ≠ w.heap.size)
      have e2 := box_oth (v := .string ⟨#[]⟩) c2 (by omega : w.heap.size + 1 + 1 ≠ w.heap.size)
      have g0 := box_oth (v := .int .i64 (k : Int)) e0 (by omega : w.heap.size ≠ w.heap.size + 1)
      have g1 := box_set0 (.int .i64 (k : Int)) e1
      have g2 := box_oth (v := .int .i64 (k : Int)) e2 (by omega : w.heap.size + 1 + 1 ≠ w.heap.size + 1)
      have k0 := (box_oth (v := .int .i64 30) g0 (by omega : w.heap.size ≠ w.heap.size + 1 + 1)).cell
      have k1 := (box_oth (v := .int .i64 30) g1 (by omega : w.heap.size + 1 ≠ w.heap.size + 1 + 1)).cell
      have k2 := (box_set0 (.int .i64 30) g2).cell
      have hfin : Below w.heap.size w _ := ((((Hbel.out _ hb).setCell (p := ⟨w.heap.size, 0, none⟩) (Nat.le_refl _) (.string ⟨b.toArray⟩)).setCell (p := ⟨w.heap.size, 0, none⟩) (Nat.le_refl _) (.string ⟨#[]⟩)).setCell (p := ⟨w.heap.size + 1, 0, none⟩) (by simp) (.int .i64 (k : Int))).setCell (p := ⟨w.heap.size + 1 + 1, 0, none⟩) (by simp; omega) (.int .i64 30)
      have hlt1 : decide ((k : Int) < (s.size : Int)) = true := by simpa using hk
      go_wp2_with fail
      refine (wrong_any (w.heap.size + 1 + 1 + 1) s (k : Int) 0 _ hr2).mono ?_
      rintro e w2 ⟨rfl, rfl⟩
      go_wp2_with fail
      refine leaves_cons (f := 43) (args := #[.pointer (some ⟨w.heap.size, 0, none⟩), .pointer (some ⟨w.heap.size + 1, 0, none⟩), .pointer (some ⟨w.heap.size + 1 + 1, 0, none⟩)]) (by simp) (by simp [go_sem]) ?_
      refine (uqCatch ⟨w.heap.size, 0, none⟩ ⟨w.heap.size + 1, 0, none⟩ ⟨w.heap.size + 1 + 1, 0, none⟩ ⟨b.toArray⟩ 0 0 (k : Int) _ c0.cell c0.frozen e1.cell e1.frozen g2.cell g2.frozen).mono ?_
      rintro e u' w'' ⟨rfl, rfl, rfl⟩
      simp [Leaves, settle, results, Tryd.results16, go_sem, k0, k1, k2]
      exact hfin
    · rw [if_neg hk]
      go_enter_defers Tryd.func16, Tryd.ntmps16
      go_wp2_with fail
      refine Hq.out.mono ?_
      rintro e w' ⟨⟨rfl, hrd⟩, hb⟩
      have d0 := box_but b0 hb (by omega)
      have d1 := box_but b1 hb (by omega)
      have d2 := box_but b2 hb (by omega)
      have hr2 : Rd (w'.setCell ⟨w.heap.size, 0, none⟩ (.string ⟨b.toArray⟩)) (w.heap.size + 1 + 1 + 1) s (k : Int) 0 := (Below.heap_setCell _ _ _ _ (by simp; omega)).trans hrd
      have rc1 := hr2.c1
      have cd0 := d0.cell
      have fd0 := d0.frozen
      have c0 := box_set0 (.string ⟨b.toArray⟩) d0
      have c1 := box_oth (v := .string ⟨b.toArray⟩) d1 (by omega : w.heap.size + 1 ≠ w.heap.size)
      have c2 := box_oth (v := .string ⟨b.toArray⟩) d2 (by omega : w.heap.size + 1 + 1 ≠ w.heap.size)
      have e0 := box_set0 (.string ⟨b.toArray⟩) c0
      have e1 := box_oth (v := .string ⟨b.toArray⟩) c1 (by omega : w.heap.size + 1 ≠ w.heap.size)
      have e2 := box_oth (v := .string ⟨b.toArray⟩) c2 (by omega : w.heap.size + 1 + 1 ≠ w.heap.size)
      have g0 := box_oth (v := .int .i64 0) e0 (by omega : w.heap.size ≠ w.heap.size + 1)
      have g1 := box_set0 (.int .i64 0) e1
      have g2 := box_oth (v := .int .i64 0) e2 (by omega : w.heap.size + 1 + 1 ≠ w.heap.size + 1)
      have k0 := (box_oth (v := .int .i64 0) g0 (by omega : w.heap.size ≠ w.heap.size + 1 + 1)).cell
      have k1 := (box_oth (v := .int .i64 0) g1 (by omega : w.heap.size + 1 ≠ w.heap.size + 1 + 1)).cell
      have k2 := (box_set0 (.int .i64 0) g2).cell
      have hfin : Below w.heap.size w _ := ((((Hbel.out _ hb).setCell (p := ⟨w.heap.size, 0, none⟩) (Nat.le_refl _) (.string ⟨b.toArray⟩)).setCell (p := ⟨w.heap.size, 0, none⟩) (Nat.le_refl _) (.string ⟨b.toArray⟩)).setCell (p := ⟨w.heap.size + 1, 0, none⟩) (by simp) (.int .i64 0)).setCell (p := ⟨w.heap.size + 1 + 1, 0, none⟩) (by simp; omega) (.int .i64 0)
      have hlt1 : decide ((k : Int) < (s.size : Int)) = false := by simpa using hk
      have ce1 := e1.cell
      have fe1 := e1.frozen
      have cg2 := g2.cell
      have fg2 := g2.frozen
      have cc0 := c0.cell
      have fc0 := c0.frozen
      go_wp2_with fail
      refine leaves_cons (f := 43) (args := #[.pointer (some ⟨w.heap.size, 0, none⟩), .pointer (some ⟨w.heap.size + 1, 0, none⟩), .pointer (some ⟨w.heap.size + 1 + 1, 0, none⟩)]) (by simp) (by simp [go_sem]) ?_
      refine (uqIdle ⟨w.heap.size, 0, none⟩ ⟨w.heap.size + 1, 0, none⟩ ⟨w.heap.size + 1 + 1, 0, none⟩ _).mono ?_
      rintro e u' w'' ⟨rfl, rfl, rfl⟩
      simp [Leaves, settle, results, Tryd.results16, go_sem, k0, k1, k2]
      exact hfin
end Go.Proofs.YtmiipfdndgjndaaDoor
