/- The contract of the program's Read, whole. -/
import Derived.Test.YtmiipfdndgjndaaDoorO
import Derived.Outline
import Derived.Deep.Cut
namespace Go.Proofs.YtmiipfdndgjndaaDoor
open Go.RowKit Go.Lib
set_option maxHeartbeats 1000000
set_option maxRecDepth 100000 in
theorem read_done (s : ByteArray) (w : World) (hS : s.size ≤ 140737488351232) (v : V) (k p : Nat) (hV : valF s 16 0 0 = .ok (v, k, p)) (hk : ¬ k < s.size) (hks : k ≤ s.size) : Calls Tryd.prog 12 #[.string s] w (ReadPost (v, 0, 0) w) := by
  have hmf : ∀ (fn : Fn) (first cap : Array Value) (w : World), (Instr.makeFunc fn first cap).run Tryd.prog w = .ok (.func fn first cap) w := fun _ _ _ _ => rfl
  have z0 : ((((w.alloc (.cells #[.int .u8 0, .int .i64 0, .string ⟨#[]⟩, .slice none 0 0, .int .i64 0] 26)).alloc (.cells #[.int .i64 0] 3)).alloc (.cells #[.int .i64 0] 27)).alloc (.cells #[.string s, .int .i64 0, .int .i64 0] 77)).heap[w.heap.size]? = some (.cells #[.int .u8 0, .int .i64 0, .string ⟨#[]⟩, .slice none 0 0, .int .i64 0] 26 (0, 0)) := (Below.heap_alloc _ _ _ (by simp; omega)).trans ((Below.heap_alloc _ _ _ (by simp; omega)).trans ((Below.heap_alloc _ _ _ (by simp)).trans (heap_alloc_new w (.cells #[.int .u8 0, .int .i64 0, .string ⟨#[]⟩, .slice none 0 0, .int .i64 0] 26))))
  have z1 : ((((w.alloc (.cells #[.int .u8 0, .int .i64 0, .string ⟨#[]⟩, .slice none 0 0, .int .i64 0] 26)).alloc (.cells #[.int .i64 0] 3)).alloc (.cells #[.int .i64 0] 27)).alloc (.cells #[.string s, .int .i64 0, .int .i64 0] 77)).heap[w.heap.size + 1]? = some (.cells #[.int .i64 0] 3 (0, 0)) := by
    have := heap_alloc_new (w.alloc (.cells #[.int .u8 0, .int .i64 0, .string ⟨#[]⟩, .slice none 0 0, .int .i64 0] 26)) (.cells #[.int .i64 0] 3)
    rw [World.size_alloc] at this
    exact (Below.heap_alloc _ _ _ (by simp <;> omega)).trans ((Below.heap_alloc _ _ _ (by simp)).trans this)
  have z2 : ((((w.alloc (.cells #[.int .u8 0, .int .i64 0, .string ⟨#[]⟩, .slice none 0 0, .int .i64 0] 26)).alloc (.cells #[.int .i64 0] 3)).alloc (.cells #[.int .i64 0] 27)).alloc (.cells #[.string s, .int .i64 0, .int .i64 0] 77)).heap[w.heap.size + 2]? = some (.cells #[.int .i64 0] 27 (0, 0)) := by
    have := heap_alloc_new ((w.alloc (.cells #[.int .u8 0, .int .i64 0, .string ⟨#[]⟩, .slice none 0 0, .int .i64 0] 26)).alloc (.cells #[.int .i64 0] 3)) (.cells #[.int .i64 0] 27)
    rw [World.size_alloc, World.size_alloc] at this
    exact (Below.heap_alloc _ _ _ (by simp)).trans this
  have z3 : Rd ((((w.alloc (.cells #[.int .u8 0, .int .i64 0, .string ⟨#[]⟩, .slice none 0 0, .int .i64 0] 26)).alloc (.cells #[.int .i64 0] 3)).alloc (.cells #[.int .i64 0] 27)).alloc (.cells #[.string s, .int .i64 0, .int .i64 0] 77)) (w.heap.size + 3) s ((0 : Nat) : Int) ((0 : Nat) : Int) := by
    have := heap_alloc_new (((w.alloc (.cells #[.int .u8 0, .int .i64 0, .string ⟨#[]⟩, .slice none 0 0, .int .i64 0] 26)).alloc (.cells #[.int .i64 0] 3)).alloc (.cells #[.int .i64 0] 27)) (.cells #[.string s, .int .i64 0, .int .i64 0] 77)
    rw [World.size_alloc, World.size_alloc, World.size_alloc] at this
    exact this
  have hB0 : Below w.heap.size w ((((w.alloc (.cells #[.int .u8 0, .int .i64 0, .string ⟨#[]⟩, .slice none 0 0, .int .i64 0] 26)).alloc (.cells #[.int .i64 0] 3)).alloc (.cells #[.int .i64 0] 27)).alloc (.cells #[.string s, .int .i64 0, .int .i64 0] 77)) := ((((Below.refl _ w).alloc (Nat.le_refl _) _).alloc (by simp) _).alloc (by simp; omega) _).alloc (by simp; omega) _
  have hsz0 : ((((w.alloc (.cells #[.int .u8 0, .int .i64 0, .string ⟨#[]⟩, .slice none 0 0, .int .i64 0] 26)).alloc (.cells #[.int .i64 0] 3)).alloc (.cells #[.int .i64 0] 27)).alloc (.cells #[.string s, .int .i64 0, .int .i64 0] 77)).heap.size = w.heap.size + 4 := by simp
  have hcall := value_ok s hS 16 (by omega) (w.heap.size + 3) 0 0 _ z3 (by omega) (by omega)
  rw [show (16 : Int) - ((16 : Nat) : Int) = 0 by omega] at hcall
  have hbel : ∀ W', But (w.heap.size + 3) ((((w.alloc (.cells #[.int .u8 0, .int .i64 0, .string ⟨#[]⟩, .slice none 0 0, .int .i64 0] 26)).alloc (.cells #[.int .i64 0] 3)).alloc (.cells #[.int .i64 0] 27)).alloc (.cells #[.string s, .int .i64 0, .int .i64 0] 77)) W' → Below w.heap.size w W' := fun W' hb => hB0.trans ⟨hb.os, hb.tape, hb.output, hb.size, fun i hi => hb.block i (by rw [hsz0]; omega) (by omega)⟩
  have Hz0 := Lib.hid z0
  have Hz1 := Lib.hid z1
  have Hz2 := Lib.hid z2
  have Hbel := Lib.hid hbel
  have Hsz0 := Lib.hid hsz0
  clear z0 z1 z2 z3 hB0 hbel hsz0
  rw [hV] at hcall
  have HC := Lib.hid hcall
  clear hcall hV
  have hlt1 : decide ((k : Int) < (s.size : Int)) = false := by simpa using hk
  go_enter_defers Tryd.func12, Tryd.ntmps12
  go_wp2_with fail
  refine HC.out.mono ?_
  rintro e w' ⟨⟨⟨cs, rfl, hv⟩, hrd⟩, hb⟩
  obtain ⟨xk, xn, xs0, xA, xc, xr, -, rfl⟩ := hv.forms
  generalize v.lst.length = xm at *
  have d0 := (hb.block w.heap.size (by rw [Hsz0.out]; omega) (by omega)).trans Hz0.out
  have d1 := (hb.block (w.heap.size + 1) (by rw [Hsz0.out]; omega) (by omega)).trans Hz1.out
  have d2 := (hb.block (w.heap.size + 1 + 1) (by rw [Hsz0.out]; omega) (by omega)).trans Hz2.out
  have e0 := blk_cell d0 0
  have e1 := blk_cell d0 1
  have e2 := blk_cell d0 2
  have e3 := blk_cell d0 3
  have e4 := blk_cell d0 4
  have g0 := blk_free d0 0
  have g1 := blk_free d0 1
  have g2 := blk_free d0 2
  have g3 := blk_free d0 3
  have g4 := blk_free d0 4
  have hsz' := hb.size
  rw [Hsz0.out] at hsz'
  have D0 := Lib.hid (set5 d0 (.int .u8 xk) (.int .i64 xn) (.string xs0) (.slice xA xm xc) (.int .i64 xr))
  have D1 := Lib.hid ((five_far w' (b := w.heap.size + 1) (H := w.heap.size) (by omega) (.int .u8 xk) (.int .i64 xn) (.string xs0) (.slice xA xm xc) (.int .i64 xr)).trans d1)
  have D2 := Lib.hid ((five_far w' (b := w.heap.size + 1 + 1) (H := w.heap.size) (by omega) (.int .u8 xk) (.int .i64 xn) (.string xs0) (.slice xA xm xc) (.int .i64 xr)).trans d2)
  have HBW := Lib.hid (((((((Hbel.out _ hb).setCell (p := ⟨w.heap.size, 0, none⟩) (Nat.le_refl _) (.int .u8 xk)).setCell (p := ⟨w.heap.size, 1, none⟩) (Nat.le_refl _) (.int .i64 xn)).setCell (p := ⟨w.heap.size, 2, none⟩) (Nat.le_refl _) (.string xs0)).setCell (p := ⟨w.heap.size, 3, none⟩) (Nat.le_refl _) (.slice xA xm xc)).setCell (p := ⟨w.heap.size, 4, none⟩) (Nat.le_refl _) (.int .i64 xr)))
  have Hv := Lib.hid hv
  have hrd2 := hrd.set5 (H := w.heap.size) (by omega) (.int .u8 xk) (.int .i64 xn) (.string xs0) (.slice xA xm xc) (.int .i64 xr)
  have rc1 := hrd2.c1
  have Hrd2 := Lib.hid hrd2
  have q0 := blk_cell D0.out 0
  have q1 := blk_cell D0.out 1
  have q2 := blk_cell D0.out 2
  have q3 := blk_cell D0.out 3
  have q4 := blk_cell D0.out 4
  clear hrd hrd2 d0 d1 d2 hv hb
  go_upto_region 6 with fail
  clear e0 e1 e2 e3 e4 g0 g1 g2 g3 g4 rc1 q0 q1 q2 q3 q4 hlt1 Hrd2
  have hv5 : VIn (((((w'.setCell ⟨w.heap.size, 0, none⟩ (.int .u8 xk)).setCell ⟨w.heap.size, 1, none⟩ (.int .i64 xn)).setCell ⟨w.heap.size, 2, none⟩ (.string xs0)).setCell ⟨w.heap.size, 3, none⟩ (.slice xA xm xc)).setCell ⟨w.heap.size, 4, none⟩ (.int .i64 xr)) (NewB (w.heap.size + 4) (((((w'.setCell ⟨w.heap.size, 0, none⟩ (.int .u8 xk)).setCell ⟨w.heap.size, 1, none⟩ (.int .i64 xn)).setCell ⟨w.heap.size, 2, none⟩ (.string xs0)).setCell ⟨w.heap.size, 3, none⟩ (.slice xA xm xc)).setCell ⟨w.heap.size, 4, none⟩ (.int .i64 xr))) v [.int .u8 xk, .int .i64 xn, .string xs0, .slice xA xm xc, .int .i64 xr] := by
    refine VIn.keepNew Hv.out (fun b hb _ => ?_)
    have h1 := Nat.le_trans (Nat.le_of_eq Hsz0.out.symm) hb
    exact ⟨h1, five_far _ (by omega) _ _ _ _ _⟩
  have hwz : (((((w'.setCell ⟨w.heap.size, 0, none⟩ (.int .u8 xk)).setCell ⟨w.heap.size, 1, none⟩ (.int .i64 xn)).setCell ⟨w.heap.size, 2, none⟩ (.string xs0)).setCell ⟨w.heap.size, 3, none⟩ (.slice xA xm xc)).setCell ⟨w.heap.size, 4, none⟩ (.int .i64 xr)).heap.size = w'.heap.size := by simp [World.setCell]
  have hd0 := D0.out
  have hd1 := D1.out
  have hd2 := D2.out
  have hbw := HBW.out
  clear D0 D1 D2 HBW Hv
  generalize ((((w'.setCell ⟨w.heap.size, 0, none⟩ (.int .u8 xk)).setCell ⟨w.heap.size, 1, none⟩ (.int .i64 xn)).setCell ⟨w.heap.size, 2, none⟩ (.string xs0)).setCell ⟨w.heap.size, 3, none⟩ (.slice xA xm xc)).setCell ⟨w.heap.size, 4, none⟩ (.int .i64 xr) = W at *
  have q0 := blk_cell hd0 0
  have q1 := blk_cell hd0 1
  have q2 := blk_cell hd0 2
  have q3 := blk_cell hd0 3
  have q4 := blk_cell hd0 4
  have g0 := blk_free hd0 0
  have g1 := blk_free hd0 1
  have g2 := blk_free hd0 2
  have g3 := blk_free hd0 3
  have g4 := blk_free hd0 4
  have r0 := blk_cell hd1 0
  have r1 := blk_free hd1 0
  have r2 := blk_cell hd2 0
  have r3 := blk_free hd2 0
  have n1 : ¬ w.heap.size = w.heap.size + 1 := by omega
  have Hv5 := Lib.hid hv5
  have Hwz := Lib.hid hwz
  have Hd0 := Lib.hid hd0
  have Hd1 := Lib.hid hd1
  have Hd2 := Lib.hid hd2
  have Hbw := Lib.hid hbw
  clear hv5 hwz hd0 hd1 hd2 hbw
  go_wp2_with fail
  have f0 := (Below.heap_setCell _ ⟨w.heap.size + 1 + 1, 0, none⟩ (.int .i64 0) w.heap.size (by show w.heap.size ≠ w.heap.size + 1 + 1; omega)).trans ((Below.heap_setCell _ ⟨w.heap.size + 1, 0, none⟩ (.int .i64 0) w.heap.size (by show w.heap.size ≠ w.heap.size + 1; omega)).trans (set5 Hd0.out (.int .u8 xk) (.int .i64 xn) (.string xs0) (.slice xA xm xc) (.int .i64 xr)))
  have f1 := (Below.heap_setCell _ ⟨w.heap.size + 1 + 1, 0, none⟩ (.int .i64 0) (w.heap.size + 1) (by show w.heap.size + 1 ≠ w.heap.size + 1 + 1; omega)).trans (one_set ((five_far W (b := w.heap.size + 1) (H := w.heap.size) (by omega) (.int .u8 xk) (.int .i64 xn) (.string xs0) (.slice xA xm xc) (.int .i64 xr)).trans Hd1.out) (.int .i64 0))
  have f2 := one_set ((Below.heap_setCell _ ⟨w.heap.size + 1, 0, none⟩ (.int .i64 0) (w.heap.size + 1 + 1) (by show w.heap.size + 1 + 1 ≠ w.heap.size + 1; omega)).trans ((five_far W (b := w.heap.size + 1 + 1) (H := w.heap.size) (by omega) (.int .u8 xk) (.int .i64 xn) (.string xs0) (.slice xA xm xc) (.int .i64 xr)).trans Hd2.out)) (.int .i64 0)
  have c0 := blk_cell f0 0
  have c1 := blk_cell f0 1
  have c2 := blk_cell f0 2
  have c3 := blk_cell f0 3
  have c4 := blk_cell f0 4
  have c5 := blk_cell f1 0
  have c6 := blk_cell f2 0
  have hfin : Below w.heap.size w _ := (((((((Hbw.out.setCell (p := ⟨w.heap.size, 0, none⟩) (Nat.le_refl _) (.int .u8 xk)).setCell (p := ⟨w.heap.size, 1, none⟩) (Nat.le_refl _) (.int .i64 xn)).setCell (p := ⟨w.heap.size, 2, none⟩) (Nat.le_refl _) (.string xs0)).setCell (p := ⟨w.heap.size, 3, none⟩) (Nat.le_refl _) (.slice xA xm xc)).setCell (p := ⟨w.heap.size, 4, none⟩) (Nat.le_refl _) (.int .i64 xr)).setCell (p := ⟨w.heap.size + 1, 0, none⟩) (by simp) (.int .i64 0)).setCell (p := ⟨w.heap.size + 1 + 1, 0, none⟩) (by simp; omega) (.int .i64 0))
  have hvf := VIn.keepNew (base' := w.heap.size) Hv5.out (fun b hb _ => ⟨by omega, (Below.heap_setCell _ ⟨w.heap.size + 1 + 1, 0, none⟩ (.int .i64 0) b (by show b ≠ w.heap.size + 1 + 1; omega)).trans ((Below.heap_setCell _ ⟨w.heap.size + 1, 0, none⟩ (.int .i64 0) b (by show b ≠ w.heap.size + 1; omega)).trans (five_far W (b := b) (H := w.heap.size) (by omega) (.int .u8 xk) (.int .i64 xn) (.string xs0) (.slice xA xm xc) (.int .i64 xr)))⟩)
  have Hfin := Lib.hid hfin
  have Hvf := Lib.hid hvf
  clear hfin hvf f0 f1 f2 q0 q1 q2 q3 q4 g0 g1 g2 g3 g4 r0 r1 r2 r3
  refine leaves_cons (f := 39) (args := #[.pointer (some ⟨w.heap.size, 0, none⟩), .pointer (some ⟨w.heap.size + 1, 0, none⟩), .pointer (some ⟨w.heap.size + 1 + 1, 0, none⟩)]) (by simp) (by simp [go_sem]) ?_
  refine (rdIdle ⟨w.heap.size, 0, none⟩ ⟨w.heap.size + 1, 0, none⟩ ⟨w.heap.size + 1 + 1, 0, none⟩ _).mono ?_
  rintro e u' w'' ⟨rfl, rfl, rfl⟩
  simp [Leaves, settle, results, Tryd.results12, go_sem, c0, c1, c2, c3, c4, c5, c6]
  refine ⟨⟨_, rfl, ?_⟩, Hfin.out⟩
  exact VIn.keepNew Hvf.out (fun b hb _ => ⟨hb, rfl⟩)
theorem Read_new (s : ByteArray) (w : World) (hS : s.size ≤ 140737488351232) : Calls Tryd.prog 12 #[.string s] w (ReadPost (readF s) w) := by
  unfold readF
  cases hV : valF s 16 0 0 with
  | error q => exact read_bad s w hS q hV
  | ok r =>
    obtain ⟨v, k, p⟩ := r
    have hl := valF_lt s 16 0 0 v k p hV (by omega) (by omega)
    dsimp only
    by_cases hk : k < s.size
    · rw [if_pos hk]; exact read_more s w hS v k p hV hk
    · rw [if_neg hk]; exact read_done s w hS v k p hV hk hl.2.1
/-- The same, of the blocks only that they came behind. -/
theorem Read_any (s : ByteArray) (w : World) (hS : s.size ≤ 140737488351232) : Calls Tryd.prog 12 #[.string s] w fun e w' => (∃ cs : List Value, e = .returned (.tuple #[.agg cs.toArray, .int .i64 ((readF s).2.1 : Int), .int .i64 (readF s).2.2]) ∧ VIn w' (fun b => w.heap.size ≤ b ∧ b < w'.heap.size) (readF s).1 cs) ∧ Below w.heap.size w w' := by
  refine (Read_new s w hS).mono ?_
  rintro e w' ⟨⟨cs, he, hv⟩, hb⟩
  exact ⟨⟨cs, he, VIn.mono (fun b h => ⟨⟨h.1, h.2.1⟩, rfl⟩) _ hv⟩, hb⟩
end Go.Proofs.YtmiipfdndgjndaaDoor
