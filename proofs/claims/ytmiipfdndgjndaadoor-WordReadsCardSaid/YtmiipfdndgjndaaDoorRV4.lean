/- The contract of the reference's value, whole, and of its Read. -/
import Derived.Test.YtmiipfdndgjndaaDoorRV3
namespace Go.Proofs.YtmiipfdndgjndaaDoor
open Go.RowKit Go.Lib
set_option maxHeartbeats 1000000
def outRes (f : Nat → V) (p : Nat) : Except Nat (Nat × Nat) → Except Nat (V × Nat × Nat)
  | .error q => .error q
  | .ok (n, k') => .ok (f n, k', p + 1)
def txtRes (p : Nat) : Except Nat (List UInt8 × Nat) → Except Nat (V × Nat × Nat)
  | .error q => .error q
  | .ok (b, k') => .ok (.text ⟨b.toArray⟩, k', p + 1)
theorem RvOut.post {B : Nat} {s : ByteArray} {p : Nat} {f : Nat → V} {res : Except Nat (Nat × Nat)} {w : World} {e : Ending} {w' : World} (h : RvOut B s (512 - (p : Int) - 1) f res w e w') :
    RvPost B s (outRes f p res) w e w' := by
  cases res with
  | error q => exact h
  | ok r =>
    obtain ⟨n, k'⟩ := r
    obtain ⟨⟨h1, h2⟩, h3⟩ := h
    exact ⟨⟨h1, h2.room (by omega)⟩, h3⟩
theorem RvTxt.post {B : Nat} {s : ByteArray} {p : Nat} {res : Except Nat (List UInt8 × Nat)} {w : World} {e : Ending} {w' : World} (h : RvTxt B s (512 - (p : Int) - 1) res w e w') :
    RvPost B s (txtRes p res) w e w' := by
  cases res with
  | error q => exact h
  | ok r =>
    obtain ⟨n, k'⟩ := r
    obtain ⟨⟨h1, h2⟩, h3⟩ := h
    exact ⟨⟨h1, h2.room (by omega)⟩, h3⟩
theorem below_set5 {w W : World} {B : Nat} (h : Below B w W) (y0 y1 y2 y3 y4 : Value) : Below B w (((((W.setCell ⟨B, 0, none⟩ y0).setCell ⟨B, 1, none⟩ y1).setCell ⟨B, 2, none⟩ y2).setCell ⟨B, 3, none⟩ y3).setCell ⟨B, 4, none⟩ y4).drew :=
  have h5 := ((((h.setCell (p := ⟨B, 0, none⟩) (Nat.le_refl _) y0).setCell (p := ⟨B, 1, none⟩) (Nat.le_refl _) y1).setCell (p := ⟨B, 2, none⟩) (Nat.le_refl _) y2).setCell (p := ⟨B, 3, none⟩) (Nat.le_refl _) y3).setCell (p := ⟨B, 4, none⟩) (Nat.le_refl _) y4
  ⟨h5.os, h5.tape, h5.output, h5.size, h5.block⟩
theorem full256 : fullL 256 = fun (n : Nat) => decide ((256 : Int) ≤ (n : Int)) := by
  funext n
  unfold fullL
  rw [show decide ((0 : Int) ≤ 256) = true by decide, Bool.true_and]
def RvalOk (s : ByteArray) (d : Nat) : Prop := ∀ (B p k : Nat) (w : World), Rr w B s k false (512 - (p : Int)) → k ≤ s.size → p < 512 → Calls Tryd.prog 42 #[.pointer (some ⟨B, 0, none⟩), .int .i64 (d : Int)] w (RvPost B s (valF s d p k) w)
theorem RvalOk.of (s : ByteArray) (d : Nat) (hd : d ≤ 16) (hS : s.size ≤ 140737488351232) (rv : Option (Nat → Nat → Except Nat (V × Nat × Nat)))
    (hrv : (rv = none ∧ d = 0) ∨ (∃ g, rv = some g ∧ 0 < d ∧ (∀ p k, ¬ k < s.size → g p k = .error s.size) ∧ (∀ p k v k' p', g p k = .ok (v, k', p') → p < 512 → k ≤ s.size → k < k' ∧ k' ≤ s.size ∧ p < p' ∧ p' ≤ 512) ∧
      ∀ (B p k : Nat) (W : World), Rr W B s k false (512 - (p : Int)) → k ≤ s.size → p < 512 → Calls Tryd.prog 42 #[.pointer (some ⟨B, 0, none⟩), .int .i64 ((d : Int) - 1)] W (RvPost B s (g p k) W)))
    (B p k : Nat) (w : World) (h : Rr w B s k false (512 - (p : Int))) (hks : k ≤ s.size) (hp : p < 512) : Calls Tryd.prog 42 #[.pointer (some ⟨B, 0, none⟩), .int .i64 (d : Int)] w (RvPost B s (headF s rv p k) w) := by
  rw [headF.eq_def]
  have hwrong : (¬ bAt s k = 95) → (¬ bAt s k = 35) → (¬ bAt s k = 45) → digitI (bAt s k) = false → (¬ bAt s k = 34) → (¬ bAt s k = 91 ∨ ¬ 0 < (d : Int)) → Calls Tryd.prog 42 #[.pointer (some ⟨B, 0, none⟩), .int .i64 (d : Int)] w (RvPost B s (.error k) w) := by
    intro h1 h2 h3 h4 h5 h6
    refine (rval_wrong B s k (512 - (p : Int)) d w h (by omega) (by omega) h1 h2 h3 h4 h5 h6).mono ?_
    rintro e w' ⟨he, hr, hb⟩
    exact ⟨⟨he, true, _, hr, fun h => by cases h⟩, hb⟩
  by_cases hk : k < s.size
  · rw [if_pos hk]
    by_cases h95 : bAt s k = 95
    · rw [if_pos h95]
      refine (rval_none B s k (512 - (p : Int)) d w hS h (by omega) (by omega) hk h95).mono ?_
      rintro e w' ⟨he, hr, hb⟩
      exact ⟨⟨he, hr.room (by omega)⟩, hb⟩
    rw [if_neg h95]
    by_cases h45 : bAt s k = 45
    · rw [if_pos h45]
      have := (rval_neg B s k (512 - (p : Int)) d w hS h (by omega) (by omega) hk h45 (behindF s mostN (k + 1)) (fun W hW => count_behindN B s (k + 1) _ W hS hW (by omega)) (fun n k' e => (behindF_inv s mostN (k + 1) n k' (by have := mostN_ge; omega) e).1)).mono (fun e w' h => RvOut.post h)
      cases hr : behindF s mostN (k + 1) with
      | error q => rw [hr] at this; exact this
      | ok r => rw [hr] at this; exact this
    rw [if_neg h45]
    by_cases hdg : digitI (bAt s k) = true
    · rw [if_pos hdg]
      have := (rval_pos B s k (512 - (p : Int)) d w hS h (by omega) (by omega) hk hdg (numLoop s mostP (s.size + 1) false 0 k) (fun W hW => count_plainP B s k _ W hS hW hk hdg) (fun n k' e => (numLoop_inv0 s mostP k n k' (by have := mostP_ge; omega) e hk hdg).1)).mono (fun e w' h => RvOut.post h)
      cases hr : numLoop s mostP (s.size + 1) false 0 k with
      | error q => rw [hr] at this; exact this
      | ok r => rw [hr] at this; exact this
    rw [if_neg hdg]
    by_cases h35 : bAt s k = 35
    · rw [if_pos h35]
      have := (rval_ref B s k (512 - (p : Int)) d w hS h (by omega) (by omega) hk h35 (behindF s mostP (k + 1)) (fun W hW => count_behindP B s (k + 1) _ W hS hW (by omega)) (fun n k' e => (behindF_inv s mostP (k + 1) n k' (by have := mostP_ge; omega) e).1)).mono (fun e w' h => RvOut.post h)
      cases hr : behindF s mostP (k + 1) with
      | error q => rw [hr] at this; exact this
      | ok r => rw [hr] at this; exact this
    rw [if_neg h35]
    by_cases h34 : bAt s k = 34
    · rw [if_pos h34]
      have := (rval_text B s k (512 - (p : Int)) d w hS h (by omega) (by omega) hk h34).mono (fun e w' h => RvTxt.post h)
      rw [full256] at this
      cases hr : quotedF s (fun n => decide ((256 : Int) ≤ (n : Int))) k with
      | error q => rw [hr] at this; exact this
      | ok r => rw [hr] at this; exact this
    rw [if_neg h34]
    have hdg' : digitI (bAt s k) = false := by simpa using hdg
    by_cases h91 : bAt s k = 91
    · rw [if_pos h91]
      rcases hrv with ⟨rfl, rfl⟩ | ⟨g, rfl, hd0, hout, hlt, hl⟩
      · exact hwrong h95 h35 h45 hdg' h34 (.inr (by simp))
      · have := rval_list B s k p d w hS h hp hk h91 (by omega) (by omega) g hout hlt (fun p kv W hW hkv hp => hl B p kv W hW hkv hp)
        dsimp only
        cases hr : listF s g (s.size + 1) (p + 1) (k + 1) [] with
        | error q => rw [hr] at this; exact this
        | ok r => rw [hr] at this; exact this
    · rw [if_neg h91]
      exact hwrong h95 h35 h45 hdg' h34 (.inl h91)
  · rw [if_neg hk]
    have h0 := bAt_out s k hk
    rw [show s.size = k by omega]
    exact hwrong (by rw [h0]; simp) (by rw [h0]; simp) (by rw [h0]; simp) (by rw [h0]; rfl) (by rw [h0]; simp) (.inl (by rw [h0]; simp))
theorem valF_out (s : ByteArray) (d p k : Nat) (h : ¬ k < s.size) : valF s d p k = .error s.size := by
  cases d with
  | zero => rw [valF, headF.eq_def, if_neg h]
  | succ d => rw [valF, headF.eq_def, if_neg h]
theorem rval_ok (s : ByteArray) (hS : s.size ≤ 140737488351232) : ∀ d, d ≤ 16 → RvalOk s d := by
  intro d
  induction d with
  | zero => intro hd B p k w h hk hp; exact RvalOk.of s 0 hd hS none (.inl ⟨rfl, rfl⟩) B p k w h hk hp
  | succ d ih =>
    intro hd B p k w h hk hp
    refine RvalOk.of s (d + 1) hd hS (some (valF s d)) (.inr ⟨valF s d, rfl, by omega, valF_out s d, valF_lt s d, ?_⟩) B p k w h hk hp
    intro B p k W hW hk hp
    rw [show ((d + 1 : Nat) : Int) - 1 = (d : Int) by omega]
    exact ih (by omega) B p k W hW hk hp
def ZC : List Value := [.int .u8 0, .int .i64 0, .string ⟨#[]⟩, .slice none 0 0, .int .i64 0]
set_option maxRecDepth 100000 in
theorem refRead_any (s : ByteArray) (w : World) (hS : s.size ≤ 140737488351232) : Calls Tryd.prog 13 #[.string s] w (ReadPost (readF s) w) := by
  have hz : ((w.alloc (.cells #[.int .u8 0, .int .i64 0, .string ⟨#[]⟩, .slice none 0 0, .int .i64 0] 26)).alloc (.cells #[.string s, .int .i64 0, .bool false, .int .i64 512] 81)).heap[w.heap.size]? = some (.cells #[.int .u8 0, .int .i64 0, .string ⟨#[]⟩, .slice none 0 0, .int .i64 0] 26 (0, 0)) := (Below.heap_alloc _ _ _ (by simp)).trans (heap_alloc_new w _)
  have hB : Rr ((w.alloc (.cells #[.int .u8 0, .int .i64 0, .string ⟨#[]⟩, .slice none 0 0, .int .i64 0] 26)).alloc (.cells #[.string s, .int .i64 0, .bool false, .int .i64 512] 81)) (w.heap.size + 1) s ((0 : Nat) : Int) false (512 - ((0 : Nat) : Int)) := by
    have := heap_alloc_new (w.alloc (.cells #[.int .u8 0, .int .i64 0, .string ⟨#[]⟩, .slice none 0 0, .int .i64 0] 26)) (.cells #[.string s, .int .i64 0, .bool false, .int .i64 512] 81)
    rw [World.size_alloc] at this
    exact this
  have hbel : Below w.heap.size w ((w.alloc (.cells #[.int .u8 0, .int .i64 0, .string ⟨#[]⟩, .slice none 0 0, .int .i64 0] 26)).alloc (.cells #[.string s, .int .i64 0, .bool false, .int .i64 512] 81)) := ((Below.refl _ w).alloc (Nat.le_refl _) _).alloc (by simp) _
  have hsz : ((w.alloc (.cells #[.int .u8 0, .int .i64 0, .string ⟨#[]⟩, .slice none 0 0, .int .i64 0] 26)).alloc (.cells #[.string s, .int .i64 0, .bool false, .int .i64 512] 81)).heap.size = w.heap.size + 2 := by simp
  have HV := Lib.hid (rval_ok s hS 16 (by omega) (w.heap.size + 1) 0 0 _ hB (by omega) (by omega))
  obtain ⟨w0, hw0⟩ : ∃ w0, w0 = ((w.alloc (.cells #[.int .u8 0, .int .i64 0, .string ⟨#[]⟩, .slice none 0 0, .int .i64 0] 26)).alloc (.cells #[.string s, .int .i64 0, .bool false, .int .i64 512] 81)) := ⟨_, rfl⟩
  have HZ := Lib.hid hz
  have HBL := Lib.hid hbel
  have HSZ := Lib.hid hsz
  have HW0 := Lib.hid hw0
  rw [← hw0] at HZ HBL HSZ HV
  clear hz hB hbel hsz hw0
  -- what stands behind value, and behind the box of what it told
  have HX := Lib.hid (fun (w2 : World) (o : Obj) (hb2 : But (w.heap.size + 1) w0 w2) => (⟨(Below.heap_alloc w2 o _ (by have := hb2.size; have := HSZ.out; omega)).trans ((hb2.block w.heap.size (by have := HSZ.out; omega) (by omega)).trans HZ.out), (HBL.out.trans (⟨hb2.os, hb2.tape, hb2.output, hb2.size, fun i hi => hb2.block i (by have := HSZ.out; omega) (by omega)⟩ : Below w.heap.size w0 w2)).alloc (by have := hb2.size; have := HSZ.out; omega) o, Nat.le_trans (Nat.le_of_eq HSZ.out.symm) hb2.size⟩ : (w2.alloc o).heap[w.heap.size]? = some (.cells #[.int .u8 0, .int .i64 0, .string ⟨#[]⟩, .slice none 0 0, .int .i64 0] 26 (0, 0)) ∧ Below w.heap.size w (w2.alloc o) ∧ w.heap.size + 2 ≤ w2.heap.size))
  unfold readF
  cases hr : valF s 16 0 0 with
  | error q =>
    rw [hr] at HV
    have HPO : Hid (∀ W, Below w.heap.size w W → ReadPost (.nothing, q, 30) w (.returned (.tuple #[.agg #[.int .u8 0, .int .i64 0, .string ⟨#[]⟩, .slice none 0 0, .int .i64 0], .int .i64 (q : Int), .int .i64 30])) W) := Lib.hid (fun W h => ⟨⟨_, rfl, VIn.plain _ _ 0 0 ⟨#[]⟩ 0 (by decide)⟩, h⟩)
    clear hr
    dsimp only
    go_enter Tryd.func13, Tryd.ntmps13
    go_wp2_with fail
    rw [← HW0.out]
    refine HV.out.mono ?_
    rintro e w2 ⟨⟨⟨xk, xn, xs0, xA, xm, xc, xr, rfl⟩, st, rm, hrd2, hdg⟩, hb2⟩
    obtain ⟨hz, hbl, hz2⟩ := HX.out w2 (.cells #[.int .u8 xk, .int .i64 xn, .string xs0, .slice xA xm xc, .int .i64 xr] 26) hb2
    have hA := hrd2.alloc (.cells #[.int .u8 xk, .int .i64 xn, .string xs0, .slice xA xm xc, .int .i64 xr] 26)
    have c1 := hA.c1
    have c2 := hA.c2
    have hst : st = true ∨ (st = false ∧ decide (q < s.size) = true) := by
      cases st with
      | true => exact .inl rfl
      | false => exact .inr ⟨rfl, by have := (hdg rfl).1; simpa using this⟩
    have HZ2 := Lib.hid hz
    have HBL2 := Lib.hid hbl
    clear hA hrd2 hb2 hdg hz hbl
    have z0 : (w2.alloc (.cells #[.int .u8 xk, .int .i64 xn, .string xs0, .slice xA xm xc, .int .i64 xr] 26)).cell? ⟨w.heap.size, 0, none⟩ = some (.int .u8 0) := blk_cell HZ2.out 0
    have f0 : (w2.alloc (.cells #[.int .u8 xk, .int .i64 xn, .string xs0, .slice xA xm xc, .int .i64 xr] 26)).frozen? ⟨w.heap.size, 0, none⟩ = false := blk_free HZ2.out 0
    have z1 : (w2.alloc (.cells #[.int .u8 xk, .int .i64 xn, .string xs0, .slice xA xm xc, .int .i64 xr] 26)).cell? ⟨w.heap.size, 1, none⟩ = some (.int .i64 0) := blk_cell HZ2.out 1
    have f1 : (w2.alloc (.cells #[.int .u8 xk, .int .i64 xn, .string xs0, .slice xA xm xc, .int .i64 xr] 26)).frozen? ⟨w.heap.size, 1, none⟩ = false := blk_free HZ2.out 1
    have z2 : (w2.alloc (.cells #[.int .u8 xk, .int .i64 xn, .string xs0, .slice xA xm xc, .int .i64 xr] 26)).cell? ⟨w.heap.size, 2, none⟩ = some (.string ⟨#[]⟩) := blk_cell HZ2.out 2
    have f2 : (w2.alloc (.cells #[.int .u8 xk, .int .i64 xn, .string xs0, .slice xA xm xc, .int .i64 xr] 26)).frozen? ⟨w.heap.size, 2, none⟩ = false := blk_free HZ2.out 2
    have z3 : (w2.alloc (.cells #[.int .u8 xk, .int .i64 xn, .string xs0, .slice xA xm xc, .int .i64 xr] 26)).cell? ⟨w.heap.size, 3, none⟩ = some (.slice none 0 0) := blk_cell HZ2.out 3
    have f3 : (w2.alloc (.cells #[.int .u8 xk, .int .i64 xn, .string xs0, .slice xA xm xc, .int .i64 xr] 26)).frozen? ⟨w.heap.size, 3, none⟩ = false := blk_free HZ2.out 3
    have z4 : (w2.alloc (.cells #[.int .u8 xk, .int .i64 xn, .string xs0, .slice xA xm xc, .int .i64 xr] 26)).cell? ⟨w.heap.size, 4, none⟩ = some (.int .i64 0) := blk_cell HZ2.out 4
    have f4 : (w2.alloc (.cells #[.int .u8 xk, .int .i64 xn, .string xs0, .slice xA xm xc, .int .i64 xr] 26)).frozen? ⟨w.heap.size, 4, none⟩ = false := blk_free HZ2.out 4
    rcases hst with rfl | ⟨rfl, t1⟩
    all_goals
      go_wp2_with fail
      go_region_law (fail)
      all_goals
        go_wp2_with fail
        have h6 := set5 HZ2.out (.int .u8 0) (.int .i64 0) (.string ⟨#[]⟩) (.slice none 0 0) (.int .i64 0)
        have e0 := blk_cell h6 0
        have e1 := blk_cell h6 1
        have e2 := blk_cell h6 2
        have e3 := blk_cell h6 3
        have e4 := blk_cell h6 4
        refine bodyPost_ret (v := .tuple #[.agg #[.int .u8 0, .int .i64 0, .string ⟨#[]⟩, .slice none 0 0, .int .i64 0], .int .i64 (q : Int), .int .i64 30]) (by simp [results, Tryd.results13, go_sem, e0, e1, e2, e3, e4]) rfl (HPO.out _ ?_)
        exact below_set5 HBL2.out _ _ _ _ _
  | ok rr =>
    obtain ⟨v, k, p⟩ := rr
    have hkl := valF_lt s 16 0 0 v k p hr (by omega) (by omega)
    rw [hr] at HV
    have hks := hkl.2.1
    clear hr hkl
    dsimp only
    by_cases hk : k < s.size
    · rw [if_pos hk]
      have HPO : Hid (∀ W, Below w.heap.size w W → ReadPost (.nothing, k, 30) w (.returned (.tuple #[.agg #[.int .u8 0, .int .i64 0, .string ⟨#[]⟩, .slice none 0 0, .int .i64 0], .int .i64 (k : Int), .int .i64 30])) W) := Lib.hid (fun W h => ⟨⟨_, rfl, VIn.plain _ _ 0 0 ⟨#[]⟩ 0 (by decide)⟩, h⟩)
      have t1 : decide (k < s.size) = true := by simpa using hk
      go_enter Tryd.func13, Tryd.ntmps13
      go_wp2_with fail
      rw [← HW0.out]
      refine HV.out.mono ?_
      rintro e w2 ⟨⟨⟨cs, rfl, hv⟩, hrd2⟩, hb2⟩
      obtain ⟨xk, xn, xs0, xA, xc, xr, -, rfl⟩ := hv.forms
      obtain ⟨xm, hxm⟩ : ∃ xm, xm = v.lst.length := ⟨_, rfl⟩
      rw [← hxm]
      clear hxm hv
      obtain ⟨hz, hbl, hz2⟩ := HX.out w2 (.cells #[.int .u8 xk, .int .i64 xn, .string xs0, .slice xA xm xc, .int .i64 xr] 26) hb2
      have hA := hrd2.alloc (.cells #[.int .u8 xk, .int .i64 xn, .string xs0, .slice xA xm xc, .int .i64 xr] 26)
      have c1 := hA.c1
      have c2 := hA.c2
      have HZ2 := Lib.hid hz
      have HBL2 := Lib.hid hbl
      clear hA hrd2 hb2 hz hbl
      have z0 : (w2.alloc (.cells #[.int .u8 xk, .int .i64 xn, .string xs0, .slice xA xm xc, .int .i64 xr] 26)).cell? ⟨w.heap.size, 0, none⟩ = some (.int .u8 0) := blk_cell HZ2.out 0
      have f0 : (w2.alloc (.cells #[.int .u8 xk, .int .i64 xn, .string xs0, .slice xA xm xc, .int .i64 xr] 26)).frozen? ⟨w.heap.size, 0, none⟩ = false := blk_free HZ2.out 0
      have z1 : (w2.alloc (.cells #[.int .u8 xk, .int .i64 xn, .string xs0, .slice xA xm xc, .int .i64 xr] 26)).cell? ⟨w.heap.size, 1, none⟩ = some (.int .i64 0) := blk_cell HZ2.out 1
      have f1 : (w2.alloc (.cells #[.int .u8 xk, .int .i64 xn, .string xs0, .slice xA xm xc, .int .i64 xr] 26)).frozen? ⟨w.heap.size, 1, none⟩ = false := blk_free HZ2.out 1
      have z2 : (w2.alloc (.cells #[.int .u8 xk, .int .i64 xn, .string xs0, .slice xA xm xc, .int .i64 xr] 26)).cell? ⟨w.heap.size, 2, none⟩ = some (.string ⟨#[]⟩) := blk_cell HZ2.out 2
      have f2 : (w2.alloc (.cells #[.int .u8 xk, .int .i64 xn, .string xs0, .slice xA xm xc, .int .i64 xr] 26)).frozen? ⟨w.heap.size, 2, none⟩ = false := blk_free HZ2.out 2
      have z3 : (w2.alloc (.cells #[.int .u8 xk, .int .i64 xn, .string xs0, .slice xA xm xc, .int .i64 xr] 26)).cell? ⟨w.heap.size, 3, none⟩ = some (.slice none 0 0) := blk_cell HZ2.out 3
      have f3 : (w2.alloc (.cells #[.int .u8 xk, .int .i64 xn, .string xs0, .slice xA xm xc, .int .i64 xr] 26)).frozen? ⟨w.heap.size, 3, none⟩ = false := blk_free HZ2.out 3
      have z4 : (w2.alloc (.cells #[.int .u8 xk, .int .i64 xn, .string xs0, .slice xA xm xc, .int .i64 xr] 26)).cell? ⟨w.heap.size, 4, none⟩ = some (.int .i64 0) := blk_cell HZ2.out 4
      have f4 : (w2.alloc (.cells #[.int .u8 xk, .int .i64 xn, .string xs0, .slice xA xm xc, .int .i64 xr] 26)).frozen? ⟨w.heap.size, 4, none⟩ = false := blk_free HZ2.out 4
      go_wp2_with fail
      go_region_law (fail)
      all_goals
        go_wp2_with fail
        have h6 := set5 HZ2.out (.int .u8 0) (.int .i64 0) (.string ⟨#[]⟩) (.slice none 0 0) (.int .i64 0)
        have e0 := blk_cell h6 0
        have e1 := blk_cell h6 1
        have e2 := blk_cell h6 2
        have e3 := blk_cell h6 3
        have e4 := blk_cell h6 4
        refine bodyPost_ret (v := .tuple #[.agg #[.int .u8 0, .int .i64 0, .string ⟨#[]⟩, .slice none 0 0, .int .i64 0], .int .i64 (k : Int), .int .i64 30]) (by simp [results, Tryd.results13, go_sem, e0, e1, e2, e3, e4]) rfl (HPO.out _ ?_)
        exact below_set5 HBL2.out _ _ _ _ _
    · rw [if_neg hk]
      have t1 : decide (k < s.size) = false := by simpa using hk
      go_enter Tryd.func13, Tryd.ntmps13
      go_wp2_with fail
      rw [← HW0.out]
      refine HV.out.mono ?_
      rintro e w2 ⟨⟨⟨cs, rfl, hv⟩, hrd2⟩, hb2⟩
      obtain ⟨xk, xn, xs0, xA, xc, xr, hvf, rfl⟩ := hv.forms
      obtain ⟨xm, hxm⟩ : ∃ xm, xm = v.lst.length := ⟨_, rfl⟩
      rw [← hxm] at hv ⊢
      have HV2 := Lib.hid hv
      clear hxm hv hvf
      obtain ⟨hz, hbl, hz2⟩ := HX.out w2 (.cells #[.int .u8 xk, .int .i64 xn, .string xs0, .slice xA xm xc, .int .i64 xr] 26) hb2
      have hA := hrd2.alloc (.cells #[.int .u8 xk, .int .i64 xn, .string xs0, .slice xA xm xc, .int .i64 xr] 26)
      have c1 := hA.c1
      have c2 := hA.c2
      have HZ2 := Lib.hid hz
      have HBL2 := Lib.hid hbl
      clear hA hrd2 hb2 hz hbl
      have z0 : (w2.alloc (.cells #[.int .u8 xk, .int .i64 xn, .string xs0, .slice xA xm xc, .int .i64 xr] 26)).cell? ⟨w.heap.size, 0, none⟩ = some (.int .u8 0) := blk_cell HZ2.out 0
      have f0 : (w2.alloc (.cells #[.int .u8 xk, .int .i64 xn, .string xs0, .slice xA xm xc, .int .i64 xr] 26)).frozen? ⟨w.heap.size, 0, none⟩ = false := blk_free HZ2.out 0
      have z1 : (w2.alloc (.cells #[.int .u8 xk, .int .i64 xn, .string xs0, .slice xA xm xc, .int .i64 xr] 26)).cell? ⟨w.heap.size, 1, none⟩ = some (.int .i64 0) := blk_cell HZ2.out 1
      have f1 : (w2.alloc (.cells #[.int .u8 xk, .int .i64 xn, .string xs0, .slice xA xm xc, .int .i64 xr] 26)).frozen? ⟨w.heap.size, 1, none⟩ = false := blk_free HZ2.out 1
      have z2 : (w2.alloc (.cells #[.int .u8 xk, .int .i64 xn, .string xs0, .slice xA xm xc, .int .i64 xr] 26)).cell? ⟨w.heap.size, 2, none⟩ = some (.string ⟨#[]⟩) := blk_cell HZ2.out 2
      have f2 : (w2.alloc (.cells #[.int .u8 xk, .int .i64 xn, .string xs0, .slice xA xm xc, .int .i64 xr] 26)).frozen? ⟨w.heap.size, 2, none⟩ = false := blk_free HZ2.out 2
      have z3 : (w2.alloc (.cells #[.int .u8 xk, .int .i64 xn, .string xs0, .slice xA xm xc, .int .i64 xr] 26)).cell? ⟨w.heap.size, 3, none⟩ = some (.slice none 0 0) := blk_cell HZ2.out 3
      have f3 : (w2.alloc (.cells #[.int .u8 xk, .int .i64 xn, .string xs0, .slice xA xm xc, .int .i64 xr] 26)).frozen? ⟨w.heap.size, 3, none⟩ = false := blk_free HZ2.out 3
      have z4 : (w2.alloc (.cells #[.int .u8 xk, .int .i64 xn, .string xs0, .slice xA xm xc, .int .i64 xr] 26)).cell? ⟨w.heap.size, 4, none⟩ = some (.int .i64 0) := blk_cell HZ2.out 4
      have f4 : (w2.alloc (.cells #[.int .u8 xk, .int .i64 xn, .string xs0, .slice xA xm xc, .int .i64 xr] 26)).frozen? ⟨w.heap.size, 4, none⟩ = false := blk_free HZ2.out 4
      go_wp2_with fail
      have h6 := set5 HZ2.out (.int .u8 xk) (.int .i64 xn) (.string xs0) (.slice xA xm xc) (.int .i64 xr)
      have e0 := blk_cell h6 0
      have e1 := blk_cell h6 1
      have e2 := blk_cell h6 2
      have e3 := blk_cell h6 3
      have e4 := blk_cell h6 4
      refine bodyPost_ret (v := .tuple #[.agg #[.int .u8 xk, .int .i64 xn, .string xs0, .slice xA xm xc, .int .i64 xr], .int .i64 0, .int .i64 0]) (by simp [results, Tryd.results13, go_sem, e0, e1, e2, e3, e4]) rfl ⟨⟨_, rfl, ?_⟩, ?_⟩
      · exact VIn.keepNew (base' := w.heap.size) HV2.out (fun b hb hb2 => ⟨by have := HSZ.out; omega, (five_far _ (H := w.heap.size) (by have := HSZ.out; omega) (.int .u8 xk) (.int .i64 xn) (.string xs0) (.slice xA xm xc) (.int .i64 xr)).trans (Below.heap_alloc w2 _ b hb2)⟩)
      · exact ((((HBL2.out.setCell (p := ⟨w.heap.size, 0, none⟩) (Nat.le_refl _) _).setCell (p := ⟨w.heap.size, 1, none⟩) (Nat.le_refl _) _).setCell (p := ⟨w.heap.size, 2, none⟩) (Nat.le_refl _) _).setCell (p := ⟨w.heap.size, 3, none⟩) (Nat.le_refl _) _).setCell (p := ⟨w.heap.size, 4, none⟩) (Nat.le_refl _) _
end Go.Proofs.YtmiipfdndgjndaaDoor
