/- The contract of the iterator able.Within, for whatever loop body keeps the captured variable. -/
import Derived.Test.YtbdbhacniejagaaA
namespace Go.Proofs.Ytbdbhacniejagaa
open Go.RowKit Go.Shelf
attribute [local go_sem] Oper.semAt_some

/-- The sets within m (below 64) that are smaller than x, rising. -/
def subs (m x : Nat) : List (Fin 64) := (List.finRange 64).filter fun b => Nat.blt b.val x && Nat.beq (Nat.land b.val m) b.val
def nextN (m x : Nat) : Nat := Nat.land ((x + 256 - m) % 256) m
def enc64 (k : Fin 64) : Array Value := #[.int .u8 k.val]
theorem subs_zero (m : Nat) : subs m 0 = [] := by
  unfold subs; rw [List.filter_eq_nil_iff]; intro a _; simp
def stepOk (m x : Nat) : Bool :=
  if Nat.beq (Nat.land x m) x then
    if Nat.beq x m then (subs m 64 == subs m x ++ (if h : x < 64 then [⟨x, h⟩] else []))
    else Nat.blt x (nextN m x) && Nat.ble (nextN m x) m && Nat.beq (Nat.land (nextN m x) m) (nextN m x) && (subs m (nextN m x) == subs m x ++ (if h : x < 64 then [⟨x, h⟩] else []))
  else true
theorem step_ok : ((List.range 64).all fun m => (List.range 64).all fun x => stepOk m x) = true := by decide +kernel
theorem nextB : ((List.range 64).all fun m => (List.range 64).all fun x => bits .and .u8 (((x : Int) - (m : Int)) % 256) m == ((nextN m x : Nat) : Int)) = true := by decide +kernel
theorem all64 {p : Nat → Bool} (h : (List.range 64).all p = true) (i : Nat) (hi : i < 64) : p i = true := by
  rw [List.all_eq_true] at h
  exact h i (by simpa using hi)
theorem step_at (m x : Nat) (hm : m < 64) (hx : x < 64) : stepOk m x = true := all64 (p := fun x => stepOk m x) (all64 (p := fun m => (List.range 64).all fun x => stepOk m x) step_ok m hm) x hx
theorem step_last (m : Nat) (hm : m < 64) : subs m 64 = subs m m ++ [⟨m, hm⟩] := by
  have h := step_at m m hm hm
  simp only [stepOk] at h
  rw [if_pos (by simp), if_pos (by simp), dif_pos hm] at h
  simpa using h
theorem step_next (m x : Nat) (hm : m < 64) (hx : x < 64) (hs : Nat.land x m = x) (hne : x ≠ m) :
    x < nextN m x ∧ nextN m x ≤ m ∧ Nat.land (nextN m x) m = nextN m x ∧ subs m (nextN m x) = subs m x ++ [⟨x, hx⟩] := by
  have h := step_at m x hm hx
  simp only [stepOk] at h
  rw [if_pos (by rw [hs]; simp), if_neg (by simpa using hne), dif_pos hx] at h
  simp only [Bool.and_eq_true, beq_iff_eq] at h
  obtain ⟨⟨⟨h1, h2⟩, h3⟩, h4⟩ := h
  refine ⟨?_, ?_, ?_, h4⟩
  · have h1' : x + 1 ≤ nextN m x := by simpa [Nat.blt] using h1
    omega
  · simpa using h2
  · simpa using h3
theorem next_at (m x : Nat) (hm : m < 64) (hx : x < 64) : bits .and .u8 (((x : Int) - (m : Int)) % 256) m = ((nextN m x : Nat) : Int) := by
  have := all64 (p := fun x => bits .and .u8 (((x : Int) - (m : Int)) % 256) m == ((nextN m x : Nat) : Int)) (all64 (p := fun m => (List.range 64).all fun x => bits .and .u8 (((x : Int) - (m : Int)) % 256) m == ((nextN m x : Nat) : Int)) nextB m hm) x hx
  simpa using this
theorem subs_len (m x : Nat) : (subs m x).length ≤ 64 := by
  have := List.length_filter_le (fun b : Fin 64 => Nat.blt b.val x && Nat.beq (Nat.land b.val m) b.val) (List.finRange 64)
  simpa [subs] using this
theorem subs_prefix_step (m x : Nat) (hm : m < 64) (hx : x < 64) (hs : Nat.land x m = x) : subs m x ++ [⟨x, hx⟩] <+: subs m 64 := by
  induction hd : 64 - x using Nat.strongRecOn generalizing x with
  | _ d ih =>
    by_cases hne : x = m
    · subst hne
      rw [step_last x hm]
      exact List.prefix_refl _
    · obtain ⟨h1, h2, h3, h4⟩ := step_next m x hm hx hs hne
      rw [← h4]
      have := ih (64 - nextN m x) (by omega) (nextN m x) (by omega) h3 rfl
      exact (List.prefix_append _ _).trans this
theorem subs_lt (m x : Nat) (hm : m < 64) (hx : x < 64) (hs : Nat.land x m = x) : (subs m x).length < 64 := by
  have := (subs_prefix_step m x hm hx hs).length_le
  have h2 := subs_len m 64
  rw [List.length_append] at this
  simp at this
  omega

set_option maxRecDepth 100000 in
theorem next_in (F : Fence) (n : Nat) (h46 : F.fn 46) (hro : F.round = none) (B x m : Nat) (hx : x < 64) (hm : m < 64) (w : World) (hc : w.cell? ⟨B, 0, none⟩ = some (.int .u8 m)) :
    CallsIn F n Try.prog 46 #[.int .u8 x, .pointer (some ⟨B, 0, none⟩)] w fun e w' => e = .returned (.int .u8 (nextN m x : Nat)) ∧ w = w' := by
  refine callsIn_of_wp Try.func46 rfl h46 ?_ hro
  simp only [Try.ntmps46, List.size_toArray, List.length_cons, List.length_nil, Nat.reduceAdd, Nat.reduceSub, Array.replicate_succ, Array.replicate_zero, List.push_toArray, List.append_toArray, List.nil_append, List.cons_append]
  have hb := Lib.hid (next_at m x hm hx)
  gi_wp2
  go_ret
  exact ⟨by rw [← hb.out]; rfl, rfl⟩
set_option maxRecDepth 100000 in
set_option maxHeartbeats 1000000 in
theorem within1_in (F : Fence) (n : Nat) (h45 : F.fn 45) (h46 : F.fn 46) (hro : F.round = none) (hn : 1 ≤ n) (l B : Nat) (m : Nat) (hm : m < 64) (J Jx : List (Fin 64) → World → Prop)
    (hY : ∀ pre x W, J pre W → pre.length < 64 → YieldAt F (n - 1) Try.prog l (enc64 x) W fun e W' =>
      (e = .returned (.bool true) ∧ J (pre ++ [x]) W' ∧ KpB B W W') ∨ (e = .returned (.bool false) ∧ Jx (pre ++ [x]) W'))
    (W : World) (hB : W.cell? ⟨B, 0, none⟩ = some (.int .u8 m)) (h0 : J [] W) :
    CallsIn F n Try.prog 45 #[.func (.yield l) #[] #[], .pointer (some ⟨B, 0, none⟩)] W fun e W' => (∃ v, e = .returned v) ∧
      ((∃ ys, ys = subs m 64 ∧ J ys W') ∨ (∃ pre, pre <+: subs m 64 ∧ Jx pre W')) := by
  refine callsIn_of_wp Try.func45 rfl h45 ?_ hro
  simp only [Try.ntmps45, List.size_toArray, List.length_cons, List.length_nil, Nat.reduceAdd, Nat.reduceSub, Array.replicate_succ, Array.replicate_zero, List.push_toArray, List.append_toArray, List.nil_append, List.cons_append]
  have hmf : ∀ (fn : Fn) (first cap : Array Value) (w : World), (Instr.makeFunc fn first cap).run Try.prog w = .ok (.func fn first cap) w := fun _ _ _ _ => rfl
  gi_wp2
  gi_loopw [4] (fun p wr => ∃ x : Nat, x < 64 ∧ Nat.land x m = x ∧ p = .int .u8 x ∧ wr.cell? ⟨B, 0, none⟩ = some (.int .u8 m) ∧ J (subs m x) wr)
    (fun p wr => 64 - (intOf p).toNat)
  case atStart =>
    exact ⟨0, by omega, by simp, rfl, hB, by rw [subs_zero]; exact h0⟩
  case round =>
    obtain ⟨x, hx, hs, rfl, hc, hJs⟩ := hrel
    have hy := hY (subs m x) ⟨x, hx⟩ wr hJs (subs_lt m x hm hx hs)
    simp only [enc64] at hy
    have Hs := Lib.hid hs
    clear hs hY
    obtain ⟨fn, tmps, assign, body, hy1, hR⟩ := hy
    by_cases hne : x = m
    · subst hne
      gi_wp2
      refine hR.mono ?_
      rintro e W3 (⟨rfl, hJ3, hk3⟩ | ⟨rfl, hJx3⟩)
      · have hc3 := hk3 _ hc
        gi_wp2
        go_end0
        exact ⟨⟨_, rfl⟩, .inl ⟨_, (step_last x hm).symm, hJ3⟩⟩
      · gi_wp2
        go_end0
        exact ⟨⟨_, rfl⟩, .inr ⟨_, subs_prefix_step x x hm hx Hs.out, hJx3⟩⟩
    · have hne1 : ((x : Int) == (m : Int)) = false := by rw [beq_eq_false_iff_ne]; omega
      have hne2 : ((x : Int) != (m : Int)) = true := by rw [bne_iff_ne]; omega
      have Hne := Lib.hid hne
      clear hne
      gi_wp2
      refine hR.mono ?_
      rintro e W3 (⟨rfl, hJ3, hk3⟩ | ⟨rfl, hJx3⟩)
      · have hc3 := hk3 _ hc
        gi_wp2_with (gi_at_call 46; refine (next_in F (n - 1) h46 hro B x m hx hm _ hc3).mono ?_; rintro e w' ⟨rfl, rfl⟩)
        obtain ⟨g1, g2, g3, g4⟩ := step_next m x hm hx Hs.out Hne.out
        refine ⟨⟨nextN m x, by omega, g3, rfl, hc3, by rw [g4]; exact hJ3⟩, by simp [intOf]; omega⟩
      · gi_wp2
        go_end0
        exact ⟨⟨_, rfl⟩, .inr ⟨_, subs_prefix_step m x hm hx Hs.out, hJx3⟩⟩

/-- What able.Within hands back, as a sequence that may be stopped. -/
theorem within_stops (F : Fence) (n : Nat) (h45 : F.fn 45) (h46 : F.fn 46) (hro : F.round = none) (hn : 1 ≤ n) (B : Nat) (m : Nat) (hm : m < 64) (w : World) (hBw : B < w.heap.size)
    (hc : w.cell? ⟨B, 0, none⟩ = some (.int .u8 m)) :
    SeqStopsK F n Try.prog 45 #[.pointer (some ⟨B, 0, none⟩)] enc64 (KpB B) (fun ys => ys = subs m 64) (fun pre => pre <+: subs m 64) 64 w := fun l J Jx W hW _ _ hY h0 =>
  within1_in F n h45 h46 hro hn l B m hm J Jx hY W ((hW.cell (p := ⟨B, 0, none⟩) hBw).trans hc) h0

/-- able.Within boxes the six bits of its parameter and hands back a closure over the box. -/
theorem within_any (a : Int) (h0 : 0 ≤ a) (h1 : a ≤ 255) (w : World) :
    Calls Try.prog 36 #[.int .u8 a] w fun e w' => e = .returned (.func (.func 45) #[] #[.pointer (some ⟨w.heap.size, 0, none⟩)]) ∧ w.alloc (.cells #[.int .u8 ((a % 64).toNat : Nat)] 22) = w' := by
  have ha : ((a % 64).toNat : Int) = a % 64 := by omega
  rw [ha]
  clear ha
  go_enter Try.func36, Try.ntmps36
  go_wp2
  go_ret
  exact ⟨rfl, rfl⟩
end Go.Proofs.Ytbdbhacniejagaa
