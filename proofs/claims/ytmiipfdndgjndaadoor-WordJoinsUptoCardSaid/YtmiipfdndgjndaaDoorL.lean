/- The contract of the program's number: printed by gen_number.py. -/
import Derived.Test.YtmiipfdndgjndaaDoorD
import Derived.Test.YtmiipfdndgjndaaDoorX2
import Derived.Deep.QuietTactic
import Derived.BigQuiet
import Derived.IntWalk
import Derived.Outline
namespace Go.Proofs.YtmiipfdndgjndaaDoor
open Go.RowKit Go.Lib
set_option maxHeartbeats 1000000
theorem But.same {B : Nat} {a b b' : World} (h : But B a b) (h1 : b'.os = b.os) (h2 : b'.tape = b.tape) (h3 : b'.output = b.output) (h4 : b'.heap = b.heap) : But B a b' :=
  ⟨h1.trans h.os, h2.trans h.tape, h3.trans h.output, by rw [h4]; exact h.size, fun i hi hn => by rw [h4]; exact h.block i hi hn⟩
theorem measure_step {B k : Nat} {s : ByteArray} {p : Int} {W W' : World} (h : Rd W' B s ((k + 1 : Nat) : Int) p) (h0 : atOf B W = k) (hk : k < s.size) : s.size + 1 - atOf B W' < s.size + 1 - atOf B W := by
  rw [atOf_rd h, h0]
  omega
theorem neg_val (m : Nat) (hm : m ≤ mostN) : wrap64 (IntKind.u64.wrap (-(m : Int))) = if true = true then -(m : Int) else (m : Int) := by
  have : mostN ≤ 9223372036854775808 := Nat.le_refl _
  rw [if_pos rfl]
  simp only [IntKind.wrap, IntKind.bits, IntKind.signed]
  unfold wrap64
  simp
  omega
def NumPost (B : Nat) (s : ByteArray) (p : Int) (neg : Bool) (r : Except Nat (Nat × Nat)) (w : World) (e : Ending) (w' : World) : Prop :=
  (match r with | .ok (n, k') => e = .returned (.int .i64 (if neg then -(n : Int) else (n : Int))) ∧ Rd w' B s (k' : Int) p | .error q => e = .panicked (stuckV (q : Int))) ∧ But B w w'
theorem ret_i64 {a b : Int} (h : a = b) : Ending.returned (.int .i64 a) = .returned (.int .i64 b) := by rw [h]
theorem mostP_le : mostP ≤ 9223372036854775807 := Nat.le_refl _
theorem mostP_ge : 9223372036854775807 ≤ mostP := Nat.le_refl _
theorem mostN_le : mostN ≤ 9223372036854775808 := Nat.le_refl _
theorem mostN_ge : 9223372036854775808 ≤ mostN := Nat.le_refl _
set_option maxRecDepth 100000 in
theorem num_pos (B : Nat) (s : ByteArray) (k : Nat) (p : Int) (minus : Bool) (w : World) (hS : s.size ≤ 140737488351232) (h : Rd w B s k p) (hk : k < s.size) (h45 : ¬ bAt s k = 45) :
    Calls Tryd.prog 65 #[.pointer (some ⟨B, 0, none⟩), .bool minus] w (NumPost B s p false (numLoop s mostP (s.size + 1) false 0 k) w) := by
  obtain ⟨R, hR⟩ : ∃ R, numLoop s mostP (s.size + 1) false 0 k = R := ⟨_, rfl⟩
  rw [hR]
  have HR := Lib.hid hR
  clear hR
  have c0 := h.c0
  have c1 := h.c1
  have hbe := bAt_eq s k hk
  have g0 : (0 : Int) ≤ (k : Int) := by omega
  have g1 : (k : Int) < (s.size : Int) := by omega
  have t45 : (bAt s k == 45) = false := by simpa using h45
  have hbb : ∃ nq : Nat, True := ⟨0, trivial⟩
  cases minus
  all_goals
    go_enter Tryd.func65, Tryd.ntmps65
    go_wp2_with fail
    go_quiet (fail)
    go_wp2_with fail
    clear c0 c1 hbe t45 g0 g1
    obtain ⟨mst, hmst⟩ : ∃ x : Int, x = 9223372036854775807 := ⟨_, rfl⟩
    rw [← hmst]
    have Hmst : Hid (mst = ((mostP : Nat) : Int)) := Lib.hid hmst
    have hm0 : mst ≤ 9223372036854775807 := by omega
    have hm1 : 9223372036854775807 ≤ mst := by omega
    clear hmst
    go_loopw [8, 9] (fun nv bv wr => ∃ (k' f m : Nat) (bg : Bool), nv = .int .u64 m ∧ bv = .bool bg ∧ Rd wr B s (k' : Int) p ∧ But B w wr ∧ s.size < k' + f ∧ numLoop s mostP f bg m k' = R ∧ m ≤ mostP ∧ k' ≤ s.size ∧ (bg = false → m = 0)) (fun _ _ wr => s.size + 1 - atOf B wr)
    case atStart => exact ⟨k, s.size + 1, 0, false, rfl, rfl, by exact h, (But.refl B w).same rfl rfl rfl rfl, by omega, HR.out, by omega, by omega, fun _ => rfl⟩
    case round =>
      obtain ⟨k', f, m, bg, rfl, rfl, hrd, hbt, hf, hq, hm, hks, hbg⟩ := hrel
      obtain ⟨f, rfl⟩ : ∃ g, f = g + 1 := ⟨f - 1, by omega⟩
      have c0 := hrd.c0
      have c1 := hrd.c1
      have f1 := hrd.f 1
      have hmost := mostP_le
      have hmost2 := mostP_ge
      have hms : mst = (mostP : Int) := Hmst.out
      have Hms := Lib.hid hms
      rw [numLoop] at hq
      by_cases hk : k' < s.size
      · have hkI : decide ((k' : Int) < (s.size : Int)) = true := by simp; omega
        have g0 : (0 : Int) ≤ (k' : Int) := by omega
        have g1 : (k' : Int) < (s.size : Int) := by omega
        have hbe := bAt_eq s k' hk
        obtain ⟨r0, r1⟩ := bAt_range s k'
        have hat0 := atOf_rd hrd
        generalize hcc : bAt s k' = c at hq hbe r0 r1
        clear hcc
        by_cases hd : 48 ≤ c ∧ c ≤ 57
        · have hdig : digitI c = true := (digitI_iff c).2 hd
          rw [if_pos ⟨hk, hdig⟩] at hq
          clear hdig
          obtain ⟨d, hd10, rfl⟩ : ∃ d : Nat, d < 10 ∧ c = 48 + (d : Int) := ⟨(c - 48).toNat, by omega, by omega⟩
          rw [show (48 + (d : Int) - 48).toNat = d by omega] at hq
          have t1 : decide ((48 : Int) ≤ 48 + (d : Int)) = true := by simp; omega
          have t2 : decide (48 + (d : Int) ≤ 57) = true := by simp; omega
          have t3 : 48 + (d : Int) - 48 = (d : Int) := by omega
          by_cases hbad : (bg = true ∧ m = 0) ∨ (mostP - d) / 10 < m
          · rw [if_pos hbad] at hq
            subst hq
            have hbad2 : (bg = true ∧ ((m : Int) == 0) = true) ∨ (bg = true ∧ ((m : Int) == 0) = false ∧ decide ((mst - (d : Int)) / 10 < (m : Int)) = true) := by
              rcases hbad with ⟨h1, h2⟩ | h2
              · exact .inl ⟨h1, by simp; omega⟩
              · cases hbv : bg with
                | false => have := hbg hbv; omega
                | true => exact .inr ⟨rfl, by simp; omega, by simp; omega⟩
            clear hbad hd hbg hms
            rcases hbad2 with ⟨rfl, h2⟩ | ⟨rfl, h2, h3⟩
            all_goals
              go_wp2_with fail
              go_quiet (fail)
              go_wp2_with fail
              go_quiet (fail)
              go_wp2_with fail
              refine (wrong_any B s k' p _ (by exact hrd)).mono ?_
              rintro e w' ⟨rfl, rfl⟩
              go_wp2
              exact ⟨rfl, rfl, hbt.same rfl rfl rfl rfl⟩
          · rw [if_neg hbad] at hq
            have h3 : decide ((mst - (d : Int)) / 10 < (m : Int)) = false := by simp; omega
            have h4 : m * 10 + d ≤ mostP := by omega
            have hbg2 : bg = false ∨ (bg = true ∧ ((m : Int) == 0) = false) := by
              cases hbv : bg with
              | false => exact .inl rfl
              | true => exact .inr ⟨rfl, by simp; intro h; exact hbad (.inl ⟨hbv, h⟩)⟩
            have Hq := Lib.hid hq
            clear hq hbad hbg hd hms
            rcases hbg2 with rfl | ⟨rfl, h2⟩
            all_goals
              go_wp2_with fail
              go_quiet (fail)
              go_wp2_with fail
              go_quiet (fail)
              go_wp2_with fail
              refine ⟨⟨k' + 1, f, m * 10 + d, true, congrArg (Value.int .u64) (by omega), rfl, Rd.at (Rd.set1 (show Rd _ B s (k' : Int) p from hrd) _) (by omega), (hbt.setCell 1 _).same rfl rfl rfl rfl, by omega, Hq.out, h4, by omega, fun h => by cases h⟩, ?_⟩
              exact measure_step (s := s) (p := p) (by exact Rd.at (Rd.set1 (show Rd _ B s (k' : Int) p from hrd) _) (by omega)) hat0 hk
        · have hdig : ¬ (k' < s.size ∧ digitI c = true) := fun h => hd ((digitI_iff c).1 h.2)
          rw [if_neg hdig] at hq
          clear hdig
          subst hq
          have ht : decide (48 ≤ c) = false ∨ (decide (48 ≤ c) = true ∧ decide (c ≤ 57) = false) := by
            by_cases h : 48 ≤ c
            · exact .inr ⟨by simp; omega, by simp; omega⟩
            · exact .inl (by simp; omega)
          clear hd hms
          rcases ht with t1 | ⟨t1, t2⟩
          all_goals
            go_wp2_with fail
            go_quiet (fail)
            go_wp2_with fail
            go_ret
            exact ⟨⟨ret_i64 (by first | (show (m : Int) = if false = true then _ else _; simp; done) | (simp; unfold wrap64; omega)), by exact hrd⟩, hbt.same rfl rfl rfl rfl⟩
      · have hkI : decide ((k' : Int) < (s.size : Int)) = false := by simp; omega
        rw [if_neg (fun h => hk h.1)] at hq
        subst hq
        clear hms
        go_wp2_with fail
        go_quiet (fail)
        go_wp2_with fail
        go_ret
        exact ⟨⟨ret_i64 (by first | (show (m : Int) = if false = true then _ else _; simp; done) | (simp; unfold wrap64; omega)), by exact hrd⟩, hbt.same rfl rfl rfl rfl⟩

set_option maxRecDepth 100000 in
theorem num_neg (B : Nat) (s : ByteArray) (k : Nat) (p : Int) (w : World) (hS : s.size ≤ 140737488351232) (h : Rd w B s k p) (hk : k < s.size) (h45 : bAt s k = 45) :
    Calls Tryd.prog 65 #[.pointer (some ⟨B, 0, none⟩), .bool true] w (NumPost B s p true (behindF s mostN (k + 1)) w) := by
  have c0 := h.c0
  have c1 := h.c1
  have f1 := h.f 1
  have hbe := bAt_eq s k hk
  have g0 : (0 : Int) ≤ (k : Int) := by omega
  have g1 : (k : Int) < (s.size : Int) := by omega
  rw [h45] at hbe
  clear h45
  have hrd1 : Rd (w.setCell ⟨B, 1, none⟩ (.int .i64 ((k : Int) + 1))) B s ((k + 1 : Nat) : Int) p := Rd.at (Rd.set1 h _) (by omega)
  have hbt1 : But B w (w.setCell ⟨B, 1, none⟩ (.int .i64 ((k : Int) + 1))) := (But.refl B w).setCell 1 _
  have Hrd1 := Lib.hid hrd1
  have Hbt1 := Lib.hid hbt1
  clear hrd1 hbt1
  by_cases hk1 : k + 1 < s.size
  · by_cases hd1 : 49 ≤ bAt s (k + 1) ∧ bAt s (k + 1) ≤ 57
    · rw [show behindF s mostN (k + 1) = numLoop s mostN (s.size + 1) false 0 (k + 1) by rw [behindF, if_pos hk1, if_pos hd1]]
      obtain ⟨R, hR⟩ : ∃ R, numLoop s mostN (s.size + 1) false 0 (k + 1) = R := ⟨_, rfl⟩
      rw [hR]
      have HR := Lib.hid hR
      clear hR
      have hnx := fun W (hW : Rd W B s ((k + 1 : Nat) : Int) p) => next_ok B s (k + 1) p W hW hk1
      have e1 : decide (bAt s (k + 1) < 49) = false := by simp; omega
      have e2 : decide (57 < bAt s (k + 1)) = false := by simp; omega
      generalize bAt s (k + 1) = c2 at hnx hd1 e1 e2
      have HN := Lib.hid hnx
      clear hnx hd1
      go_enter Tryd.func65, Tryd.ntmps65
      go_wp2_with fail
      go_quiet (fail)
      go_wp2_with fail
      refine (HN.out _ (by exact Hrd1.out)).mono ?_
      rintro e w' ⟨rfl, q1, rfl⟩
      go_wp2_with fail
      clear c0 c1 hbe g0 g1 e1 e2
      obtain ⟨mst, hmst⟩ : ∃ x : Int, x = 9223372036854775808 := ⟨_, rfl⟩
      rw [← hmst]
      have Hmst : Hid (mst = ((mostN : Nat) : Int)) := Lib.hid hmst
      have hm0 : mst ≤ 9223372036854775808 := by omega
      have hm1 : 9223372036854775808 ≤ mst := by omega
      clear hmst
      go_loopw [8, 9] (fun nv bv wr => ∃ (k' f m : Nat) (bg : Bool), nv = .int .u64 m ∧ bv = .bool bg ∧ Rd wr B s (k' : Int) p ∧ But B w wr ∧ s.size < k' + f ∧ numLoop s mostN f bg m k' = R ∧ m ≤ mostN ∧ k' ≤ s.size ∧ (bg = false → m = 0)) (fun _ _ wr => s.size + 1 - atOf B wr)
      case atStart => exact ⟨k + 1, s.size + 1, 0, false, rfl, rfl, by exact Hrd1.out, Hbt1.out.same rfl rfl rfl rfl, by omega, HR.out, by omega, by omega, fun _ => rfl⟩
      case round =>
        obtain ⟨k', f, m, bg, rfl, rfl, hrd, hbt, hf, hq, hm, hks, hbg⟩ := hrel
        obtain ⟨f, rfl⟩ : ∃ g, f = g + 1 := ⟨f - 1, by omega⟩
        have c0 := hrd.c0
        have c1 := hrd.c1
        have f1 := hrd.f 1
        have hmost := mostN_le
        have hmost2 := mostN_ge
        have hms : mst = (mostN : Int) := Hmst.out
        have Hms := Lib.hid hms
        rw [numLoop] at hq
        by_cases hk : k' < s.size
        · have hkI : decide ((k' : Int) < (s.size : Int)) = true := by simp; omega
          have g0 : (0 : Int) ≤ (k' : Int) := by omega
          have g1 : (k' : Int) < (s.size : Int) := by omega
          have hbe := bAt_eq s k' hk
          obtain ⟨r0, r1⟩ := bAt_range s k'
          have hat0 := atOf_rd hrd
          generalize hcc : bAt s k' = c at hq hbe r0 r1
          clear hcc
          by_cases hd : 48 ≤ c ∧ c ≤ 57
          · have hdig : digitI c = true := (digitI_iff c).2 hd
            rw [if_pos ⟨hk, hdig⟩] at hq
            clear hdig
            obtain ⟨d, hd10, rfl⟩ : ∃ d : Nat, d < 10 ∧ c = 48 + (d : Int) := ⟨(c - 48).toNat, by omega, by omega⟩
            rw [show (48 + (d : Int) - 48).toNat = d by omega] at hq
            have t1 : decide ((48 : Int) ≤ 48 + (d : Int)) = true := by simp; omega
            have t2 : decide (48 + (d : Int) ≤ 57) = true := by simp; omega
            have t3 : 48 + (d : Int) - 48 = (d : Int) := by omega
            by_cases hbad : (bg = true ∧ m = 0) ∨ (mostN - d) / 10 < m
            · rw [if_pos hbad] at hq
              subst hq
              have hbad2 : (bg = true ∧ ((m : Int) == 0) = true) ∨ (bg = true ∧ ((m : Int) == 0) = false ∧ decide ((mst - (d : Int)) / 10 < (m : Int)) = true) := by
                rcases hbad with ⟨h1, h2⟩ | h2
                · exact .inl ⟨h1, by simp; omega⟩
                · cases hbv : bg with
                  | false => have := hbg hbv; omega
                  | true => exact .inr ⟨rfl, by simp; omega, by simp; omega⟩
              clear hbad hd hbg hms
              rcases hbad2 with ⟨rfl, h2⟩ | ⟨rfl, h2, h3⟩
              all_goals
                go_wp2_with fail
                go_quiet (fail)
                go_wp2_with fail
                go_quiet (fail)
                go_wp2_with fail
                refine (wrong_any B s k' p _ (by exact hrd)).mono ?_
                rintro e w' ⟨rfl, rfl⟩
                go_wp2
                exact ⟨rfl, rfl, hbt.same rfl rfl rfl rfl⟩
            · rw [if_neg hbad] at hq
              have h3 : decide ((mst - (d : Int)) / 10 < (m : Int)) = false := by simp; omega
              have h4 : m * 10 + d ≤ mostN := by omega
              have hbg2 : bg = false ∨ (bg = true ∧ ((m : Int) == 0) = false) := by
                cases hbv : bg with
                | false => exact .inl rfl
                | true => exact .inr ⟨rfl, by simp; intro h; exact hbad (.inl ⟨hbv, h⟩)⟩
              have Hq := Lib.hid hq
              clear hq hbad hbg hd hms
              rcases hbg2 with rfl | ⟨rfl, h2⟩
              all_goals
                go_wp2_with fail
                go_quiet (fail)
                go_wp2_with fail
                go_quiet (fail)
                go_wp2_with fail
                refine ⟨⟨k' + 1, f, m * 10 + d, true, congrArg (Value.int .u64) (by omega), rfl, Rd.at (Rd.set1 (show Rd _ B s (k' : Int) p from hrd) _) (by omega), (hbt.setCell 1 _).same rfl rfl rfl rfl, by omega, Hq.out, h4, by omega, fun h => by cases h⟩, ?_⟩
                exact measure_step (s := s) (p := p) (by exact Rd.at (Rd.set1 (show Rd _ B s (k' : Int) p from hrd) _) (by omega)) hat0 hk
          · have hdig : ¬ (k' < s.size ∧ digitI c = true) := fun h => hd ((digitI_iff c).1 h.2)
            rw [if_neg hdig] at hq
            clear hdig
            subst hq
            have ht : decide (48 ≤ c) = false ∨ (decide (48 ≤ c) = true ∧ decide (c ≤ 57) = false) := by
              by_cases h : 48 ≤ c
              · exact .inr ⟨by simp; omega, by simp; omega⟩
              · exact .inl (by simp; omega)
            clear hd hms
            rcases ht with t1 | ⟨t1, t2⟩
            all_goals
              go_wp2_with fail
              go_quiet (fail)
              go_wp2_with fail
              go_ret
              exact ⟨⟨ret_i64 (by exact neg_val m hm), by exact hrd⟩, hbt.same rfl rfl rfl rfl⟩
        · have hkI : decide ((k' : Int) < (s.size : Int)) = false := by simp; omega
          rw [if_neg (fun h => hk h.1)] at hq
          subst hq
          clear hms
          go_wp2_with fail
          go_quiet (fail)
          go_wp2_with fail
          go_ret
          exact ⟨⟨ret_i64 (by exact neg_val m hm), by exact hrd⟩, hbt.same rfl rfl rfl rfl⟩

    · rw [show behindF s mostN (k + 1) = .error (k + 1) by rw [behindF, if_pos hk1, if_neg hd1]]
      have hnx := fun W (hW : Rd W B s ((k + 1 : Nat) : Int) p) => next_ok B s (k + 1) p W hW hk1
      have e1 : decide (bAt s (k + 1) < 49) = true ∨ (decide (bAt s (k + 1) < 49) = false ∧ decide (57 < bAt s (k + 1)) = true) := by
        by_cases hh : bAt s (k + 1) < 49
        · exact .inl (by simp; omega)
        · exact .inr ⟨by simp; omega, by simp; omega⟩
      generalize bAt s (k + 1) = c2 at hnx hd1 e1
      have HN := Lib.hid hnx
      clear hnx hd1
      rcases e1 with e1 | ⟨e1, e2⟩
      all_goals
        go_enter Tryd.func65, Tryd.ntmps65
        go_wp2_with fail
        go_quiet (fail)
        go_wp2_with fail
        refine (HN.out _ (by exact Hrd1.out)).mono ?_
        rintro e w' ⟨rfl, q1, rfl⟩
        go_wp2_with fail
        refine (wrong_any B s ((k + 1 : Nat) : Int) p _ (by exact Hrd1.out)).mono ?_
        rintro e w' ⟨rfl, rfl⟩
        go_wp2
        exact ⟨rfl, rfl, Hbt1.out.same rfl rfl rfl rfl⟩
  · rw [show behindF s mostN (k + 1) = .error s.size by rw [behindF, if_neg hk1]]
    have hnx := fun W (hW : Rd W B s ((k + 1 : Nat) : Int) p) => next_none B s (k + 1) p W hW hk1
    have HN := Lib.hid hnx
    clear hnx
    go_enter Tryd.func65, Tryd.ntmps65
    go_wp2_with fail
    go_quiet (fail)
    go_wp2_with fail
    refine (HN.out _ (by exact Hrd1.out)).mono ?_
    rintro e w' ⟨rfl, q1, rfl⟩
    go_wp2
    exact ⟨rfl, rfl, Hbt1.out.same rfl rfl rfl rfl⟩
end Go.Proofs.YtmiipfdndgjndaaDoor
