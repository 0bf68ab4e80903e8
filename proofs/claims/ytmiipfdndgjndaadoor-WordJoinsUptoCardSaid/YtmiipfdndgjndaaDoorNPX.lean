/- Contracts of the reference's while, Name, number. -/
import Derived.Test.YtmiipfdndgjndaaDoorRV
import Derived.Test.YtmiipfdndgjndaaDoorX8
import Derived.Test.YtmiipfdndgjndaaDoorT1
import Derived.Deep.RegionLaw
import Derived.Test.YtmiipfdndgjndaaDoorX5
namespace Go.Proofs.YtmiipfdndgjndaaDoor
open Go.RowKit Go.Lib
set_option maxHeartbeats 1000000
theorem wstep_le (s : ByteArray) (l : Bool) (k : Nat) (h : k ≤ s.size) : k ≤ whileF s l (s.size + 1) k ∧ whileF s l (s.size + 1) k ≤ s.size := by
  obtain ⟨h1, h2, _⟩ := whileF_spec s l (s.size + 1) k (by omega) h
  exact ⟨h1, h2⟩
set_option maxRecDepth 100000 in
theorem while_any (s : ByteArray) (k : Nat) (letters : Bool) (w : World) (hS : s.size ≤ 140737488351232) (hk : k ≤ s.size) :
    Calls Tryd.prog 76 #[.string s, .int .i64 (k : Int), .bool letters] w fun e w' => e = .returned (.int .i64 ((whileF s letters (s.size + 1) k : Nat) : Int)) ∧ w = w' := by
  obtain ⟨R, hR⟩ : ∃ R, whileF s letters (s.size + 1) k = R := ⟨_, rfl⟩
  rw [hR]
  have HR := Lib.hid hR
  clear hR
  go_enter Tryd.func76, Tryd.ntmps76
  go_wp2_with fail
  go_loopw [1] (fun i wr => ∃ k' f : Nat, i = .int .i64 k' ∧ w = wr ∧ k' ≤ s.size ∧ s.size < k' + f ∧ whileF s letters f k' = R) (fun i _ => s.size - (Go.RowKit.intOf i).toNat)
  case atStart => exact ⟨k, s.size + 1, rfl, rfl, hk, by omega, HR.out⟩
  case round =>
    obtain ⟨k', f, rfl, rfl, hk', hf, hq⟩ := hrel
    obtain ⟨f, rfl⟩ : ∃ g, f = g + 1 := ⟨f - 1, by omega⟩
    clear HR
    by_cases hlt : k' < s.size
    · have hkI : decide ((k' : Int) < (s.size : Int)) = true := by simp; omega
      have g0 : (0 : Int) ≤ (k' : Int) := by omega
      have g1 : (k' : Int) < (s.size : Int) := by omega
      have hbe := bAt_eq s k' hlt
      have d1 := refDigit_any (bAt s k') w
      have d2 := refLetter_any (bAt s k') w
      rw [whileF] at hq
      generalize bAt s k' = c at hbe d1 d2 hq
      have D1 := Lib.hid d1
      have D2 := Lib.hid d2
      clear d1 d2
      cases hd : digitI c with
      | true =>
        rw [hd] at D1 hq
        rw [if_pos ⟨hlt, by simp⟩] at hq
        have Hq := Lib.hid hq
        clear hq
        go_wp2_with fail
        refine D1.out.mono ?_
        rintro e w' ⟨rfl, rfl⟩
        go_wp2_with fail
        exact ⟨⟨k' + 1, f, by simp, trivial, by omega, by omega, Hq.out⟩, by simp [Go.RowKit.intOf]; omega⟩
      | false =>
        rw [hd] at D1 hq
        cases letters with
        | false =>
          rw [if_neg (by simp)] at hq
          subst hq
          go_wp2_with fail
          refine D1.out.mono ?_
          rintro e w' ⟨rfl, rfl⟩
          go_wp2_with fail
          go_ret
          exact ⟨rfl, rfl⟩
        | true =>
          cases hl : letterI c with
          | true =>
            rw [hl] at D2 hq
            rw [if_pos ⟨hlt, by simp⟩] at hq
            have Hq := Lib.hid hq
            clear hq
            go_wp2_with fail
            refine D1.out.mono ?_
            rintro e w' ⟨rfl, rfl⟩
            go_wp2_with fail
            refine D2.out.mono ?_
            rintro e w' ⟨rfl, rfl⟩
            go_wp2_with fail
            exact ⟨⟨k' + 1, f, by simp, trivial, by omega, by omega, Hq.out⟩, by simp [Go.RowKit.intOf]; omega⟩
          | false =>
            rw [hl] at D2 hq
            rw [if_neg (by simp)] at hq
            subst hq
            go_wp2_with fail
            refine D1.out.mono ?_
            rintro e w' ⟨rfl, rfl⟩
            go_wp2_with fail
            refine D2.out.mono ?_
            rintro e w' ⟨rfl, rfl⟩
            go_wp2_with fail
            go_ret
            exact ⟨rfl, rfl⟩
    · have hkI : decide ((k' : Int) < (s.size : Int)) = false := by simp; omega
      rw [whileF, if_neg (fun h => hlt h.1)] at hq
      subst hq
      go_wp2
      go_ret
      exact ⟨rfl, rfl⟩
theorem named_split (s : ByteArray) : namedL s = true ↔ (0 < s.size ∧ s.size ≤ 32 ∧ letterI (bAt s 0) = true ∧ ∀ i, i < s.size → (letterI (bAt s i) || digitI (bAt s i)) = true) := by
  unfold namedL
  simp only [Bool.and_eq_true, decide_eq_true_eq, List.all_eq_true, List.mem_range]
  constructor
  · rintro ⟨⟨⟨a, b⟩, c⟩, d⟩
    exact ⟨a, b, c, d⟩
  · rintro ⟨a, b, c, d⟩
    exact ⟨⟨⟨a, b⟩, c⟩, d⟩
theorem named_no (s : ByteArray) (h : ¬ (0 < s.size ∧ s.size ≤ 32 ∧ letterI (bAt s 0) = true ∧ ∀ i, i < s.size → (letterI (bAt s i) || digitI (bAt s i)) = true)) : namedL s = false := by
  cases hx : namedL s with
  | false => rfl
  | true => exact absurd ((named_split s).1 hx) h
set_option maxRecDepth 100000 in
theorem name_any (s : ByteArray) (w : World) (hS : s.size ≤ 140737488351232) : Calls Tryd.prog 77 #[.string s] w fun e w' => e = .returned (.bool (namedL s)) ∧ w = w' := by
  by_cases h0 : 0 < s.size
  · by_cases h32 : s.size ≤ 32
    · have t0 : decide ((s.size : Int) < 1) = false := by simp; omega
      have t1 : decide ((32 : Int) < (s.size : Int)) = false := by simp; omega
      have hbe := bAt_eq s 0 h0
      have g0 : (0 : Int) < (s.size : Int) := by omega
      have d2 := refLetter_any (bAt s 0) w
      cases hl : letterI (bAt s 0) with
      | false =>
        rw [hl] at d2
        have hn := named_no s (fun h => by rw [hl] at h; simp at h)
        generalize bAt s 0 = c at hbe d2
        have D2 := Lib.hid d2
        clear d2 hl
        rw [hn]
        go_enter Tryd.func77, Tryd.ntmps77
        go_wp2_with fail
        refine D2.out.mono ?_
        rintro e w' ⟨rfl, rfl⟩
        go_wp2
        go_ret
        exact ⟨rfl, rfl⟩
      | true =>
        rw [hl] at d2
        obtain ⟨nr, hnr⟩ : ∃ nr, nr = namedL s := ⟨_, rfl⟩
        have HNS := Lib.hid (named_split s)
        have HNN := Lib.hid (named_no s)
        rw [← hnr] at HNS HNN ⊢
        obtain ⟨c, hc⟩ : ∃ c, c = bAt s 0 := ⟨_, rfl⟩
        rw [← hc] at hbe d2
        have D2 := Lib.hid d2
        have HL := Lib.hid hl
        clear d2 hc hl hnr
        go_enter Tryd.func77, Tryd.ntmps77
        go_wp2_with fail
        refine D2.out.mono ?_
        rintro e w' ⟨rfl, rfl⟩
        go_wp2_with fail
        clear hbe D2
        go_loopw [3] (fun i wr => ∃ k : Nat, i = .int .i64 k ∧ w = wr ∧ k ≤ s.size ∧ ∀ i, i < k → (letterI (bAt s i) || digitI (bAt s i)) = true) (fun i _ => s.size - (Go.RowKit.intOf i).toNat)
        case atStart => exact ⟨0, rfl, rfl, by omega, fun i hi => absurd hi (Nat.not_lt_zero _)⟩
        case round =>
          obtain ⟨k, rfl, rfl, hk, hall⟩ := hrel
          have HA := Lib.hid hall
          clear hall
          by_cases hlt : k < s.size
          · have hkI : decide ((k : Int) < (s.size : Int)) = true := by simp; omega
            have g0 : (0 : Int) ≤ (k : Int) := by omega
            have g1 : (k : Int) < (s.size : Int) := by omega
            have hbe := bAt_eq s k hlt
            have hstep : (letterI (bAt s k) || digitI (bAt s k)) = true → ∀ i, i < k + 1 → (letterI (bAt s i) || digitI (bAt s i)) = true := by
              intro h i hi
              by_cases e : i = k
              · rw [e]; exact h
              · exact HA.out i (by omega)
            have hbad : (letterI (bAt s k) || digitI (bAt s k)) = false → nr = false := fun h => HNN.out (fun hh => by have := hh.2.2.2 k hlt; rw [h] at this; cases this)
            have d1 := refDigit_any (bAt s k) w
            have d2 := refLetter_any (bAt s k) w
            generalize bAt s k = c at hbe d1 d2 hstep hbad
            have D1 := Lib.hid d1
            have D2 := Lib.hid d2
            clear d1 d2
            cases hl : letterI c with
            | true =>
              rw [hl] at D2 hstep
              have HS2 := Lib.hid (hstep rfl)
              clear hl hstep hbad
              go_wp2_with fail
              refine D2.out.mono ?_
              rintro e w' ⟨rfl, rfl⟩
              go_wp2_with fail
              exact ⟨⟨k + 1, by simp, trivial, by omega, HS2.out⟩, by simp [Go.RowKit.intOf]; omega⟩
            | false =>
              rw [hl] at D2 hstep hbad
              cases hd : digitI c with
              | true =>
                rw [hd] at D1 hstep
                have HS2 := Lib.hid (hstep rfl)
                clear hl hstep hbad hd
                go_wp2_with fail
                refine D2.out.mono ?_
                rintro e w' ⟨rfl, rfl⟩
                go_wp2_with fail
                refine D1.out.mono ?_
                rintro e w' ⟨rfl, rfl⟩
                go_wp2_with fail
                exact ⟨⟨k + 1, by simp, trivial, by omega, HS2.out⟩, by simp [Go.RowKit.intOf]; omega⟩
              | false =>
                rw [hd] at D1 hbad
                have hn := hbad rfl
                subst hn
                clear hl hstep hbad hd
                go_wp2_with fail
                refine D2.out.mono ?_
                rintro e w' ⟨rfl, rfl⟩
                go_wp2_with fail
                refine D1.out.mono ?_
                rintro e w' ⟨rfl, rfl⟩
                go_wp2
                go_ret
                exact ⟨rfl, rfl⟩
          · have hkI : decide ((k : Int) < (s.size : Int)) = false := by simp; omega
            have hn : nr = true := HNS.out.2 ⟨h0, h32, HL.out, fun i hi => HA.out i (by omega)⟩
            subst hn
            go_wp2
            go_ret
            exact ⟨rfl, rfl⟩
    · have t0 : decide ((s.size : Int) < 1) = false := by simp; omega
      have t1 : decide ((32 : Int) < (s.size : Int)) = true := by simp; omega
      rw [named_no s (fun h => h32 h.2.1)]
      go_enter Tryd.func77, Tryd.ntmps77
      go_wp2
      go_ret
      exact ⟨rfl, rfl⟩
  · have t0 : decide ((s.size : Int) < 1) = true := by simp; omega
    rw [named_no s (fun h => h0 h.1)]
    go_enter Tryd.func77, Tryd.ntmps77
    go_wp2
    go_ret
    exact ⟨rfl, rfl⟩
end Go.Proofs.YtmiipfdndgjndaaDoor
/- The contract of the reference's number: printed by gen_number2.py. -/
namespace Go.Proofs.YtmiipfdndgjndaaDoor
open Go.RowKit Go.Lib
set_option maxHeartbeats 1000000
/-- What the reference makes of a text as a number. -/
def numFin (t : ByteArray) (f : Nat → Int) : Except Nat (Nat × Nat) → Option Int
  | .error _ => none
  | .ok (n, k') => if k' = t.size then some (f n) else none
def numT (t : ByteArray) : Option Int :=
  if bAt t 0 = 45 then numFin t (fun n => -(n : Int)) (behindF t mostN 1)
  else if digitI (bAt t 0) = true then numFin t (fun n => (n : Int)) (numLoop t mostP (t.size + 1) false 0 0)
  else none
def numOut (r : Option Int) (w : World) (e : Ending) (w' : World) : Prop :=
  (match r with
    | some m => e = .returned (.tuple #[.int .i64 m, .bool true])
    | none => ∃ n : Int, e = .returned (.tuple #[.int .i64 n, .bool false])) ∧ Below w.heap.size w w'
theorem num_start (t : ByteArray) (w : World) : Rr (w.alloc (.cells #[.string t, .int .i64 0, .bool false, .int .i64 0] 81)) w.heap.size t ((0 : Nat) : Int) false 0 ∧ Below w.heap.size w (w.alloc (.cells #[.string t, .int .i64 0, .bool false, .int .i64 0] 81)) := ⟨heap_alloc_new w _, (Below.refl _ w).alloc (Nat.le_refl _) _⟩
set_option maxRecDepth 100000 in
theorem number_neg (t : ByteArray) (w : World) (hS : t.size ≤ 140737488351232) (h45 : bAt t 0 = 45) :
    Calls Tryd.prog 79 #[.string t] w (numOut (numFin t (fun n => -(n : Int)) (behindF t mostN 1)) w) := by
  have hsz : 0 < t.size := by
    by_cases h : 0 < t.size
    · exact h
    · rw [bAt_out t 0 h] at h45; omega
  have hbd : ∀ n k', behindF t mostN 1 = .ok (n, k') → n ≤ 9223372036854775808 := fun n k' e => (behindF_inv t mostN 1 n k' (by have := mostN_ge; omega) e).1
  have hc := fun W (hW : Rr W w.heap.size t ((1 : Nat) : Int) false 0) => count_behindN w.heap.size t 1 0 W hS hW (by omega)
  generalize behindF t mostN 1 = res at hbd hc
  have HC := Lib.hid hc
  clear hc
  obtain ⟨hr, hb⟩ := num_start t w
  have hn := fun W (hW : Rr W w.heap.size t ((0 : Nat) : Int) false 0) => rnext_any w.heap.size t 0 0 W hW
  rw [h45] at hn
  clear h45
  have HN := Lib.hid hn
  have HR := Lib.hid hr
  have HB := Lib.hid hb
  have c1 := hr.c1
  have f1 := hr.f 1
  clear hn hr hb
  cases res with
  | error q =>
    go_enter Tryd.func79, Tryd.ntmps79
    go_wp2_with fail
    refine (HN.out _ (by exact HR.out)).mono ?_
    rintro e w' ⟨rfl, q1, rfl⟩
    go_wp2_with fail
    refine (HC.out _ (by exact (Rr.at (Rr.set1 (show Rr ((w.alloc (.cells #[.string t, .int .i64 0, .bool false, .int .i64 0] 81)).drewN q1) w.heap.size t ((0 : Nat) : Int) false 0 from HR.out) 1) (by omega : (1 : Int) = ((1 : Nat) : Int))))).mono ?_
    rintro e w2 ⟨⟨⟨n, rfl⟩, st, hr2, hdg⟩, hb2⟩
    have c0 := hr2.c0
    have c1 := hr2.c1
    have c2 := hr2.c2
    have HF := Lib.hid (below_but HB.out (Nat.le_refl _) ((((But.refl w.heap.size (w.alloc (.cells #[.string t, .int .i64 0, .bool false, .int .i64 0] 81))).drewN q1).setCell 1 _).trans hb2))
    have hst : st = true ∨ (st = false ∧ ((q : Int) == (t.size : Int)) = false) := by
      cases st with
      | true => exact .inl rfl
      | false => exact .inr ⟨rfl, by have := (hdg rfl).1; simp; omega⟩
    clear hr2 hb2 hdg
    rcases hst with rfl | ⟨rfl, t9⟩
    all_goals
      go_wp2_with fail
      go_quiet (fail)
      go_wp2
      go_ret2
      exact ⟨⟨_, rfl⟩, below_drewN HF.out _⟩
  | ok rr =>
    obtain ⟨n, k'⟩ := rr
    have hn := hbd n k' rfl
    rw [show numFin t (fun n => -(n : Int)) (.ok (n, k')) = if k' = t.size then some (-(n : Int)) else none from rfl]
    by_cases hk : k' = t.size
    · rw [if_pos hk]
      have t9 : ((k' : Int) == (t.size : Int)) = true := by simp; omega
      clear hk
      go_enter Tryd.func79, Tryd.ntmps79
      go_wp2_with fail
      refine (HN.out _ (by exact HR.out)).mono ?_
      rintro e w' ⟨rfl, q1, rfl⟩
      go_wp2_with fail
      refine (HC.out _ (by exact (Rr.at (Rr.set1 (show Rr ((w.alloc (.cells #[.string t, .int .i64 0, .bool false, .int .i64 0] 81)).drewN q1) w.heap.size t ((0 : Nat) : Int) false 0 from HR.out) 1) (by omega : (1 : Int) = ((1 : Nat) : Int))))).mono ?_
      rintro e w2 ⟨⟨rfl, hr2⟩, hb2⟩
      have c0 := hr2.c0
      have c1 := hr2.c1
      have c2 := hr2.c2
      have HF := Lib.hid (below_but HB.out (Nat.le_refl _) ((((But.refl w.heap.size (w.alloc (.cells #[.string t, .int .i64 0, .bool false, .int .i64 0] 81))).drewN q1).setCell 1 _).trans hb2))
      clear hr2 hb2
      go_wp2_with fail
      rw [neg_wrap n hn]
      go_quiet (fail)
      go_wp2
      go_ret2
      exact ⟨rfl, below_drewN HF.out _⟩
    · rw [if_neg hk]
      have t9 : ((k' : Int) == (t.size : Int)) = false := by simp; omega
      clear hk
      go_enter Tryd.func79, Tryd.ntmps79
      go_wp2_with fail
      refine (HN.out _ (by exact HR.out)).mono ?_
      rintro e w' ⟨rfl, q1, rfl⟩
      go_wp2_with fail
      refine (HC.out _ (by exact (Rr.at (Rr.set1 (show Rr ((w.alloc (.cells #[.string t, .int .i64 0, .bool false, .int .i64 0] 81)).drewN q1) w.heap.size t ((0 : Nat) : Int) false 0 from HR.out) 1) (by omega : (1 : Int) = ((1 : Nat) : Int))))).mono ?_
      rintro e w2 ⟨⟨rfl, hr2⟩, hb2⟩
      have c0 := hr2.c0
      have c1 := hr2.c1
      have c2 := hr2.c2
      have HF := Lib.hid (below_but HB.out (Nat.le_refl _) ((((But.refl w.heap.size (w.alloc (.cells #[.string t, .int .i64 0, .bool false, .int .i64 0] 81))).drewN q1).setCell 1 _).trans hb2))
      clear hr2 hb2
      go_wp2_with fail
      rw [neg_wrap n hn]
      go_quiet (fail)
      go_wp2
      go_ret2
      exact ⟨⟨_, rfl⟩, below_drewN HF.out _⟩

set_option maxRecDepth 100000 in
theorem number_pos (t : ByteArray) (w : World) (hS : t.size ≤ 140737488351232) (hd : digitI (bAt t 0) = true) :
    Calls Tryd.prog 79 #[.string t] w (numOut (numFin t (fun n => (n : Int)) (numLoop t mostP (t.size + 1) false 0 0)) w) := by
  have hsz : 0 < t.size := by
    by_cases h : 0 < t.size
    · exact h
    · rw [bAt_out t 0 h] at hd; cases hd
  have hbd : ∀ n k', numLoop t mostP (t.size + 1) false 0 0 = .ok (n, k') → n ≤ 9223372036854775807 := fun n k' e => (numLoop_inv0 t mostP 0 n k' (by have := mostP_ge; omega) e hsz hd).1
  have hc := fun W (hW : Rr W w.heap.size t ((0 : Nat) : Int) false 0) => count_plainP w.heap.size t 0 0 W hS hW hsz hd
  generalize numLoop t mostP (t.size + 1) false 0 0 = res at hbd hc
  have HC := Lib.hid hc
  clear hc
  obtain ⟨hr, hb⟩ := num_start t w
  have hn := fun W (hW : Rr W w.heap.size t ((0 : Nat) : Int) false 0) => rnext_any w.heap.size t 0 0 W hW
  rw [digitI_iff] at hd
  have t0 : (bAt t 0 == 45) = false := by simp; omega
  generalize bAt t 0 = c at hn t0 hd
  clear hd
  have HN := Lib.hid hn
  have HR := Lib.hid hr
  have HB := Lib.hid hb
  have c1 := hr.c1
  have f1 := hr.f 1
  clear hn hr hb
  cases res with
  | error q =>
    go_enter Tryd.func79, Tryd.ntmps79
    go_wp2_with fail
    refine (HN.out _ (by exact HR.out)).mono ?_
    rintro e w' ⟨rfl, q1, rfl⟩
    go_wp2_with fail
    refine (HC.out _ (by exact (show Rr ((w.alloc (.cells #[.string t, .int .i64 0, .bool false, .int .i64 0] 81)).drewN q1) w.heap.size t ((0 : Nat) : Int) false 0 from HR.out))).mono ?_
    rintro e w2 ⟨⟨⟨n, rfl⟩, st, hr2, hdg⟩, hb2⟩
    have c0 := hr2.c0
    have c1 := hr2.c1
    have c2 := hr2.c2
    have HF := Lib.hid (below_but HB.out (Nat.le_refl _) (((But.refl w.heap.size (w.alloc (.cells #[.string t, .int .i64 0, .bool false, .int .i64 0] 81))).drewN q1).trans hb2))
    have hst : st = true ∨ (st = false ∧ ((q : Int) == (t.size : Int)) = false) := by
      cases st with
      | true => exact .inl rfl
      | false => exact .inr ⟨rfl, by have := (hdg rfl).1; simp; omega⟩
    clear hr2 hb2 hdg
    rcases hst with rfl | ⟨rfl, t9⟩
    all_goals
      go_wp2_with fail
      go_quiet (fail)
      go_wp2
      go_ret2
      exact ⟨⟨_, rfl⟩, below_drewN HF.out _⟩
  | ok rr =>
    obtain ⟨n, k'⟩ := rr
    have hn := hbd n k' rfl
    rw [show numFin t (fun n => (n : Int)) (.ok (n, k')) = if k' = t.size then some ((n : Int)) else none from rfl]
    by_cases hk : k' = t.size
    · rw [if_pos hk]
      have t9 : ((k' : Int) == (t.size : Int)) = true := by simp; omega
      clear hk
      go_enter Tryd.func79, Tryd.ntmps79
      go_wp2_with fail
      refine (HN.out _ (by exact HR.out)).mono ?_
      rintro e w' ⟨rfl, q1, rfl⟩
      go_wp2_with fail
      refine (HC.out _ (by exact (show Rr ((w.alloc (.cells #[.string t, .int .i64 0, .bool false, .int .i64 0] 81)).drewN q1) w.heap.size t ((0 : Nat) : Int) false 0 from HR.out))).mono ?_
      rintro e w2 ⟨⟨rfl, hr2⟩, hb2⟩
      have c0 := hr2.c0
      have c1 := hr2.c1
      have c2 := hr2.c2
      have HF := Lib.hid (below_but HB.out (Nat.le_refl _) (((But.refl w.heap.size (w.alloc (.cells #[.string t, .int .i64 0, .bool false, .int .i64 0] 81))).drewN q1).trans hb2))
      clear hr2 hb2
      go_wp2_with fail
      go_quiet (fail)
      go_wp2
      go_ret2
      exact ⟨rfl, below_drewN HF.out _⟩
    · rw [if_neg hk]
      have t9 : ((k' : Int) == (t.size : Int)) = false := by simp; omega
      clear hk
      go_enter Tryd.func79, Tryd.ntmps79
      go_wp2_with fail
      refine (HN.out _ (by exact HR.out)).mono ?_
      rintro e w' ⟨rfl, q1, rfl⟩
      go_wp2_with fail
      refine (HC.out _ (by exact (show Rr ((w.alloc (.cells #[.string t, .int .i64 0, .bool false, .int .i64 0] 81)).drewN q1) w.heap.size t ((0 : Nat) : Int) false 0 from HR.out))).mono ?_
      rintro e w2 ⟨⟨rfl, hr2⟩, hb2⟩
      have c0 := hr2.c0
      have c1 := hr2.c1
      have c2 := hr2.c2
      have HF := Lib.hid (below_but HB.out (Nat.le_refl _) (((But.refl w.heap.size (w.alloc (.cells #[.string t, .int .i64 0, .bool false, .int .i64 0] 81))).drewN q1).trans hb2))
      clear hr2 hb2
      go_wp2_with fail
      go_quiet (fail)
      go_wp2
      go_ret2
      exact ⟨⟨_, rfl⟩, below_drewN HF.out _⟩

set_option maxRecDepth 100000 in
theorem number_no (t : ByteArray) (w : World) (_hS : t.size ≤ 140737488351232) (h45 : ¬ bAt t 0 = 45) (hd : digitI (bAt t 0) = false) :
    Calls Tryd.prog 79 #[.string t] w (numOut none w) := by
  have hc := fun W (hW : Rr W w.heap.size t ((0 : Nat) : Int) false 0) => count_no w.heap.size t 0 0 9223372036854775807 0 W hW (.inl hd)
  have HC := Lib.hid hc
  clear hc hd
  obtain ⟨hr, hb⟩ := num_start t w
  have hn := fun W (hW : Rr W w.heap.size t ((0 : Nat) : Int) false 0) => rnext_any w.heap.size t 0 0 W hW
  have t0 : (bAt t 0 == 45) = false := by simpa using h45
  generalize bAt t 0 = c at hn t0
  clear h45
  have HN := Lib.hid hn
  have HR := Lib.hid hr
  have HB := Lib.hid hb
  have c1 := hr.c1
  have f1 := hr.f 1
  clear hn hr hb
  go_enter Tryd.func79, Tryd.ntmps79
  go_wp2_with fail
  refine (HN.out _ (by exact HR.out)).mono ?_
  rintro e w' ⟨rfl, q1, rfl⟩
  go_wp2_with fail
  refine (HC.out _ (by exact (show Rr ((w.alloc (.cells #[.string t, .int .i64 0, .bool false, .int .i64 0] 81)).drewN q1) w.heap.size t ((0 : Nat) : Int) false 0 from HR.out))).mono ?_
  rintro e w2 ⟨rfl, hr2, hb2⟩
  have c0 := hr2.c0
  have c1 := hr2.c1
  have c2 := hr2.c2
  have HF := Lib.hid (below_but HB.out (Nat.le_refl _) (((But.refl w.heap.size (w.alloc (.cells #[.string t, .int .i64 0, .bool false, .int .i64 0] 81))).drewN q1).trans hb2))
  clear hr2 hb2
  go_wp2_with fail
  go_quiet (fail)
  go_wp2
  go_ret2
  exact ⟨⟨_, rfl⟩, below_drewN HF.out _⟩

theorem number_any (t : ByteArray) (w : World) (hS : t.size ≤ 140737488351232) : Calls Tryd.prog 79 #[.string t] w (numOut (numT t) w) := by
  unfold numT
  by_cases h45 : bAt t 0 = 45
  · rw [if_pos h45]; exact number_neg t w hS h45
  · rw [if_neg h45]
    cases hd : digitI (bAt t 0) with
    | true => rw [if_pos rfl]; exact number_pos t w hS hd
    | false => rw [if_neg (by simp)]; exact number_no t w hS h45 hd
end Go.Proofs.YtmiipfdndgjndaaDoor
/- The reference's numbers and quoted forms within a line: the plain part. -/
namespace Go.Proofs.YtmiipfdndgjndaaDoor
def decV (neg : Bool) : List UInt8 → Option Int
  | [] => none
  | c :: r => if c = 48 ∧ (r ≠ [] ∨ neg = true) then none else if valL 0 (c :: r) ≤ (if neg then mostN else mostP) then some (if neg then -(valL 0 (c :: r) : Int) else (valL 0 (c :: r) : Int)) else none
theorem qF_fuel (s : ByteArray) (full : Nat → Bool) : ∀ (f f' k : Nat) (b : List UInt8), s.size < k + f → s.size < k + f' → qF s full f k b = qF s full f' k b := by
  have out : ∀ (f k : Nat) (b : List UInt8), ¬ k < s.size → qF s full f k b = .error s.size := by
    intro f k b h
    cases f with
    | zero => rfl
    | succ f => rw [qF, if_neg h]
  intro f
  induction f with
  | zero => intro f' k b h h'; rw [out _ _ _ (by omega), out _ _ _ (by omega)]
  | succ f ih =>
    intro f' k b h h'
    by_cases hk : k < s.size
    · obtain ⟨g, rfl⟩ : ∃ g, f' = g + 1 := ⟨f' - 1, by omega⟩
      rw [qF, qF]
      cases he : escF s (k + 1) with
      | error q => rw [ih g (k + 1) _ (by omega) (by omega)]
      | ok r =>
        obtain ⟨x, k'⟩ := r
        have hx := escF_ok s (k + 1) x k' he
        dsimp only
        rw [ih g (k + 1) _ (by omega) (by omega), ih g k' _ (by omega) (by omega)]
    · rw [out _ _ _ hk, out _ _ _ hk]
theorem decF_val (s : ByteArray) (neg : Bool) (a b : Nat) (l : List UInt8) (hl : (s.extract a b).data.toList = l) (hd : AllDig l) (hlen : l.length = b - a) (hab : a ≤ b) : decF s neg a b = decV neg l := by
  obtain ⟨h1, h2⟩ := dec_spec s neg a b l hl hd hlen hab
  cases l with
  | nil => exact h1 (.inl rfl)
  | cons c r =>
    rw [decV]
    by_cases hn : c = 48 ∧ (r ≠ [] ∨ neg = true)
    · rw [if_pos hn]
      exact h1 (.inr ⟨r, by rw [hn.1], hn.2⟩)
    · rw [if_neg hn]
      have hf : ¬ noForm neg (c :: r) := by
        rintro (h | ⟨r', h, h'⟩)
        · cases h
        · injection h with e1 e2
          subst e1 e2
          exact hn ⟨rfl, h'⟩
      have h3 := h2 hf
      rw [parseIntB_digits neg (c :: r) (by simp) hd] at h3
      by_cases hv : valL 0 (c :: r) ≤ (if neg then mostN else mostP)
      · rw [if_pos hv] at h3 ⊢
        cases hx : decF s neg a b with
        | none => rw [hx] at h3; cases h3
        | some n => rw [hx] at h3; injection h3 with h3; rw [h3]
      · rw [if_neg hv] at h3 ⊢
        cases hx : decF s neg a b with
        | none => rfl
        | some n => rw [hx] at h3; cases h3
theorem end_all {t : ByteArray} {pre l : List UInt8} {k : Nat} (h : t.data.toList = pre ++ l) (hd : AllDig l) (hk : pre.length ≤ k) (hs : k < t.size) : digitI (bAt t k) = true := by
  have h1 := rest_at hs
  have h2 : t.data.toList.drop k = l.drop (k - pre.length) := by
    rw [h, List.drop_append, List.drop_eq_nil_of_le hk, List.nil_append]
  have h3 : u8 (bAt t k) ∈ l := by
    have : u8 (bAt t k) ∈ l.drop (k - pre.length) := by rw [← h2, h1]; simp
    exact List.mem_of_mem_drop this
  have h4 := hd _ h3
  obtain ⟨r0, r1⟩ := bAt_range t k
  have h5 := u8_toNat (bAt t k) r0 r1
  rw [digitI_iff]
  omega
/-- digits to a text's end. -/
theorem fin_val (t : ByteArray) (most : Nat) (f : Nat → Int) (pre r : List UInt8) (c : UInt8) (hm : 9 ≤ most) (h : t.data.toList = pre ++ (c :: r)) (hd : AllDig (c :: r)) (h48 : c ≠ 48) :
    numFin t f (numLoop t most (t.size + 1) false 0 pre.length) = if valL 0 (c :: r) ≤ most then some (f (valL 0 (c :: r))) else none := by
  have hdr : t.data.toList.drop pre.length = c :: r := by rw [h, List.drop_append, List.drop_eq_nil_of_le (Nat.le_refl _), List.nil_append, Nat.sub_self, List.drop_zero]
  obtain ⟨a1, a2, a3⟩ := rest_cons hdr
  have hc := hd c (by simp)
  rw [num_first t most t.size pre.length a1 (by rw [a2]; exact digit_nat hc), a2, show ((c.toNat : Int) - 48).toNat = c.toNat - 48 by omega]
  have hv : valL 0 (c :: r) = valL (c.toNat - 48) r := by
    show valL (0 * 10 + (c.toNat - 48)) r = _
    rw [show 0 * 10 + (c.toNat - 48) = c.toNat - 48 by omega]
  have hpos : 0 < c.toNat - 48 := by
    rcases Nat.lt_or_ge 48 c.toNat with hx | hx
    · omega
    · exact absurd (UInt8.toNat_inj.1 (show c.toNat = (48 : UInt8).toNat by have : (48 : UInt8).toNat = 48 := rfl; omega)) h48
  have hsz : t.size = pre.length + (r.length + 1) := by rw [← size_list, h]; simp
  have hnv := numLoop_val t most r t.size (c.toNat - 48) (pre.length + 1) a3 (fun x hx => hd x (by simp [hx])) hpos (by omega) (by omega)
  rw [hv]
  rcases hnv with ⟨h1, k', h2⟩ | ⟨h1, q, h2⟩
  · rw [h2, if_pos h1]
    have hi := numLoop_inv t most t.size (c.toNat - 48) (pre.length + 1) _ k' (by omega) (by omega) h2
    have hle := numLoop_le t most t.size true (c.toNat - 48) (pre.length + 1) _ k' h2 (by omega)
    have hk : k' = t.size := by
      by_cases hx : k' < t.size
      · exact absurd ⟨hx, end_all h hd (by omega) hx⟩ hi.2.2.2
      · omega
    show (if k' = t.size then _ else _) = _
    rw [if_pos hk]
  · rw [h2, if_neg h1]
    rfl
theorem numT_val (t : ByteArray) (neg : Bool) (l : List UInt8) (h : t.data.toList = (if neg then [45] else []) ++ l) (hd : AllDig l) : numT t = decV neg l := by
  cases neg with
  | false =>
    rw [if_neg (by simp), List.nil_append] at h
    cases l with
    | nil =>
      have h0 : ¬ 0 < t.size := by rw [← size_list, h]; simp
      unfold numT
      rw [bAt_out t 0 h0, if_neg (by omega), if_neg (by decide)]
      rfl
    | cons c r =>
      obtain ⟨a1, a2, a3⟩ := rest_cons (k := 0) (show t.data.toList.drop 0 = c :: r by rw [List.drop_zero, h])
      have hc := hd c (by simp)
      have hdg : digitI (bAt t 0) = true := by rw [a2]; exact digit_nat hc
      unfold numT
      rw [if_neg (by rw [a2]; omega), if_pos hdg]
      by_cases h48 : c = 48
      · subst h48
        rw [num_first t mostP t.size 0 a1 hdg, a2]
        cases r with
        | nil =>
          have hsz : t.size = 1 := by rw [← size_list, h]; rfl
          rw [numLoop_stop _ _ _ _ _ _ (fun hh => rest_nil a3 hh.1)]
          show (if (0 + 1) = t.size then some _ else none) = _
          rw [if_pos (by omega)]
          rfl
        | cons c2 r =>
          obtain ⟨b1, b2, b3⟩ := rest_cons a3
          have hc2 := hd c2 (by simp)
          obtain ⟨f, hf⟩ : ∃ f, t.size = f + 1 := ⟨t.size - 1, by omega⟩
          have hl : numLoop t mostP t.size true (((48 : UInt8).toNat : Int) - 48).toNat (0 + 1) = .error 1 := by
            rw [show numLoop t mostP t.size = numLoop t mostP (f + 1) by rw [hf], numLoop, b2, if_pos ⟨b1, digit_nat hc2⟩, if_pos (.inl ⟨rfl, by decide⟩)]
          rw [hl]
          rw [decV]
          rw [if_pos ⟨rfl, .inl (by simp)⟩]
          rfl
      · have hf := fin_val t mostP (fun n => (n : Int)) [] r c (by decide) (by simpa using h) hd h48
        rw [List.length_nil] at hf
        rw [hf]
        rw [decV]
        rw [if_neg (show ¬ (c = 48 ∧ (r ≠ [] ∨ false = true)) from fun hh => h48 hh.1)]
        rfl
  | true =>
    rw [if_pos rfl] at h
    obtain ⟨a1, a2, a3⟩ := rest_cons (k := 0) (show t.data.toList.drop 0 = 45 :: l by rw [List.drop_zero, h]; rfl)
    unfold numT
    rw [if_pos (by rw [a2]; rfl)]
    cases l with
    | nil =>
      have hsz : t.size = 1 := by rw [← size_list, h]; rfl
      unfold behindF
      rw [if_neg (by omega)]
      rfl
    | cons c r =>
      obtain ⟨b1, b2, b3⟩ := rest_cons a3
      have hc := hd c (by simp)
      unfold behindF
      rw [if_pos (by omega)]
      by_cases h48 : c = 48
      · subst h48
        rw [if_neg (by rw [b2]; decide)]
        rw [decV]
        rw [if_pos ⟨rfl, .inr rfl⟩]
        rfl
      · have hpos : 48 < c.toNat := by
          rcases Nat.lt_or_ge 48 c.toNat with hx | hx
          · exact hx
          · exact absurd (UInt8.toNat_inj.1 (show c.toNat = (48 : UInt8).toNat by have : (48 : UInt8).toNat = 48 := rfl; omega)) h48
        rw [if_pos (by rw [b2]; omega)]
        have hf := fin_val t mostN (fun n => -(n : Int)) [45] r c (by decide) h hd h48
        rw [show ([45] : List UInt8).length = 1 from rfl] at hf
        rw [hf]
        rw [decV]
        rw [if_neg (show ¬ (c = 48 ∧ (r ≠ [] ∨ true = true)) from fun hh => h48 hh.1)]
        rfl
/-- What a row of digits is does not hang on the fuel. -/
theorem whileF_unique (s : ByteArray) (l : Bool) (f f' k k2 : Nat) (hf : s.size < k + f) (hf' : s.size < k2 + f') (hk : k ≤ k2) (hk2 : k2 ≤ s.size) (hall : ∀ i, k ≤ i → i < k2 → (digitI (bAt s i) || (l && letterI (bAt s i))) = true) : whileF s l f k = whileF s l f' k2 := by
  obtain ⟨a1, a2, a3, a4⟩ := whileF_spec s l f k hf (by omega)
  obtain ⟨b1, b2, b3, b4⟩ := whileF_spec s l f' k2 hf' hk2
  generalize whileF s l f k = x at a1 a2 a3 a4
  generalize whileF s l f' k2 = y at b1 b2 b3 b4
  rcases Nat.lt_trichotomy x y with h | h | h
  · exfalso
    apply a4
    refine ⟨by omega, ?_⟩
    by_cases hx : x < k2
    · exact hall x a1 hx
    · exact b3 x (by omega) h
  · exact h
  · exfalso
    exact b4 ⟨by omega, a3 y (by omega) h⟩
/-- The rest of a text, from a place on. -/
theorem rest_size (s : ByteArray) (k : Nat) (hk : k ≤ s.size) : (s.extract k s.size).size = s.size - k := by
  rw [← size_list, seg_length s k s.size hk (Nat.le_refl _)]
theorem rest_bAt (s : ByteArray) (k i : Nat) (hk : k ≤ s.size) : bAt (s.extract k s.size) i = bAt s (k + i) := by
  have hsz := rest_size s k hk
  by_cases h : i < s.size - k
  · have h1 : i < (s.extract k s.size).size := by omega
    have h2 : k + i < s.size := by omega
    have e1 := rest_at h1
    have e2 := rest_at h2
    have e3 : (s.extract k s.size).data.toList = s.data.toList.drop k := by
      rw [Lib.extract_data, List.take_of_length_le (by rw [List.length_drop, size_list]; omega)]
    rw [e3, List.drop_drop, e2] at e1
    injection e1 with e1 _
    have a1 := bAt_range s (k + i)
    have a2 := bAt_range (s.extract k s.size) i
    have b1 := u8_toNat _ a1.1 a1.2
    have b2 := u8_toNat _ a2.1 a2.2
    rw [← e1] at b2
    omega
  · rw [bAt_out _ i (by omega), bAt_out _ (k + i) (by omega)]
def shiftE {α : Type} (k : Nat) : Except Nat (α × Nat) → Except Nat (α × Nat)
  | .error q => .error (k + q)
  | .ok (b, j) => .ok (b, k + j)
theorem escF_shift (s : ByteArray) (k j : Nat) (hk : k ≤ s.size) : escF s (k + j) = shiftE k (escF (s.extract k s.size) j) := by
  have hsz := rest_size s k hk
  have e0 := rest_bAt s k j hk
  have e1 := rest_bAt s k (j + 1) hk
  have e2 := rest_bAt s k (j + 2) hk
  unfold escF
  rw [e0, e1, e2, hsz, ← Nat.add_assoc, ← Nat.add_assoc]
  have hend : k + (s.size - k) = s.size := by omega
  by_cases h0 : k + j < s.size
  · rw [if_pos h0, if_pos (show j < s.size - k by omega)]
    by_cases c1 : bAt s (k + j) = 34 ∨ bAt s (k + j) = 92
    · rw [if_pos c1, if_pos c1]; rfl
    rw [if_neg c1, if_neg c1]
    by_cases c2 : bAt s (k + j) = 110
    · rw [if_pos c2, if_pos c2]; rfl
    rw [if_neg c2, if_neg c2]
    by_cases c3 : bAt s (k + j) = 120
    · rw [if_pos c3, if_pos c3]
      by_cases h1 : k + j + 1 < s.size
      · rw [if_pos h1, if_pos (show j + 1 < s.size - k by omega)]
        cases hexI (bAt s (k + j + 1)) with
        | none => rfl
        | some v =>
          dsimp only
          by_cases c4 : 2 ≤ v ∧ v ≤ 6
          · rw [if_pos c4, if_pos c4]; rfl
          rw [if_neg c4, if_neg c4]
          by_cases h2 : k + j + 2 < s.size
          · rw [if_pos h2, if_pos (show j + 2 < s.size - k by omega)]
            cases hexI (bAt s (k + j + 2)) with
            | none => rfl
            | some l =>
              dsimp only
              by_cases c5 : v = 0 ∧ l = 10 ∨ v = 7 ∧ l ≠ 15
              · rw [if_pos c5, if_pos c5]; rfl
              · rw [if_neg c5, if_neg c5]; rfl
          · rw [if_neg h2, if_neg (show ¬ j + 2 < s.size - k by omega)]
            show Except.error s.size = Except.error (k + (s.size - k))
            rw [hend]
      · rw [if_neg h1, if_neg (show ¬ j + 1 < s.size - k by omega)]
        show Except.error s.size = Except.error (k + (s.size - k))
        rw [hend]
    · rw [if_neg c3, if_neg c3]; rfl
  · rw [if_neg h0, if_neg (show ¬ j < s.size - k by omega)]
    show Except.error s.size = Except.error (k + (s.size - k))
    rw [hend]
theorem qF_shift (s : ByteArray) (full : Nat → Bool) (k : Nat) (hk : k ≤ s.size) : ∀ (f j : Nat) (b : List UInt8), qF s full f (k + j) b = shiftE k (qF (s.extract k s.size) full f j b) := by
  have hsz := rest_size s k hk
  have hend : k + (s.size - k) = s.size := by omega
  intro f
  induction f with
  | zero =>
    intro j b
    show Except.error s.size = Except.error (k + (s.extract k s.size).size)
    rw [hsz, hend]
  | succ f ih =>
    intro j b
    rw [qF, qF, rest_bAt s k j hk, hsz]
    by_cases h0 : k + j < s.size
    · rw [if_pos h0, if_pos (show j < s.size - k by omega)]
      by_cases c1 : bAt s (k + j) = 34
      · rw [if_pos c1, if_pos c1]; rfl
      rw [if_neg c1, if_neg c1]
      by_cases c2 : full b.length = true
      · rw [if_pos c2, if_pos c2]; rfl
      rw [if_neg c2, if_neg c2]
      by_cases c3 : bAt s (k + j) < 32
      · rw [if_pos c3, if_pos c3]; rfl
      rw [if_neg c3, if_neg c3]
      by_cases c4 : 126 < bAt s (k + j)
      · rw [if_pos c4, if_pos c4]; rfl
      rw [if_neg c4, if_neg c4]
      by_cases c5 : bAt s (k + j) = 92
      · rw [if_pos c5, if_pos c5, Nat.add_assoc, escF_shift s k (j + 1) hk]
        cases escF (s.extract k s.size) (j + 1) with
        | error q => rfl
        | ok r =>
          obtain ⟨x, j'⟩ := r
          exact ih j' _
      · rw [if_neg c5, if_neg c5, Nat.add_assoc]
        exact ih (j + 1) _
    · rw [if_neg h0, if_neg (show ¬ j < s.size - k by omega)]
      show Except.error s.size = Except.error (k + (s.size - k))
      rw [hend]
/-- A quoted form within a text is that of the rest. -/
theorem quotedF_shift (s : ByteArray) (full : Nat → Bool) (k : Nat) (hk : k ≤ s.size) : quotedF s full k = shiftE k (quotedF (s.extract k s.size) full 0) := by
  have hsz := rest_size s k hk
  have hend : k + (s.size - k) = s.size := by omega
  unfold quotedF
  rw [rest_bAt s k 0 hk, hsz, show bAt s (k + 0) = bAt s k from rfl]
  by_cases h0 : k < s.size
  · rw [if_pos h0, if_pos (show 0 < s.size - k by omega)]
    by_cases c1 : bAt s k = 34
    · rw [if_pos c1, if_pos c1, show shiftE k (qF (s.extract k s.size) full (s.size - k + 1) (0 + 1) []) = _ from (qF_shift s full k hk (s.size - k + 1) (0 + 1) []).symm]
      exact qF_fuel s full (s.size + 1) (s.size - k + 1) (k + 1) [] (by omega) (by omega)
    · rw [if_neg c1, if_neg c1]
      rfl
  · rw [if_neg h0, if_neg (show ¬ 0 < s.size - k by omega)]
    show Except.error s.size = Except.error (k + (s.size - k))
    rw [hend]
end Go.Proofs.YtmiipfdndgjndaaDoor
