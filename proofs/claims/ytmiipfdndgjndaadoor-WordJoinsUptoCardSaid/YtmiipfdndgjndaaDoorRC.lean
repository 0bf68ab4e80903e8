/- The contract of the reference's count. -/
import Derived.Test.YtmiipfdndgjndaaDoorUR
import Derived.Test.YtmiipfdndgjndaaDoorL
namespace Go.Proofs.YtmiipfdndgjndaaDoor
open Go.RowKit Go.Lib
set_option maxHeartbeats 1000000
def CountPost (B : Nat) (s : ByteArray) (r : Int) (res : Except Nat (Nat × Nat)) (w : World) (e : Ending) (w' : World) : Prop :=
  (match res with
    | .ok (n, k') => e = .returned (.int .u64 (n : Int)) ∧ Rr w' B s (k' : Int) false r
    | .error q => (∃ n : Int, e = .returned (.int .u64 n)) ∧ ∃ st, Rr w' B s (q : Int) st r ∧ (st = false → q < s.size ∧ digitI (bAt s q) = true)) ∧ But B w w'
theorem num_first (s : ByteArray) (most f k : Nat) (hk : k < s.size) (hd : digitI (bAt s k) = true) : numLoop s most (f + 1) false 0 k = numLoop s most f true (bAt s k - 48).toNat (k + 1) := by
  rw [numLoop, if_pos ⟨hk, hd⟩, if_neg (by simp), Nat.zero_mul, Nat.zero_add]
set_option maxRecDepth 100000 in
/-- No digit that may stand there. -/
theorem count_no (B : Nat) (s : ByteArray) (k : Nat) (r limit least : Int) (w : World) (h : Rr w B s k false r) (hno : digitI (bAt s k) = false ∨ (bAt s k = 48 ∧ least = 1)) :
    Calls Tryd.prog 68 #[.pointer (some ⟨B, 0, none⟩), .int .u64 limit, .int .i64 least] w fun e w' => e = .returned (.int .u64 0) ∧ Rr w' B s (k : Int) true r ∧ But B w w' := by
  have hn := rnext_any B s k r w h
  have hw : ∀ q, Rr (w.drewN q) B s (k : Int) false r := fun q => h.drewN q
  generalize bAt s k = c at hn hno
  have HN := Lib.hid hn
  have HW := Lib.hid hw
  have h3 : decide (48 ≤ c) = false ∨ (decide (48 ≤ c) = true ∧ decide (c ≤ 57) = false) ∨ (c = 48 ∧ least = 1) := by
    rcases hno with hno | hno
    · unfold digitI at hno
      cases h1 : decide (48 ≤ c) with
      | false => exact .inl rfl
      | true => rw [h1] at hno; exact .inr (.inl ⟨rfl, by simpa using hno⟩)
    · exact .inr (.inr hno)
  clear hn hw hno h
  rcases h3 with t1 | ⟨t1, t2⟩ | ⟨rfl, rfl⟩
  all_goals
    go_enter Tryd.func68, Tryd.ntmps68
    go_wp2_with fail
    refine HN.out.mono ?_
    rintro e w' ⟨rfl, q, rfl⟩
    go_wp2_with fail
    refine (ron_no B s k r _ (HW.out q)).mono ?_
    rintro e w' ⟨rfl, q2, rfl⟩
    go_wp2
    go_ret
    exact ⟨rfl, Rr.set2 ((HW.out q).drewN q2) true, ((But.refl B w).drewN (q + q2)).setCell 2 _⟩
set_option maxRecDepth 100000 in
/-- A nought, that may stand there. -/
theorem count_nought (B : Nat) (s : ByteArray) (k : Nat) (r limit : Int) (w : World) (hS : s.size ≤ 140737488351232) (h : Rr w B s k false r) (hk : k < s.size) (hc : bAt s k = 48) :
    Calls Tryd.prog 68 #[.pointer (some ⟨B, 0, none⟩), .int .u64 limit, .int .i64 0] w fun e w' => e = .returned (.int .u64 0) ∧ Rr w' B s ((k + 1 : Nat) : Int) false r ∧ But B w w' := by
  have hn := rnext_any B s k r w h
  rw [hc] at hn
  have hw : ∀ q, Rr (w.drewN q) B s (k : Int) false r := fun q => h.drewN q
  have HN := Lib.hid hn
  have HW := Lib.hid hw
  clear hn hw h hc
  go_enter Tryd.func68, Tryd.ntmps68
  go_wp2_with fail
  refine HN.out.mono ?_
  rintro e w' ⟨rfl, q, rfl⟩
  go_wp2_with fail
  refine (ron_yes B s k r _ (by omega) (HW.out q) hk).mono ?_
  rintro e w' ⟨rfl, q2, rfl⟩
  go_wp2
  go_ret
  exact ⟨rfl, Rr.at (Rr.set1 ((HW.out q).drewN q2) _) (by omega), ((But.refl B w).drewN (q + q2)).setCell 1 _⟩
set_option maxRecDepth 100000 in
/-- Digits, of which the first is no nought. -/
theorem count_loop (B : Nat) (s : ByteArray) (k : Nat) (r least : Int) (most : Nat) (w : World) (hS : s.size ≤ 140737488351232) (h : Rr w B s k false r) (hk : k < s.size) (h1 : 49 ≤ bAt s k) (h2 : bAt s k ≤ 57) (hm9 : 9 ≤ most) (hmU : most ≤ 9223372036854775808) :
    Calls Tryd.prog 68 #[.pointer (some ⟨B, 0, none⟩), .int .u64 (most : Int), .int .i64 least] w (CountPost B s r (numLoop s most s.size true (bAt s k - 48).toNat (k + 1)) w) := by
  obtain ⟨R, hR⟩ : ∃ R, numLoop s most s.size true (bAt s k - 48).toNat (k + 1) = R := ⟨_, rfl⟩
  rw [hR]
  have hn := rnext_any B s k r w h
  have hw : ∀ q, Rr (w.drewN q) B s (k : Int) false r := fun q => h.drewN q
  generalize bAt s k = c at hn hR h1 h2
  obtain ⟨d, hd1, hd2, rfl⟩ : ∃ d : Nat, 1 ≤ d ∧ d < 10 ∧ c = 48 + (d : Int) := ⟨(c - 48).toNat, by omega, by omega, by omega⟩
  rw [show (48 + (d : Int) - 48).toNat = d by omega] at hR
  have HN := Lib.hid hn
  have HW := Lib.hid hw
  have HR := Lib.hid hR
  have t1 : decide ((48 : Int) ≤ 48 + (d : Int)) = true := by simp; omega
  have t2 : decide (48 + (d : Int) ≤ 57) = true := by simp; omega
  have t3 : (48 + (d : Int) != 48) = true := by simp; omega
  have t4 : (48 + (d : Int) == 48) = false := by simp; omega
  have t5 : 48 + (d : Int) - 48 = (d : Int) := by omega
  obtain ⟨mst, hmst⟩ : ∃ x : Int, x = (most : Int) := ⟨_, rfl⟩
  rw [← hmst]
  have Hmst := Lib.hid hmst
  have hm0 : mst ≤ 9223372036854775808 := by omega
  have hm1 : 9 ≤ mst := by omega
  clear hn hw hR h h1 h2 hmst
  go_enter Tryd.func68, Tryd.ntmps68
  go_wp2_with fail
  refine HN.out.mono ?_
  rintro e w' ⟨rfl, q, rfl⟩
  go_wp2_with fail
  refine (ron_yes B s k r _ (by omega) (HW.out q) hk).mono ?_
  rintro e w' ⟨rfl, q2, rfl⟩
  go_wp2_with fail
  clear t1 t2 t3 t4 t5
  go_loopw [9] (fun nv wr => ∃ (k' f m : Nat), nv = .int .u64 m ∧ Rr wr B s (k' : Int) false r ∧ But B w wr ∧ s.size < k' + f ∧ numLoop s most f true m k' = R ∧ 1 ≤ m ∧ m ≤ most ∧ k' ≤ s.size) (fun _ wr => s.size + 1 - atOf B wr)
  case atStart => exact ⟨k + 1, s.size, d, rfl, by exact Rr.at (Rr.set1 ((HW.out q).drewN q2) _) (by omega), by exact ((But.refl B w).drewN (q + q2)).setCell 1 _, by omega, HR.out, hd1, by omega, by omega⟩
  case round =>
    obtain ⟨k', f, m, rfl, hrd, hbt, hf, hq, hmp, hm, hks⟩ := hrel
    have hnx := rnext_any B s k' r wr hrd
    have c1 := hrd.c1
    have f1 := hrd.f 1
    have hms : mst = (most : Int) := Hmst.out
    have hat0 := ratOf hrd
    have Hrd := Lib.hid hrd
    have Hbt := Lib.hid hbt
    clear HN HW HR
    by_cases hdg : k' < s.size ∧ digitI (bAt s k') = true
    · obtain ⟨hk', hdg⟩ := hdg
      obtain ⟨f, rfl⟩ : ∃ g, f = g + 1 := ⟨f - 1, by omega⟩
      rw [numLoop, if_pos ⟨hk', hdg⟩] at hq
      have hdg2 := hdg
      rw [digitI_iff] at hdg
      have hcc : ∃ c, c = bAt s k' := ⟨_, rfl⟩
      obtain ⟨c, hcc⟩ := hcc
      rw [← hcc] at hq hdg hnx
      obtain ⟨d, hd10, rfl⟩ : ∃ d : Nat, d < 10 ∧ c = 48 + (d : Int) := ⟨(c - 48).toNat, by omega, by omega⟩
      clear hcc
      rw [show (48 + (d : Int) - 48).toNat = d by omega] at hq
      have t1 : decide ((48 + (d : Int)) < 48) = false := by simp; omega
      have t2 : decide (57 < 48 + (d : Int)) = false := by simp; omega
      have t3 : 48 + (d : Int) - 48 = (d : Int) := by omega
      have HNX := Lib.hid hnx
      by_cases hbad : (most - d) / 10 < m
      · rw [if_pos (.inr hbad)] at hq
        subst hq
        have t4 : decide ((mst - (d : Int)) / 10 < (m : Int)) = true := by simp; omega
        have Hdg := Lib.hid hdg2
        clear hnx hrd hbt hbad hms hdg hdg2 hat0
        go_wp2_with fail
        refine HNX.out.mono ?_
        rintro e w' ⟨rfl, q3, rfl⟩
        go_wp2
        go_ret
        exact ⟨⟨⟨_, rfl⟩, false, Hrd.out.drewN q3, fun _ => ⟨hk', Hdg.out⟩⟩, Hbt.out.drewN q3⟩
      · rw [if_neg (by rintro (⟨_, h⟩ | h); omega; exact hbad h)] at hq
        have t4 : decide ((mst - (d : Int)) / 10 < (m : Int)) = false := by simp; omega
        have h4 : m * 10 + d ≤ most := by omega
        have Hq := Lib.hid hq
        have Hat := Lib.hid hat0
        clear hnx hrd hbt hbad hms hdg hdg2 hq hat0
        go_wp2_with fail
        refine HNX.out.mono ?_
        rintro e w' ⟨rfl, q3, rfl⟩
        go_wp2_with fail
        refine ⟨⟨k' + 1, f, m * 10 + d, congrArg (Value.int .u64) (by omega), Rr.at (Rr.set1 (show Rr _ B s (k' : Int) false r from Hrd.out) _) (by omega), (Hbt.out.drewN q3).setCell 1 _, by omega, Hq.out, by omega, h4, by omega⟩, ?_⟩
        rw [ratOf (k := k' + 1) (by exact Rr.at (Rr.set1 (show Rr _ B s (k' : Int) false r from Hrd.out) _) (by omega)), Hat.out]
        omega
    · rw [numLoop_stop s most f true m k' hdg] at hq
      subst hq
      have hnd : digitI (bAt s k') = false := by
        by_cases hk' : k' < s.size
        · cases hx : digitI (bAt s k') with
          | false => rfl
          | true => exact absurd ⟨hk', hx⟩ hdg
        · rw [bAt_out s k' hk']; rfl
      generalize bAt s k' = c at hnx hnd
      have HNX := Lib.hid hnx
      have h3 : decide (c < 48) = true ∨ (decide (c < 48) = false ∧ decide (57 < c) = true) := by
        unfold digitI at hnd
        by_cases h : c < 48
        · exact .inl (by simpa using h)
        · refine .inr ⟨by simp; omega, ?_⟩
          have : decide (48 ≤ c) = true := by simp; omega
          rw [this] at hnd
          simp at hnd
          simp
          omega
      clear hnx hrd hbt hms hdg hnd hat0
      rcases h3 with t1 | ⟨t1, t2⟩
      all_goals
        go_wp2_with fail
        refine HNX.out.mono ?_
        rintro e w' ⟨rfl, q3, rfl⟩
        go_wp2
        go_ret
        exact ⟨⟨rfl, Hrd.out.drewN q3⟩, Hbt.out.drewN q3⟩
/-- Behind a sign. -/
theorem count_behind (B : Nat) (s : ByteArray) (k : Nat) (r : Int) (most : Nat) (w : World) (hS : s.size ≤ 140737488351232) (h : Rr w B s k false r) (_hks : k ≤ s.size) (hm9 : 9 ≤ most) (hmU : most ≤ 9223372036854775808) :
    Calls Tryd.prog 68 #[.pointer (some ⟨B, 0, none⟩), .int .u64 (most : Int), .int .i64 1] w (CountPost B s r (behindF s most k) w) := by
  unfold behindF
  by_cases hk : k < s.size
  · rw [if_pos hk]
    by_cases hd : 49 ≤ bAt s k ∧ bAt s k ≤ 57
    · rw [if_pos hd, num_first s most s.size k hk ((digitI_iff _).2 ⟨by omega, hd.2⟩)]
      exact count_loop B s k r 1 most w hS h hk hd.1 hd.2 hm9 hmU
    · rw [if_neg hd]
      refine (count_no B s k r most 1 w h ?_).mono ?_
      · by_cases h48 : bAt s k = 48
        · exact .inr ⟨h48, rfl⟩
        · refine .inl ?_
          cases hx : digitI (bAt s k) with
          | false => rfl
          | true => rw [digitI_iff] at hx; omega
      · rintro e w' ⟨rfl, hr, hb⟩
        exact ⟨⟨⟨_, rfl⟩, true, hr, fun h => by cases h⟩, hb⟩
  · rw [if_neg hk]
    refine (count_no B s k r most 1 w h (.inl (by rw [bAt_out s k hk]; rfl))).mono ?_
    rintro e w' ⟨rfl, hr, hb⟩
    exact ⟨⟨⟨_, rfl⟩, true, by rw [show s.size = k by omega]; exact hr, fun h => by cases h⟩, hb⟩
/-- Digits, a lone nought too. -/
theorem count_plain (B : Nat) (s : ByteArray) (k : Nat) (r : Int) (most : Nat) (w : World) (hS : s.size ≤ 140737488351232) (h : Rr w B s k false r) (hk : k < s.size) (hd : digitI (bAt s k) = true) (hm9 : 9 ≤ most) (hmU : most ≤ 9223372036854775808) :
    Calls Tryd.prog 68 #[.pointer (some ⟨B, 0, none⟩), .int .u64 (most : Int), .int .i64 0] w (CountPost B s r (numLoop s most (s.size + 1) false 0 k) w) := by
  rw [num_first s most s.size k hk hd]
  have hd2 := hd
  rw [digitI_iff] at hd2
  by_cases h48 : bAt s k = 48
  · rw [h48]
    refine (count_nought B s k r most w hS h hk h48).mono ?_
    rintro e w' ⟨rfl, hr, hb⟩
    obtain ⟨f, hf⟩ : ∃ f, s.size = f + 1 := ⟨s.size - 1, by omega⟩
    show CountPost B s r (numLoop s most s.size true 0 (k + 1)) w _ w'
    rw [show numLoop s most s.size true 0 (k + 1) = numLoop s most (f + 1) true 0 (k + 1) by rw [hf]]
    by_cases hx : k + 1 < s.size ∧ digitI (bAt s (k + 1)) = true
    · rw [numLoop, if_pos hx, if_pos (.inl ⟨rfl, rfl⟩)]
      exact ⟨⟨⟨_, rfl⟩, false, hr, fun _ => hx⟩, hb⟩
    · rw [numLoop, if_neg hx]
      exact ⟨⟨rfl, hr⟩, hb⟩
  · exact count_loop B s k r 0 most w hS h hk (by omega) hd2.2 hm9 hmU
end Go.Proofs.YtmiipfdndgjndaaDoor
