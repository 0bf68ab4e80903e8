/- The contracts of the program's named, and of may of a token. -/
import Derived.Test.YtmiipfdndgjndaaDoorS
namespace Go.Proofs.YtmiipfdndgjndaaDoor
open Go.RowKit Go.Lib
set_option maxHeartbeats 1000000
def okAt (s : ByteArray) (i : Nat) : Bool := letterI (bAt s i) || (i != 0 && digitI (bAt s i))
theorem named_eq (s : ByteArray) : namedL s = (decide (0 < s.size) && decide (s.size ≤ 32) && (List.range s.size).all (okAt s)) := by
  unfold namedL
  cases h : decide (0 < s.size)
  · simp
  · have h0 : 0 < s.size := by simpa using h
    have : (letterI (bAt s 0) && (List.range s.size).all fun i => letterI (bAt s i) || digitI (bAt s i)) = (List.range s.size).all (okAt s) := by
      rw [Bool.eq_iff_iff]
      simp only [Bool.and_eq_true, List.all_eq_true, List.mem_range, okAt]
      constructor
      · rintro ⟨a, b⟩ x hx
        by_cases h : x = 0
        · subst h; simp [a]
        · have := b x hx
          simp [h]
          simpa using this
      · intro b
        refine ⟨by simpa using b 0 h0, fun x hx => ?_⟩
        have := b x hx
        simp only [Bool.or_eq_true, Bool.and_eq_true] at this ⊢
        exact this.imp id (·.2)
    rw [← this, Bool.and_assoc (_ && _)]
def namedRes (s : ByteArray) (w : World) (e : Ending) (w' : World) : Prop := e = .returned (.bool (namedL s)) ∧ w = w'
set_option maxRecDepth 100000 in
theorem named_any (s : ByteArray) (w : World) (hs : s.size ≤ 140737488351232) : Calls Tryd.prog 83 #[.string s] w (namedRes s w) := by
  obtain ⟨nr, hnr⟩ : ∃ nr, nr = namedRes s w := ⟨_, rfl⟩
  rw [← hnr]
  have Hnr := Lib.hid hnr
  clear hnr
  go_enter Tryd.func83, Tryd.ntmps83
  go_wp2_with fail
  go_loopw [6] (fun b wr => ∃ k : Nat, b = .int .i64 k ∧ k ≤ s.size ∧ wr = w ∧ (∀ i, i < k → okAt s i = true)) (fun b _ => s.size - (Go.RowKit.intOf b).toNat)
  case atStart => exact ⟨0, rfl, by omega, rfl, fun i hi => absurd hi (Nat.not_lt_zero _)⟩
  case round =>
    obtain ⟨k, rfl, hk, rfl, hok⟩ := hrel
    have Hok := Lib.hid hok
    clear hok
    by_cases hlt : k < s.size
    · have hkI : decide ((k : Int) < (s.size : Int)) = true := by simp; omega
      have g0 : (0 : Int) ≤ (k : Int) := by omega
      have g1 : (k : Int) < (s.size : Int) := by omega
      have hbe := bAt_eq s k hlt
      have hl := fun W => letter_any (bAt s k) W
      have hd := fun W => digit_any (bAt s k) W
      have hokk : okAt s k = (letterI (bAt s k) || (k != 0 && digitI (bAt s k))) := rfl
      have Hokk := Lib.hid hokk
      clear hokk
      have kn : ∀ hl : okAt s k = true, ∃ kk : Nat, ((k : Int) + 1 = (kk : Int)) ∧ kk ≤ s.size ∧ (∀ i, i < kk → okAt s i = true) ∧ s.size - kk < s.size - k := fun hl => by
        refine ⟨k + 1, by omega, by omega, fun i hi => ?_, by omega⟩
        by_cases e : i = k
        · rw [e]; exact hl
        · exact Hok.out i (by omega)
      have kb : okAt s k = false → namedL s = false := fun hl => by
        rw [named_eq]
        have : (List.range s.size).all (okAt s) = false := by
          rw [List.all_eq_false]
          exact ⟨k, by simpa using hlt, by simp [hl]⟩
        rw [this, Bool.and_false]
      have Kn := Lib.hid kn
      have Kb := Lib.hid kb
      clear kn kb
      rcases hL : letterI (bAt s k) with _ | _
      · rw [hL] at hl
        by_cases h0 : k = 0
        · have tk : ((k : Int) == 0) = true := by simp; omega
          have hko : okAt s k = false := by rw [Hokk.out, hL, h0]; rfl
          have hnm := Kb.out hko
          generalize bAt s k = c at hbe hl
          have HL := Lib.hid hl
          clear hl hd hL hko h0
          go_wp2_with fail
          refine (HL.out _).mono ?_
          rintro e w' ⟨rfl, rfl⟩
          go_wp2
          rw [Hnr.out]
          exact ⟨by rw [hnm]; rfl, rfl⟩
        · have tk : ((k : Int) == 0) = false := by simp; omega
          rcases hD : digitI (bAt s k) with _ | _
          · rw [hD] at hd
            have hko : okAt s k = false := by rw [Hokk.out, hL, hD]; simp
            have hnm := Kb.out hko
            generalize bAt s k = c at hbe hl hd
            have HL := Lib.hid hl
            have HD := Lib.hid hd
            clear hl hd hL hD hko h0
            go_wp2_with fail
            refine (HL.out _).mono ?_
            rintro e w' ⟨rfl, rfl⟩
            go_wp2_with fail
            refine (HD.out _).mono ?_
            rintro e w' ⟨rfl, rfl⟩
            go_wp2
            rw [Hnr.out]
            exact ⟨by rw [hnm]; rfl, rfl⟩
          · rw [hD] at hd
            have hko : okAt s k = true := by rw [Hokk.out, hL, hD]; simp [h0]
            have hn := Kn.out hko
            have Hn := Lib.hid hn
            generalize bAt s k = c at hbe hl hd
            have HL := Lib.hid hl
            have HD := Lib.hid hd
            clear hl hd hL hD hko h0 hn
            go_wp2_with fail
            refine (HL.out _).mono ?_
            rintro e w' ⟨rfl, rfl⟩
            go_wp2_with fail
            refine (HD.out _).mono ?_
            rintro e w' ⟨rfl, rfl⟩
            go_wp2_with fail
            obtain ⟨kk, e1, e2, e3, e4⟩ := Hn.out
            refine ⟨⟨kk, by rw [e1], e2, trivial, e3⟩, ?_⟩
            rw [e1]
            simpa [Go.RowKit.intOf] using e4
      · rw [hL] at hl
        have hko : okAt s k = true := by rw [Hokk.out, hL]; rfl
        have hn := Kn.out hko
        have Hn := Lib.hid hn
        generalize bAt s k = c at hbe hl
        have HL := Lib.hid hl
        clear hl hd hL hko hn
        go_wp2_with fail
        refine (HL.out _).mono ?_
        rintro e w' ⟨rfl, rfl⟩
        go_wp2_with fail
        obtain ⟨kk, e1, e2, e3, e4⟩ := Hn.out
        refine ⟨⟨kk, by rw [e1], e2, trivial, e3⟩, ?_⟩
        rw [e1]
        simpa [Go.RowKit.intOf] using e4
    · have hkI : decide ((k : Int) < (s.size : Int)) = false := by simp; omega
      have hall : namedL s = (decide (0 < s.size) && decide (s.size ≤ 32)) := by
        rw [named_eq]
        have : (List.range s.size).all (okAt s) = true := by
          rw [List.all_eq_true]
          intro x hx
          exact Hok.out x (by have := List.mem_range.mp hx; omega)
        rw [this, Bool.and_true]
      by_cases hz : s.size = 0
      · have hse : s = ⟨#[]⟩ := by
          cases s with | mk d => cases d with | mk l => cases l with
            | nil => rfl
            | cons a b => simp [ByteArray.size] at hz
        subst hse
        have hnm : namedL (⟨#[]⟩ : ByteArray) = false := by rw [hall, hz]; rfl
        go_wp2
        rw [Hnr.out]
        exact ⟨by rw [hnm]; rfl, rfl⟩
      · have hne : s.toList.isEmpty = false := by
          rw [ByteArray.toList_eq]
          cases hl : s.data.toList with
          | nil => exact absurd (by have := congrArg List.length hl; simpa using this) hz
          | cons _ _ => rfl
        have hnm : namedL s = decide ((s.size : Int) ≤ 32) := by
          rw [hall, decide_eq_true (show 0 < s.size by omega), Bool.true_and]
          exact decide_eq_decide.mpr (by omega)
        go_wp2
        rw [Hnr.out]
        exact ⟨by rw [hnm]; rfl, rfl⟩
end Go.Proofs.YtmiipfdndgjndaaDoor
