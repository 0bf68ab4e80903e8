/- The contracts of posternref02.look, Parts and May: against takeV. -/
import Derived.Test.YtmiipfdndgjndaaDoorGR
import Derived.Test.YtmiipfdndgjndaaDoorT2
namespace Go.Proofs.YtmiipfdndgjndaaDoor
open Go.RowKit Go.Lib
set_option maxHeartbeats 1000000
mutual
/-- No kind below nought. -/
def V.kindOk : V → Prop
  | .mk k _ _ l _ => 0 ≤ k ∧ kindOkL l
def kindOkL : List V → Prop
  | [] => True
  | v :: l => v.kindOk ∧ kindOkL l
end
theorem kindOkL_mem {l : List V} (h : kindOkL l) : ∀ v ∈ l, v.kindOk := by
  induction l with
  | nil => intro v hv; cases hv
  | cons x l ih =>
    intro v hv
    rcases List.mem_cons.mp hv with rfl | hv
    · exact h.1
    · exact ih h.2 v hv
def lookI (v : V) (p d : Nat) : Int := match takeV v p d with | none => -1 | some q => (p : Int) - (q : Int)
def lookRes (v : V) (p d : Nat) (w : World) (e : Ending) (w' : World) : Prop := e = .returned (.int .i64 (lookI v p d)) ∧ Below w.heap.size w w'
def LookOk (v : V) : Prop := ∀ (p d : Nat) (P D : Int) (cs : List Value) (S : Nat → Prop) (w : World), VIn w S v cs → (∀ b, S b → b < w.heap.size) → v.kindOk → P = (p : Int) → D = (d : Int) → p ≤ 1099511627776 → d ≤ 1099511627776 →
  Calls Tryd.prog 91 #[.agg cs.toArray, .int .i64 P, .int .i64 D] w (lookRes v p d w)
theorem lookI_none {v : V} {p d : Nat} (h : takeV v p d = none) : lookI v p d = -1 := by unfold lookI; rw [h]
theorem lookI_some {v : V} {p d q : Nat} (h : takeV v p d = some q) : lookI v p d = (p : Int) - (q : Int) := by unfold lookI; rw [h]
theorem one_off {p : Nat} (h : ¬ p = 0) : (p : Int) - ((p - 1 : Nat) : Int) = 1 := by omega
theorem emp : (⟨#[]⟩ : ByteArray) = ByteArray.empty := rfl
theorem empty_at {s : ByteArray} (h : ¬ s = ⟨#[]⟩) : s.toList.isEmpty = false := by
  cases hh : s.toList with
  | nil => exact absurd (empty_of hh) h
  | cons _ _ => rfl
theorem size_ne {s : ByteArray} (h : ¬ s = ⟨#[]⟩) : ¬ s.size = 0 := fun e => h (by have := empty_size s; simp [e] at this; exact this)
set_option maxRecDepth 100000 in
theorem look_nought (n : Int) (st : ByteArray) (l : List V) (r : Int) (A : Option Addr) (vc p d : Nat) (P D : Int) (w : World) (hp : ¬ p = 0) (hP : P = (p : Int)) :
    Calls Tryd.prog 91 #[.agg #[.int .u8 0, .int .i64 n, .string st, .slice A l.length vc, .int .i64 r], .int .i64 P, .int .i64 D] w (lookRes (.mk 0 n st l r) p d w) := by
  obtain ⟨nr, hnr⟩ : ∃ nr, nr = lookRes (.mk 0 n st l r) p d w := ⟨_, rfl⟩
  rw [← hnr]
  have Hnr := Lib.hid hnr
  clear hnr
  have tp : decide (P < 1) = false := by simp; omega
  have HP := Lib.hid hP
  have Hp := Lib.hid hp
  clear hP hp
  by_cases hn : ¬ n = 0
  · have tn : (n == 0) = false := by simpa using hn
    go_enter Tryd.func91, Tryd.ntmps91
    go_wp2
    rw [Hnr.out]
    exact ⟨by rw [lookI_none (by rw [takeV]; simp [Hp.out, hn])] <;> rfl, (Below.refl _ w).alloc (Nat.le_refl _) _⟩
  replace hn := Decidable.not_not.mp hn
  subst hn
  by_cases hs : ¬ st = ⟨#[]⟩
  · have ts := empty_at hs
    have ts2 := size_ne hs
    go_enter Tryd.func91, Tryd.ntmps91
    go_wp2
    rw [Hnr.out]
    exact ⟨by rw [lookI_none (by rw [takeV]; simp [Hp.out, ts2])] <;> rfl, (Below.refl _ w).alloc (Nat.le_refl _) _⟩
  replace hs := Decidable.not_not.mp hs
  subst hs
  by_cases hl : ¬ l.length = 0
  · have tl : decide ((0 : Int) < (l.length : Int)) = true := by rw [decide_eq_true_eq]; omega
    have hl2 : ¬ l = [] := fun e => hl (by rw [e]; rfl)
    go_enter Tryd.func91, Tryd.ntmps91
    go_wp2
    rw [Hnr.out]
    exact ⟨by rw [lookI_none (by rw [takeV]; simp [Hp.out, emp, hl])] <;> rfl, (Below.refl _ w).alloc (Nat.le_refl _) _⟩
  replace hl := Decidable.not_not.mp hl
  obtain rfl : l = [] := List.length_eq_zero_iff.mp hl
  clear hl
  by_cases hr : ¬ r = 0
  · have tr : (r == 0) = false := by simpa using hr
    go_enter Tryd.func91, Tryd.ntmps91
    go_wp2
    rw [Hnr.out]
    exact ⟨by rw [lookI_none (by rw [takeV]; simp [Hp.out, emp, hr])] <;> rfl, (Below.refl _ w).alloc (Nat.le_refl _) _⟩
  replace hr := Decidable.not_not.mp hr
  subst hr
  go_enter Tryd.func91, Tryd.ntmps91
  go_wp2
  rw [Hnr.out]
  exact ⟨by rw [lookI_some (q := p - 1) (by rw [takeV]; simp [Hp.out, emp]), one_off Hp.out] <;> rfl, (Below.refl _ w).alloc (Nat.le_refl _) _⟩
set_option maxRecDepth 100000 in
theorem look_number (n : Int) (st : ByteArray) (l : List V) (r : Int) (A : Option Addr) (vc p d : Nat) (P D : Int) (w : World) (hp : ¬ p = 0) (hP : P = (p : Int)) :
    Calls Tryd.prog 91 #[.agg #[.int .u8 1, .int .i64 n, .string st, .slice A l.length vc, .int .i64 r], .int .i64 P, .int .i64 D] w (lookRes (.mk 1 n st l r) p d w) := by
  obtain ⟨nr, hnr⟩ : ∃ nr, nr = lookRes (.mk 1 n st l r) p d w := ⟨_, rfl⟩
  rw [← hnr]
  have Hnr := Lib.hid hnr
  clear hnr
  have tp : decide (P < 1) = false := by simp; omega
  have HP := Lib.hid hP
  have Hp := Lib.hid hp
  clear hP hp
  by_cases hs : ¬ st = ⟨#[]⟩
  · have ts := empty_at hs
    have ts2 := size_ne hs
    go_enter Tryd.func91, Tryd.ntmps91
    go_wp2
    rw [Hnr.out]
    exact ⟨by rw [lookI_none (by rw [takeV]; simp [Hp.out, ts2])] <;> rfl, (Below.refl _ w).alloc (Nat.le_refl _) _⟩
  replace hs := Decidable.not_not.mp hs
  subst hs
  by_cases hl : ¬ l.length = 0
  · have tl : decide ((0 : Int) < (l.length : Int)) = true := by rw [decide_eq_true_eq]; omega
    have hl2 : ¬ l = [] := fun e => hl (by rw [e]; rfl)
    go_enter Tryd.func91, Tryd.ntmps91
    go_wp2
    rw [Hnr.out]
    exact ⟨by rw [lookI_none (by rw [takeV]; simp [Hp.out, emp, hl])] <;> rfl, (Below.refl _ w).alloc (Nat.le_refl _) _⟩
  replace hl := Decidable.not_not.mp hl
  obtain rfl : l = [] := List.length_eq_zero_iff.mp hl
  clear hl
  by_cases hr : ¬ r = 0
  · have tr : (r == 0) = false := by simpa using hr
    go_enter Tryd.func91, Tryd.ntmps91
    go_wp2
    rw [Hnr.out]
    exact ⟨by rw [lookI_none (by rw [takeV]; simp [Hp.out, emp, hr])] <;> rfl, (Below.refl _ w).alloc (Nat.le_refl _) _⟩
  replace hr := Decidable.not_not.mp hr
  subst hr
  go_enter Tryd.func91, Tryd.ntmps91
  go_wp2
  rw [Hnr.out]
  exact ⟨by rw [lookI_some (q := p - 1) (by rw [takeV]; simp [Hp.out, emp]), one_off Hp.out] <;> rfl, (Below.refl _ w).alloc (Nat.le_refl _) _⟩
set_option maxRecDepth 100000 in
theorem look_text (n : Int) (st : ByteArray) (l : List V) (r : Int) (A : Option Addr) (vc p d : Nat) (P D : Int) (w : World) (hp : ¬ p = 0) (hP : P = (p : Int)) :
    Calls Tryd.prog 91 #[.agg #[.int .u8 2, .int .i64 n, .string st, .slice A l.length vc, .int .i64 r], .int .i64 P, .int .i64 D] w (lookRes (.mk 2 n st l r) p d w) := by
  obtain ⟨nr, hnr⟩ : ∃ nr, nr = lookRes (.mk 2 n st l r) p d w := ⟨_, rfl⟩
  rw [← hnr]
  have Hnr := Lib.hid hnr
  clear hnr
  have tp : decide (P < 1) = false := by simp; omega
  have HP := Lib.hid hP
  have Hp := Lib.hid hp
  clear hP hp
  by_cases hn : ¬ n = 0
  · have tn : (n == 0) = false := by simpa using hn
    go_enter Tryd.func91, Tryd.ntmps91
    go_wp2
    rw [Hnr.out]
    exact ⟨by rw [lookI_none (by rw [takeV]; simp [Hp.out, hn])] <;> rfl, (Below.refl _ w).alloc (Nat.le_refl _) _⟩
  replace hn := Decidable.not_not.mp hn
  subst hn
  by_cases hl : ¬ l.length = 0
  · have tl : decide ((0 : Int) < (l.length : Int)) = true := by rw [decide_eq_true_eq]; omega
    have hl2 : ¬ l = [] := fun e => hl (by rw [e]; rfl)
    go_enter Tryd.func91, Tryd.ntmps91
    go_wp2
    rw [Hnr.out]
    exact ⟨by rw [lookI_none (by rw [takeV]; simp [Hp.out, hl])] <;> rfl, (Below.refl _ w).alloc (Nat.le_refl _) _⟩
  replace hl := Decidable.not_not.mp hl
  obtain rfl : l = [] := List.length_eq_zero_iff.mp hl
  clear hl
  by_cases hr : ¬ r = 0
  · have tr : (r == 0) = false := by simpa using hr
    go_enter Tryd.func91, Tryd.ntmps91
    go_wp2
    rw [Hnr.out]
    exact ⟨by rw [lookI_none (by rw [takeV]; simp [Hp.out, hr])] <;> rfl, (Below.refl _ w).alloc (Nat.le_refl _) _⟩
  replace hr := Decidable.not_not.mp hr
  subst hr
  by_cases hz : ¬ st.size ≤ 256
  · have tz : decide ((256 : Int) < (st.size : Int)) = true := by simp; omega
    go_enter Tryd.func91, Tryd.ntmps91
    go_wp2
    rw [Hnr.out]
    exact ⟨by rw [lookI_none (by rw [takeV]; simp [Hp.out, hz])] <;> rfl, (Below.refl _ w).alloc (Nat.le_refl _) _⟩
  replace hz := Decidable.not_not.mp hz
  have tz : decide ((256 : Int) < (st.size : Int)) = false := by simp; omega
  go_enter Tryd.func91, Tryd.ntmps91
  go_wp2
  rw [Hnr.out]
  exact ⟨by rw [lookI_some (q := p - 1) (by rw [takeV]; simp [Hp.out, hz]), one_off Hp.out] <;> rfl, (Below.refl _ w).alloc (Nat.le_refl _) _⟩
set_option maxRecDepth 100000 in
theorem look_refer (n : Int) (st : ByteArray) (l : List V) (r : Int) (A : Option Addr) (vc p d : Nat) (P D : Int) (w : World) (hp : ¬ p = 0) (hP : P = (p : Int)) :
    Calls Tryd.prog 91 #[.agg #[.int .u8 4, .int .i64 n, .string st, .slice A l.length vc, .int .i64 r], .int .i64 P, .int .i64 D] w (lookRes (.mk 4 n st l r) p d w) := by
  obtain ⟨nr, hnr⟩ : ∃ nr, nr = lookRes (.mk 4 n st l r) p d w := ⟨_, rfl⟩
  rw [← hnr]
  have Hnr := Lib.hid hnr
  clear hnr
  have tp : decide (P < 1) = false := by simp; omega
  have HP := Lib.hid hP
  have Hp := Lib.hid hp
  clear hP hp
  by_cases hn : ¬ n = 0
  · have tn : (n == 0) = false := by simpa using hn
    go_enter Tryd.func91, Tryd.ntmps91
    go_wp2
    rw [Hnr.out]
    exact ⟨by rw [lookI_none (by rw [takeV]; simp [Hp.out, hn])] <;> rfl, (Below.refl _ w).alloc (Nat.le_refl _) _⟩
  replace hn := Decidable.not_not.mp hn
  subst hn
  by_cases hs : ¬ st = ⟨#[]⟩
  · have ts := empty_at hs
    have ts2 := size_ne hs
    go_enter Tryd.func91, Tryd.ntmps91
    go_wp2
    rw [Hnr.out]
    exact ⟨by rw [lookI_none (by rw [takeV]; simp [Hp.out, ts2])] <;> rfl, (Below.refl _ w).alloc (Nat.le_refl _) _⟩
  replace hs := Decidable.not_not.mp hs
  subst hs
  by_cases hl : ¬ l.length = 0
  · have tl : decide ((0 : Int) < (l.length : Int)) = true := by rw [decide_eq_true_eq]; omega
    have hl2 : ¬ l = [] := fun e => hl (by rw [e]; rfl)
    go_enter Tryd.func91, Tryd.ntmps91
    go_wp2
    rw [Hnr.out]
    exact ⟨by rw [lookI_none (by rw [takeV]; simp [Hp.out, emp, hl])] <;> rfl, (Below.refl _ w).alloc (Nat.le_refl _) _⟩
  replace hl := Decidable.not_not.mp hl
  obtain rfl : l = [] := List.length_eq_zero_iff.mp hl
  clear hl
  by_cases hr : ¬ 1 ≤ r
  · have tr : decide (r < 1) = true := by simp; omega
    go_enter Tryd.func91, Tryd.ntmps91
    go_wp2
    rw [Hnr.out]
    exact ⟨by rw [lookI_none (by rw [takeV]; simp [Hp.out, emp, hr])] <;> rfl, (Below.refl _ w).alloc (Nat.le_refl _) _⟩
  replace hr := Decidable.not_not.mp hr
  have tr : decide (r < 1) = false := by simp; omega
  go_enter Tryd.func91, Tryd.ntmps91
  go_wp2
  rw [Hnr.out]
  exact ⟨by rw [lookI_some (q := p - 1) (by rw [takeV]; simp [Hp.out, emp, hr]), one_off Hp.out] <;> rfl, (Below.refl _ w).alloc (Nat.le_refl _) _⟩
set_option maxRecDepth 100000 in
theorem look_other (k n : Int) (st : ByteArray) (l : List V) (r : Int) (A : Option Addr) (vc p d : Nat) (P D : Int) (w : World) (hk : 4 < k) (hp : ¬ p = 0) (hP : P = (p : Int)) :
    Calls Tryd.prog 91 #[.agg #[.int .u8 k, .int .i64 n, .string st, .slice A l.length vc, .int .i64 r], .int .i64 P, .int .i64 D] w (lookRes (.mk k n st l r) p d w) := by
  obtain ⟨nr, hnr⟩ : ∃ nr, nr = lookRes (.mk k n st l r) p d w := ⟨_, rfl⟩
  rw [← hnr]
  have Hnr := Lib.hid hnr
  clear hnr
  have tp : decide (P < 1) = false := by simp; omega
  have HP := Lib.hid hP
  have Hp := Lib.hid hp
  clear hP hp
  have b1 : (k == 1) = false := by simp; omega
  have b2 : (k == 2) = false := by simp; omega
  have b3 : (k == 3) = false := by simp; omega
  have b4 : (k == 4) = false := by simp; omega
  have b5 : decide (4 < k) = true := by simpa using hk
  have k0 : ¬ k = 0 := by omega
  have k1 : ¬ k = 1 := by omega
  have k2 : ¬ k = 2 := by omega
  have k3 : ¬ k = 3 := by omega
  have k4 : ¬ k = 4 := by omega
  have Hk := Lib.hid (⟨k0, k1, k2, k3, k4⟩ : ¬ k = 0 ∧ ¬ k = 1 ∧ ¬ k = 2 ∧ ¬ k = 3 ∧ ¬ k = 4)
  clear k0 hk
  by_cases hn : ¬ n = 0
  · have tn : (n == 0) = false := by simpa using hn
    go_enter Tryd.func91, Tryd.ntmps91
    go_wp2
    all_goals (rw [Hnr.out]; exact ⟨by rw [lookI_none (by rw [takeV]; simp [Hp.out, Hk.out])]; rfl, (Below.refl _ w).alloc (Nat.le_refl _) _⟩)
  replace hn := Decidable.not_not.mp hn
  subst hn
  by_cases hs : ¬ st = ⟨#[]⟩
  · have ts := empty_at hs
    go_enter Tryd.func91, Tryd.ntmps91
    go_wp2
    all_goals (rw [Hnr.out]; exact ⟨by rw [lookI_none (by rw [takeV]; simp [Hp.out, Hk.out])]; rfl, (Below.refl _ w).alloc (Nat.le_refl _) _⟩)
  replace hs := Decidable.not_not.mp hs
  subst hs
  by_cases hl : ¬ l.length = 0
  · have tl : decide ((0 : Int) < (l.length : Int)) = true := by rw [decide_eq_true_eq]; omega
    go_enter Tryd.func91, Tryd.ntmps91
    go_wp2
    all_goals (rw [Hnr.out]; exact ⟨by rw [lookI_none (by rw [takeV]; simp [Hp.out, Hk.out])]; rfl, (Below.refl _ w).alloc (Nat.le_refl _) _⟩)
  replace hl := Decidable.not_not.mp hl
  obtain rfl : l = [] := List.length_eq_zero_iff.mp hl
  clear hl
  by_cases hr : ¬ r = 0
  · have tr : (r == 0) = false := by simpa using hr
    go_enter Tryd.func91, Tryd.ntmps91
    go_wp2
    all_goals (rw [Hnr.out]; exact ⟨by rw [lookI_none (by rw [takeV]; simp [Hp.out, Hk.out])]; rfl, (Below.refl _ w).alloc (Nat.le_refl _) _⟩)
  replace hr := Decidable.not_not.mp hr
  subst hr
  go_enter Tryd.func91, Tryd.ntmps91
  go_wp2
  all_goals (rw [Hnr.out]; exact ⟨by rw [lookI_none (by rw [takeV]; simp [Hp.out, Hk.out])]; rfl, (Below.refl _ w).alloc (Nat.le_refl _) _⟩)
end Go.Proofs.YtmiipfdndgjndaaDoor
