/- The contracts of posternref02.look, Parts and May: against takeV. -/
import Derived.Test.YtmiipfdndgjndaaDoorGR
import Derived.Test.YtmiipfdndgjndaaDoorT2
namespace Go.Proofs.YtmiipfdndgjndaaDoor
open Go.RowKit Go.Lib
set_option maxHeartbeats 1000000
mutual
/-- No kind below nought. -/
def V.kindOk : V → Prop
  | .mk k _ _ l _ => 0 ≤ k ∧ kindOkL l
def kindOkL : List V → Prop
  | [] => True
  | v :: l => v.kindOk ∧ kindOkL l
end
theorem kindOkL_mem {l : List V} (h : kindOkL l) : ∀ v ∈ l, v.kindOk := by
  induction l with
  | nil => intro v hv; cases hv
  | cons x l ih =>
    intro v hv
    rcases List.mem_cons.mp hv with rfl | hv
    · exact h.1
    · exact ih h.2 v hv
def lookI (v : V) (p d : Nat) : Int := match takeV v p d with | none => -1 | some q => (p : Int) - (q : Int)
def lookRes (v : V) (p d : Nat) (w : World) (e : Ending) (w' : World) : Prop := e = .returned (.int .i64 (lookI v p d)) ∧ Below w.heap.size w w'
def LookOk (v : V) : Prop := ∀ (p d : Nat) (P D : Int) (cs : List Value) (S : Nat → Prop) (w : World), VIn w S v cs → (∀ b, S b → b < w.heap.size) → v.kindOk → P = (p : Int) → D = (d : Int) → p ≤ 1099511627776 → d ≤ 1099511627776 →
  Calls Tryd.prog 91 #[.agg cs.toArray, .int .i64 P, .int .i64 D] w (lookRes v p d w)
theorem lookI_none {v : V} {p d : Nat} (h : takeV v p d = none) : lookI v p d = -1 := by unfold lookI; rw [h]
theorem lookI_some {v : V} {p d q : Nat} (h : takeV v p d = some q) : lookI v p d = (p : Int) - (q : Int) := by unfold lookI; rw [h]
theorem one_off {p : Nat} (h : ¬ p = 0) : (p : Int) - ((p - 1 : Nat) : Int) = 1 := by omega
theorem emp : (⟨#[]⟩ : ByteArray) = ByteArray.empty := rfl
theorem empty_at {s : ByteArray} (h : ¬ s = ⟨#[]⟩) : s.toList.isEmpty = false := by
  cases hh : s.toList with
  | nil => exact absurd (empty_of hh) h
  | cons _ _ => rfl
theorem size_ne {s : ByteArray} (h : ¬ s = ⟨#[]⟩) : ¬ s.size = 0 := fun e => h (by have := empty_size s; simp [e] at this; exact this)
set_option maxRecDepth 100000 in
theorem look_nought (n : Int) (st : ByteArray) (l : List V) (r : Int) (A : Option Addr) (vc p d : Nat) (P D : Int) (w : World) (hp : ¬ p = 0) (hP : P = (p : Int)) :
    Calls Tryd.prog 91 #[.agg #[.int .u8 0, .int .i64 n, .string st, .slice A l.length vc, .int .i64 r], .int .i64 P, .int .i64 D] w (lookRes (.mk 0 n st l r) p d w) := by
  obtain ⟨nr, hnr⟩ : ∃ nr, nr = lookRes (.mk 0 n st l r) p d w := ⟨_, rfl⟩
  rw [← hnr]
  have Hnr := Lib.hid hnr
  clear hnr
  have tp : decide (P < 1) = false := by simp; omega
  have HP := Lib.hid hP
  have Hp := Lib.hid hp
  clear hP hp
  by_cases hn : ¬ n = 0
  · have tn : (n == 0) = false := by simpa using hn
    go_enter Tryd.func91, Tryd.ntmps91
    go_wp2
    rw [Hnr.out]
    exact ⟨by rw [lookI_none (by rw [takeV]; simp [Hp.out, hn])] <;> rfl, (Below.refl _ w).alloc (Nat.le_refl _) _⟩
  replace hn := Decidable.not_not.mp hn
  subst hn
  by_cases hs : ¬ st = ⟨#[]⟩
  · have ts := empty_at hs
    have ts2 := size_ne hs
    go_enter Tryd.func91, Tryd.ntmps91
    go_wp2
    rw [Hnr.out]
    exact ⟨by rw [lookI_none (by rw [takeV]; simp [Hp.out, ts2])] <;> rfl, (Below.refl _ w).alloc (Nat.le_refl _) _⟩
  replace hs := Decidable.not_not.mp hs
  subst hs
  by_cases hl : ¬ l.length = 0
  · have tl : decide ((0 : Int) < (l.length : Int)) = true := by rw [decide_eq_true_eq]; omega
    have hl2 : ¬ l = [] := fun e => hl (by rw [e]; rfl)
    go_enter Tryd.func91, Tryd.ntmps91
    go_wp2
    rw [Hnr.out]
    exact ⟨by rw [lookI_none (by rw [takeV]; simp [Hp.out, emp, hl])] <;> rfl, (Below.refl _ w).alloc (Nat.le_refl _) _⟩
  replace hl := Decidable.not_not.mp hl
  obtain rfl : l = [] := List.length_eq_zero_iff.mp hl
  clear hl
  by_cases hr : ¬ r = 0
  · have tr : (r == 0) = false := by simpa using hr
    go_enter Tryd.func91, Tryd.ntmps91
    go_wp2
    rw [Hnr.out]
    exact ⟨by rw [lookI_none (by rw [takeV]; simp [Hp.out, emp, hr])] <;> rfl, (Below.refl _ w).alloc (Nat.le_refl _) _⟩
  replace hr := Decidable.not_not.mp hr
  subst hr
  go_enter Tryd.func91, Tryd.ntmps91
  go_wp2
  rw [Hnr.out]
  exact ⟨by rw [lookI_some (q := p - 1) (by rw [takeV]; simp [Hp.out, emp]), one_off Hp.out] <;> rfl, (Below.refl _ w).alloc (Nat.le_refl _) _⟩
set_option maxRecDepth 100000 in
theorem look_number (n : Int) (st : ByteArray) (l : List V) (r : Int) (A : Option Addr) (vc p d : Nat) (P D : Int) (w : World) (hp : ¬ p = 0) (hP : P = (p : Int)) :
    Calls Tryd.prog 91 #[.agg #[.int .u8 1, .int .i64 n, .string st, .slice A l.length vc, .int .i64 r], .int .i64 P, .int .i64 D] w (lookRes (.mk 1 n st l r) p d w) := by
  obtain ⟨nr, hnr⟩ : ∃ nr, nr = lookRes (.mk 1 n st l r) p d w := ⟨_, rfl⟩
  rw [← hnr]
  have Hnr := Lib.hid hnr
  clear hnr
  have tp : decide (P < 1) = false := by simp; omega
  have HP := Lib.hid hP
  have Hp := Lib.hid hp
  clear hP hp
  by_cases hs : ¬ st = ⟨#[]⟩
  · have ts := empty_at hs
    have ts2 := size_ne hs
    go_enter Tryd.func91, Tryd.ntmps91
    go_wp2
    rw [Hnr.out]
    exact ⟨by rw [lookI_none (by rw [takeV]; simp [Hp.out, ts2])] <;> rfl, (Below.refl _ w).alloc (Nat.le_refl _) _⟩
  replace hs := Decidable.not_not.mp hs
  subst hs
  by_cases hl : ¬ l.length = 0
  · have tl : decide ((0 : Int) < (l.length : Int)) = true := by rw [decide_eq_true_eq]; omega
    have hl2 : ¬ l = [] := fun e => hl (by rw [e]; rfl)
    go_enter Tryd.func91, Tryd.ntmps91
    go_wp2
    rw [Hnr.out]
    exact ⟨by rw [lookI_none (by rw [takeV]; simp [Hp.out, emp, hl])] <;> rfl, (Below.refl _ w).alloc (Nat.le_refl _) _⟩
  replace hl := Decidable.not_not.mp hl
  obtain rfl : l = [] := List.length_eq_zero_iff.mp hl
  clear hl
  by_cases hr : ¬ r = 0
  · have tr : (r == 0) = false := by simpa using hr
    go_enter Tryd.func91, Tryd.ntmps91
    go_wp2
    rw [Hnr.out]
    exact ⟨by rw [lookI_none (by rw [takeV]; simp [Hp.out, emp, hr])] <;> rfl, (Below.refl _ w).alloc (Nat.le_refl _) _⟩
  replace hr := Decidable.not_not.mp hr
  subst hr
  go_enter Tryd.func91, Tryd.ntmps91
  go_wp2
  rw [Hnr.out]
  exact ⟨by rw [lookI_some (q := p - 1) (by rw [takeV]; simp [Hp.out, emp]), one_off Hp.out] <;> rfl, (Below.refl _ w).alloc (Nat.le_refl _) _⟩
set_option maxRecDepth 100000 in
theorem look_text (n : Int) (st : ByteArray) (l : List V) (r : Int) (A : Option Addr) (vc p d : Nat) (P D : Int) (w : World) (hp : ¬ p = 0) (hP : P = (p : Int)) :
    Calls Tryd.prog 91 #[.agg #[.int .u8 2, .int .i64 n, .string st, .slice A l.length vc, .int .i64 r], .int .i64 P, .int .i64 D] w (lookRes (.mk 2 n st l r) p d w) := by
  obtain ⟨nr, hnr⟩ : ∃ nr, nr = lookRes (.mk 2 n st l r) p d w := ⟨_, rfl⟩
  rw [← hnr]
  have Hnr := Lib.hid hnr
  clear hnr
  have tp : decide (P < 1) = false := by simp; omega
  have HP := Lib.hid hP
  have Hp := Lib.hid hp
  clear hP hp
  by_cases hn : ¬ n = 0
  · have tn : (n == 0) = false := by simpa using hn
    go_enter Tryd.func91, Tryd.ntmps91
    go_wp2
    rw [Hnr.out]
    exact ⟨by rw [lookI_none (by rw [takeV]; simp [Hp.out, hn])] <;> rfl, (Below.refl _ w).alloc (Nat.le_refl _) _⟩
  replace hn := Decidable.not_not.mp hn
  subst hn
  by_cases hl : ¬ l.length = 0
  · have tl : decide ((0 : Int) < (l.length : Int)) = true := by rw [decide_eq_true_eq]; omega
    have hl2 : ¬ l = [] := fun e => hl (by rw [e]; rfl)
    go_enter Tryd.func91, Tryd.ntmps91
    go_wp2
    rw [Hnr.out]
    exact ⟨by rw [lookI_none (by rw [takeV]; simp [Hp.out, hl])] <;> rfl, (Below.refl _ w).alloc (Nat.le_refl _) _⟩
  replace hl := Decidable.not_not.mp hl
  obtain rfl : l = [] := List.length_eq_zero_iff.mp hl
  clear hl
  by_cases hr : ¬ r = 0
  · have tr : (r == 0) = false := by simpa using hr
    go_enter Tryd.func91, Tryd.ntmps91
    go_wp2
    rw [Hnr.out]
    exact ⟨by rw [lookI_none (by rw [takeV]; simp [Hp.out, hr])] <;> rfl, (Below.refl _ w).alloc (Nat.le_refl _) _⟩
  replace hr := Decidable.not_not.mp hr
  subst hr
  by_cases hz : ¬ st.size ≤ 256
  · have tz : decide ((256 : Int) < (st.size : Int)) = true := by simp; omega
    go_enter Tryd.func91, Tryd.ntmps91
    go_wp2
    rw [Hnr.out]
    exact ⟨by rw [lookI_none (by rw [takeV]; simp [Hp.out, hz])] <;> rfl, (Below.refl _ w).alloc (Nat.le_refl _) _⟩
  replace hz := Decidable.not_not.mp hz
  have tz : decide ((256 : Int) < (st.size : Int)) = false := by simp; omega
  go_enter Tryd.func91, Tryd.ntmps91
  go_wp2
  rw [Hnr.out]
  exact ⟨by rw [lookI_some (q := p - 1) (by rw [takeV]; simp [Hp.out, hz]), one_off Hp.out] <;> rfl, (Below.refl _ w).alloc (Nat.le_refl _) _⟩
set_option maxRecDepth 100000 in
theorem look_refer (n : Int) (st : ByteArray) (l : List V) (r : Int) (A : Option Addr) (vc p d : Nat) (P D : Int) (w : World) (hp : ¬ p = 0) (hP : P = (p : Int)) :
    Calls Tryd.prog 91 #[.agg #[.int .u8 4, .int .i64 n, .string st, .slice A l.length vc, .int .i64 r], .int .i64 P, .int .i64 D] w (lookRes (.mk 4 n st l r) p d w) := by
  obtain ⟨nr, hnr⟩ : ∃ nr, nr = lookRes (.mk 4 n st l r) p d w := ⟨_, rfl⟩
  rw [← hnr]
  have Hnr := Lib.hid hnr
  clear hnr
  have tp : decide (P < 1) = false := by simp; omega
  have HP := Lib.hid hP
  have Hp := Lib.hid hp
  clear hP hp
  by_cases hn : ¬ n = 0
  · have tn : (n == 0) = false := by simpa using hn
    go_enter Tryd.func91, Tryd.ntmps91
    go_wp2
    rw [Hnr.out]
    exact ⟨by rw [lookI_none (by rw [takeV]; simp [Hp.out, hn])] <;> rfl, (Below.refl _ w).alloc (Nat.le_refl _) _⟩
  replace hn := Decidable.not_not.mp hn
  subst hn
  by_cases hs : ¬ st = ⟨#[]⟩
  · have ts := empty_at hs
    have ts2 := size_ne hs
    go_enter Tryd.func91, Tryd.ntmps91
    go_wp2
    rw [Hnr.out]
    exact ⟨by rw [lookI_none (by rw [takeV]; simp [Hp.out, ts2])] <;> rfl, (Below.refl _ w).alloc (Nat.le_refl _) _⟩
  replace hs := Decidable.not_not.mp hs
  subst hs
  by_cases hl : ¬ l.length = 0
  · have tl : decide ((0 : Int) < (l.length : Int)) = true := by rw [decide_eq_true_eq]; omega
    have hl2 : ¬ l = [] := fun e => hl (by rw [e]; rfl)
    go_enter Tryd.func91, Tryd.ntmps91
    go_wp2
    rw [Hnr.out]
    exact ⟨by rw [lookI_none (by rw [takeV]; simp [Hp.out, emp, hl])] <;> rfl, (Below.refl _ w).alloc (Nat.le_refl _) _⟩
  replace hl := Decidable.not_not.mp hl
  obtain rfl : l = [] := List.length_eq_zero_iff.mp hl
  clear hl
  by_cases hr : ¬ 1 ≤ r
  · have tr : decide (r < 1) = true := by simp; omega
    go_enter Tryd.func91, Tryd.ntmps91
    go_wp2
    rw [Hnr.out]
    exact ⟨by rw [lookI_none (by rw [takeV]; simp [Hp.out, emp, hr])] <;> rfl, (Below.refl _ w).alloc (Nat.le_refl _) _⟩
  replace hr := Decidable.not_not.mp hr
  have tr : decide (r < 1) = false := by simp; omega
  go_enter Tryd.func91, Tryd.ntmps91
  go_wp2
  rw [Hnr.out]
  exact ⟨by rw [lookI_some (q := p - 1) (by rw [takeV]; simp [Hp.out, emp, hr]), one_off Hp.out] <;> rfl, (Below.refl _ w).alloc (Nat.le_refl _) _⟩
set_option maxRecDepth 100000 in
theorem look_other (k n : Int) (st : ByteArray) (l : List V) (r : Int) (A : Option Addr) (vc p d : Nat) (P D : Int) (w : World) (hk : 4 < k) (hp : ¬ p = 0) (hP : P = (p : Int)) :
    Calls Tryd.prog 91 #[.agg #[.int .u8 k, .int .i64 n, .string st, .slice A l.length vc, .int .i64 r], .int .i64 P, .int .i64 D] w (lookRes (.mk k n st l r) p d w) := by
  obtain ⟨nr, hnr⟩ : ∃ nr, nr = lookRes (.mk k n st l r) p d w := ⟨_, rfl⟩
  rw [← hnr]
  have Hnr := Lib.hid hnr
  clear hnr
  have tp : decide (P < 1) = false := by simp; omega
  have HP := Lib.hid hP
  have Hp := Lib.hid hp
  clear hP hp
  have b1 : (k == 1) = false := by simp; omega
  have b2 : (k == 2) = false := by simp; omega
  have b3 : (k == 3) = false := by simp; omega
  have b4 : (k == 4) = false := by simp; omega
  have b5 : decide (4 < k) = true := by simpa using hk
  have k0 : ¬ k = 0 := by omega
  have k1 : ¬ k = 1 := by omega
  have k2 : ¬ k = 2 := by omega
  have k3 : ¬ k = 3 := by omega
  have k4 : ¬ k = 4 := by omega
  have Hk := Lib.hid (⟨k0, k1, k2, k3, k4⟩ : ¬ k = 0 ∧ ¬ k = 1 ∧ ¬ k = 2 ∧ ¬ k = 3 ∧ ¬ k = 4)
  clear k0 hk
  by_cases hn : ¬ n = 0
  · have tn : (n == 0) = false := by simpa using hn
    go_enter Tryd.func91, Tryd.ntmps91
    go_wp2
    all_goals (rw [Hnr.out]; exact ⟨by rw [lookI_none (by rw [takeV]; simp [Hp.out, Hk.out])]; rfl, (Below.refl _ w).alloc (Nat.le_refl _) _⟩)
  replace hn := Decidable.not_not.mp hn
  subst hn
  by_cases hs : ¬ st = ⟨#[]⟩
  · have ts := empty_at hs
    go_enter Tryd.func91, Tryd.ntmps91
    go_wp2
    all_goals (rw [Hnr.out]; exact ⟨by rw [lookI_none (by rw [takeV]; simp [Hp.out, Hk.out])]; rfl, (Below.refl _ w).alloc (Nat.le_refl _) _⟩)
  replace hs := Decidable.not_not.mp hs
  subst hs
  by_cases hl : ¬ l.length = 0
  · have tl : decide ((0 : Int) < (l.length : Int)) = true := by rw [decide_eq_true_eq]; omega
    go_enter Tryd.func91, Tryd.ntmps91
    go_wp2
    all_goals (rw [Hnr.out]; exact ⟨by rw [lookI_none (by rw [takeV]; simp [Hp.out, Hk.out])]; rfl, (Below.refl _ w).alloc (Nat.le_refl _) _⟩)
  replace hl := Decidable.not_not.mp hl
  obtain rfl : l = [] := List.length_eq_zero_iff.mp hl
  clear hl
  by_cases hr : ¬ r = 0
  · have tr : (r == 0) = false := by simpa using hr
    go_enter Tryd.func91, Tryd.ntmps91
    go_wp2
    all_goals (rw [Hnr.out]; exact ⟨by rw [lookI_none (by rw [takeV]; simp [Hp.out, Hk.out])]; rfl, (Below.refl _ w).alloc (Nat.le_refl _) _⟩)
  replace hr := Decidable.not_not.mp hr
  subst hr
  go_enter Tryd.func91, Tryd.ntmps91
  go_wp2
  all_goals (rw [Hnr.out]; exact ⟨by rw [lookI_none (by rw [takeV]; simp [Hp.out, Hk.out])]; rfl, (Below.refl _ w).alloc (Nat.le_refl _) _⟩)
end Go.Proofs.YtmiipfdndgjndaaDoor
/- The contract of posternref02.look at a list; Parts, May; the law's may. -/
namespace Go.Proofs.YtmiipfdndgjndaaDoor
open Go.RowKit Go.Lib
set_option maxHeartbeats 1000000
theorem takeV_no {n : Int} {st : ByteArray} {l : List V} {r : Int} {p d : Nat} (h : ¬ (n = 0 ∧ st.size = 0 ∧ r = 0)) : takeV (.mk 3 n st l r) p d = none := by
  rw [takeV]
  repeat' split
  all_goals simp_all
theorem takeV_deep {n : Int} {st : ByteArray} {l : List V} {r : Int} {p d : Nat} (h : d = 0 ∨ p - 1 < l.length) : takeV (.mk 3 n st l r) p d = none := by
  rw [takeV]
  repeat' split
  all_goals simp_all
theorem takeV_row {l : List V} {p d : Nat} (hp : ¬ p = 0) (h : ¬ (d = 0 ∨ p - 1 < l.length)) : takeV (.mk 3 0 ⟨#[]⟩ l 0) p d = takeL l (p - 1) (d - 1) := by
  rw [takeV]
  rw [if_neg hp, if_neg (by decide), if_neg (by decide), if_neg (by decide), if_neg (by decide), if_pos rfl, if_neg h]
  cases takeL l (p - 1) (d - 1) with
  | none => rfl
  | some q => exact if_pos ⟨rfl, rfl, rfl⟩
set_option maxRecDepth 100000 in
theorem look_list (n : Int) (st : ByteArray) (l : List V) (r : Int) (A : Option Addr) (vc p d : Nat) (P D : Int) (w : World) (ih : ∀ v ∈ l, LookOk v) (S : Nat → Prop) (hin : LIn w S A l 0) (hS : ∀ b, S b → b < w.heap.size) (hko : kindOkL l) (hD : D = (d : Int)) (hp4 : p ≤ 1099511627776) (hd4 : d ≤ 1099511627776) (hl4 : l.length ≤ 140737488351232) (hp : ¬ p = 0) (hP : P = (p : Int)) :
    Calls Tryd.prog 91 #[.agg #[.int .u8 3, .int .i64 n, .string st, .slice A l.length vc, .int .i64 r], .int .i64 P, .int .i64 D] w (lookRes (.mk 3 n st l r) p d w) := by
  obtain ⟨nr, hnr⟩ : ∃ nr, nr = lookRes (.mk 3 n st l r) p d w := ⟨_, rfl⟩
  rw [← hnr]
  have Hnr := Lib.hid hnr
  clear hnr
  have tp : decide (P < 1) = false := by simp; omega
  have HP := Lib.hid hP
  have Hp := Lib.hid hp
  clear hP hp
  by_cases hn : ¬ n = 0
  · have tn : (n == 0) = false := by simpa using hn
    go_enter Tryd.func91, Tryd.ntmps91
    go_wp2
    rw [Hnr.out]
    exact ⟨by rw [lookI_none (takeV_no (by simp [hn]))] <;> rfl, (Below.refl _ w).alloc (Nat.le_refl _) _⟩
  replace hn := Decidable.not_not.mp hn
  subst hn
  by_cases hs : ¬ st = ⟨#[]⟩
  · have ts := empty_at hs
    have ts2 := size_ne hs
    go_enter Tryd.func91, Tryd.ntmps91
    go_wp2
    rw [Hnr.out]
    exact ⟨by rw [lookI_none (takeV_no (by simp [ts2]))] <;> rfl, (Below.refl _ w).alloc (Nat.le_refl _) _⟩
  replace hs := Decidable.not_not.mp hs
  subst hs
  by_cases hr : ¬ r = 0
  · have tr : (r == 0) = false := by simpa using hr
    go_enter Tryd.func91, Tryd.ntmps91
    go_wp2
    rw [Hnr.out]
    exact ⟨by rw [lookI_none (takeV_no (by simp [hr]))] <;> rfl, (Below.refl _ w).alloc (Nat.le_refl _) _⟩
  replace hr := Decidable.not_not.mp hr
  subst hr
  by_cases hd0 : d = 0
  · have tD : decide (D < 1) = true := by rw [decide_eq_true_eq]; omega
    go_enter Tryd.func91, Tryd.ntmps91
    go_wp2
    rw [Hnr.out]
    exact ⟨by rw [lookI_none (takeV_deep (.inl hd0))] <;> rfl, (Below.refl _ w).alloc (Nat.le_refl _) _⟩
  have tD : decide (D < 1) = false := by rw [decide_eq_false_iff_not]; omega
  by_cases hfull : p - 1 < l.length
  · have tP : decide (P ≤ (l.length : Int)) = true := by have := HP.out; have := Hp.out; rw [decide_eq_true_eq]; omega
    go_enter Tryd.func91, Tryd.ntmps91
    go_wp2
    rw [Hnr.out]
    exact ⟨by rw [lookI_none (takeV_deep (.inr hfull))] <;> rfl, (Below.refl _ w).alloc (Nat.le_refl _) _⟩
  have tP : decide (P ≤ (l.length : Int)) = false := by have := HP.out; have := Hp.out; rw [decide_eq_false_iff_not]; omega
  obtain ⟨R, hR⟩ : ∃ R, takeL l (p - 1) (d - 1) = R := ⟨_, rfl⟩
  have htv : takeV (.mk 3 0 ⟨#[]⟩ l 0) p d = R := by rw [takeV_row Hp.out (by omega), hR]
  have HR := Lib.hid hR
  have Htv := Lib.hid htv
  have HD := Lib.hid hD
  have Hb0 := Lib.hid (show Below w.heap.size w (w.alloc (.cells #[.int .u8 3, .int .i64 0, .string ⟨#[]⟩, .slice A l.length vc, .int .i64 0] 26)) from (Below.refl _ w).alloc (Nat.le_refl _) _)
  have Hblk := Lib.hid (show (w.alloc (.cells #[.int .u8 3, .int .i64 0, .string ⟨#[]⟩, .slice A l.length vc, .int .i64 0] 26)).heap[w.heap.size]? = some (.cells #[.int .u8 3, .int .i64 0, .string ⟨#[]⟩, .slice A l.length vc, .int .i64 0] 26 (0, 0)) from heap_alloc_new w _)
  have Hin := Lib.hid hin
  have HS := Lib.hid hS
  have hPb : P ≤ 1099511627776 := by have := HP.out; omega
  have hPb1 : 1 ≤ P := by have := HP.out; have := Hp.out; omega
  have hDb : D ≤ 1099511627776 := by omega
  have hDb1 : 1 ≤ D := by omega
  have Hd0 := Lib.hid hd0
  clear hR htv hD hin hS hd0 hfull
  go_enter Tryd.func91, Tryd.ntmps91
  go_wp2_with fail
  go_loopw [7, 8] (fun pa i wr => ∃ (k q : Nat) (z : Int), i = .int .i64 k ∧ pa = .int .i64 z ∧ Hid (z = P - (q : Int)) ∧ k ≤ l.length ∧ q ≤ p ∧ takeL (l.drop k) q (d - 1) = R ∧ Below (w.heap.size + 1) (w.alloc (.cells #[.int .u8 3, .int .i64 0, .string ⟨#[]⟩, .slice A l.length vc, .int .i64 0] 26)) wr) (fun _ i _ => l.length - (Go.RowKit.intOf i).toNat)
  case atStart => exact ⟨0, p - 1, 1, rfl, rfl, Lib.hid (by have := HP.out; have := Hp.out; omega), by omega, by omega, by simpa using HR.out, Below.refl _ _⟩
  case round =>
    obtain ⟨k, q, z, rfl, rfl, hz, hk, hq, htl, hb⟩ := hrel
    have hblk2 := (hb.block w.heap.size (by omega)).trans Hblk.out
    have c3 : wr.cell? ⟨w.heap.size, 3, none⟩ = some (.slice A l.length vc) := blk_cell hblk2 3
    have hs2 := hb.size
    simp only [World.size_alloc] at hs2
    have HQ := Lib.hid (Hb0.out.trans (hb.mono (by omega)))
    have HTL := Lib.hid htl
    have HB := Lib.hid hb
    have hz0 : 0 ≤ z := by have := hz.out; have := HP.out; omega
    have hz1 : z ≤ 1099511627776 := by have := hz.out; omega
    clear htl hb hblk2
    by_cases hlt : k < l.length
    · have hkI : decide ((k : Int) < (l.length : Int)) = true := by rw [decide_eq_true_eq]; omega
      obtain ⟨v, hv⟩ : ∃ v, l[k]? = some v := ⟨l[k], List.getElem?_eq_getElem hlt⟩
      have hmem : v ∈ l := List.mem_of_getElem? hv
      have hdr : l.drop k = v :: l.drop (k + 1) := by
        obtain ⟨h1, rfl⟩ := List.getElem?_eq_some_iff.mp hv
        exact List.drop_eq_getElem_cons h1
      have htl := HTL.out
      rw [hdr, takeL] at htl
      obtain ⟨b3, o3, k', n', s', A', m', c', r', rfl, hvin, d0, d1, d2, d3, d4⟩ := child_facts Hin.out HS.out HQ.out k v hv
      have HC := Lib.hid (ih v hmem q (d - 1) (P - z) (D - 1) _ S wr hvin (fun b hb => by have := HS.out b hb; omega) (kindOkL_mem hko v hmem) (by have := hz.out; omega) (by have := HD.out; omega) (by omega) (by omega))
      obtain ⟨it, hit⟩ : ∃ it, it = lookI v q (d - 1) := ⟨_, rfl⟩
      have hr : (takeV v q (d - 1) = none ∧ it < 0 ∧ R = none) ∨ (∃ q', takeV v q (d - 1) = some q' ∧ it = (q : Int) - (q' : Int) ∧ q' ≤ q ∧ takeL (l.drop (k + 1)) q' (d - 1) = R) := by
        cases ht : takeV v q (d - 1) with
        | none =>
          rw [ht] at htl
          exact .inl ⟨rfl, by rw [hit, lookI_none ht]; decide, htl.symm⟩
        | some q' =>
          rw [ht] at htl
          exact .inr ⟨q', rfl, by rw [hit, lookI_some ht], take_le v _ _ _ ht, htl⟩
      have Hit := Lib.hid hit
      clear htl hvin hv hdr hit
      rcases hr with ⟨-, hneg, hRn⟩ | ⟨q', -, hval, hq', htl⟩
      · have tneg : decide (it < 0) = true := by simpa using hneg
        go_wp2_with fail
        refine HC.out.mono ?_
        rintro e w2 ⟨rfl, hb2⟩
        rw [← Hit.out]
        have HF := Lib.hid (HQ.out.trans (hb2.mono (by omega)))
        clear hb2
        go_wp2
        rw [Hnr.out]
        exact ⟨by rw [lookI_none (by rw [Htv.out, hRn])] <;> rfl, HF.out⟩
      · have tneg : decide (it < 0) = false := by rw [decide_eq_false_iff_not]; omega
        have hit0 : 0 ≤ it := by omega
        have hit1 : it ≤ 1099511627776 := by omega
        have Hval := Lib.hid hval
        have Htl := Lib.hid htl
        clear hval htl
        go_wp2_with fail
        refine HC.out.mono ?_
        rintro e w2 ⟨rfl, hb2⟩
        rw [← Hit.out]
        have HF := Lib.hid (HB.out.trans (hb2.mono (by omega)))
        clear hb2
        go_wp2_with fail
        exact ⟨⟨k + 1, q', z + it, by simp, rfl, Lib.hid (by have := hz.out; have := Hval.out; omega), by omega, by omega, Htl.out, HF.out⟩, by simp [Go.RowKit.intOf]; omega⟩
    · have hkI : decide ((k : Int) < (l.length : Int)) = false := by rw [decide_eq_false_iff_not]; omega
      have hRs : R = some q := by
        have h := HTL.out
        rw [show k = l.length by omega, List.drop_length, takeL] at h
        exact h.symm
      go_wp2
      rw [Hnr.out]
      exact ⟨by rw [lookI_some (by rw [Htv.out, hRs]), ← HP.out, ← hz.out] <;> rfl, HQ.out⟩
theorem lookOk_of (kk nn : Int) (st : ByteArray) (l : List V) (rr : Int) (ih : ∀ v ∈ l, LookOk v) : LookOk (.mk kk nn st l rr) := by
  intro p d P D cs S w hv hS hko hP hD hp hd
  obtain ⟨A, vc, rfl, hlc, hvc, hss, hin⟩ := hv
  obtain ⟨hk0, hkl⟩ := hko
  by_cases hp0 : p = 0
  · have tp : decide (P < 1) = true := by rw [decide_eq_true_eq]; omega
    have hn : takeV (.mk kk nn st l rr) p d = none := by rw [takeV, if_pos hp0]
    have Hn := Lib.hid hn
    clear hn hin ih hP hD hp0
    go_enter Tryd.func91, Tryd.ntmps91
    go_wp2
    go_ret
    exact ⟨by rw [lookI_none Hn.out] <;> rfl, (Below.refl _ w).alloc (Nat.le_refl _) _⟩
  by_cases h0 : kk = 0
  · subst h0; exact look_nought nn st l rr A vc p d P D w hp0 hP
  by_cases h1 : kk = 1
  · subst h1; exact look_number nn st l rr A vc p d P D w hp0 hP
  by_cases h2 : kk = 2
  · subst h2; exact look_text nn st l rr A vc p d P D w hp0 hP
  by_cases h4 : kk = 4
  · subst h4; exact look_refer nn st l rr A vc p d P D w hp0 hP
  by_cases h3 : kk = 3
  · subst h3; exact look_list nn st l rr A vc p d P D w ih S hin hS hkl hD hp hd hvc hp0 hP
  exact look_other kk nn st l rr A vc p d P D w (by omega) hp0 hP
theorem look_any (v : V) : LookOk v := V.induct lookOk_of v
def partsI (v : V) : Int := if lookI v 512 16 < 0 then 0 else lookI v 512 16
theorem parts_any (v : V) (cs : List Value) (S : Nat → Prop) (w : World) (hv : VIn w S v cs) (hS : ∀ b, S b → b < w.heap.size) (hk : v.kindOk) :
    Calls Tryd.prog 82 #[.agg cs.toArray] w fun e w' => e = .returned (.int .i64 (partsI v)) ∧ Below w.heap.size w w' := by
  obtain ⟨k, n, s, A, cap, r, -, rfl⟩ := hv.forms
  generalize v.lst.length = m at hv
  have hb0 : Below w.heap.size w (w.alloc (.cells #[.int .u8 k, .int .i64 n, .string s, .slice A m cap, .int .i64 r] 26)) := (Below.refl _ w).alloc (Nat.le_refl _) _
  have HC := Lib.hid (look_any v 512 16 512 16 _ S _ (hv.below hb0 hS) (fun b h => by have := hS b h; simp; omega) hk rfl rfl (by omega) (by omega))
  have Hb0 := Lib.hid hb0
  clear hb0 hv
  unfold partsI
  obtain ⟨it, hit⟩ : ∃ it, it = lookI v 512 16 := ⟨_, rfl⟩
  rw [← hit]
  have Hit := Lib.hid hit
  clear hit
  by_cases hneg : it < 0
  · have tneg : decide (it < 0) = true := by simpa using hneg
    rw [if_pos hneg]
    go_enter Tryd.func82, Tryd.ntmps82
    go_wp2_with fail
    refine HC.out.mono ?_
    rintro e w2 ⟨rfl, hb2⟩
    rw [← Hit.out]
    go_wp2
    go_ret
    exact ⟨rfl, Hb0.out.trans (hb2.mono (by simp))⟩
  · have tneg : decide (it < 0) = false := by simpa using hneg
    rw [if_neg hneg]
    go_enter Tryd.func82, Tryd.ntmps82
    go_wp2_with fail
    refine HC.out.mono ?_
    rintro e w2 ⟨rfl, hb2⟩
    rw [← Hit.out]
    go_wp2
    go_ret
    exact ⟨rfl, Hb0.out.trans (hb2.mono (by simp))⟩
end Go.Proofs.YtmiipfdndgjndaaDoor
/- The contracts of posternref02.May and of the law's may. -/
namespace Go.Proofs.YtmiipfdndgjndaaDoor
open Go.RowKit Go.Lib
set_option maxHeartbeats 1000000
theorem parts_may (v : V) : decide (0 < partsI v) = mayV v := by
  unfold partsI mayV
  cases h : takeV v 512 16 with
  | none => rw [lookI_none h]; rfl
  | some q =>
    have := take_lt h
    rw [lookI_some h]
    rw [if_neg (by omega)]
    simp
    omega
theorem refMay_any (v : V) (cs : List Value) (S : Nat → Prop) (w : World) (hv : VIn w S v cs) (hS : ∀ b, S b → b < w.heap.size) (hk : v.kindOk) :
    Calls Tryd.prog 55 #[.agg cs.toArray] w fun e w' => e = .returned (.bool (mayV v)) ∧ Below w.heap.size w w' := by
  obtain ⟨k, n, s, A, cap, r, -, rfl⟩ := hv.forms
  generalize v.lst.length = m at hv
  have hb0 : Below w.heap.size w (w.alloc (.cells #[.int .u8 k, .int .i64 n, .string s, .slice A m cap, .int .i64 r] 26)) := (Below.refl _ w).alloc (Nat.le_refl _) _
  have HC := Lib.hid (parts_any v _ S _ (hv.below hb0 hS) (fun b h => by have := hS b h; simp; omega) hk)
  have Hb0 := Lib.hid hb0
  clear hb0 hv
  rw [← parts_may]
  obtain ⟨it, hit⟩ : ∃ it, it = partsI v := ⟨_, rfl⟩
  rw [← hit]
  have Hit := Lib.hid hit
  clear hit
  go_enter Tryd.func55, Tryd.ntmps55
  go_wp2_with fail
  refine HC.out.mono ?_
  rintro e w2 ⟨rfl, hb2⟩
  rw [← Hit.out]
  go_wp2
  go_ret
  exact ⟨rfl, Hb0.out.trans (hb2.mono (by simp))⟩
def lawMay (v : V) : Bool := decide (0 ≤ greatV v 20000) && mayV v
theorem lawMay_any (v : V) (cs : List Value) (S : Nat → Prop) (w : World) (hv : VIn w S v cs) (hS : ∀ b, S b → b < w.heap.size) (hk : v.kindOk) :
    Calls Tryd.prog 25 #[.agg cs.toArray] w fun e w' => e = .returned (.bool (lawMay v)) ∧ Below w.heap.size w w' := by
  obtain ⟨k, n, s, A, cap, r, -, rfl⟩ := hv.forms
  generalize v.lst.length = m at hv
  have hb0 : Below w.heap.size w (w.alloc (.cells #[.int .u8 k, .int .i64 n, .string s, .slice A m cap, .int .i64 r] 26)) := (Below.refl _ w).alloc (Nat.le_refl _) _
  have Hb0 := Lib.hid hb0
  have hblk : (w.alloc (.cells #[.int .u8 k, .int .i64 n, .string s, .slice A m cap, .int .i64 r] 26)).heap[w.heap.size]? = some (.cells #[.int .u8 k, .int .i64 n, .string s, .slice A m cap, .int .i64 r] 26 (0, 0)) := heap_alloc_new w _
  have HC := Lib.hid (great_any v 20000 _ S _ (hv.below hb0 hS) (fun b h => by have := hS b h; simp; omega) (by omega))
  have HM := Lib.hid (fun w2 (hb : Below w.heap.size w w2) => refMay_any v _ S w2 (hv.below hb hS) (fun b h => by have := hS b h; have := hb.size; omega) hk)
  have Hblk := Lib.hid hblk
  clear hb0 hv hblk
  unfold lawMay
  obtain ⟨it, hit⟩ : ∃ it, it = greatV v 20000 := ⟨_, rfl⟩
  rw [← hit]
  have Hit := Lib.hid hit
  clear hit
  by_cases h0 : 0 ≤ it
  · have t0 : decide (0 ≤ it) = true := by simpa using h0
    go_enter Tryd.func25, Tryd.ntmps25
    go_wp2_with fail
    refine HC.out.mono ?_
    rintro e w2 ⟨rfl, hb2⟩
    rw [← Hit.out]
    have hb := hb2.block w.heap.size (by simp)
    have hblk2 := hb.trans Hblk.out
    have c0 : w2.cell? ⟨w.heap.size, 0, none⟩ = some (.int .u8 k) := blk_cell hblk2 0
    have c1 : w2.cell? ⟨w.heap.size, 1, none⟩ = some (.int .i64 n) := blk_cell hblk2 1
    have c2 : w2.cell? ⟨w.heap.size, 2, none⟩ = some (.string s) := blk_cell hblk2 2
    have c3 : w2.cell? ⟨w.heap.size, 3, none⟩ = some (.slice A m cap) := blk_cell hblk2 3
    have c4 : w2.cell? ⟨w.heap.size, 4, none⟩ = some (.int .i64 r) := blk_cell hblk2 4
    have HB := Lib.hid (Hb0.out.trans (hb2.mono (by simp)))
    have HM2 := Lib.hid (HM.out w2 HB.out)
    have hs2 := HB.out.size
    clear hb hb2 hblk2
    go_wp2_with fail
    refine HM2.out.mono ?_
    rintro e w3 ⟨rfl, hb3⟩
    have HB3 := Lib.hid (HB.out.trans (hb3.mono hs2))
    clear hb3
    go_wp2
    go_ret
    exact ⟨by simp [t0], HB3.out⟩
  · have t0 : decide (0 ≤ it) = false := by simpa using h0
    go_enter Tryd.func25, Tryd.ntmps25
    go_wp2_with fail
    refine HC.out.mono ?_
    rintro e w2 ⟨rfl, hb2⟩
    rw [← Hit.out]
    have HB := Lib.hid (Hb0.out.trans (hb2.mono (by simp)))
    clear hb2
    go_wp2
    go_ret
    exact ⟨by simp [t0], HB.out⟩
end Go.Proofs.YtmiipfdndgjndaaDoor
