/- The contract of the program's escape: printed by gen_escape.py. -/
import Derived.Test.YtmiipfdndgjndaaDoorB
namespace Go.Proofs.YtmiipfdndgjndaaDoor
open Go.RowKit
set_option maxHeartbeats 1000000
theorem or_val (v l : Nat) (hv : v < 16) (hl : l < 16) : bits BinOp.or IntKind.i64 ((v : Int) * 16) (l : Int) % 256 = ((16 * v + l : Nat) : Int) := by
  have h : ∀ v l : Fin 16, bits BinOp.or IntKind.i64 ((v.val : Int) * 16) (l.val : Int) % 256 = ((16 * v.val + l.val : Nat) : Int) := by decide +kernel
  exact h ⟨v, hv⟩ ⟨l, hl⟩
theorem Rd.at {W : World} {B : Nat} {s : ByteArray} {a a' p : Int} (h : Rd W B s a p) (e : a = a') : Rd W B s a' p := e ▸ h
theorem esc_end (B : Nat) (s : ByteArray) (k : Nat) (p : Int) (w : World) (_hS : s.size ≤ 140737488355328) (h : Rd w B s k p) (hk : ¬ k < s.size) : Calls Tryd.prog 70 #[.pointer (some ⟨B, 0, none⟩)] w fun e w' => e = .panicked (stuckV (s.size)) ∧ But B w w' := by
  have c1 := h.c1
  have f1 := h.f 1
  go_enter Tryd.func70, Tryd.ntmps70
  go_wp2_with fail
  refine (next_none B s k p _ h hk).mono ?_
  rintro e w' ⟨rfl, q1, rfl⟩
  go_wp2
  exact ⟨rfl, rfl, (But.refl B w).drewN q1⟩
theorem esc_quote (B : Nat) (s : ByteArray) (k : Nat) (p : Int) (w : World) (hS : s.size ≤ 140737488355328) (h : Rd w B s k p) (hk : k < s.size) (hc : bAt s k = 34) : Calls Tryd.prog 70 #[.pointer (some ⟨B, 0, none⟩)] w fun e w' => e = .returned (.int .u8 (34)) ∧ Rd w' B s ((k + 1 : Nat) : Int) p ∧ But B w w' := by
  have c1 := h.c1
  have f1 := h.f 1
  go_enter Tryd.func70, Tryd.ntmps70
  go_wp2_with fail
  refine (next_ok B s k p _ h hk).mono ?_
  rw [hc]
  rintro e w' ⟨rfl, q1, rfl⟩
  go_wp2
  go_ret
  exact ⟨rfl, (Rd.at (Rd.set1 (Rd.drewN (h) q1) ((k : Int) + 1)) (by omega : (k : Int) + 1 = ((k + 1 : Nat) : Int))), ((But.refl B w).drewN q1).setCell 1 (.int .i64 ((k : Int) + 1))⟩
theorem esc_slash (B : Nat) (s : ByteArray) (k : Nat) (p : Int) (w : World) (hS : s.size ≤ 140737488355328) (h : Rd w B s k p) (hk : k < s.size) (hc : bAt s k = 92) : Calls Tryd.prog 70 #[.pointer (some ⟨B, 0, none⟩)] w fun e w' => e = .returned (.int .u8 (92)) ∧ Rd w' B s ((k + 1 : Nat) : Int) p ∧ But B w w' := by
  have c1 := h.c1
  have f1 := h.f 1
  go_enter Tryd.func70, Tryd.ntmps70
  go_wp2_with fail
  refine (next_ok B s k p _ h hk).mono ?_
  rw [hc]
  rintro e w' ⟨rfl, q1, rfl⟩
  go_wp2
  go_ret
  exact ⟨rfl, (Rd.at (Rd.set1 (Rd.drewN (h) q1) ((k : Int) + 1)) (by omega : (k : Int) + 1 = ((k + 1 : Nat) : Int))), ((But.refl B w).drewN q1).setCell 1 (.int .i64 ((k : Int) + 1))⟩
theorem esc_n (B : Nat) (s : ByteArray) (k : Nat) (p : Int) (w : World) (hS : s.size ≤ 140737488355328) (h : Rd w B s k p) (hk : k < s.size) (hc : bAt s k = 110) : Calls Tryd.prog 70 #[.pointer (some ⟨B, 0, none⟩)] w fun e w' => e = .returned (.int .u8 (10)) ∧ Rd w' B s ((k + 1 : Nat) : Int) p ∧ But B w w' := by
  have c1 := h.c1
  have f1 := h.f 1
  go_enter Tryd.func70, Tryd.ntmps70
  go_wp2_with fail
  refine (next_ok B s k p _ h hk).mono ?_
  rw [hc]
  rintro e w' ⟨rfl, q1, rfl⟩
  go_wp2
  go_ret
  exact ⟨rfl, (Rd.at (Rd.set1 (Rd.drewN (h) q1) ((k : Int) + 1)) (by omega : (k : Int) + 1 = ((k + 1 : Nat) : Int))), ((But.refl B w).drewN q1).setCell 1 (.int .i64 ((k : Int) + 1))⟩
theorem esc_x0 (B : Nat) (s : ByteArray) (k : Nat) (p : Int) (w : World) (hS : s.size ≤ 140737488355328) (h : Rd w B s k p) (hk : k < s.size) (hc : bAt s k = 120) (hk1 : ¬ k + 1 < s.size) : Calls Tryd.prog 70 #[.pointer (some ⟨B, 0, none⟩)] w fun e w' => e = .panicked (stuckV (s.size)) ∧ But B w w' := by
  have c1 := h.c1
  have f1 := h.f 1
  go_enter Tryd.func70, Tryd.ntmps70
  go_wp2_with fail
  refine (next_ok B s k p _ h hk).mono ?_
  rw [hc]
  rintro e w' ⟨rfl, q1, rfl⟩
  go_wp2_with fail
  refine (hex_none B s (k + 1) p _ ((Rd.at (Rd.set1 (Rd.drewN (h) q1) ((k : Int) + 1)) (by omega : (k : Int) + 1 = ((k + 1 : Nat) : Int)))) hk1).mono ?_
  rintro e w' ⟨rfl, q2, rfl⟩
  go_wp2
  exact ⟨rfl, rfl, (((But.refl B w).drewN q1).setCell 1 (.int .i64 ((k : Int) + 1))).drewN q2⟩
theorem esc_x1 (B : Nat) (s : ByteArray) (k : Nat) (p : Int) (w : World) (hS : s.size ≤ 140737488355328) (h : Rd w B s k p) (hk : k < s.size) (hc : bAt s k = 120) (hk1 : k + 1 < s.size) (hh : hexI (bAt s (k + 1)) = none) : Calls Tryd.prog 70 #[.pointer (some ⟨B, 0, none⟩)] w fun e w' => e = .panicked (stuckV (((k + 1 : Nat) : Int))) ∧ But B w w' := by
  have c1 := h.c1
  have f1 := h.f 1
  go_enter Tryd.func70, Tryd.ntmps70
  go_wp2_with fail
  refine (next_ok B s k p _ h hk).mono ?_
  rw [hc]
  rintro e w' ⟨rfl, q1, rfl⟩
  go_wp2_with fail
  refine (hex_bad B s (k + 1) p _ ((Rd.at (Rd.set1 (Rd.drewN (h) q1) ((k : Int) + 1)) (by omega : (k : Int) + 1 = ((k + 1 : Nat) : Int)))) hk1 hh).mono ?_
  rintro e w' ⟨rfl, q2, rfl⟩
  go_wp2
  exact ⟨rfl, rfl, (((But.refl B w).drewN q1).setCell 1 (.int .i64 ((k : Int) + 1))).drewN q2⟩
theorem esc_x2 (B : Nat) (s : ByteArray) (k : Nat) (p : Int) (w : World) (hS : s.size ≤ 140737488355328) (h : Rd w B s k p) (hk : k < s.size) (hc : bAt s k = 120) (hk1 : k + 1 < s.size) (v : Nat) (hh : hexI (bAt s (k + 1)) = some v) (hv : 2 ≤ v) (hv6 : v ≤ 6) : Calls Tryd.prog 70 #[.pointer (some ⟨B, 0, none⟩)] w fun e w' => e = .panicked (stuckV (((k + 1 : Nat) : Int))) ∧ But B w w' := by
  have c1 := h.c1
  have f1 := h.f 1
  have t1 : decide ((v : Int) < 2) = false := by simp; omega
  have t2 : decide ((v : Int) ≤ 6) = true := by simp; omega
  have t3 : decide ((2 : Int) ≤ (v : Int)) = true := by simp; omega
  go_enter Tryd.func70, Tryd.ntmps70
  go_wp2_with fail
  refine (next_ok B s k p _ h hk).mono ?_
  rw [hc]
  rintro e w' ⟨rfl, q1, rfl⟩
  go_wp2_with fail
  refine (hex_ok B s (k + 1) p v _ ((Rd.at (Rd.set1 (Rd.drewN (h) q1) ((k : Int) + 1)) (by omega : (k : Int) + 1 = ((k + 1 : Nat) : Int)))) hk1 hh).mono ?_
  rintro e w' ⟨rfl, q2, rfl⟩
  go_wp2_with fail
  refine (wrong_any B s ((k + 1 : Nat) : Int) p _ (Rd.drewN ((Rd.at (Rd.set1 (Rd.drewN (h) q1) ((k : Int) + 1)) (by omega : (k : Int) + 1 = ((k + 1 : Nat) : Int)))) q2)).mono ?_
  rintro e w' ⟨rfl, rfl⟩
  go_wp2
  exact ⟨rfl, rfl, (((But.refl B w).drewN q1).setCell 1 (.int .i64 ((k : Int) + 1))).drewN q2⟩
theorem esc_x3a (B : Nat) (s : ByteArray) (k : Nat) (p : Int) (w : World) (hS : s.size ≤ 140737488355328) (h : Rd w B s k p) (hk : k < s.size) (hc : bAt s k = 120) (hk1 : k + 1 < s.size) (v : Nat) (hh : hexI (bAt s (k + 1)) = some v) (hv : v < 2) (hk2 : ¬ k + 2 < s.size) : Calls Tryd.prog 70 #[.pointer (some ⟨B, 0, none⟩)] w fun e w' => e = .panicked (stuckV (s.size)) ∧ But B w w' := by
  have c1 := h.c1
  have f1 := h.f 1
  have t1 : decide ((2 : Int) ≤ (v : Int)) = false := by simp; omega
  have t2 : decide ((v : Int) ≤ 6) = true := by simp; omega
  go_enter Tryd.func70, Tryd.ntmps70
  go_wp2_with fail
  refine (next_ok B s k p _ h hk).mono ?_
  rw [hc]
  rintro e w' ⟨rfl, q1, rfl⟩
  go_wp2_with fail
  refine (hex_ok B s (k + 1) p v _ ((Rd.at (Rd.set1 (Rd.drewN (h) q1) ((k : Int) + 1)) (by omega : (k : Int) + 1 = ((k + 1 : Nat) : Int)))) hk1 hh).mono ?_
  rintro e w' ⟨rfl, q2, rfl⟩
  go_wp2_with fail
  refine (hex_none B s (k + 2) p _ ((Rd.at (Rd.set1 (Rd.drewN ((Rd.at (Rd.set1 (Rd.drewN (h) q1) ((k : Int) + 1)) (by omega : (k : Int) + 1 = ((k + 1 : Nat) : Int)))) q2) ((k : Int) + 2)) (by omega : (k : Int) + 2 = ((k + 2 : Nat) : Int)))) hk2).mono ?_
  rintro e w' ⟨rfl, q3, rfl⟩
  go_wp2
  exact ⟨rfl, rfl, (((((But.refl B w).drewN q1).setCell 1 (.int .i64 ((k : Int) + 1))).drewN q2).setCell 1 (.int .i64 ((k : Int) + 2))).drewN q3⟩
theorem esc_x4a (B : Nat) (s : ByteArray) (k : Nat) (p : Int) (w : World) (hS : s.size ≤ 140737488355328) (h : Rd w B s k p) (hk : k < s.size) (hc : bAt s k = 120) (hk1 : k + 1 < s.size) (v : Nat) (hh : hexI (bAt s (k + 1)) = some v) (hv : v < 2) (hk2 : k + 2 < s.size) (hl : hexI (bAt s (k + 2)) = none) : Calls Tryd.prog 70 #[.pointer (some ⟨B, 0, none⟩)] w fun e w' => e = .panicked (stuckV (((k + 2 : Nat) : Int))) ∧ But B w w' := by
  have c1 := h.c1
  have f1 := h.f 1
  have t1 : decide ((2 : Int) ≤ (v : Int)) = false := by simp; omega
  have t2 : decide ((v : Int) ≤ 6) = true := by simp; omega
  go_enter Tryd.func70, Tryd.ntmps70
  go_wp2_with fail
  refine (next_ok B s k p _ h hk).mono ?_
  rw [hc]
  rintro e w' ⟨rfl, q1, rfl⟩
  go_wp2_with fail
  refine (hex_ok B s (k + 1) p v _ ((Rd.at (Rd.set1 (Rd.drewN (h) q1) ((k : Int) + 1)) (by omega : (k : Int) + 1 = ((k + 1 : Nat) : Int)))) hk1 hh).mono ?_
  rintro e w' ⟨rfl, q2, rfl⟩
  go_wp2_with fail
  refine (hex_bad B s (k + 2) p _ ((Rd.at (Rd.set1 (Rd.drewN ((Rd.at (Rd.set1 (Rd.drewN (h) q1) ((k : Int) + 1)) (by omega : (k : Int) + 1 = ((k + 1 : Nat) : Int)))) q2) ((k : Int) + 2)) (by omega : (k : Int) + 2 = ((k + 2 : Nat) : Int)))) hk2 hl).mono ?_
  rintro e w' ⟨rfl, q3, rfl⟩
  go_wp2
  exact ⟨rfl, rfl, (((((But.refl B w).drewN q1).setCell 1 (.int .i64 ((k : Int) + 1))).drewN q2).setCell 1 (.int .i64 ((k : Int) + 2))).drewN q3⟩
theorem esc_x3b (B : Nat) (s : ByteArray) (k : Nat) (p : Int) (w : World) (hS : s.size ≤ 140737488355328) (h : Rd w B s k p) (hk : k < s.size) (hc : bAt s k = 120) (hk1 : k + 1 < s.size) (v : Nat) (hh : hexI (bAt s (k + 1)) = some v) (hv : 7 ≤ v) (hk2 : ¬ k + 2 < s.size) : Calls Tryd.prog 70 #[.pointer (some ⟨B, 0, none⟩)] w fun e w' => e = .panicked (stuckV (s.size)) ∧ But B w w' := by
  have c1 := h.c1
  have f1 := h.f 1
  have t1 : decide ((2 : Int) ≤ (v : Int)) = true := by simp; omega
  have t2 : decide ((v : Int) ≤ 6) = false := by simp; omega
  go_enter Tryd.func70, Tryd.ntmps70
  go_wp2_with fail
  refine (next_ok B s k p _ h hk).mono ?_
  rw [hc]
  rintro e w' ⟨rfl, q1, rfl⟩
  go_wp2_with fail
  refine (hex_ok B s (k + 1) p v _ ((Rd.at (Rd.set1 (Rd.drewN (h) q1) ((k : Int) + 1)) (by omega : (k : Int) + 1 = ((k + 1 : Nat) : Int)))) hk1 hh).mono ?_
  rintro e w' ⟨rfl, q2, rfl⟩
  go_wp2_with fail
  refine (hex_none B s (k + 2) p _ ((Rd.at (Rd.set1 (Rd.drewN ((Rd.at (Rd.set1 (Rd.drewN (h) q1) ((k : Int) + 1)) (by omega : (k : Int) + 1 = ((k + 1 : Nat) : Int)))) q2) ((k : Int) + 2)) (by omega : (k : Int) + 2 = ((k + 2 : Nat) : Int)))) hk2).mono ?_
  rintro e w' ⟨rfl, q3, rfl⟩
  go_wp2
  exact ⟨rfl, rfl, (((((But.refl B w).drewN q1).setCell 1 (.int .i64 ((k : Int) + 1))).drewN q2).setCell 1 (.int .i64 ((k : Int) + 2))).drewN q3⟩
theorem esc_x4b (B : Nat) (s : ByteArray) (k : Nat) (p : Int) (w : World) (hS : s.size ≤ 140737488355328) (h : Rd w B s k p) (hk : k < s.size) (hc : bAt s k = 120) (hk1 : k + 1 < s.size) (v : Nat) (hh : hexI (bAt s (k + 1)) = some v) (hv : 7 ≤ v) (hk2 : k + 2 < s.size) (hl : hexI (bAt s (k + 2)) = none) : Calls Tryd.prog 70 #[.pointer (some ⟨B, 0, none⟩)] w fun e w' => e = .panicked (stuckV (((k + 2 : Nat) : Int))) ∧ But B w w' := by
  have c1 := h.c1
  have f1 := h.f 1
  have t1 : decide ((2 : Int) ≤ (v : Int)) = true := by simp; omega
  have t2 : decide ((v : Int) ≤ 6) = false := by simp; omega
  go_enter Tryd.func70, Tryd.ntmps70
  go_wp2_with fail
  refine (next_ok B s k p _ h hk).mono ?_
  rw [hc]
  rintro e w' ⟨rfl, q1, rfl⟩
  go_wp2_with fail
  refine (hex_ok B s (k + 1) p v _ ((Rd.at (Rd.set1 (Rd.drewN (h) q1) ((k : Int) + 1)) (by omega : (k : Int) + 1 = ((k + 1 : Nat) : Int)))) hk1 hh).mono ?_
  rintro e w' ⟨rfl, q2, rfl⟩
  go_wp2_with fail
  refine (hex_bad B s (k + 2) p _ ((Rd.at (Rd.set1 (Rd.drewN ((Rd.at (Rd.set1 (Rd.drewN (h) q1) ((k : Int) + 1)) (by omega : (k : Int) + 1 = ((k + 1 : Nat) : Int)))) q2) ((k : Int) + 2)) (by omega : (k : Int) + 2 = ((k + 2 : Nat) : Int)))) hk2 hl).mono ?_
  rintro e w' ⟨rfl, q3, rfl⟩
  go_wp2
  exact ⟨rfl, rfl, (((((But.refl B w).drewN q1).setCell 1 (.int .i64 ((k : Int) + 1))).drewN q2).setCell 1 (.int .i64 ((k : Int) + 2))).drewN q3⟩
theorem esc_x5a (B : Nat) (s : ByteArray) (k : Nat) (p : Int) (w : World) (hS : s.size ≤ 140737488355328) (h : Rd w B s k p) (hk : k < s.size) (hc : bAt s k = 120) (hk1 : k + 1 < s.size) (v : Nat) (hh : hexI (bAt s (k + 1)) = some v) (hv : v = 0) (hk2 : k + 2 < s.size) (l : Nat) (hl : hexI (bAt s (k + 2)) = some l) (hl10 : l = 10) : Calls Tryd.prog 70 #[.pointer (some ⟨B, 0, none⟩)] w fun e w' => e = .panicked (stuckV (((k + 2 : Nat) : Int))) ∧ But B w w' := by
  have c1 := h.c1
  have f1 := h.f 1
  have t1 : decide ((2 : Int) ≤ (v : Int)) = false := by simp; omega
  have t2 : decide ((v : Int) ≤ 6) = true := by simp; omega
  have ev0 : ((v : Int) == 0) = true := by simp; omega
  have el10 : ((l : Int) == 10) = true := by simp; omega
  go_enter Tryd.func70, Tryd.ntmps70
  go_wp2_with fail
  refine (next_ok B s k p _ h hk).mono ?_
  rw [hc]
  rintro e w' ⟨rfl, q1, rfl⟩
  go_wp2_with fail
  refine (hex_ok B s (k + 1) p v _ ((Rd.at (Rd.set1 (Rd.drewN (h) q1) ((k : Int) + 1)) (by omega : (k : Int) + 1 = ((k + 1 : Nat) : Int)))) hk1 hh).mono ?_
  rintro e w' ⟨rfl, q2, rfl⟩
  go_wp2_with fail
  refine (hex_ok B s (k + 2) p l _ ((Rd.at (Rd.set1 (Rd.drewN ((Rd.at (Rd.set1 (Rd.drewN (h) q1) ((k : Int) + 1)) (by omega : (k : Int) + 1 = ((k + 1 : Nat) : Int)))) q2) ((k : Int) + 2)) (by omega : (k : Int) + 2 = ((k + 2 : Nat) : Int)))) hk2 hl).mono ?_
  rintro e w' ⟨rfl, q3, rfl⟩
  go_wp2_with fail
  refine (wrong_any B s ((k + 2 : Nat) : Int) p _ (Rd.drewN ((Rd.at (Rd.set1 (Rd.drewN ((Rd.at (Rd.set1 (Rd.drewN (h) q1) ((k : Int) + 1)) (by omega : (k : Int) + 1 = ((k + 1 : Nat) : Int)))) q2) ((k : Int) + 2)) (by omega : (k : Int) + 2 = ((k + 2 : Nat) : Int)))) q3)).mono ?_
  rintro e w' ⟨rfl, rfl⟩
  go_wp2
  exact ⟨rfl, rfl, (((((But.refl B w).drewN q1).setCell 1 (.int .i64 ((k : Int) + 1))).drewN q2).setCell 1 (.int .i64 ((k : Int) + 2))).drewN q3⟩
theorem esc_x5b (B : Nat) (s : ByteArray) (k : Nat) (p : Int) (w : World) (hS : s.size ≤ 140737488355328) (h : Rd w B s k p) (hk : k < s.size) (hc : bAt s k = 120) (hk1 : k + 1 < s.size) (v : Nat) (hh : hexI (bAt s (k + 1)) = some v) (hv : v = 7) (hk2 : k + 2 < s.size) (l : Nat) (hl : hexI (bAt s (k + 2)) = some l) (hl15 : l ≠ 15) : Calls Tryd.prog 70 #[.pointer (some ⟨B, 0, none⟩)] w fun e w' => e = .panicked (stuckV (((k + 2 : Nat) : Int))) ∧ But B w w' := by
  have c1 := h.c1
  have f1 := h.f 1
  have t1 : decide ((2 : Int) ≤ (v : Int)) = true := by simp; omega
  have t2 : decide ((v : Int) ≤ 6) = false := by simp; omega
  have ev0 : ((v : Int) == 0) = false := by simp; omega
  have ev7 : ((v : Int) == 7) = true := by simp; omega
  have nl15 : ((l : Int) != 15) = true := by simp; omega
  go_enter Tryd.func70, Tryd.ntmps70
  go_wp2_with fail
  refine (next_ok B s k p _ h hk).mono ?_
  rw [hc]
  rintro e w' ⟨rfl, q1, rfl⟩
  go_wp2_with fail
  refine (hex_ok B s (k + 1) p v _ ((Rd.at (Rd.set1 (Rd.drewN (h) q1) ((k : Int) + 1)) (by omega : (k : Int) + 1 = ((k + 1 : Nat) : Int)))) hk1 hh).mono ?_
  rintro e w' ⟨rfl, q2, rfl⟩
  go_wp2_with fail
  refine (hex_ok B s (k + 2) p l _ ((Rd.at (Rd.set1 (Rd.drewN ((Rd.at (Rd.set1 (Rd.drewN (h) q1) ((k : Int) + 1)) (by omega : (k : Int) + 1 = ((k + 1 : Nat) : Int)))) q2) ((k : Int) + 2)) (by omega : (k : Int) + 2 = ((k + 2 : Nat) : Int)))) hk2 hl).mono ?_
  rintro e w' ⟨rfl, q3, rfl⟩
  go_wp2_with fail
  refine (wrong_any B s ((k + 2 : Nat) : Int) p _ (Rd.drewN ((Rd.at (Rd.set1 (Rd.drewN ((Rd.at (Rd.set1 (Rd.drewN (h) q1) ((k : Int) + 1)) (by omega : (k : Int) + 1 = ((k + 1 : Nat) : Int)))) q2) ((k : Int) + 2)) (by omega : (k : Int) + 2 = ((k + 2 : Nat) : Int)))) q3)).mono ?_
  rintro e w' ⟨rfl, rfl⟩
  go_wp2
  exact ⟨rfl, rfl, (((((But.refl B w).drewN q1).setCell 1 (.int .i64 ((k : Int) + 1))).drewN q2).setCell 1 (.int .i64 ((k : Int) + 2))).drewN q3⟩
theorem esc_x6a (B : Nat) (s : ByteArray) (k : Nat) (p : Int) (w : World) (hS : s.size ≤ 140737488355328) (h : Rd w B s k p) (hk : k < s.size) (hc : bAt s k = 120) (hk1 : k + 1 < s.size) (v : Nat) (hh : hexI (bAt s (k + 1)) = some v) (hv : v = 0) (hk2 : k + 2 < s.size) (l : Nat) (hl : hexI (bAt s (k + 2)) = some l) (hl10 : l ≠ 10) (hv16 : v < 16) (hl16 : l < 16) : Calls Tryd.prog 70 #[.pointer (some ⟨B, 0, none⟩)] w fun e w' => e = .returned (.int .u8 (((16 * v + l : Nat) : Int))) ∧ Rd w' B s ((k + 3 : Nat) : Int) p ∧ But B w w' := by
  have c1 := h.c1
  have f1 := h.f 1
  have t1 : decide ((2 : Int) ≤ (v : Int)) = false := by simp; omega
  have t2 : decide ((v : Int) ≤ 6) = true := by simp; omega
  have ev0 : ((v : Int) == 0) = true := by simp; omega
  have el10 : ((l : Int) == 10) = false := by simp; omega
  have ev7 : ((v : Int) == 7) = false := by simp; omega
  have Hv := Lib.hid hv
  clear hv
  go_enter Tryd.func70, Tryd.ntmps70
  go_wp2_with fail
  refine (next_ok B s k p _ h hk).mono ?_
  rw [hc]
  rintro e w' ⟨rfl, q1, rfl⟩
  go_wp2_with fail
  refine (hex_ok B s (k + 1) p v _ ((Rd.at (Rd.set1 (Rd.drewN (h) q1) ((k : Int) + 1)) (by omega : (k : Int) + 1 = ((k + 1 : Nat) : Int)))) hk1 hh).mono ?_
  rintro e w' ⟨rfl, q2, rfl⟩
  go_wp2_with fail
  refine (hex_ok B s (k + 2) p l _ ((Rd.at (Rd.set1 (Rd.drewN ((Rd.at (Rd.set1 (Rd.drewN (h) q1) ((k : Int) + 1)) (by omega : (k : Int) + 1 = ((k + 1 : Nat) : Int)))) q2) ((k : Int) + 2)) (by omega : (k : Int) + 2 = ((k + 2 : Nat) : Int)))) hk2 hl).mono ?_
  rintro e w' ⟨rfl, q3, rfl⟩
  go_wp2
  go_ret
  exact ⟨congrArg (fun x : Int => Ending.returned (Value.int .u8 x)) (or_val v l hv16 hl16), (Rd.at (Rd.set1 (Rd.drewN ((Rd.at (Rd.set1 (Rd.drewN ((Rd.at (Rd.set1 (Rd.drewN (h) q1) ((k : Int) + 1)) (by omega : (k : Int) + 1 = ((k + 1 : Nat) : Int)))) q2) ((k : Int) + 2)) (by omega : (k : Int) + 2 = ((k + 2 : Nat) : Int)))) q3) ((k : Int) + 2 + 1)) (by omega : (k : Int) + 2 + 1 = ((k + 3 : Nat) : Int))), ((((((But.refl B w).drewN q1).setCell 1 (.int .i64 ((k : Int) + 1))).drewN q2).setCell 1 (.int .i64 ((k : Int) + 2))).drewN q3).setCell 1 (.int .i64 ((k : Int) + 2 + 1))⟩
theorem esc_x6b (B : Nat) (s : ByteArray) (k : Nat) (p : Int) (w : World) (hS : s.size ≤ 140737488355328) (h : Rd w B s k p) (hk : k < s.size) (hc : bAt s k = 120) (hk1 : k + 1 < s.size) (v : Nat) (hh : hexI (bAt s (k + 1)) = some v) (hv : v = 1) (hk2 : k + 2 < s.size) (l : Nat) (hl : hexI (bAt s (k + 2)) = some l) (hv16 : v < 16) (hl16 : l < 16) : Calls Tryd.prog 70 #[.pointer (some ⟨B, 0, none⟩)] w fun e w' => e = .returned (.int .u8 (((16 * v + l : Nat) : Int))) ∧ Rd w' B s ((k + 3 : Nat) : Int) p ∧ But B w w' := by
  have c1 := h.c1
  have f1 := h.f 1
  have t1 : decide ((2 : Int) ≤ (v : Int)) = false := by simp; omega
  have t2 : decide ((v : Int) ≤ 6) = true := by simp; omega
  have ev0 : ((v : Int) == 0) = false := by simp; omega
  have ev7 : ((v : Int) == 7) = false := by simp; omega
  have Hv := Lib.hid hv
  clear hv
  go_enter Tryd.func70, Tryd.ntmps70
  go_wp2_with fail
  refine (next_ok B s k p _ h hk).mono ?_
  rw [hc]
  rintro e w' ⟨rfl, q1, rfl⟩
  go_wp2_with fail
  refine (hex_ok B s (k + 1) p v _ ((Rd.at (Rd.set1 (Rd.drewN (h) q1) ((k : Int) + 1)) (by omega : (k : Int) + 1 = ((k + 1 : Nat) : Int)))) hk1 hh).mono ?_
  rintro e w' ⟨rfl, q2, rfl⟩
  go_wp2_with fail
  refine (hex_ok B s (k + 2) p l _ ((Rd.at (Rd.set1 (Rd.drewN ((Rd.at (Rd.set1 (Rd.drewN (h) q1) ((k : Int) + 1)) (by omega : (k : Int) + 1 = ((k + 1 : Nat) : Int)))) q2) ((k : Int) + 2)) (by omega : (k : Int) + 2 = ((k + 2 : Nat) : Int)))) hk2 hl).mono ?_
  rintro e w' ⟨rfl, q3, rfl⟩
  go_wp2
  go_ret
  exact ⟨congrArg (fun x : Int => Ending.returned (Value.int .u8 x)) (or_val v l hv16 hl16), (Rd.at (Rd.set1 (Rd.drewN ((Rd.at (Rd.set1 (Rd.drewN ((Rd.at (Rd.set1 (Rd.drewN (h) q1) ((k : Int) + 1)) (by omega : (k : Int) + 1 = ((k + 1 : Nat) : Int)))) q2) ((k : Int) + 2)) (by omega : (k : Int) + 2 = ((k + 2 : Nat) : Int)))) q3) ((k : Int) + 2 + 1)) (by omega : (k : Int) + 2 + 1 = ((k + 3 : Nat) : Int))), ((((((But.refl B w).drewN q1).setCell 1 (.int .i64 ((k : Int) + 1))).drewN q2).setCell 1 (.int .i64 ((k : Int) + 2))).drewN q3).setCell 1 (.int .i64 ((k : Int) + 2 + 1))⟩
theorem esc_x6c (B : Nat) (s : ByteArray) (k : Nat) (p : Int) (w : World) (hS : s.size ≤ 140737488355328) (h : Rd w B s k p) (hk : k < s.size) (hc : bAt s k = 120) (hk1 : k + 1 < s.size) (v : Nat) (hh : hexI (bAt s (k + 1)) = some v) (hv : v = 7) (hk2 : k + 2 < s.size) (l : Nat) (hl : hexI (bAt s (k + 2)) = some l) (hl15 : l = 15) (hv16 : v < 16) (hl16 : l < 16) : Calls Tryd.prog 70 #[.pointer (some ⟨B, 0, none⟩)] w fun e w' => e = .returned (.int .u8 (((16 * v + l : Nat) : Int))) ∧ Rd w' B s ((k + 3 : Nat) : Int) p ∧ But B w w' := by
  have c1 := h.c1
  have f1 := h.f 1
  have t1 : decide ((2 : Int) ≤ (v : Int)) = true := by simp; omega
  have t2 : decide ((v : Int) ≤ 6) = false := by simp; omega
  have ev0 : ((v : Int) == 0) = false := by simp; omega
  have ev7 : ((v : Int) == 7) = true := by simp; omega
  have nl15 : ((l : Int) != 15) = false := by simp; omega
  have Hv := Lib.hid hv
  clear hv
  have Hl := Lib.hid hl15
  clear hl15
  go_enter Tryd.func70, Tryd.ntmps70
  go_wp2_with fail
  refine (next_ok B s k p _ h hk).mono ?_
  rw [hc]
  rintro e w' ⟨rfl, q1, rfl⟩
  go_wp2_with fail
  refine (hex_ok B s (k + 1) p v _ ((Rd.at (Rd.set1 (Rd.drewN (h) q1) ((k : Int) + 1)) (by omega : (k : Int) + 1 = ((k + 1 : Nat) : Int)))) hk1 hh).mono ?_
  rintro e w' ⟨rfl, q2, rfl⟩
  go_wp2_with fail
  refine (hex_ok B s (k + 2) p l _ ((Rd.at (Rd.set1 (Rd.drewN ((Rd.at (Rd.set1 (Rd.drewN (h) q1) ((k : Int) + 1)) (by omega : (k : Int) + 1 = ((k + 1 : Nat) : Int)))) q2) ((k : Int) + 2)) (by omega : (k : Int) + 2 = ((k + 2 : Nat) : Int)))) hk2 hl).mono ?_
  rintro e w' ⟨rfl, q3, rfl⟩
  go_wp2
  go_ret
  exact ⟨congrArg (fun x : Int => Ending.returned (Value.int .u8 x)) (or_val v l hv16 hl16), (Rd.at (Rd.set1 (Rd.drewN ((Rd.at (Rd.set1 (Rd.drewN ((Rd.at (Rd.set1 (Rd.drewN (h) q1) ((k : Int) + 1)) (by omega : (k : Int) + 1 = ((k + 1 : Nat) : Int)))) q2) ((k : Int) + 2)) (by omega : (k : Int) + 2 = ((k + 2 : Nat) : Int)))) q3) ((k : Int) + 2 + 1)) (by omega : (k : Int) + 2 + 1 = ((k + 3 : Nat) : Int))), ((((((But.refl B w).drewN q1).setCell 1 (.int .i64 ((k : Int) + 1))).drewN q2).setCell 1 (.int .i64 ((k : Int) + 2))).drewN q3).setCell 1 (.int .i64 ((k : Int) + 2 + 1))⟩
theorem esc_x6d (B : Nat) (s : ByteArray) (k : Nat) (p : Int) (w : World) (hS : s.size ≤ 140737488355328) (h : Rd w B s k p) (hk : k < s.size) (hc : bAt s k = 120) (hk1 : k + 1 < s.size) (v : Nat) (hh : hexI (bAt s (k + 1)) = some v) (hv : 8 ≤ v) (hk2 : k + 2 < s.size) (l : Nat) (hl : hexI (bAt s (k + 2)) = some l) (hv16 : v < 16) (hl16 : l < 16) : Calls Tryd.prog 70 #[.pointer (some ⟨B, 0, none⟩)] w fun e w' => e = .returned (.int .u8 (((16 * v + l : Nat) : Int))) ∧ Rd w' B s ((k + 3 : Nat) : Int) p ∧ But B w w' := by
  have c1 := h.c1
  have f1 := h.f 1
  have t1 : decide ((2 : Int) ≤ (v : Int)) = true := by simp; omega
  have t2 : decide ((v : Int) ≤ 6) = false := by simp; omega
  have ev0 : ((v : Int) == 0) = false := by simp; omega
  have ev7 : ((v : Int) == 7) = false := by simp; omega
  have Hv := Lib.hid hv
  clear hv
  go_enter Tryd.func70, Tryd.ntmps70
  go_wp2_with fail
  refine (next_ok B s k p _ h hk).mono ?_
  rw [hc]
  rintro e w' ⟨rfl, q1, rfl⟩
  go_wp2_with fail
  refine (hex_ok B s (k + 1) p v _ ((Rd.at (Rd.set1 (Rd.drewN (h) q1) ((k : Int) + 1)) (by omega : (k : Int) + 1 = ((k + 1 : Nat) : Int)))) hk1 hh).mono ?_
  rintro e w' ⟨rfl, q2, rfl⟩
  go_wp2_with fail
  refine (hex_ok B s (k + 2) p l _ ((Rd.at (Rd.set1 (Rd.drewN ((Rd.at (Rd.set1 (Rd.drewN (h) q1) ((k : Int) + 1)) (by omega : (k : Int) + 1 = ((k + 1 : Nat) : Int)))) q2) ((k : Int) + 2)) (by omega : (k : Int) + 2 = ((k + 2 : Nat) : Int)))) hk2 hl).mono ?_
  rintro e w' ⟨rfl, q3, rfl⟩
  go_wp2
  go_ret
  exact ⟨congrArg (fun x : Int => Ending.returned (Value.int .u8 x)) (or_val v l hv16 hl16), (Rd.at (Rd.set1 (Rd.drewN ((Rd.at (Rd.set1 (Rd.drewN ((Rd.at (Rd.set1 (Rd.drewN (h) q1) ((k : Int) + 1)) (by omega : (k : Int) + 1 = ((k + 1 : Nat) : Int)))) q2) ((k : Int) + 2)) (by omega : (k : Int) + 2 = ((k + 2 : Nat) : Int)))) q3) ((k : Int) + 2 + 1)) (by omega : (k : Int) + 2 + 1 = ((k + 3 : Nat) : Int))), ((((((But.refl B w).drewN q1).setCell 1 (.int .i64 ((k : Int) + 1))).drewN q2).setCell 1 (.int .i64 ((k : Int) + 2))).drewN q3).setCell 1 (.int .i64 ((k : Int) + 2 + 1))⟩
/-- What a backslash at place k - 1 is followed by: the byte that is meant and where it ends, or where it goes wrong. -/
theorem esc_other (B : Nat) (s : ByteArray) (k : Nat) (p : Int) (w : World) (_hS : s.size ≤ 140737488355328) (h : Rd w B s k p) (hk : k < s.size) (hb1 : ((bAt s k) == 34) = false) (hb2 : ((bAt s k) == 92) = false) (hb3 : ((bAt s k) == 110) = false) (hb4 : ((bAt s k) == 120) = false) : Calls Tryd.prog 70 #[.pointer (some ⟨B, 0, none⟩)] w fun e w' => e = .panicked (stuckV ((k : Int))) ∧ But B w w' := by
  have c1 := h.c1
  have f1 := h.f 1
  go_enter Tryd.func70, Tryd.ntmps70
  go_wp2_with fail
  refine (next_ok B s k p _ h hk).mono ?_
  rintro e w' ⟨rfl, q1, rfl⟩
  go_wp2_with fail
  refine (wrong_any B s k p _ (Rd.drewN (h) q1)).mono ?_
  rintro e w' ⟨rfl, rfl⟩
  go_wp2
  exact ⟨rfl, rfl, (But.refl B w).drewN q1⟩
theorem esc_any (B : Nat) (s : ByteArray) (k : Nat) (p : Int) (w : World) (hS : s.size ≤ 140737488355328) (h : Rd w B s k p) : Calls Tryd.prog 70 #[.pointer (some ⟨B, 0, none⟩)] w fun e w' => (match escF s k with | .ok (x, k') => e = .returned (.int .u8 x) ∧ Rd w' B s (k' : Int) p | .error q => e = .panicked (stuckV (q : Int))) ∧ But B w w' := by
  by_cases hk : k < s.size
  · by_cases c1 : bAt s k = 34
    · rw [show escF s k = .ok (34, k + 1) by simp [escF, hk, c1]]
      exact (esc_quote B s k p w hS h hk c1).mono fun e w' ⟨a, b, c⟩ => ⟨⟨a, b⟩, c⟩
    · by_cases c2 : bAt s k = 92
      · rw [show escF s k = .ok (92, k + 1) by simp [escF, hk, c2]]
        exact (esc_slash B s k p w hS h hk c2).mono fun e w' ⟨a, b, c⟩ => ⟨⟨a, b⟩, c⟩
      · by_cases c3 : bAt s k = 110
        · rw [show escF s k = .ok (10, k + 1) by simp [escF, hk, c3]]
          exact (esc_n B s k p w hS h hk c3).mono fun e w' ⟨a, b, c⟩ => ⟨⟨a, b⟩, c⟩
        · by_cases c4 : bAt s k = 120
          · by_cases hk1 : k + 1 < s.size
            · cases hh : hexI (bAt s (k + 1)) with
              | none =>
                rw [show escF s k = .error (k + 1) by simp [escF, hk, c4, hk1, hh]]
                exact esc_x1 B s k p w hS h hk c4 hk1 hh
              | some v =>
                have hv16 := hexI_lt _ v hh
                by_cases hv : 2 ≤ v ∧ v ≤ 6
                · rw [show escF s k = .error (k + 1) by simp [escF, hk, c4, hk1, hh, hv]]
                  exact esc_x2 B s k p w hS h hk c4 hk1 v hh hv.1 hv.2
                · by_cases hk2 : k + 2 < s.size
                  · cases hl : hexI (bAt s (k + 2)) with
                    | none =>
                      rw [show escF s k = .error (k + 2) by simp [escF, hk, c4, hk1, hh, hv, hk2, hl]]
                      rcases Nat.lt_or_ge v 2 with h2 | h2
                      · exact esc_x4a B s k p w hS h hk c4 hk1 v hh h2 hk2 hl
                      · exact esc_x4b B s k p w hS h hk c4 hk1 v hh (by omega) hk2 hl
                    | some l =>
                      have hl16 := hexI_lt _ l hl
                      by_cases hx : v = 0 ∧ l = 10 ∨ v = 7 ∧ l ≠ 15
                      · rw [show escF s k = .error (k + 2) by simp [escF, hk, c4, hk1, hh, hv, hk2, hl, hx]]
                        rcases hx with ⟨h1, h2⟩ | ⟨h1, h2⟩
                        · exact esc_x5a B s k p w hS h hk c4 hk1 v hh h1 hk2 l hl h2
                        · exact esc_x5b B s k p w hS h hk c4 hk1 v hh h1 hk2 l hl h2
                      · rw [show escF s k = .ok (((16 * v + l : Nat) : Int), k + 3) by simp [escF, hk, c4, hk1, hh, hv, hk2, hl, hx]]
                        have hvs : v = 0 ∨ v = 1 ∨ v = 7 ∨ 8 ≤ v := by omega
                        rcases hvs with h1 | h1 | h1 | h1
                        · exact (esc_x6a B s k p w hS h hk c4 hk1 v hh h1 hk2 l hl (by omega) hv16 hl16).mono fun e w' ⟨a, b, c⟩ => ⟨⟨a, b⟩, c⟩
                        · exact (esc_x6b B s k p w hS h hk c4 hk1 v hh h1 hk2 l hl hv16 hl16).mono fun e w' ⟨a, b, c⟩ => ⟨⟨a, b⟩, c⟩
                        · exact (esc_x6c B s k p w hS h hk c4 hk1 v hh h1 hk2 l hl (by omega) hv16 hl16).mono fun e w' ⟨a, b, c⟩ => ⟨⟨a, b⟩, c⟩
                        · exact (esc_x6d B s k p w hS h hk c4 hk1 v hh h1 hk2 l hl hv16 hl16).mono fun e w' ⟨a, b, c⟩ => ⟨⟨a, b⟩, c⟩
                  · rw [show escF s k = .error s.size by simp [escF, hk, c4, hk1, hh, hv, hk2]]
                    rcases Nat.lt_or_ge v 2 with h2 | h2
                    · exact esc_x3a B s k p w hS h hk c4 hk1 v hh h2 hk2
                    · exact esc_x3b B s k p w hS h hk c4 hk1 v hh (by omega) hk2
            · rw [show escF s k = .error s.size by simp [escF, hk, c4, hk1]]
              exact esc_x0 B s k p w hS h hk c4 hk1
          · rw [show escF s k = .error k by simp [escF, hk, c1, c2, c3, c4]]
            exact esc_other B s k p w hS h hk (by simpa using c1) (by simpa using c2) (by simpa using c3) (by simpa using c4)
  · rw [show escF s k = .error s.size by simp [escF, hk]]
    exact esc_end B s k p w hS h hk
end Go.Proofs.YtmiipfdndgjndaaDoor
