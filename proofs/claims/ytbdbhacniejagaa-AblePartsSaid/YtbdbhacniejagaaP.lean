/- Contracts of the reference's Each and Within: a list of the call's own. -/
import Derived.Test.YtbdbhacniejagaaH
import Derived.Test.YtbdbhacniejagaaK
import Derived.Test.YtbdbhacniejagaaI
namespace Go.Proofs.Ytbdbhacniejagaa
open Go.RowKit Go.Shelf
set_option maxHeartbeats 1000000
theorem upto_inB (a : Int) (k : Nat) (hk : k < 6) : upto a (k + 1) = upto a k ++ (if inB a k then [⟨k, hk⟩] else []) := by
  rw [upto_succ a k hk]
  unfold inB
  cases bits .and .u8 a (2 ^ k) == 0 <;> rfl
def vals6 (l : List (Fin 6)) : List Value := l.map fun k => .int .u8 (2 ^ k.val)
set_option maxRecDepth 100000 in
theorem refEach_any (a : Int) (w : World) : Calls Try.prog 34 #[.int .u8 a] w fun e w' => ∃ v, e = .returned v ∧ w'.ownsRow w.heap.size 22 1 v (upto a 6).length (vals6 (upto a 6)) ∧ Below w.heap.size w w' := by
  obtain ⟨i0, hi, hz0, hz1, hz2⟩ := info_parts info22
  go_enter Try.func34, Try.ntmps34
  go_wp2
  go_loopw [3, 4] (fun v i wr => ∃ k : Nat, k ≤ 6 ∧ i = .int .i64 k ∧ wr.ownsRow w.heap.size 22 1 v (upto a k).length (vals6 (upto a k)) ∧ Below w.heap.size w wr) (fun _ i _ => 6 - (intOf i).toNat)
  case atStart => exact ⟨0, by omega, rfl, by rw [upto_zero]; exact World.ownsRow_nil _ _ _ _, Below.refl _ _⟩
  case round =>
    obtain ⟨k, hk, rfl, hown, hB⟩ := hrel
    by_cases hlt : k < 6
    · have hl := upto_len a k hk
      have hsz := hB.size
      cases hin : inB a k with
      | true =>
        have Hn := Lib.hid (show upto a (k + 1) = upto a k ++ [⟨k, hlt⟩] by rw [upto_inB a k hlt, hin]; rfl)
        have Hown := Lib.hid hown
        clear hown
        go_wp2_with (first
          | (go_at_call 43; refine (refIn_any a k hlt _).mono ?_; rintro e w' ⟨rfl, rfl⟩)
          | (go_at_call 41; refine (refbit_any k hlt _).mono ?_; rintro e w' ⟨rfl, rfl⟩)
          | (at_builtin; refine wpList_append_own _ rfl _ _ 33 rfl w.heap.size 22 i0 (.int .u8 0) 1 1 Try.underlying33 hi hz0 hz1 hz2 rfl (by decide) _ (upto a k).length (vals6 (upto a k)) rfl (Hown.out.alloc _) ⟨wr.heap.size, 0, none⟩ 1 1 [.int .u8 (2 ^ k)] rfl rfl (cell_one_new _ _ _) (by simp [Value.oneCell']) (by unfold maxLen; omega) (by omega) (by simp; omega) ?_; intro v' w1 hown1 hgrow1 _; have HO1 := Lib.hid hown1; have HG1 := Lib.hid hgrow1; clear hown1 hgrow1))
        refine ⟨⟨k + 1, by omega, by go_num, ?_, ?_⟩, by simp [intOf]; omega⟩
        · rw [Hn.out, List.length_append]
          simpa [vals6] using HO1.out
        · exact (hB.alloc hsz _).grown HG1.out (by simp; omega) (fun j e => (Hown.out.lt j e).1)
      | false =>
        have Hn := Lib.hid (show upto a (k + 1) = upto a k by rw [upto_inB a k hlt, hin]; simp)
        go_wp2_with (go_at_call 43; refine (refIn_any a k hlt _).mono ?_; rintro e w' ⟨rfl, rfl⟩)
        exact ⟨⟨k + 1, by omega, by go_num, by rw [Hn.out]; exact hown, hB⟩, by simp [intOf]; omega⟩
    · obtain rfl : k = 6 := by omega
      go_wp2
      go_ret
      exact ⟨_, rfl, hown, hB⟩
def vals64 (l : List (Fin 64)) : List Value := l.map fun k => .int .u8 (k.val : Int)
theorem subBits : ((List.range 64).all fun m => (List.range 64).all fun b => (Nat.beq ((b &&& (2 ^ 8 - (m + 1))) &&& 63) 0) == Nat.beq (Nat.land b m) b) = true := by decide +kernel
theorem inB_mod (a : Int) (m k : Nat) (h0 : 0 ≤ a) (h1 : a ≤ 255) (hm : a % 64 = (m : Int)) (hk : k < 6) : inB a k = inB (m : Int) k := by
  have ha : a = ((a.toNat : Nat) : Int) := by omega
  rw [ha, inB_bit a.toNat k (by omega) hk, inB_bit m k (by omega) hk, show m = a.toNat % 2 ^ 6 by omega, Nat.testBit_mod_two_pow]
  simp [hk]
theorem hasFrom_mod (a : Int) (m : Nat) (b : Int) (h0 : 0 ≤ a) (h1 : a ≤ 255) (hm : a % 64 = (m : Int)) (d : Nat) : ∀ k, k + d = 6 → hasFrom a b d k = hasFrom (m : Int) b d k := by
  induction d with
  | zero => intro k _; rfl
  | succ d ih =>
    intro k hk
    simp only [hasFrom]
    rw [inB_mod a m k h0 h1 hm (by omega), ih (k + 1) (by omega)]
theorem has_subs (a : Int) (m b : Nat) (h0 : 0 ≤ a) (h1 : a ≤ 255) (hm : a % 64 = (m : Int)) (hb : b < 64) : hasFrom a (b : Int) 6 0 = Nat.beq (Nat.land b m) b := by
  have hm64 : m < 64 := by omega
  rw [hasFrom_mod a m b h0 h1 hm 6 0 rfl, ← has_nat m b (by omega) (by omega), bits_andNot b m (by omega) (by omega)]
  have h2 := bits_and (b &&& (2 ^ 8 - (m + 1))) 63 (Nat.lt_of_le_of_lt Nat.and_le_left (by omega)) (by omega)
  rw [show ((63 : Nat) : Int) = 63 from rfl] at h2
  rw [h2]
  have h3 := all64 (p := fun b => (Nat.beq ((b &&& (2 ^ 8 - (m + 1))) &&& 63) 0) == Nat.beq (Nat.land b m) b) (all64 (p := fun m => (List.range 64).all fun b => (Nat.beq ((b &&& (2 ^ 8 - (m + 1))) &&& 63) 0) == Nat.beq (Nat.land b m) b) subBits m hm64) b hb
  rw [beq_iff_eq] at h3
  rw [← h3, Bool.eq_iff_iff]
  simp
def succOk (m b : Nat) : Bool := subs m (b + 1) == subs m b ++ (if Nat.beq (Nat.land b m) b then (if h : b < 64 then [⟨b, h⟩] else []) else [])
theorem succ_ok : ((List.range 64).all fun m => (List.range 64).all fun b => succOk m b) = true := by decide +kernel
theorem subs_succ (m b : Nat) (hm : m < 64) (hb : b < 64) : subs m (b + 1) = subs m b ++ (if Nat.beq (Nat.land b m) b then [⟨b, hb⟩] else []) := by
  have h := all64 (p := fun b => succOk m b) (all64 (p := fun m => (List.range 64).all fun b => succOk m b) succ_ok m hm) b hb
  simp only [succOk, beq_iff_eq] at h
  rw [dif_pos hb] at h
  exact h
set_option maxRecDepth 100000 in
theorem refWithin_any (a : Int) (m : Nat) (h0 : 0 ≤ a) (h1 : a ≤ 255) (ham : a % 64 = (m : Int)) (hm : m < 64) (w : World) : Calls Try.prog 35 #[.int .u8 a] w fun e w' => ∃ v, e = .returned v ∧ w'.ownsRow w.heap.size 22 1 v (subs m 64).length (vals64 (subs m 64)) ∧ Below w.heap.size w w' := by
  obtain ⟨i0, hi, hz0, hz1, hz2⟩ := info_parts info22
  have Ham := Lib.hid ham
  clear ham
  go_enter Try.func35, Try.ntmps35
  go_wp2
  go_loopw [3, 4] (fun v i wr => ∃ b : Nat, b ≤ 64 ∧ i = .int .u8 b ∧ wr.ownsRow w.heap.size 22 1 v (subs m b).length (vals64 (subs m b)) ∧ Below w.heap.size w wr) (fun _ i _ => 64 - (intOf i).toNat)
  case atStart => exact ⟨0, by omega, rfl, by rw [subs_zero]; exact World.ownsRow_nil _ _ _ _, Below.refl _ _⟩
  case round =>
    obtain ⟨b, hb, rfl, hown, hB⟩ := hrel
    by_cases hlt : b < 64
    · have hl := subs_len m b
      have hsz := hB.size
      have hhs := has_subs a m b h0 h1 Ham.out hlt
      cases hin : Nat.beq (Nat.land b m) b with
      | true =>
        have Hn := Lib.hid (show subs m (b + 1) = subs m b ++ [⟨b, hlt⟩] by rw [subs_succ m b hm hlt, hin]; rfl)
        have Hh := Lib.hid (hhs.trans hin)
        have Hown := Lib.hid hown
        clear hown hhs hin
        go_wp2_with (first
          | (go_at_call 32; refine (refHas_any a b _).mono ?_; rw [Hh.out]; rintro e w' ⟨rfl, rfl⟩)
          | (at_builtin; refine wpList_append_own _ rfl _ _ 33 rfl w.heap.size 22 i0 (.int .u8 0) 1 1 Try.underlying33 hi hz0 hz1 hz2 rfl (by decide) _ (subs m b).length (vals64 (subs m b)) rfl (Hown.out.alloc _) ⟨wr.heap.size, 0, none⟩ 1 1 [.int .u8 (b : Int)] rfl rfl (cell_one_new _ _ _) (by simp [Value.oneCell']) (by unfold maxLen; omega) (by omega) (by simp; omega) ?_; intro v' w1 hown1 hgrow1 _; have HO1 := Lib.hid hown1; have HG1 := Lib.hid hgrow1; clear hown1 hgrow1))
        refine ⟨⟨b + 1, by omega, by go_num, ?_, ?_⟩, by simp [intOf]; omega⟩
        · rw [Hn.out, List.length_append]
          simpa [vals64] using HO1.out
        · exact (hB.alloc hsz _).grown HG1.out (by simp; omega) (fun j e => (Hown.out.lt j e).1)
      | false =>
        have Hn := Lib.hid (show subs m (b + 1) = subs m b by rw [subs_succ m b hm hlt, hin]; simp)
        have Hh := Lib.hid (hhs.trans hin)
        clear hhs hin
        go_wp2_with (go_at_call 32; refine (refHas_any a b _).mono ?_; rw [Hh.out]; rintro e w' ⟨rfl, rfl⟩)
        exact ⟨⟨b + 1, by omega, by go_num, by rw [Hn.out]; exact hown, hB⟩, by simp [intOf]; omega⟩
    · obtain rfl : b = 64 := by omega
      go_wp2
      go_ret
      exact ⟨_, rfl, hown, hB⟩
end Go.Proofs.Ytbdbhacniejagaa
