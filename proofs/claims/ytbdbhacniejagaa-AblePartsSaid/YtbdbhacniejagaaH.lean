/- Contracts of the reference's Meet and Join, over any list that is read. -/
import Derived.Test.YtbdbhacniejagaaG
namespace Go.Proofs.Ytbdbhacniejagaa
open Go.RowKit Go.Shelf
set_option maxHeartbeats 1000000

set_option maxRecDepth 100000 in
theorem refMeet_any (a : Option Addr) (n c : Nat) (xs : List Int) (hn : xs.length = n) (w : World) (h : ReadsU8 w a xs) : Calls Try.prog 25 #[.slice a n c] w fun e w' => e = .returned (.int .u8 (sumP (fun k => xs.all (fun x => inB x k)) 6 : Nat)) ∧ w = w' := by
  obtain ⟨hm, hc⟩ := h
  subst hn
  have HC := Lib.hid hc
  clear hc
  go_enter Try.func25, Try.ntmps25
  go_wp2
  go_loop [3, 4] (fun o i => ∃ k : Nat, k ≤ 6 ∧ i = .int .i64 k ∧ o = .int .u8 (sumP (fun k => xs.all (fun x => inB x k)) k : Nat)) (fun _ i => 6 - (intOf i).toNat)
  case atStart => exact ⟨0, by omega, rfl, rfl⟩
  case round =>
    obtain ⟨k, hk, rfl, rfl⟩ := hrel
    have hb := sumP_le (fun k => xs.all (fun x => inB x k)) k hk
    by_cases hlt : k < 6
    · obtain ⟨hp1, hp2⟩ := pow_facts k hlt
      go_wp2
      go_loop [5, 6] (fun b i => ∃ j : Nat, j ≤ xs.length ∧ i = .int .i64 j ∧ b = .bool ((xs.take j).all (fun x => inB x k))) (fun _ i => xs.length - (intOf i).toNat)
      case atStart => exact ⟨0, by omega, rfl, rfl⟩
      case round =>
        obtain ⟨j, hj, rfl, rfl⟩ := hrel
        by_cases hjl : j < xs.length
        · obtain ⟨b, o, rfl, hcell, hb0, hb1⟩ := HC.out j hjl
          have HS := Lib.hid (take_snocI xs j hjl)
          clear HC
          generalize xs[j]?.getD 0 = x at *
          cases hg : (xs.take j).all (fun x => inB x k) with
          | true =>
            have Hg := Lib.hid hg
            go_wp2_with (go_at_call 43; refine (refIn_any x k hlt _).mono ?_; rintro e w' ⟨rfl, rfl⟩)
            go_round
            case rel => exact ⟨j + 1, by omega, by go_num, by rw [HS.out, List.all_append, Hg.out]; simp⟩
            case measure => simp [intOf]; omega
          | false =>
            have Hg := Lib.hid hg
            go_wp2_with (go_at_call 43; refine (refIn_any x k hlt _).mono ?_; rintro e w' ⟨rfl, rfl⟩)
            go_round
            case rel => exact ⟨j + 1, by omega, by go_num, by rw [HS.out, List.all_append, Hg.out]; simp⟩
            case measure => simp [intOf]; omega
        · have ht : xs.take j = xs := List.take_of_length_le (by omega)
          cases hg : xs.all (fun x => inB x k) with
          | true =>
            have Hg := Lib.hid (show (xs.take j).all (fun x => inB x k) = true by rw [ht]; exact hg)
            have Hn := Lib.hid (sumP_hit (fun k => xs.all (fun x => inB x k)) k hg)
            clear ht hg
            generalize (xs.take j).all (fun x => inB x k) = g at *
            obtain rfl : g = true := Hg.out
            clear Hg
            go_wp2_with (go_at_call 41; refine (refbit_any k hlt _).mono ?_; rintro e w' ⟨rfl, rfl⟩)
            go_round
            case rel => exact ⟨k + 1, by omega, by go_num, by rw [Hn.out]⟩
            case measure => simp [intOf]; omega
          | false =>
            have Hg := Lib.hid (show (xs.take j).all (fun x => inB x k) = false by rw [ht]; exact hg)
            have Hn := Lib.hid (sumP_miss (fun k => xs.all (fun x => inB x k)) k hg)
            clear ht hg
            generalize (xs.take j).all (fun x => inB x k) = g at *
            obtain rfl : g = false := Hg.out
            clear Hg
            go_wp2_with (go_at_call 41; refine (refbit_any k hlt _).mono ?_; rintro e w' ⟨rfl, rfl⟩)
            go_round
            case rel => exact ⟨k + 1, by omega, by go_num, by rw [Hn.out]⟩
            case measure => simp [intOf]; omega
    · obtain rfl : k = 6 := by omega
      go_wp2
      go_ret
      exact ⟨rfl, rfl⟩

set_option maxRecDepth 100000 in
theorem refJoin_any (a : Option Addr) (n c : Nat) (xs : List Int) (hn : xs.length = n) (w : World) (h : ReadsU8 w a xs) : Calls Try.prog 27 #[.slice a n c] w fun e w' => e = .returned (.int .u8 (sumP (fun k => xs.any (fun x => inB x k)) 6 : Nat)) ∧ w = w' := by
  obtain ⟨hm, hc⟩ := h
  subst hn
  have HC := Lib.hid hc
  clear hc
  go_enter Try.func27, Try.ntmps27
  go_wp2
  go_loop [3, 4] (fun o i => ∃ k : Nat, k ≤ 6 ∧ i = .int .i64 k ∧ o = .int .u8 (sumP (fun k => xs.any (fun x => inB x k)) k : Nat)) (fun _ i => 6 - (intOf i).toNat)
  case atStart => exact ⟨0, by omega, rfl, rfl⟩
  case round =>
    obtain ⟨k, hk, rfl, rfl⟩ := hrel
    have hb := sumP_le (fun k => xs.any (fun x => inB x k)) k hk
    by_cases hlt : k < 6
    · obtain ⟨hp1, hp2⟩ := pow_facts k hlt
      go_wp2
      go_loop [5, 6] (fun b i => ∃ j : Nat, j ≤ xs.length ∧ i = .int .i64 j ∧ b = .bool ((xs.take j).any (fun x => inB x k))) (fun _ i => xs.length - (intOf i).toNat)
      case atStart => exact ⟨0, by omega, rfl, rfl⟩
      case round =>
        obtain ⟨j, hj, rfl, rfl⟩ := hrel
        by_cases hjl : j < xs.length
        · obtain ⟨b, o, rfl, hcell, hb0, hb1⟩ := HC.out j hjl
          have HS := Lib.hid (take_snocI xs j hjl)
          clear HC
          generalize xs[j]?.getD 0 = x at *
          cases hg : (xs.take j).any (fun x => inB x k) with
          | false =>
            have Hg := Lib.hid hg
            go_wp2_with (go_at_call 43; refine (refIn_any x k hlt _).mono ?_; rintro e w' ⟨rfl, rfl⟩)
            go_round
            case rel => exact ⟨j + 1, by omega, by go_num, by rw [HS.out, List.any_append, Hg.out]; simp⟩
            case measure => simp [intOf]; omega
          | true =>
            have Hg := Lib.hid hg
            go_wp2_with (go_at_call 43; refine (refIn_any x k hlt _).mono ?_; rintro e w' ⟨rfl, rfl⟩)
            go_round
            case rel => exact ⟨j + 1, by omega, by go_num, by rw [HS.out, List.any_append, Hg.out]; simp⟩
            case measure => simp [intOf]; omega
        · have ht : xs.take j = xs := List.take_of_length_le (by omega)
          cases hg : xs.any (fun x => inB x k) with
          | true =>
            have Hg := Lib.hid (show (xs.take j).any (fun x => inB x k) = true by rw [ht]; exact hg)
            have Hn := Lib.hid (sumP_hit (fun k => xs.any (fun x => inB x k)) k hg)
            clear ht hg
            generalize (xs.take j).any (fun x => inB x k) = g at *
            obtain rfl : g = true := Hg.out
            clear Hg
            go_wp2_with (go_at_call 41; refine (refbit_any k hlt _).mono ?_; rintro e w' ⟨rfl, rfl⟩)
            go_round
            case rel => exact ⟨k + 1, by omega, by go_num, by rw [Hn.out]⟩
            case measure => simp [intOf]; omega
          | false =>
            have Hg := Lib.hid (show (xs.take j).any (fun x => inB x k) = false by rw [ht]; exact hg)
            have Hn := Lib.hid (sumP_miss (fun k => xs.any (fun x => inB x k)) k hg)
            clear ht hg
            generalize (xs.take j).any (fun x => inB x k) = g at *
            obtain rfl : g = false := Hg.out
            clear Hg
            go_wp2_with (go_at_call 41; refine (refbit_any k hlt _).mono ?_; rintro e w' ⟨rfl, rfl⟩)
            go_round
            case rel => exact ⟨k + 1, by omega, by go_num, by rw [Hn.out]⟩
            case measure => simp [intOf]; omega
    · obtain rfl : k = 6 := by omega
      go_wp2
      go_ret
      exact ⟨rfl, rfl⟩
end Go.Proofs.Ytbdbhacniejagaa
