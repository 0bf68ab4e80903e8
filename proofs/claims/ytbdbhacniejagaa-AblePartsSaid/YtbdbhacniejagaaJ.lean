/- The contract of the law's own kept. -/
import Derived.Test.YtbdbhacniejagaaI
import Derived.Deep.QuietTactic
import Derived.BigQuiet
namespace Go.Proofs.Ytbdbhacniejagaa
open Go.RowKit Go.Shelf
set_option maxHeartbeats 1000000
set_option maxRecDepth 100000 in
theorem kept_any (g n cap c : Nat) (a : Option Addr) (xs : List Int) (hn : xs.length = n) (hr : n ≤ 140737488351232) (hcap : n + 2 ≤ cap) (w : World) (h : ReadsU8 w a xs)
    (hm : ∀ j, j < n → w.cell? ⟨g, j, none⟩ = some (.int .u8 (xs[j]?.getD 0))) (h77 : w.cell? ⟨g, n, none⟩ = some (.int .u8 77)) (h78 : w.cell? ⟨g, n + 1, none⟩ = some (.int .u8 78)) :
    Calls Try.prog 28 #[.slice (some ⟨g, 0, none⟩) n cap, .slice a n c] w fun e w' => e = .returned (.bool true) ∧ ∃ q, w.drewN q = w' := by
  obtain ⟨_, hc⟩ := h
  rw [hn] at hc
  have HC := Lib.hid hc
  have HM := Lib.hid hm
  clear hc hm hn
  go_enter Try.func28, Try.ntmps28
  go_wp2
  go_loopw [5] (fun i wr => ∃ k : Nat, k ≤ n ∧ i = .int .i64 k ∧ ∃ q, wr = w.drewN q) (fun i _ => n - (intOf i).toNat)
  case atStart => exact ⟨0, by omega, rfl, 0, rfl⟩
  case round =>
    obtain ⟨k, hk, rfl, q, rfl⟩ := hrel
    by_cases hlt : k < n
    · obtain ⟨b, o, rfl, hcell, hb0, hb1⟩ := HC.out k hlt
      have hcell2 := HM.out k hlt
      clear HC HM
      generalize xs[k]?.getD 0 = x at *
      go_wp2
      go_quiet (fail)
      go_wp2
      refine ⟨⟨k + 1, by omega, by go_num, _, rfl⟩, by simp [intOf]; omega⟩
    · obtain rfl : k = n := by omega
      go_wp2
      go_ret
      exact ⟨rfl, q, rfl⟩
end Go.Proofs.Ytbdbhacniejagaa
