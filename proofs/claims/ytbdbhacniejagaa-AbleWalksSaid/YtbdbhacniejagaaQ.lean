/- The walk of AbleWalks. -/
import Derived.Test.YtbdbhacniejagaaO
import Derived.Test.YtbdbhacniejagaaP
import Derived.Test.YtbdbhacniejagaaL
namespace Go.Proofs.Ytbdbhacniejagaa
open Go.RowKit Go.Shelf
set_option maxHeartbeats 2000000
/-- A list of the call's own is what is wanted. -/
theorem wantOk_own {α : Type} (val : α → Int) (xs : List α) {W : World} {B : Nat} {v : Value} (h : W.ownsRow B 22 1 v xs.length (xs.map fun x => .int .u8 (val x))) :
    ∃ A cap, v = .slice A xs.length cap ∧ (∀ gg, A = some ⟨gg, 0, none⟩ → gg < W.heap.size) ∧ WantOk val A xs W := by
  rcases h.2 with ⟨rfl, hn⟩ | ⟨g, cap, cur, rfl, hb, hg, _⟩
  · refine ⟨none, 0, by rw [hn], fun gg e => (by cases e), fun j x hx => ?_⟩
    rw [List.length_eq_zero_iff.1 hn] at hx
    simp at hx
  · refine ⟨_, cap, rfl, fun gg e => by cases e; exact (Array.getElem?_eq_some_iff.1 hg).1, fun j x hx => ⟨g, rfl, ?_⟩⟩
    have hj : j < xs.length := (List.getElem?_eq_some_iff.1 hx).1
    rw [h.cellAt j (by omega)]
    simp [hx]
theorem walks_each (a lv : Int) (v : Value) (B : Nat) (w : World) (h : w.ownsRow B 22 1 v (upto a 6).length (vals6 (upto a 6))) :
    Calls Try.prog 33 #[.int .u8 a, .bool false, .int .i64 lv, v] w fun e w' => e = .returned (.bool true) ∧ Below w.heap.size w w' := by
  obtain ⟨A, cap, rfl, hA, hw⟩ := wantOk_own (fun k : Fin 6 => (2 : Int) ^ k.val) (upto a 6) h
  exact callsIn_wide.1 (walk_E a lv A _ cap _ rfl rfl w hA hw)
theorem walks_within (a lv : Int) (m : Nat) (hm : m < 64) (h0 : 0 ≤ a) (h1 : a ≤ 255) (ham : a % 64 = (m : Int)) (v : Value) (B : Nat) (w : World) (h : w.ownsRow B 22 1 v (subs m 64).length (vals64 (subs m 64))) :
    Calls Try.prog 33 #[.int .u8 a, .bool true, .int .i64 lv, v] w fun e w' => e = .returned (.bool true) ∧ Below w.heap.size w w' := by
  obtain ⟨A, cap, rfl, hA, hw⟩ := wantOk_own (fun k : Fin 64 => (k.val : Int)) (subs m 64) h
  exact callsIn_wide.1 (walk_W m hm a lv A _ cap _ rfl rfl h0 h1 ham w hA hw)
set_option maxRecDepth 100000 in
theorem walks_walk (a lv : Int) (wa : (Lit.int .u8 a).wf = true) (_wl : (Lit.int .i64 lv).wf = true) (w : World) :
    Calls Try.prog 7 #[.int .u8 a, .int .i64 lv] w fun e w' => e = .returned (.bool true) ∧ Below w.heap.size w w' := by
  obtain ⟨a0, a1⟩ := wf_u8 wa
  obtain ⟨m, hm, ham⟩ : ∃ m : Nat, m < 64 ∧ a % 64 = (m : Int) := ⟨(a % 64).toNat, by omega, by omega⟩
  have hT := fun w => refWithin_any a m a0 a1 ham hm w
  have hZ := fun v B w => walks_within a lv m hm a0 a1 ham v B w
  have HT := Lib.hid hT
  have HZ := Lib.hid hZ
  clear hT hZ ham
  go_enter Try.func7, Try.ntmps7
  go_wp2_with (first
    | (go_at_call 34; refine (refEach_any a _).mono ?_; rintro e w1 ⟨v1, rfl, ho1, hb1⟩; have HO1 := Lib.hid ho1; have HB1 := Lib.hid hb1; clear ho1 hb1)
    | (go_at_call 33; refine (HZ.out v3 _ _ HO3.out).mono ?_; rintro e w4 ⟨rfl, hb4⟩; have HB4 := Lib.hid hb4; clear hb4)
    | (go_at_call 35; refine (HT.out _).mono ?_; rintro e w3 ⟨v3, rfl, ho3, hb3⟩; have HO3 := Lib.hid ho3; have HB3 := Lib.hid hb3; clear ho3 hb3)
    | (go_at_call 33; refine (walks_each a lv v1 _ _ HO1.out).mono ?_; rintro e w2 ⟨rfl, hb2⟩; have HB2 := Lib.hid hb2; clear hb2)
    | (go_at_call 12; refine (lives_any _).mono ?_; rintro e w5 ⟨rfl, hb5⟩; have HB5 := Lib.hid hb5; clear hb5))
  go_ret
  exact ⟨rfl, below_then (below_then (below_then (below_then HB1.out HB2.out) HB3.out) HB4.out) HB5.out⟩
end Go.Proofs.Ytbdbhacniejagaa
