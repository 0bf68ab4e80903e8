/- The walk of AbleLattice. -/
import Derived.Test.YtbdbhacniejagaaM
namespace Go.Proofs.Ytbdbhacniejagaa
open Go.RowKit Go.Shelf
set_option maxHeartbeats 4000000
set_option maxRecDepth 100000 in
theorem lattice_true (a0 b0 c0 : Int) (a b c m j p q r s t u v x n y z l : Nat) (na : a0 % 64 = (a : Int)) (nb : b0 % 64 = (b : Int)) (nc : c0 % 64 = (c : Int)) (h0 : 0 ≤ a0 ∧ 0 ≤ b0 ∧ 0 ≤ c0) (ha : a < 64) (hb : b < 64) (hc : c < 64)
    (hm : m < 64) (hj : j < 64) (_ : p < 64) (hq : q < 64) (_ : r < 64) (hs : s < 64) (_ : t < 64) (hu : u < 64) (_ : v < 64) (hx : x < 64) (hn : n < 64) (_ : y < 64) (hz : z < 64) (_ : l < 64)
    (e0 : a &&& b = m) (e1 : a ||| b = j) (e2 : b &&& a = m) (e3 : b ||| a = j) (e4 : m &&& c = p) (e5 : (a &&& b) &&& c = p) (e6 : b &&& c = q) (e7 : a &&& q = p) (e8 : j ||| c = r) (e9 : (a ||| b) ||| c = r) (e10 : b ||| c = s) (e11 : a ||| s = r) (e12 : a &&& a = a) (e13 : a ||| a = a) (e14 : a &&& j = a) (e15 : a ||| m = a) (e16 : a &&& s = t) (e17 : a &&& c = u) (e18 : m ||| u = t) (e19 : a ||| q = v) (e20 : a ||| c = x) (e21 : j &&& x = v) (e22 : lessN 63 a = n) (e23 : a &&& n = 0) (e24 : a ||| n = 63) (e25 : lessN 63 m = y) (e26 : lessN 63 b = z) (e27 : n ||| z = y) (e28 : lessN 63 n = a) (e29 : lessN b a = l)
    (hh : (lessN b a == 0) = true) (g1 : ((m : Int) == (b : Int)) = true) (g2 : ((j : Int) == (a : Int)) = true) (g3 : ((l : Int) == 0) = true) (w : World) :
    Calls Try.prog 8 #[.int .u8 a0, .int .u8 b0, .int .u8 c0] w fun e w' => e = .returned (.bool true) ∧ Below w.heap.size w w' := by
  obtain ⟨i1, i2, i3⟩ := h0
  have He0 := Lib.hid e0
  have He1 := Lib.hid e1
  have He2 := Lib.hid e2
  have He3 := Lib.hid e3
  have He4 := Lib.hid e4
  have He5 := Lib.hid e5
  have He6 := Lib.hid e6
  have He7 := Lib.hid e7
  have He8 := Lib.hid e8
  have He9 := Lib.hid e9
  have He10 := Lib.hid e10
  have He11 := Lib.hid e11
  have He12 := Lib.hid e12
  have He13 := Lib.hid e13
  have He14 := Lib.hid e14
  have He15 := Lib.hid e15
  have He16 := Lib.hid e16
  have He17 := Lib.hid e17
  have He18 := Lib.hid e18
  have He19 := Lib.hid e19
  have He20 := Lib.hid e20
  have He21 := Lib.hid e21
  have He22 := Lib.hid e22
  have He23 := Lib.hid e23
  have He24 := Lib.hid e24
  have He25 := Lib.hid e25
  have He26 := Lib.hid e26
  have He27 := Lib.hid e27
  have He28 := Lib.hid e28
  have He29 := Lib.hid e29
  have Hna := Lib.hid na
  have Hnb := Lib.hid nb
  have Hnc := Lib.hid nc
  have Hhh := Lib.hid hh
  clear e0 e1 e2 e3 e4 e5 e6 e7 e8 e9 e10 e11 e12 e13 e14 e15 e16 e17 e18 e19 e20 e21 e22 e23 e24 e25 e26 e27 e28 e29 na nb nc hh
  go_enter Try.func8, Try.ntmps8
  go_wp2_with fail
  rw [Hna.out, Hnb.out, Hnc.out]
  refine (meet2_any a b m ha hb He0.out _).mono ?_
  rintro e w1 ⟨rfl, hb1⟩
  go_wp2_with fail
  refine (join2_any a b j ha hb He1.out _).mono ?_
  rintro e w2 ⟨rfl, hb2⟩
  go_wp2_with fail
  refine (meet2_any b a m hb ha He2.out _).mono ?_
  rintro e w3 ⟨rfl, hb3⟩
  go_wp2_with fail
  refine (join2_any b a j hb ha He3.out _).mono ?_
  rintro e w4 ⟨rfl, hb4⟩
  go_wp2_with fail
  refine (meet2_any m c p hm hc He4.out _).mono ?_
  rintro e w5 ⟨rfl, hb5⟩
  go_wp2_with fail
  refine (meet3_any a b c p ha hb hc He5.out _).mono ?_
  rintro e w6 ⟨rfl, hb6⟩
  go_wp2_with fail
  refine (meet2_any b c q hb hc He6.out _).mono ?_
  rintro e w7 ⟨rfl, hb7⟩
  go_wp2_with fail
  refine (meet2_any a q p ha hq He7.out _).mono ?_
  rintro e w8 ⟨rfl, hb8⟩
  go_wp2_with fail
  refine (meet2_any m c p hm hc He4.out _).mono ?_
  rintro e w9 ⟨rfl, hb9⟩
  go_wp2_with fail
  refine (join2_any j c r hj hc He8.out _).mono ?_
  rintro e w10 ⟨rfl, hb10⟩
  go_wp2_with fail
  refine (join3_any a b c r ha hb hc He9.out _).mono ?_
  rintro e w11 ⟨rfl, hb11⟩
  go_wp2_with fail
  refine (join2_any b c s hb hc He10.out _).mono ?_
  rintro e w12 ⟨rfl, hb12⟩
  go_wp2_with fail
  refine (join2_any a s r ha hs He11.out _).mono ?_
  rintro e w13 ⟨rfl, hb13⟩
  go_wp2_with fail
  refine (join2_any j c r hj hc He8.out _).mono ?_
  rintro e w14 ⟨rfl, hb14⟩
  go_wp2_with fail
  refine (meet2_any a a a ha ha He12.out _).mono ?_
  rintro e w15 ⟨rfl, hb15⟩
  go_wp2_with fail
  refine (join2_any a a a ha ha He13.out _).mono ?_
  rintro e w16 ⟨rfl, hb16⟩
  go_wp2_with fail
  refine (meet2_any a j a ha hj He14.out _).mono ?_
  rintro e w17 ⟨rfl, hb17⟩
  go_wp2_with fail
  refine (join2_any a m a ha hm He15.out _).mono ?_
  rintro e w18 ⟨rfl, hb18⟩
  go_wp2_with fail
  refine (join2_any b c s hb hc He10.out _).mono ?_
  rintro e w19 ⟨rfl, hb19⟩
  go_wp2_with fail
  refine (meet2_any a s t ha hs He16.out _).mono ?_
  rintro e w20 ⟨rfl, hb20⟩
  go_wp2_with fail
  refine (meet2_any a c u ha hc He17.out _).mono ?_
  rintro e w21 ⟨rfl, hb21⟩
  go_wp2_with fail
  refine (join2_any m u t hm hu He18.out _).mono ?_
  rintro e w22 ⟨rfl, hb22⟩
  go_wp2_with fail
  refine (meet2_any b c q hb hc He6.out _).mono ?_
  rintro e w23 ⟨rfl, hb23⟩
  go_wp2_with fail
  refine (join2_any a q v ha hq He19.out _).mono ?_
  rintro e w24 ⟨rfl, hb24⟩
  go_wp2_with fail
  refine (join2_any a c x ha hc He20.out _).mono ?_
  rintro e w25 ⟨rfl, hb25⟩
  go_wp2_with fail
  refine (meet2_any j x v hj hx He21.out _).mono ?_
  rintro e w26 ⟨rfl, hb26⟩
  go_wp2_with fail
  refine (less_sets 63 a n (by omega) ha He22.out _).mono ?_
  rintro e w' ⟨rfl, rfl⟩
  go_wp2_with fail
  refine (meet2_any a n 0 ha hn He23.out _).mono ?_
  rintro e w27 ⟨rfl, hb27⟩
  go_wp2_with fail
  refine (join2_any a n 63 ha hn He24.out _).mono ?_
  rintro e w28 ⟨rfl, hb28⟩
  go_wp2_with fail
  refine (less_sets 63 m y (by omega) hm He25.out _).mono ?_
  rintro e w' ⟨rfl, rfl⟩
  go_wp2_with fail
  refine (less_sets 63 b z (by omega) hb He26.out _).mono ?_
  rintro e w' ⟨rfl, rfl⟩
  go_wp2_with fail
  refine (join2_any n z y hn hz He27.out _).mono ?_
  rintro e w29 ⟨rfl, hb29⟩
  go_wp2_with fail
  refine (less_sets 63 n a (by omega) hn He28.out _).mono ?_
  rintro e w' ⟨rfl, rfl⟩
  go_wp2_with fail
  refine (has_sets a b true ha hb Hhh.out _).mono ?_
  rintro e w' ⟨rfl, rfl⟩
  go_wp2_with fail
  refine (less_sets b a l hb ha He29.out _).mono ?_
  rintro e w' ⟨rfl, rfl⟩
  go_wp2_with fail
  refine (join_any' none 0 0 [] rfl _ (readsU8_nil _)).mono ?_
  rintro e w' ⟨rfl, rfl⟩
  go_wp2_with fail
  refine (meet_any none 0 0 [] rfl _ (readsU8_nil _)).mono ?_
  rintro e w' ⟨rfl, rfl⟩
  go_wp2_with fail
  refine (lives_any _).mono ?_
  rintro e w30 ⟨rfl, hb30⟩
  go_wp2_with fail
  go_ret
  exact ⟨rfl, (below_then (below_then (below_then (below_then (below_then (below_then (below_then (below_then (below_then (below_then (below_then (below_then (below_then (below_then (below_then (below_then (below_then (below_then (below_then (below_then (below_then (below_then (below_then (below_then (below_then (below_then (below_then (below_then (below_then hb1 hb2) hb3) hb4) hb5) hb6) hb7) hb8) hb9) hb10) hb11) hb12) hb13) hb14) hb15) hb16) hb17) hb18) hb19) hb20) hb21) hb22) hb23) hb24) hb25) hb26) hb27) hb28) hb29) hb30)⟩
set_option maxRecDepth 100000 in
theorem lattice_false (a0 b0 c0 : Int) (a b c m j p q r s t u v x n y z l : Nat) (na : a0 % 64 = (a : Int)) (nb : b0 % 64 = (b : Int)) (nc : c0 % 64 = (c : Int)) (h0 : 0 ≤ a0 ∧ 0 ≤ b0 ∧ 0 ≤ c0) (ha : a < 64) (hb : b < 64) (hc : c < 64)
    (hm : m < 64) (hj : j < 64) (_ : p < 64) (hq : q < 64) (_ : r < 64) (hs : s < 64) (_ : t < 64) (hu : u < 64) (_ : v < 64) (hx : x < 64) (hn : n < 64) (_ : y < 64) (hz : z < 64) (_ : l < 64)
    (e0 : a &&& b = m) (e1 : a ||| b = j) (e2 : b &&& a = m) (e3 : b ||| a = j) (e4 : m &&& c = p) (e5 : (a &&& b) &&& c = p) (e6 : b &&& c = q) (e7 : a &&& q = p) (e8 : j ||| c = r) (e9 : (a ||| b) ||| c = r) (e10 : b ||| c = s) (e11 : a ||| s = r) (e12 : a &&& a = a) (e13 : a ||| a = a) (e14 : a &&& j = a) (e15 : a ||| m = a) (e16 : a &&& s = t) (e17 : a &&& c = u) (e18 : m ||| u = t) (e19 : a ||| q = v) (e20 : a ||| c = x) (e21 : j &&& x = v) (e22 : lessN 63 a = n) (e23 : a &&& n = 0) (e24 : a ||| n = 63) (e25 : lessN 63 m = y) (e26 : lessN 63 b = z) (e27 : n ||| z = y) (e28 : lessN 63 n = a) (e29 : lessN b a = l)
    (hh : (lessN b a == 0) = false) (g1 : ((m : Int) == (b : Int)) = false) (g2 : ((j : Int) == (a : Int)) = false) (g3 : ((l : Int) == 0) = false) (w : World) :
    Calls Try.prog 8 #[.int .u8 a0, .int .u8 b0, .int .u8 c0] w fun e w' => e = .returned (.bool true) ∧ Below w.heap.size w w' := by
  obtain ⟨i1, i2, i3⟩ := h0
  have He0 := Lib.hid e0
  have He1 := Lib.hid e1
  have He2 := Lib.hid e2
  have He3 := Lib.hid e3
  have He4 := Lib.hid e4
  have He5 := Lib.hid e5
  have He6 := Lib.hid e6
  have He7 := Lib.hid e7
  have He8 := Lib.hid e8
  have He9 := Lib.hid e9
  have He10 := Lib.hid e10
  have He11 := Lib.hid e11
  have He12 := Lib.hid e12
  have He13 := Lib.hid e13
  have He14 := Lib.hid e14
  have He15 := Lib.hid e15
  have He16 := Lib.hid e16
  have He17 := Lib.hid e17
  have He18 := Lib.hid e18
  have He19 := Lib.hid e19
  have He20 := Lib.hid e20
  have He21 := Lib.hid e21
  have He22 := Lib.hid e22
  have He23 := Lib.hid e23
  have He24 := Lib.hid e24
  have He25 := Lib.hid e25
  have He26 := Lib.hid e26
  have He27 := Lib.hid e27
  have He28 := Lib.hid e28
  have He29 := Lib.hid e29
  have Hna := Lib.hid na
  have Hnb := Lib.hid nb
  have Hnc := Lib.hid nc
  have Hhh := Lib.hid hh
  clear e0 e1 e2 e3 e4 e5 e6 e7 e8 e9 e10 e11 e12 e13 e14 e15 e16 e17 e18 e19 e20 e21 e22 e23 e24 e25 e26 e27 e28 e29 na nb nc hh
  go_enter Try.func8, Try.ntmps8
  go_wp2_with fail
  rw [Hna.out, Hnb.out, Hnc.out]
  refine (meet2_any a b m ha hb He0.out _).mono ?_
  rintro e w1 ⟨rfl, hb1⟩
  go_wp2_with fail
  refine (join2_any a b j ha hb He1.out _).mono ?_
  rintro e w2 ⟨rfl, hb2⟩
  go_wp2_with fail
  refine (meet2_any b a m hb ha He2.out _).mono ?_
  rintro e w3 ⟨rfl, hb3⟩
  go_wp2_with fail
  refine (join2_any b a j hb ha He3.out _).mono ?_
  rintro e w4 ⟨rfl, hb4⟩
  go_wp2_with fail
  refine (meet2_any m c p hm hc He4.out _).mono ?_
  rintro e w5 ⟨rfl, hb5⟩
  go_wp2_with fail
  refine (meet3_any a b c p ha hb hc He5.out _).mono ?_
  rintro e w6 ⟨rfl, hb6⟩
  go_wp2_with fail
  refine (meet2_any b c q hb hc He6.out _).mono ?_
  rintro e w7 ⟨rfl, hb7⟩
  go_wp2_with fail
  refine (meet2_any a q p ha hq He7.out _).mono ?_
  rintro e w8 ⟨rfl, hb8⟩
  go_wp2_with fail
  refine (meet2_any m c p hm hc He4.out _).mono ?_
  rintro e w9 ⟨rfl, hb9⟩
  go_wp2_with fail
  refine (join2_any j c r hj hc He8.out _).mono ?_
  rintro e w10 ⟨rfl, hb10⟩
  go_wp2_with fail
  refine (join3_any a b c r ha hb hc He9.out _).mono ?_
  rintro e w11 ⟨rfl, hb11⟩
  go_wp2_with fail
  refine (join2_any b c s hb hc He10.out _).mono ?_
  rintro e w12 ⟨rfl, hb12⟩
  go_wp2_with fail
  refine (join2_any a s r ha hs He11.out _).mono ?_
  rintro e w13 ⟨rfl, hb13⟩
  go_wp2_with fail
  refine (join2_any j c r hj hc He8.out _).mono ?_
  rintro e w14 ⟨rfl, hb14⟩
  go_wp2_with fail
  refine (meet2_any a a a ha ha He12.out _).mono ?_
  rintro e w15 ⟨rfl, hb15⟩
  go_wp2_with fail
  refine (join2_any a a a ha ha He13.out _).mono ?_
  rintro e w16 ⟨rfl, hb16⟩
  go_wp2_with fail
  refine (meet2_any a j a ha hj He14.out _).mono ?_
  rintro e w17 ⟨rfl, hb17⟩
  go_wp2_with fail
  refine (join2_any a m a ha hm He15.out _).mono ?_
  rintro e w18 ⟨rfl, hb18⟩
  go_wp2_with fail
  refine (join2_any b c s hb hc He10.out _).mono ?_
  rintro e w19 ⟨rfl, hb19⟩
  go_wp2_with fail
  refine (meet2_any a s t ha hs He16.out _).mono ?_
  rintro e w20 ⟨rfl, hb20⟩
  go_wp2_with fail
  refine (meet2_any a c u ha hc He17.out _).mono ?_
  rintro e w21 ⟨rfl, hb21⟩
  go_wp2_with fail
  refine (join2_any m u t hm hu He18.out _).mono ?_
  rintro e w22 ⟨rfl, hb22⟩
  go_wp2_with fail
  refine (meet2_any b c q hb hc He6.out _).mono ?_
  rintro e w23 ⟨rfl, hb23⟩
  go_wp2_with fail
  refine (join2_any a q v ha hq He19.out _).mono ?_
  rintro e w24 ⟨rfl, hb24⟩
  go_wp2_with fail
  refine (join2_any a c x ha hc He20.out _).mono ?_
  rintro e w25 ⟨rfl, hb25⟩
  go_wp2_with fail
  refine (meet2_any j x v hj hx He21.out _).mono ?_
  rintro e w26 ⟨rfl, hb26⟩
  go_wp2_with fail
  refine (less_sets 63 a n (by omega) ha He22.out _).mono ?_
  rintro e w' ⟨rfl, rfl⟩
  go_wp2_with fail
  refine (meet2_any a n 0 ha hn He23.out _).mono ?_
  rintro e w27 ⟨rfl, hb27⟩
  go_wp2_with fail
  refine (join2_any a n 63 ha hn He24.out _).mono ?_
  rintro e w28 ⟨rfl, hb28⟩
  go_wp2_with fail
  refine (less_sets 63 m y (by omega) hm He25.out _).mono ?_
  rintro e w' ⟨rfl, rfl⟩
  go_wp2_with fail
  refine (less_sets 63 b z (by omega) hb He26.out _).mono ?_
  rintro e w' ⟨rfl, rfl⟩
  go_wp2_with fail
  refine (join2_any n z y hn hz He27.out _).mono ?_
  rintro e w29 ⟨rfl, hb29⟩
  go_wp2_with fail
  refine (less_sets 63 n a (by omega) hn He28.out _).mono ?_
  rintro e w' ⟨rfl, rfl⟩
  go_wp2_with fail
  refine (has_sets a b false ha hb Hhh.out _).mono ?_
  rintro e w' ⟨rfl, rfl⟩
  go_wp2_with fail
  refine (less_sets b a l hb ha He29.out _).mono ?_
  rintro e w' ⟨rfl, rfl⟩
  go_wp2_with fail
  refine (join_any' none 0 0 [] rfl _ (readsU8_nil _)).mono ?_
  rintro e w' ⟨rfl, rfl⟩
  go_wp2_with fail
  refine (meet_any none 0 0 [] rfl _ (readsU8_nil _)).mono ?_
  rintro e w' ⟨rfl, rfl⟩
  go_wp2_with fail
  refine (lives_any _).mono ?_
  rintro e w30 ⟨rfl, hb30⟩
  go_wp2_with fail
  go_ret
  exact ⟨rfl, (below_then (below_then (below_then (below_then (below_then (below_then (below_then (below_then (below_then (below_then (below_then (below_then (below_then (below_then (below_then (below_then (below_then (below_then (below_then (below_then (below_then (below_then (below_then (below_then (below_then (below_then (below_then (below_then (below_then hb1 hb2) hb3) hb4) hb5) hb6) hb7) hb8) hb9) hb10) hb11) hb12) hb13) hb14) hb15) hb16) hb17) hb18) hb19) hb20) hb21) hb22) hb23) hb24) hb25) hb26) hb27) hb28) hb29) hb30)⟩
theorem lattice_walk (a0 b0 c0 : Int) (wa : (Lit.int .u8 a0).wf = true) (wb : (Lit.int .u8 b0).wf = true) (wc : (Lit.int .u8 c0).wf = true) (w : World) :
    Calls Try.prog 8 #[.int .u8 a0, .int .u8 b0, .int .u8 c0] w fun e w' => e = .returned (.bool true) ∧ Below w.heap.size w w' := by
  have h1 := wf_u8 wa
  have h2 := wf_u8 wb
  have h3 := wf_u8 wc
  have na : a0 % 64 = (((a0 % 64).toNat : Nat) : Int) := by omega
  have nb : b0 % 64 = (((b0 % 64).toNat : Nat) : Int) := by omega
  have nc : c0 % 64 = (((c0 % 64).toNat : Nat) : Int) := by omega
  have ha : (a0 % 64).toNat < 64 := by omega
  have hb : (b0 % 64).toNat < 64 := by omega
  have hc : (c0 % 64).toNat < 64 := by omega
  generalize (a0 % 64).toNat = a at *
  generalize (b0 % 64).toNat = b at *
  generalize (c0 % 64).toNat = c at *
  obtain ⟨s1, s2⟩ := lat_sub a b ha hb
  by_cases hl : lessN b a = 0
  · exact lattice_true a0 b0 c0 a b c (a &&& b) (a ||| b) ((a &&& b) &&& c) (b &&& c) ((a ||| b) ||| c) (b ||| c) (a &&& (b ||| c)) (a &&& c) (a ||| (b &&& c)) (a ||| c) (lessN 63 a) (lessN 63 (a &&& b)) (lessN 63 b) (lessN b a) na nb nc ⟨h1.1, h2.1, h3.1⟩ ha hb hc (by repeat (first | assumption | exact lessN_lt _ _ | apply and_lt | apply or_lt)) (by repeat (first | assumption | exact lessN_lt _ _ | apply and_lt | apply or_lt)) (by repeat (first | assumption | exact lessN_lt _ _ | apply and_lt | apply or_lt)) (by repeat (first | assumption | exact lessN_lt _ _ | apply and_lt | apply or_lt)) (by repeat (first | assumption | exact lessN_lt _ _ | apply and_lt | apply or_lt)) (by repeat (first | assumption | exact lessN_lt _ _ | apply and_lt | apply or_lt)) (by repeat (first | assumption | exact lessN_lt _ _ | apply and_lt | apply or_lt)) (by repeat (first | assumption | exact lessN_lt _ _ | apply and_lt | apply or_lt)) (by repeat (first | assumption | exact lessN_lt _ _ | apply and_lt | apply or_lt)) (by repeat (first | assumption | exact lessN_lt _ _ | apply and_lt | apply or_lt)) (by repeat (first | assumption | exact lessN_lt _ _ | apply and_lt | apply or_lt)) (by repeat (first | assumption | exact lessN_lt _ _ | apply and_lt | apply or_lt)) (by repeat (first | assumption | exact lessN_lt _ _ | apply and_lt | apply or_lt)) (by repeat (first | assumption | exact lessN_lt _ _ | apply and_lt | apply or_lt))
      (lat_e0 a b c ha hb hc) (lat_e1 a b c ha hb hc) (lat_e2 a b c ha hb hc) (lat_e3 a b c ha hb hc) (lat_e4 a b c ha hb hc) (lat_e5 a b c ha hb hc) (lat_e6 a b c ha hb hc) (lat_e7 a b c ha hb hc) (lat_e8 a b c ha hb hc) (lat_e9 a b c ha hb hc) (lat_e10 a b c ha hb hc) (lat_e11 a b c ha hb hc) (lat_e12 a b c ha hb hc) (lat_e13 a b c ha hb hc) (lat_e14 a b c ha hb hc) (lat_e15 a b c ha hb hc) (lat_e16 a b c ha hb hc) (lat_e17 a b c ha hb hc) (lat_e18 a b c ha hb hc) (lat_e19 a b c ha hb hc) (lat_e20 a b c ha hb hc) (lat_e21 a b c ha hb hc) (lat_e22 a b c ha hb hc) (lat_e23 a b c ha hb hc) (lat_e24 a b c ha hb hc) (lat_e25 a b c ha hb hc) (lat_e26 a b c ha hb hc) (lat_e27 a b c ha hb hc) (lat_e28 a b c ha hb hc) (lat_e29 a b c ha hb hc)
      (by simpa using hl) (by have := s1.2 hl; simp; omega) (by have := s2.2 hl; simp; omega) (by simpa using hl) w
  · exact lattice_false a0 b0 c0 a b c (a &&& b) (a ||| b) ((a &&& b) &&& c) (b &&& c) ((a ||| b) ||| c) (b ||| c) (a &&& (b ||| c)) (a &&& c) (a ||| (b &&& c)) (a ||| c) (lessN 63 a) (lessN 63 (a &&& b)) (lessN 63 b) (lessN b a) na nb nc ⟨h1.1, h2.1, h3.1⟩ ha hb hc (by repeat (first | assumption | exact lessN_lt _ _ | apply and_lt | apply or_lt)) (by repeat (first | assumption | exact lessN_lt _ _ | apply and_lt | apply or_lt)) (by repeat (first | assumption | exact lessN_lt _ _ | apply and_lt | apply or_lt)) (by repeat (first | assumption | exact lessN_lt _ _ | apply and_lt | apply or_lt)) (by repeat (first | assumption | exact lessN_lt _ _ | apply and_lt | apply or_lt)) (by repeat (first | assumption | exact lessN_lt _ _ | apply and_lt | apply or_lt)) (by repeat (first | assumption | exact lessN_lt _ _ | apply and_lt | apply or_lt)) (by repeat (first | assumption | exact lessN_lt _ _ | apply and_lt | apply or_lt)) (by repeat (first | assumption | exact lessN_lt _ _ | apply and_lt | apply or_lt)) (by repeat (first | assumption | exact lessN_lt _ _ | apply and_lt | apply or_lt)) (by repeat (first | assumption | exact lessN_lt _ _ | apply and_lt | apply or_lt)) (by repeat (first | assumption | exact lessN_lt _ _ | apply and_lt | apply or_lt)) (by repeat (first | assumption | exact lessN_lt _ _ | apply and_lt | apply or_lt)) (by repeat (first | assumption | exact lessN_lt _ _ | apply and_lt | apply or_lt))
      (lat_e0 a b c ha hb hc) (lat_e1 a b c ha hb hc) (lat_e2 a b c ha hb hc) (lat_e3 a b c ha hb hc) (lat_e4 a b c ha hb hc) (lat_e5 a b c ha hb hc) (lat_e6 a b c ha hb hc) (lat_e7 a b c ha hb hc) (lat_e8 a b c ha hb hc) (lat_e9 a b c ha hb hc) (lat_e10 a b c ha hb hc) (lat_e11 a b c ha hb hc) (lat_e12 a b c ha hb hc) (lat_e13 a b c ha hb hc) (lat_e14 a b c ha hb hc) (lat_e15 a b c ha hb hc) (lat_e16 a b c ha hb hc) (lat_e17 a b c ha hb hc) (lat_e18 a b c ha hb hc) (lat_e19 a b c ha hb hc) (lat_e20 a b c ha hb hc) (lat_e21 a b c ha hb hc) (lat_e22 a b c ha hb hc) (lat_e23 a b c ha hb hc) (lat_e24 a b c ha hb hc) (lat_e25 a b c ha hb hc) (lat_e26 a b c ha hb hc) (lat_e27 a b c ha hb hc) (lat_e28 a b c ha hb hc) (lat_e29 a b c ha hb hc)
      (by simpa using hl) (by have : ¬ (a &&& b) = b := fun h => hl (s1.1 h); simp; omega) (by have : ¬ (a ||| b) = a := fun h => hl (s2.1 h); simp; omega) (by simpa using hl) w
end Go.Proofs.Ytbdbhacniejagaa
