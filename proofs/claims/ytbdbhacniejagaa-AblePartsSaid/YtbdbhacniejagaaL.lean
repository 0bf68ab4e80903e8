/- The walk of AbleSets. -/
import Derived.Test.YtbdbhacniejagaaJ
import Derived.Test.YtbdbhacniejagaaK
namespace Go.Proofs.Ytbdbhacniejagaa
open Go.RowKit Go.Shelf
set_option maxHeartbeats 2000000

/-- What a list of the call's own, with two marks behind it, is good for. -/
theorem own_reads {w : World} {B g n cap : Nat} {xs : List Int} (hn : xs.length = n) (hr : n ≤ 140737488351232) (hx : ∀ x ∈ xs, 0 ≤ x ∧ x ≤ 255) (h : w.ownsRow B 22 1 (.slice (some ⟨g, 0, none⟩) (n + 2) cap) (n + 2) (u8s (xs ++ [77, 78]))) :
    ReadsU8 w (some ⟨g, 0, none⟩) xs ∧ (∀ j, j < n → w.cell? ⟨g, j, none⟩ = some (.int .u8 (xs[j]?.getD 0))) ∧ w.cell? ⟨g, n, none⟩ = some (.int .u8 77) ∧ w.cell? ⟨g, n + 1, none⟩ = some (.int .u8 78) := by
  have hc : ∀ j, j < n + 2 → w.cell? ⟨g, j, none⟩ = (u8s (xs ++ [77, 78]))[j]? := fun j hj => h.cellAt j (by omega)
  have hj : ∀ j, j < n → w.cell? ⟨g, j, none⟩ = some (.int .u8 (xs[j]?.getD 0)) := fun j hj => by
    rw [hc j (by omega)]
    simp [u8s, List.getElem?_append, hn, hj]
  refine ⟨⟨by omega, fun j hjl => ⟨g, 0, rfl, by rw [Nat.zero_add]; exact hj j (by omega), ?_⟩⟩, hj, ?_, ?_⟩
  · rw [List.getElem?_eq_getElem hjl]
    exact hx _ (List.getElem_mem hjl)
  · rw [hc n (by omega)]
    simp [u8s, hn]
  · rw [hc (n + 1) (by omega)]
    simp [u8s, hn]
theorem ReadsU8.below {w w' : World} {a : Option Addr} {xs : List Int} (h : ReadsU8 w a xs) (hb : Below w.heap.size w w') : ReadsU8 w' a xs :=
  ⟨h.1, fun j hj => by
    obtain ⟨b, o, e, hc, h1, h2⟩ := h.2 j hj
    exact ⟨b, o, e, (hb.cell (p := ⟨b, o + j, none⟩) (World.block_lt_of_cell? w _ hc)).trans hc, h1, h2⟩⟩
theorem below_then {w w1 w2 : World} (h : Below w.heap.size w w1) (k : Below w1.heap.size w1 w2) : Below w.heap.size w w2 := h.trans (k.mono h.size)
theorem below_drewN (w : World) (q : Nat) : Below w.heap.size w (w.drewN q) := ⟨rfl, rfl, rfl, Nat.le_refl _, fun _ _ => rfl⟩
theorem meet_ref (a : Option Addr) (n c : Nat) (xs : List Int) (hn : xs.length = n) (w : World) (h : ReadsU8 w a xs) (hx : ∀ x ∈ xs, 0 ≤ x ∧ x ≤ 255) : Calls Try.prog 24 #[.slice a n c] w fun e w' => e = .returned (.int .u8 (sumP (fun k => xs.all (fun x => inB x k)) 6 : Nat)) ∧ w = w' :=
  (meet_any a n c xs hn w h).mono fun e w' ⟨he, hw⟩ => ⟨he.trans (by rw [meet_nat xs hx]), hw⟩
theorem join_ref (a : Option Addr) (n c : Nat) (xs : List Int) (hn : xs.length = n) (w : World) (h : ReadsU8 w a xs) (hx : ∀ x ∈ xs, 0 ≤ x ∧ x ≤ 255) : Calls Try.prog 26 #[.slice a n c] w fun e w' => e = .returned (.int .u8 (sumP (fun k => xs.any (fun x => inB x k)) 6 : Nat)) ∧ w = w' :=
  (join_any' a n c xs hn w h).mono fun e w' ⟨he, hw⟩ => ⟨he.trans (by rw [join_nat xs hx]), hw⟩
set_option maxRecDepth 100000 in
theorem sets_a (a b : Int) (s : Option Addr) (n c : Nat) (xs : List Int) (wa : (Lit.int .u8 a).wf = true) (wb : (Lit.int .u8 b).wf = true) (hn : xs.length = n) (hr : n ≤ 140737488351232) (w : World) (h : ReadsU8 w s xs) (hx : ∀ x ∈ xs, 0 ≤ x ∧ x ≤ 255) (hone : oneB a = true) (hlt : a < 64) :
    Calls Try.prog 6 #[.int .u8 a, .int .u8 b, .slice s n c] w fun e w' => e = .returned (.bool true) ∧ Below w.heap.size w w' := by
  obtain ⟨a0, a1⟩ := wf_u8 wa
  obtain ⟨b0, b1⟩ := wf_u8 wb
  obtain ⟨f1, f2, f3, f4, f5⟩ := fact_at a a0 a1
  have m1 : ∀ w : World, Calls Try.prog 17 #[.int .u8 a] w fun e w' => e = .returned (.bool true) ∧ w = w' := fun w => (may_any a w).mono fun e w' ⟨he, hw⟩ => ⟨he.trans (by rw [f1]; simp; omega), hw⟩
  have m2 : ∀ w : World, Calls Try.prog 18 #[.int .u8 a] w fun e w' => e = .returned (.bool true) ∧ w = w' := fun w => (refMay_any a w).mono fun e w' ⟨he, hw⟩ => ⟨he.trans (by simp; omega), hw⟩
  have o1 : ∀ w : World, Calls Try.prog 19 #[.int .u8 a] w fun e w' => e = .returned (.bool true) ∧ w = w' := fun w => (one_any a a0 a1 w).mono fun e w' ⟨he, hw⟩ => ⟨he.trans (by rw [hone]), hw⟩
  have o2 : ∀ w : World, Calls Try.prog 20 #[.int .u8 a] w fun e w' => e = .returned (.bool true) ∧ w = w' := fun w => (refOne_any a w).mono fun e w' ⟨he, hw⟩ => ⟨he.trans (by rw [← f2, hone]), hw⟩
  have c1 : ∀ w : World, Calls Try.prog 21 #[.int .u8 a] w fun e w' => e = .returned (.int .i64 (cntP (inB a) 6 : Nat)) ∧ w = w' := fun w => (count_any a a0 a1 w).mono fun e w' ⟨he, hw⟩ => ⟨he.trans (by rw [f3]), hw⟩
  have c2 := refCount_any a
  have p1 : ∀ w : World, Calls Try.prog 15 #[.int .u8 a] w fun e w' => e = .returned (.tuple #[.int .i64 (placeB a), .int .i64 0]) ∧ w = w' := fun w => place_yes a a0 a1 hone w
  have p2 : ∀ w : World, Calls Try.prog 16 #[.int .u8 a] w fun e w' => e = .returned (.tuple #[.int .i64 (placeB a), .bool true]) ∧ w = w' := fun w => (refPlace_any a w).mono fun e w' ⟨he, hw⟩ => ⟨he.trans (by unfold placeV; rw [f4, hone]; simp only [if_true]; rw [show (((placeB a).toNat : Nat) : Int) = placeB a by omega]), hw⟩
  have t1 : ∀ w : World, Calls Try.prog 13 #[.int .u8 a] w fun e w' => e = .returned (.tuple #[.string (textS a), .int .i64 0]) ∧ Below w.heap.size w w' := fun w => text_yes a a0 a1 (by rw [f1]; simpa using hlt) w
  have t2 : ∀ w : World, Calls Try.prog 23 #[.int .u8 a] w fun e w' => e = .returned (.string (textS a)) ∧ Below w.heap.size w w' := fun w => (refText_any a w).mono fun e w' ⟨he, hw⟩ => ⟨he.trans (by
    have := text_same a.toNat (by omega)
    rw [show ((a.toNat : Nat) : Int) = a by omega] at this
    rw [this]), hw⟩
  have l1 : ∀ w : World, Calls Try.prog 29 #[.int .u8 a, .int .u8 b] w fun e w' => e = .returned (.int .u8 (sumP (fun k => inB a k && !inB b k) 6 : Nat)) ∧ w = w' := fun w => (less_any a b w).mono fun e w' ⟨he, hw⟩ => ⟨he.trans (by
    have := less_nat a.toNat b.toNat (by omega) (by omega)
    rw [show ((a.toNat : Nat) : Int) = a by omega, show ((b.toNat : Nat) : Int) = b by omega] at this
    rw [this]), hw⟩
  have h1 : ∀ w : World, Calls Try.prog 31 #[.int .u8 a, .int .u8 b] w fun e w' => e = .returned (.bool (hasFrom a b 6 0)) ∧ w = w' := fun w => (has_any a b w).mono fun e w' ⟨he, hw⟩ => ⟨he.trans (by
    have := has_nat a.toNat b.toNat (by omega) (by omega)
    rw [show ((a.toNat : Nat) : Int) = a by omega, show ((b.toNat : Nat) : Int) = b by omega] at this
    rw [this]), hw⟩
  have M1 := Lib.hid m1
  have M2 := Lib.hid m2
  have O1 := Lib.hid o1
  have O2 := Lib.hid o2
  have C1 := Lib.hid c1
  have C2 := Lib.hid c2
  have P1 := Lib.hid p1
  have P2 := Lib.hid p2
  have T1 := Lib.hid t1
  have T2 := Lib.hid t2
  have L1 := Lib.hid l1
  have H1 := Lib.hid h1
  have H := Lib.hid h
  have Hx := Lib.hid hx
  have Hn := Lib.hid hn
  clear wa wb f1 f2 f3 f4 f5 h hx hn hone m1 m2 o1 o2 c1 c2 p1 p2 t1 t2 l1 h1
  go_enter Try.func6, Try.ntmps6
  go_wp2_with fail
  refine (lent_any s n c xs Hn.out hr _ H.out).mono ?_
  rintro e w1 ⟨g, cap, rfl, hcap, hown, hb1⟩
  obtain ⟨hg1, hg2, hg3, hg4⟩ := own_reads Hn.out hr Hx.out hown
  have hgl : g < w1.heap.size := (hown.lt g rfl).2
  have HG1 := Lib.hid hg1
  have HG2 := Lib.hid hg2
  have HG3 := Lib.hid hg3
  have HG4 := Lib.hid hg4
  have HO := Lib.hid hown
  clear hg1 hg2 hg3 hg4 hown
  go_wp2_with fail
  refine (P1.out _).mono ?_
  rintro e w' ⟨rfl, rfl⟩
  go_wp2_with fail
  refine (P2.out _).mono ?_
  rintro e w' ⟨rfl, rfl⟩
  go_wp2_with fail
  refine (T1.out _).mono ?_
  rintro e w2 ⟨rfl, hb2⟩
  go_wp2_with fail
  refine (M1.out _).mono ?_
  rintro e w' ⟨rfl, rfl⟩
  go_wp2_with fail
  refine (M2.out _).mono ?_
  rintro e w' ⟨rfl, rfl⟩
  go_wp2_with fail
  refine (O1.out _).mono ?_
  rintro e w' ⟨rfl, rfl⟩
  go_wp2_with fail
  refine (O2.out _).mono ?_
  rintro e w' ⟨rfl, rfl⟩
  go_wp2_with fail
  refine (C1.out _).mono ?_
  rintro e w' ⟨rfl, rfl⟩
  go_wp2_with fail
  refine (C2.out _).mono ?_
  rintro e w' ⟨rfl, rfl⟩
  go_wp2_with fail
  refine (M2.out _).mono ?_
  rintro e w' ⟨rfl, rfl⟩
  go_wp2_with fail
  refine (T2.out _).mono ?_
  rintro e w3 ⟨rfl, hb3⟩
  have hb13 : Below w1.heap.size w1 w3 := below_then hb2 hb3
  go_wp2_with fail
  refine (M2.out _).mono ?_
  rintro e w' ⟨rfl, rfl⟩
  go_wp2_with fail
  refine (meet_ref (some ⟨g, 0, none⟩) n cap xs Hn.out _ (HG1.out.below hb13) Hx.out).mono ?_
  rintro e w' ⟨rfl, rfl⟩
  go_wp2_with fail
  refine (refMeet_any s n c xs Hn.out _ (H.out.below (below_then hb1 hb13))).mono ?_
  rintro e w' ⟨rfl, rfl⟩
  go_wp2_with fail
  refine (join_ref (some ⟨g, 0, none⟩) n cap xs Hn.out _ (HG1.out.below hb13) Hx.out).mono ?_
  rintro e w' ⟨rfl, rfl⟩
  go_wp2_with fail
  refine (refJoin_any s n c xs Hn.out _ (H.out.below (below_then hb1 hb13))).mono ?_
  rintro e w' ⟨rfl, rfl⟩
  go_wp2_with fail
  refine (kept_any g n cap c s xs Hn.out hr hcap _ (H.out.below (below_then hb1 hb13)) (fun j hj => (hb13.cell (p := ⟨g, j, none⟩) hgl).trans (HG2.out j hj)) ((hb13.cell (p := ⟨g, n, none⟩) hgl).trans HG3.out) ((hb13.cell (p := ⟨g, n + 1, none⟩) hgl).trans HG4.out)).mono ?_
  rintro e w4 ⟨rfl, q, rfl⟩
  go_wp2_with fail
  refine (L1.out _).mono ?_
  rintro e w' ⟨rfl, rfl⟩
  go_wp2_with fail
  refine (refLess_any a b _).mono ?_
  rintro e w' ⟨rfl, rfl⟩
  go_wp2_with fail
  refine (H1.out _).mono ?_
  rintro e w' ⟨rfl, rfl⟩
  go_wp2_with fail
  refine (refHas_any a b _).mono ?_
  rintro e w' ⟨rfl, rfl⟩
  go_wp2_with fail
  refine (lives_any _).mono ?_
  rintro e w5 ⟨rfl, hb5⟩
  go_wp2_with fail
  go_ret
  exact ⟨rfl, below_then (below_then (below_then hb1 hb13) (below_drewN _ q)) hb5⟩
set_option maxRecDepth 100000 in
theorem sets_b (a b : Int) (s : Option Addr) (n c : Nat) (xs : List Int) (wa : (Lit.int .u8 a).wf = true) (wb : (Lit.int .u8 b).wf = true) (hn : xs.length = n) (hr : n ≤ 140737488351232) (w : World) (h : ReadsU8 w s xs) (hx : ∀ x ∈ xs, 0 ≤ x ∧ x ≤ 255) (hone : oneB a = false) (hlt : a < 64) :
    Calls Try.prog 6 #[.int .u8 a, .int .u8 b, .slice s n c] w fun e w' => e = .returned (.bool true) ∧ Below w.heap.size w w' := by
  obtain ⟨a0, a1⟩ := wf_u8 wa
  obtain ⟨b0, b1⟩ := wf_u8 wb
  obtain ⟨f1, f2, f3, f4, f5⟩ := fact_at a a0 a1
  have m1 : ∀ w : World, Calls Try.prog 17 #[.int .u8 a] w fun e w' => e = .returned (.bool true) ∧ w = w' := fun w => (may_any a w).mono fun e w' ⟨he, hw⟩ => ⟨he.trans (by rw [f1]; simp; omega), hw⟩
  have m2 : ∀ w : World, Calls Try.prog 18 #[.int .u8 a] w fun e w' => e = .returned (.bool true) ∧ w = w' := fun w => (refMay_any a w).mono fun e w' ⟨he, hw⟩ => ⟨he.trans (by simp; omega), hw⟩
  have o1 : ∀ w : World, Calls Try.prog 19 #[.int .u8 a] w fun e w' => e = .returned (.bool false) ∧ w = w' := fun w => (one_any a a0 a1 w).mono fun e w' ⟨he, hw⟩ => ⟨he.trans (by rw [hone]), hw⟩
  have o2 : ∀ w : World, Calls Try.prog 20 #[.int .u8 a] w fun e w' => e = .returned (.bool false) ∧ w = w' := fun w => (refOne_any a w).mono fun e w' ⟨he, hw⟩ => ⟨he.trans (by rw [← f2, hone]), hw⟩
  have c1 : ∀ w : World, Calls Try.prog 21 #[.int .u8 a] w fun e w' => e = .returned (.int .i64 (cntP (inB a) 6 : Nat)) ∧ w = w' := fun w => (count_any a a0 a1 w).mono fun e w' ⟨he, hw⟩ => ⟨he.trans (by rw [f3]), hw⟩
  have c2 := refCount_any a
  have p1 : ∀ w : World, Calls Try.prog 15 #[.int .u8 a] w fun e w' => e = .returned (.tuple #[.int .i64 0, .int .i64 2]) ∧ w = w' := fun w => place_no a a0 a1 hone w
  have p2 : ∀ w : World, Calls Try.prog 16 #[.int .u8 a] w fun e w' => e = .returned (.tuple #[.int .i64 0, .bool false]) ∧ w = w' := fun w => (refPlace_any a w).mono fun e w' ⟨he, hw⟩ => ⟨he.trans (by unfold placeV; rw [f4, hone]; rfl), hw⟩
  have t1 : ∀ w : World, Calls Try.prog 13 #[.int .u8 a] w fun e w' => e = .returned (.tuple #[.string (textS a), .int .i64 0]) ∧ Below w.heap.size w w' := fun w => text_yes a a0 a1 (by rw [f1]; simpa using hlt) w
  have t2 : ∀ w : World, Calls Try.prog 23 #[.int .u8 a] w fun e w' => e = .returned (.string (textS a)) ∧ Below w.heap.size w w' := fun w => (refText_any a w).mono fun e w' ⟨he, hw⟩ => ⟨he.trans (by
    have := text_same a.toNat (by omega)
    rw [show ((a.toNat : Nat) : Int) = a by omega] at this
    rw [this]), hw⟩
  have l1 : ∀ w : World, Calls Try.prog 29 #[.int .u8 a, .int .u8 b] w fun e w' => e = .returned (.int .u8 (sumP (fun k => inB a k && !inB b k) 6 : Nat)) ∧ w = w' := fun w => (less_any a b w).mono fun e w' ⟨he, hw⟩ => ⟨he.trans (by
    have := less_nat a.toNat b.toNat (by omega) (by omega)
    rw [show ((a.toNat : Nat) : Int) = a by omega, show ((b.toNat : Nat) : Int) = b by omega] at this
    rw [this]), hw⟩
  have h1 : ∀ w : World, Calls Try.prog 31 #[.int .u8 a, .int .u8 b] w fun e w' => e = .returned (.bool (hasFrom a b 6 0)) ∧ w = w' := fun w => (has_any a b w).mono fun e w' ⟨he, hw⟩ => ⟨he.trans (by
    have := has_nat a.toNat b.toNat (by omega) (by omega)
    rw [show ((a.toNat : Nat) : Int) = a by omega, show ((b.toNat : Nat) : Int) = b by omega] at this
    rw [this]), hw⟩
  have M1 := Lib.hid m1
  have M2 := Lib.hid m2
  have O1 := Lib.hid o1
  have O2 := Lib.hid o2
  have C1 := Lib.hid c1
  have C2 := Lib.hid c2
  have P1 := Lib.hid p1
  have P2 := Lib.hid p2
  have T1 := Lib.hid t1
  have T2 := Lib.hid t2
  have L1 := Lib.hid l1
  have H1 := Lib.hid h1
  have H := Lib.hid h
  have Hx := Lib.hid hx
  have Hn := Lib.hid hn
  clear wa wb f1 f2 f3 f4 f5 h hx hn hone m1 m2 o1 o2 c1 c2 p1 p2 t1 t2 l1 h1
  go_enter Try.func6, Try.ntmps6
  go_wp2_with fail
  refine (lent_any s n c xs Hn.out hr _ H.out).mono ?_
  rintro e w1 ⟨g, cap, rfl, hcap, hown, hb1⟩
  obtain ⟨hg1, hg2, hg3, hg4⟩ := own_reads Hn.out hr Hx.out hown
  have hgl : g < w1.heap.size := (hown.lt g rfl).2
  have HG1 := Lib.hid hg1
  have HG2 := Lib.hid hg2
  have HG3 := Lib.hid hg3
  have HG4 := Lib.hid hg4
  have HO := Lib.hid hown
  clear hg1 hg2 hg3 hg4 hown
  go_wp2_with fail
  refine (P1.out _).mono ?_
  rintro e w' ⟨rfl, rfl⟩
  go_wp2_with fail
  refine (P2.out _).mono ?_
  rintro e w' ⟨rfl, rfl⟩
  go_wp2_with fail
  refine (T1.out _).mono ?_
  rintro e w2 ⟨rfl, hb2⟩
  go_wp2_with fail
  refine (M1.out _).mono ?_
  rintro e w' ⟨rfl, rfl⟩
  go_wp2_with fail
  refine (M2.out _).mono ?_
  rintro e w' ⟨rfl, rfl⟩
  go_wp2_with fail
  refine (O1.out _).mono ?_
  rintro e w' ⟨rfl, rfl⟩
  go_wp2_with fail
  refine (O2.out _).mono ?_
  rintro e w' ⟨rfl, rfl⟩
  go_wp2_with fail
  refine (C1.out _).mono ?_
  rintro e w' ⟨rfl, rfl⟩
  go_wp2_with fail
  refine (C2.out _).mono ?_
  rintro e w' ⟨rfl, rfl⟩
  go_wp2_with fail
  refine (M2.out _).mono ?_
  rintro e w' ⟨rfl, rfl⟩
  go_wp2_with fail
  refine (T2.out _).mono ?_
  rintro e w3 ⟨rfl, hb3⟩
  have hb13 : Below w1.heap.size w1 w3 := below_then hb2 hb3
  go_wp2_with fail
  refine (M2.out _).mono ?_
  rintro e w' ⟨rfl, rfl⟩
  go_wp2_with fail
  refine (meet_ref (some ⟨g, 0, none⟩) n cap xs Hn.out _ (HG1.out.below hb13) Hx.out).mono ?_
  rintro e w' ⟨rfl, rfl⟩
  go_wp2_with fail
  refine (refMeet_any s n c xs Hn.out _ (H.out.below (below_then hb1 hb13))).mono ?_
  rintro e w' ⟨rfl, rfl⟩
  go_wp2_with fail
  refine (join_ref (some ⟨g, 0, none⟩) n cap xs Hn.out _ (HG1.out.below hb13) Hx.out).mono ?_
  rintro e w' ⟨rfl, rfl⟩
  go_wp2_with fail
  refine (refJoin_any s n c xs Hn.out _ (H.out.below (below_then hb1 hb13))).mono ?_
  rintro e w' ⟨rfl, rfl⟩
  go_wp2_with fail
  refine (kept_any g n cap c s xs Hn.out hr hcap _ (H.out.below (below_then hb1 hb13)) (fun j hj => (hb13.cell (p := ⟨g, j, none⟩) hgl).trans (HG2.out j hj)) ((hb13.cell (p := ⟨g, n, none⟩) hgl).trans HG3.out) ((hb13.cell (p := ⟨g, n + 1, none⟩) hgl).trans HG4.out)).mono ?_
  rintro e w4 ⟨rfl, q, rfl⟩
  go_wp2_with fail
  refine (L1.out _).mono ?_
  rintro e w' ⟨rfl, rfl⟩
  go_wp2_with fail
  refine (refLess_any a b _).mono ?_
  rintro e w' ⟨rfl, rfl⟩
  go_wp2_with fail
  refine (H1.out _).mono ?_
  rintro e w' ⟨rfl, rfl⟩
  go_wp2_with fail
  refine (refHas_any a b _).mono ?_
  rintro e w' ⟨rfl, rfl⟩
  go_wp2_with fail
  refine (lives_any _).mono ?_
  rintro e w5 ⟨rfl, hb5⟩
  go_wp2_with fail
  go_ret
  exact ⟨rfl, below_then (below_then (below_then hb1 hb13) (below_drewN _ q)) hb5⟩
set_option maxRecDepth 100000 in
theorem sets_c (a b : Int) (s : Option Addr) (n c : Nat) (xs : List Int) (wa : (Lit.int .u8 a).wf = true) (wb : (Lit.int .u8 b).wf = true) (hn : xs.length = n) (hr : n ≤ 140737488351232) (w : World) (h : ReadsU8 w s xs) (hx : ∀ x ∈ xs, 0 ≤ x ∧ x ≤ 255) (hone : oneB a = false) (hlt : ¬ a < 64) :
    Calls Try.prog 6 #[.int .u8 a, .int .u8 b, .slice s n c] w fun e w' => e = .returned (.bool true) ∧ Below w.heap.size w w' := by
  obtain ⟨a0, a1⟩ := wf_u8 wa
  obtain ⟨b0, b1⟩ := wf_u8 wb
  obtain ⟨f1, f2, f3, f4, f5⟩ := fact_at a a0 a1
  have m1 : ∀ w : World, Calls Try.prog 17 #[.int .u8 a] w fun e w' => e = .returned (.bool false) ∧ w = w' := fun w => (may_any a w).mono fun e w' ⟨he, hw⟩ => ⟨he.trans (by rw [f1]; simp; omega), hw⟩
  have m2 : ∀ w : World, Calls Try.prog 18 #[.int .u8 a] w fun e w' => e = .returned (.bool false) ∧ w = w' := fun w => (refMay_any a w).mono fun e w' ⟨he, hw⟩ => ⟨he.trans (by simp; omega), hw⟩
  have o1 : ∀ w : World, Calls Try.prog 19 #[.int .u8 a] w fun e w' => e = .returned (.bool false) ∧ w = w' := fun w => (one_any a a0 a1 w).mono fun e w' ⟨he, hw⟩ => ⟨he.trans (by rw [hone]), hw⟩
  have o2 : ∀ w : World, Calls Try.prog 20 #[.int .u8 a] w fun e w' => e = .returned (.bool false) ∧ w = w' := fun w => (refOne_any a w).mono fun e w' ⟨he, hw⟩ => ⟨he.trans (by rw [← f2, hone]), hw⟩
  have c1 : ∀ w : World, Calls Try.prog 21 #[.int .u8 a] w fun e w' => e = .returned (.int .i64 (cntP (inB a) 6 : Nat)) ∧ w = w' := fun w => (count_any a a0 a1 w).mono fun e w' ⟨he, hw⟩ => ⟨he.trans (by rw [f3]), hw⟩
  have c2 := refCount_any a
  have p1 : ∀ w : World, Calls Try.prog 15 #[.int .u8 a] w fun e w' => e = .returned (.tuple #[.int .i64 0, .int .i64 2]) ∧ w = w' := fun w => place_no a a0 a1 hone w
  have p2 : ∀ w : World, Calls Try.prog 16 #[.int .u8 a] w fun e w' => e = .returned (.tuple #[.int .i64 0, .bool false]) ∧ w = w' := fun w => (refPlace_any a w).mono fun e w' ⟨he, hw⟩ => ⟨he.trans (by unfold placeV; rw [f4, hone]; rfl), hw⟩
  have t1 : ∀ w : World, Calls Try.prog 13 #[.int .u8 a] w fun e w' => e = .returned (.tuple #[.string ⟨#[]⟩, .int .i64 2]) ∧ Below w.heap.size w w' := fun w => (text_no a (by rw [f1]; simpa using hlt) w).mono fun e w' ⟨he, hw⟩ => ⟨he, hw ▸ Below.refl _ _⟩
  have l1 : ∀ w : World, Calls Try.prog 29 #[.int .u8 a, .int .u8 b] w fun e w' => e = .returned (.int .u8 (sumP (fun k => inB a k && !inB b k) 6 : Nat)) ∧ w = w' := fun w => (less_any a b w).mono fun e w' ⟨he, hw⟩ => ⟨he.trans (by
    have := less_nat a.toNat b.toNat (by omega) (by omega)
    rw [show ((a.toNat : Nat) : Int) = a by omega, show ((b.toNat : Nat) : Int) = b by omega] at this
    rw [this]), hw⟩
  have h1 : ∀ w : World, Calls Try.prog 31 #[.int .u8 a, .int .u8 b] w fun e w' => e = .returned (.bool (hasFrom a b 6 0)) ∧ w = w' := fun w => (has_any a b w).mono fun e w' ⟨he, hw⟩ => ⟨he.trans (by
    have := has_nat a.toNat b.toNat (by omega) (by omega)
    rw [show ((a.toNat : Nat) : Int) = a by omega, show ((b.toNat : Nat) : Int) = b by omega] at this
    rw [this]), hw⟩
  have M1 := Lib.hid m1
  have M2 := Lib.hid m2
  have O1 := Lib.hid o1
  have O2 := Lib.hid o2
  have C1 := Lib.hid c1
  have C2 := Lib.hid c2
  have P1 := Lib.hid p1
  have P2 := Lib.hid p2
  have T1 := Lib.hid t1
  have L1 := Lib.hid l1
  have H1 := Lib.hid h1
  have H := Lib.hid h
  have Hx := Lib.hid hx
  have Hn := Lib.hid hn
  clear wa wb f1 f2 f3 f4 f5 h hx hn hone m1 m2 o1 o2 c1 c2 p1 p2 t1 l1 h1
  go_enter Try.func6, Try.ntmps6
  go_wp2_with fail
  refine (lent_any s n c xs Hn.out hr _ H.out).mono ?_
  rintro e w1 ⟨g, cap, rfl, hcap, hown, hb1⟩
  obtain ⟨hg1, hg2, hg3, hg4⟩ := own_reads Hn.out hr Hx.out hown
  have hgl : g < w1.heap.size := (hown.lt g rfl).2
  have HG1 := Lib.hid hg1
  have HG2 := Lib.hid hg2
  have HG3 := Lib.hid hg3
  have HG4 := Lib.hid hg4
  have HO := Lib.hid hown
  clear hg1 hg2 hg3 hg4 hown
  go_wp2_with fail
  refine (P1.out _).mono ?_
  rintro e w' ⟨rfl, rfl⟩
  go_wp2_with fail
  refine (P2.out _).mono ?_
  rintro e w' ⟨rfl, rfl⟩
  go_wp2_with fail
  refine (T1.out _).mono ?_
  rintro e w2 ⟨rfl, hb2⟩
  go_wp2_with fail
  refine (M1.out _).mono ?_
  rintro e w' ⟨rfl, rfl⟩
  go_wp2_with fail
  refine (M2.out _).mono ?_
  rintro e w' ⟨rfl, rfl⟩
  go_wp2_with fail
  refine (O1.out _).mono ?_
  rintro e w' ⟨rfl, rfl⟩
  go_wp2_with fail
  refine (O2.out _).mono ?_
  rintro e w' ⟨rfl, rfl⟩
  go_wp2_with fail
  refine (C1.out _).mono ?_
  rintro e w' ⟨rfl, rfl⟩
  go_wp2_with fail
  refine (C2.out _).mono ?_
  rintro e w' ⟨rfl, rfl⟩
  go_wp2_with fail
  refine (M2.out _).mono ?_
  rintro e w' ⟨rfl, rfl⟩
  go_wp2_with fail
  refine (M2.out _).mono ?_
  rintro e w3 ⟨rfl, hw3⟩
  subst hw3
  have hb13 : Below w1.heap.size w1 w2 := hb2
  go_wp2_with fail
  refine (meet_ref (some ⟨g, 0, none⟩) n cap xs Hn.out _ (HG1.out.below hb13) Hx.out).mono ?_
  rintro e w' ⟨rfl, rfl⟩
  go_wp2_with fail
  refine (refMeet_any s n c xs Hn.out _ (H.out.below (below_then hb1 hb13))).mono ?_
  rintro e w' ⟨rfl, rfl⟩
  go_wp2_with fail
  refine (join_ref (some ⟨g, 0, none⟩) n cap xs Hn.out _ (HG1.out.below hb13) Hx.out).mono ?_
  rintro e w' ⟨rfl, rfl⟩
  go_wp2_with fail
  refine (refJoin_any s n c xs Hn.out _ (H.out.below (below_then hb1 hb13))).mono ?_
  rintro e w' ⟨rfl, rfl⟩
  go_wp2_with fail
  refine (kept_any g n cap c s xs Hn.out hr hcap _ (H.out.below (below_then hb1 hb13)) (fun j hj => (hb13.cell (p := ⟨g, j, none⟩) hgl).trans (HG2.out j hj)) ((hb13.cell (p := ⟨g, n, none⟩) hgl).trans HG3.out) ((hb13.cell (p := ⟨g, n + 1, none⟩) hgl).trans HG4.out)).mono ?_
  rintro e w4 ⟨rfl, q, rfl⟩
  go_wp2_with fail
  refine (L1.out _).mono ?_
  rintro e w' ⟨rfl, rfl⟩
  go_wp2_with fail
  refine (refLess_any a b _).mono ?_
  rintro e w' ⟨rfl, rfl⟩
  go_wp2_with fail
  refine (H1.out _).mono ?_
  rintro e w' ⟨rfl, rfl⟩
  go_wp2_with fail
  refine (refHas_any a b _).mono ?_
  rintro e w' ⟨rfl, rfl⟩
  go_wp2_with fail
  refine (lives_any _).mono ?_
  rintro e w5 ⟨rfl, hb5⟩
  go_wp2_with fail
  go_ret
  exact ⟨rfl, below_then (below_then (below_then hb1 hb13) (below_drewN _ q)) hb5⟩

theorem sets_walk (a b : Int) (s : Option Addr) (n c : Nat) (xs : List Int) (wa : (Lit.int .u8 a).wf = true) (wb : (Lit.int .u8 b).wf = true) (hn : xs.length = n) (hr : n ≤ 140737488351232) (w : World) (h : ReadsU8 w s xs) (hx : ∀ x ∈ xs, 0 ≤ x ∧ x ≤ 255) :
    Calls Try.prog 6 #[.int .u8 a, .int .u8 b, .slice s n c] w fun e w' => e = .returned (.bool true) ∧ Below w.heap.size w w' := by
  obtain ⟨a0, a1⟩ := wf_u8 wa
  obtain ⟨f1, _⟩ := fact_at a a0 a1
  by_cases hlt : a < 64
  · cases hone : oneB a with
    | true => exact sets_a a b s n c xs wa wb hn hr w h hx hone hlt
    | false => exact sets_b a b s n c xs wa wb hn hr w h hx hone hlt
  · have hone : oneB a = false := by unfold oneB; rw [f1]; simp [hlt]
    exact sets_c a b s n c xs wa wb hn hr w h hx hone hlt
end Go.Proofs.Ytbdbhacniejagaa
