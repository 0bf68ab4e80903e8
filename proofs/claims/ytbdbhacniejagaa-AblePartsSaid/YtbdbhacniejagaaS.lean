/- The walk of AbleParts. -/
import Derived.Test.YtbdbhacniejagaaR
import Derived.Test.YtbdbhacniejagaaO
import Derived.Test.YtbdbhacniejagaaF
import Derived.BigRegionIn
namespace Go.Proofs.Ytbdbhacniejagaa
open Go.RowKit Go.Shelf
attribute [local go_sem] Oper.semAt_some
set_option maxHeartbeats 4000000
theorem boxDrew {W : World} {B : Nat} {t : TypeId} {v : Value} (h : Boxed W B t v) : Boxed W.drew B t v := h
theorem joinB (x y : Nat) (hx : x < 64) (hy : y < 64) (W : World) (B : Nat) (hB : W.heap.size = B) : Calls Try.prog 26 #[.slice (some ⟨B, 0, none⟩) 2 2] (W.alloc (.cells #[.int .u8 (x : Int), .int .u8 (y : Int)] 22)) fun e w' => e = .returned (.int .u8 ((x ||| y : Nat) : Int)) ∧ W.alloc (.cells #[.int .u8 (x : Int), .int .u8 (y : Int)] 22) = w' := by
  subst hB
  exact joinW x y hx hy W
theorem two {W : World} {B V : Nat} {t : TypeId} {u v1 v2 : Value} {o1 o2 : Obj} (h : Boxed W B t u) (h1 : B ≠ V) (h2 : B ≠ V + 1) : Boxed ((((W.setCell ⟨V, 0, none⟩ v1).setCell ⟨V + 1, 0, none⟩ v2).alloc o1).alloc o2) B t u :=
  ((box_other (box_other h h1) h2).alloc o1).alloc o2
def PInv (m q S : Nat) (w : World) (pre : List (Fin 64)) (W : World) : Prop :=
  Boxed W w.heap.size 22 (.int .u8 (m : Int)) ∧ Boxed W (w.heap.size + 1) 22 (.int .u8 (q : Int)) ∧ Boxed W (w.heap.size + 1 + 1) 4 (.bool false) ∧ Boxed W S 3 (.int .i64 (pre.length : Nat)) ∧ Boxed W (S + 1) 4 (.bool (metQ q pre)) ∧ Boxed W (S + 1 + 1) 3 (.int .i64 (lastOf (-1) pre)) ∧ Boxed W (S + 1 + 1 + 1) 22 (.int .u8 (m : Int)) ∧ Boxed W (S + 1 + 1 + 1 + 1) 22 (.int .u8 (m : Int)) ∧ Below w.heap.size w W
theorem PInv.own (m q S : Nat) (w : World) (B : Nat) (hB : w.heap.size ≤ B) : OwnFrom B (PInv m q S w) :=
  OwnFrom.and (Own.from (Go.boxed_own _ _ (fun _ => _)) _) (OwnFrom.and (Own.from (Go.boxed_own _ _ (fun _ => _)) _) (OwnFrom.and (Own.from (Go.boxed_own _ _ (fun _ => _)) _) (OwnFrom.and (Own.from (Go.boxed_own _ _ (fun pre : List (Fin 64) => .int .i64 (pre.length : Nat))) _) (OwnFrom.and (Own.from (Go.boxed_own _ _ (fun pre : List (Fin 64) => .bool (metQ q pre))) _) (OwnFrom.and (Own.from (Go.boxed_own _ _ (fun pre : List (Fin 64) => .int .i64 (lastOf (-1) pre))) _) (OwnFrom.and (Own.from (Go.boxed_own _ _ (fun _ => _)) _) (OwnFrom.and (Own.from (Go.boxed_own _ _ (fun _ => _)) _) (ownFrom_below (Nat.le_refl _) hB))))))))
def QInv (m q S V D p : Nat) (w : World) (pre : List (Fin 6)) (W : World) : Prop :=
  Boxed W w.heap.size 22 (.int .u8 (m : Int)) ∧ Boxed W (w.heap.size + 1) 22 (.int .u8 (q : Int)) ∧ Boxed W (w.heap.size + 1 + 1) 4 (.bool false) ∧ Boxed W S 3 (.int .i64 (p : Int)) ∧ Boxed W (S + 1) 4 (.bool (Nat.beq (Nat.land q m) q)) ∧ Boxed W (S + 1 + 1 + 1 + 1) 22 (.int .u8 (m : Int)) ∧ Boxed W V 22 (.int .u8 (allOf 0 pre : Nat)) ∧ Boxed W (V + 1) 3 (.int .i64 (nextOf 0 pre : Nat)) ∧ Below w.heap.size w W ∧ W.heap[D]? = some (.deferred (some []))
theorem QInv.own (m q S V D p : Nat) (w : World) (B : Nat) (hB : w.heap.size ≤ B) (hD : D < B) : OwnFrom B (QInv m q S V D p w) :=
  OwnFrom.and (Own.from (Go.boxed_own _ _ (fun _ => _)) _) (OwnFrom.and (Own.from (Go.boxed_own _ _ (fun _ => _)) _) (OwnFrom.and (Own.from (Go.boxed_own _ _ (fun _ => _)) _) (OwnFrom.and (Own.from (Go.boxed_own _ _ (fun _ => _)) _) (OwnFrom.and (Own.from (Go.boxed_own _ _ (fun _ => _)) _) (OwnFrom.and (Own.from (Go.boxed_own _ _ (fun _ => _)) _) (OwnFrom.and (Own.from (Go.boxed_own _ _ (fun pre : List (Fin 6) => .int .u8 (allOf 0 pre : Nat))) _) (OwnFrom.and (Own.from (Go.boxed_own _ _ (fun pre : List (Fin 6) => .int .i64 (nextOf 0 pre : Nat))) _) (OwnFrom.and (ownFrom_below (Nat.le_refl _) hB) (ownFrom_block hD)))))))))
theorem boxBelow {W W' : World} {B : Nat} {t : TypeId} {v : Value} {L : Nat} (h : Boxed W B t v) (hb : Below L W W') (hl : B < L) : Boxed W' B t v := (hb.block B hl).trans h
set_option maxRecDepth 100000 in
theorem parts_in (a b : Int) (m q : Nat) (hm : m < 64) (hq : q < 64) (ham : a % 64 = (m : Int)) (hbq : b % 64 = (q : Int)) (a0 : 0 ≤ a) (a1 : a ≤ 255) (b0 : 0 ≤ b) (b1 : b ≤ 255) (w : World) :
    CallsIn Fence.wide 10 Try.prog 9 #[.int .u8 a, .int .u8 b] w fun e w' => e = .returned (.bool true) ∧ Below w.heap.size w w' := by
  have Ham := Lib.hid ham
  have Hbq := Lib.hid hbq
  clear ham hbq
  refine callsIn_of_wp_marks Try.func9 rfl trivial ?_ rfl
  simp only [Try.ntmps9, List.size_toArray, List.length_cons, List.length_nil, Nat.reduceAdd, Nat.reduceSub, Array.replicate_succ, Array.replicate_zero, List.push_toArray, List.append_toArray, List.nil_append, List.cons_append]
  have n47 := notNil47
  have n45 := notNil45
  have bA := Boxed.new w 22 (.int .u8 a)
  have bB := Boxed.new (w.alloc (.cells #[.int .u8 a] 22)) 22 (.int .u8 b)
  have bR := Boxed.new ((w.alloc (.cells #[.int .u8 a] 22)).alloc (.cells #[.int .u8 b] 22)) 4 (.bool false)
  simp only [World.size_alloc] at bB bR
  replace bA := (bA.alloc (.cells #[.int .u8 b] 22)).alloc (.cells #[.bool false] 4)
  replace bB := bB.alloc (.cells #[.bool false] 4)
  have hB0 : Below w.heap.size w (((w.alloc (.cells #[.int .u8 a] 22)).alloc (.cells #[.int .u8 b] 22)).alloc (.cells #[.bool false] 4)) := (((Below.refl _ w).alloc (Nat.le_refl _) _).alloc (by simp) _).alloc (by simp; omega) _
  gi_wp2_with fail
  refine ⟨trivial, (callsIn_wide.2 (lives_any _)).mono ?_⟩
  rintro e w1 ⟨rfl, hb1⟩
  replace bA := boxBelow bA hb1 (by simp only [World.size_alloc]; omega)
  replace bB := boxBelow bB hb1 (by simp only [World.size_alloc]; omega)
  replace bR := boxBelow bR hb1 (by simp only [World.size_alloc]; omega)
  have HB1 := Lib.hid (hB0.trans (hb1.mono (by simp only [World.size_alloc]; omega)))
  clear hb1 hB0
  have bR0 := bR
  have cA := bA.cell
  have cB := bB.cell
  have fA := bA.frozen
  have fB := bB.frozen
  gi_wp2_with fail
  gi_region
  rw [Ham.out, Hbq.out]
  replace bA := boxDrew (box_other (v := .int .u8 (q : Int)) (B' := w.heap.size + 1) (bA.set (.int .u8 (m : Int))) (by omega))
  replace bB := boxDrew ((box_other (v := .int .u8 (m : Int)) (B' := w.heap.size) bB (by omega)).set (.int .u8 (q : Int)))
  replace bR := boxDrew (box_other (v := .int .u8 (q : Int)) (B' := w.heap.size + 1) (box_other (v := .int .u8 (m : Int)) (B' := w.heap.size) bR (by omega)) (by omega))
  have hB2 := ((HB1.out.setCell (p := ⟨w.heap.size, 0, none⟩) (Nat.le_refl _) (.int .u8 (m : Int))).setCell (p := ⟨w.heap.size + 1, 0, none⟩) (by simp) (.int .u8 (q : Int))).drew
  have hS2 : w.heap.size + 2 < w1.heap.size := bR0.lt
  clear HB1 cA cB fA fB bR0
  generalize ((w1.setCell ⟨w.heap.size, 0, none⟩ (Value.int IntKind.u8 (m : Int))).setCell ⟨w.heap.size + 1, 0, none⟩ (Value.int IntKind.u8 (q : Int))).drew = W2 at *
  have cA := bA.cell
  have cB := bB.cell
  have HB2 := Lib.hid hB2
  obtain ⟨hc0, hc6, hlen⟩ : 0 ≤ cntB ((m : Int) % 64) ∧ cntB ((m : Int) % 64) ≤ 6 ∧ (subs m 64).length = 2 ^ (cntB ((m : Int) % 64)).toNat := by
    have := parts_at m hm
    exact ⟨this.2.1, this.2.2.1, this.2.2.2.1⟩
  obtain ⟨c, hc⟩ : ∃ c : Nat, cntB ((m : Int) % 64) = (c : Int) := ⟨(cntB ((m : Int) % 64)).toNat, by omega⟩
  rw [hc] at hc0 hc6 hlen
  have Hc := Lib.hid hc
  have Hlen := Lib.hid hlen
  clear hc hlen hB2
  gi_wp2_with fail
  gi_loop [5, 6] (fun n i => ∃ k p : Nat, k ≤ c ∧ p = 2 ^ k ∧ p ≤ 64 ∧ n = .int .i64 (p : Int) ∧ i = .int .i64 (k : Int)) (fun _ i => 6 - (intOf i).toNat)
  case atStart => exact ⟨0, 1, by omega, rfl, by omega, rfl, rfl⟩
  case round =>
    obtain ⟨k, p, hk, hp, hp64, rfl, rfl⟩ := hrel
    have Hp := Lib.hid hp
    clear hp
    have hS2 : w.heap.size + 1 + 1 < W2.heap.size := bR.lt
    have bA0 := bA
    by_cases hlt : k < c
    · have hlt1 : decide ((k : Int) < (c : Int)) = true := by simpa using hlt
      have hlt2 : decide ((k : Int) < 6) = true := by simp; omega
      gi_wp2_with (refine ⟨trivial, ?_⟩; gi_at_call 21; refine (callsIn_wide.2 (count_m m hm _)).mono ?_; rw [Hc.out]; rintro e w' ⟨rfl, rfl⟩)
      have hp2 : 2 * p ≤ 64 := by rw [Hp.out, ← Nat.pow_succ']; exact Nat.le_trans (Nat.pow_le_pow_right (by omega) (show k + 1 ≤ 6 by omega)) (by omega)
      refine ⟨⟨k + 1, 2 * p, by omega, by rw [Hp.out, Nat.pow_succ'], hp2, by simp, by simp⟩, ?_⟩
      simp only [intOf]
      omega
    · obtain rfl : k = c := by omega
      have hlt1 : decide ((k : Int) < (k : Int)) = false := by simp
      have bK := Boxed.new W2 3 (.int .i64 0)
      have bM := Boxed.new (W2.alloc (.cells #[.int .i64 0] 3)) 4 (.bool false)
      have bL := Boxed.new ((W2.alloc (.cells #[.int .i64 0] 3)).alloc (.cells #[.bool false] 4)) 3 (.int .i64 (-1))
      have bW := Boxed.new (((W2.alloc (.cells #[.int .i64 0] 3)).alloc (.cells #[.bool false] 4)).alloc (.cells #[.int .i64 (-1)] 3)) 22 (.int .u8 (m : Int))
      have bE := Boxed.new ((((W2.alloc (.cells #[.int .i64 0] 3)).alloc (.cells #[.bool false] 4)).alloc (.cells #[.int .i64 (-1)] 3)).alloc (.cells #[.int .u8 (m : Int)] 22)) 22 (.int .u8 (m : Int))
      simp only [World.size_alloc] at bM bL bW bE
      replace bK := (((bK.alloc (.cells #[.bool false] 4)).alloc (.cells #[.int .i64 (-1)] 3)).alloc (.cells #[.int .u8 (m : Int)] 22)).alloc (.cells #[.int .u8 (m : Int)] 22)
      replace bM := ((bM.alloc (.cells #[.int .i64 (-1)] 3)).alloc (.cells #[.int .u8 (m : Int)] 22)).alloc (.cells #[.int .u8 (m : Int)] 22)
      replace bL := (bL.alloc (.cells #[.int .u8 (m : Int)] 22)).alloc (.cells #[.int .u8 (m : Int)] 22)
      replace bW := bW.alloc (.cells #[.int .u8 (m : Int)] 22)
      have hB3 := ((((HB2.out.alloc HB2.out.size (.cells #[.int .i64 0] 3)).alloc (by simp only [World.size_alloc]; omega) (.cells #[.bool false] 4)).alloc (by simp only [World.size_alloc]; omega) (.cells #[.int .i64 (-1)] 3)).alloc (by simp only [World.size_alloc]; omega) (.cells #[.int .u8 (m : Int)] 22)).alloc (by simp only [World.size_alloc]; omega) (.cells #[.int .u8 (m : Int)] 22)
      replace bA := ((((bA.alloc (.cells #[.int .i64 0] 3)).alloc (.cells #[.bool false] 4)).alloc (.cells #[.int .i64 (-1)] 3)).alloc (.cells #[.int .u8 (m : Int)] 22)).alloc (.cells #[.int .u8 (m : Int)] 22)
      replace bB := ((((bB.alloc (.cells #[.int .i64 0] 3)).alloc (.cells #[.bool false] 4)).alloc (.cells #[.int .i64 (-1)] 3)).alloc (.cells #[.int .u8 (m : Int)] 22)).alloc (.cells #[.int .u8 (m : Int)] 22)
      replace bR := ((((bR.alloc (.cells #[.int .i64 0] 3)).alloc (.cells #[.bool false] 4)).alloc (.cells #[.int .i64 (-1)] 3)).alloc (.cells #[.int .u8 (m : Int)] 22)).alloc (.cells #[.int .u8 (m : Int)] 22)
      have HS := Lib.hid hS2
      have cA3 := (((bA0.alloc (.cells #[.int .i64 0] 3)).alloc (.cells #[.bool false] 4)).alloc (.cells #[.int .i64 (-1)] 3)).cell
      have cA4 := ((((bA0.alloc (.cells #[.int .i64 0] 3)).alloc (.cells #[.bool false] 4)).alloc (.cells #[.int .i64 (-1)] 3)).alloc (.cells #[.int .u8 (m : Int)] 22)).cell
      gi_wp2_with (first
        | (refine ⟨trivial, ?_⟩; gi_at_call 21; refine (callsIn_wide.2 (count_m m hm _)).mono ?_; rw [Hc.out]; rintro e w' ⟨rfl, rfl⟩)
        | (refine ⟨trivial, ?_⟩; gi_at_call 36; refine (callsIn_wide.2 (within_nat _ m (by omega) (by omega) (by omega) _)).mono ?_; rintro e w' ⟨rfl, rfl⟩)
        | (refine ⟨trivial, ?_⟩; gi_at_call 37; refine (callsIn_wide.2 (each_any _ _)).mono ?_; rintro e w' ⟨rfl, rfl⟩))
      have bA := bA
      clear cA cB cA3 cA4 bA0 hS2
      have hS : w.heap.size + 1 + 1 < W2.heap.size := HS.out
      generalize (((((W2.alloc (Obj.cells #[Value.int IntKind.i64 0] 3)).alloc (Obj.cells #[Value.bool false] 4)).alloc (Obj.cells #[Value.int IntKind.i64 (-1)] 3)).alloc (Obj.cells #[Value.int IntKind.u8 (m : Int)] 22)).alloc (Obj.cells #[Value.int IntKind.u8 (m : Int)] 22)) = W3 at *
      clear HB2
      generalize W2.heap.size = S at *
      have hI0 : PInv m q S w [] W3 := ⟨bA, bB, bR, bK, bM, bL, bW, bE, hB3⟩
      have hS3 : w.heap.size ≤ W3.heap.size := hB3.size
      have HI0 := Lib.hid hI0
      clear bA bB bR bK bM bL bE hB3 hI0
      refine wpIn_rangeFunc_ownG rfl (by omega) (gf := 45) (lb := #[.pointer (some ⟨S + 1 + 1 + 1, 0, none⟩)]) rfl trivial (enters_of Try.func45 (by kernel_rfl) rfl)
        (within_stops Fence.wide 9 trivial trivial rfl (by omega) (S + 1 + 1 + 1) m hm _ bW.lt bW.cell) KpB.t (fun W l o o' _ h hc _ => KpB.b W l o o' h hc) (Below.refl _ _) (fun _ => rfl)
        (PInv m q S w) (fun c pre _ => c = .ret ∧ ¬ pre <+: subs m 64) (PInv.own m q S w W3.heap.size hS3) (fun _ => ownFrom_pure _ _) HI0.out
        (fun x => { tmps := #[Value.int IntKind.u8 a, Value.int IntKind.u8 b, Value.pointer (some { block := w.heap.size, off := 0 }), Value.pointer (some { block := w.heap.size + 1, off := 0 }), Value.pointer (some { block := w.heap.size + 1 + 1, off := 0 }), Value.int IntKind.i64 (p : Int), Value.int IntKind.i64 (k : Int), Value.pointer (some { block := S, off := 0 }), Value.pointer (some { block := S + 1, off := 0 }), Value.pointer (some { block := S + 1 + 1, off := 0 }), Value.func (Fn.func 45) #[] #[Value.pointer (some { block := S + 1 + 1 + 1, off := 0 })], Value.func (Fn.func 47) #[] #[Value.pointer (some { block := S + 1 + 1 + 1 + 1, off := 0 })], Value.int IntKind.u8 (x.val : Int), undef, undef, undef, undef, undef, Value.bool true, Value.bool false, Value.int IntKind.u8 a, Value.int IntKind.u8 (m : Int), Value.int IntKind.u8 b, Value.int IntKind.u8 (q : Int), Value.int IntKind.i64 (k : Int), Value.int IntKind.u8 (m : Int), Value.int IntKind.i64 (k : Int), Value.bool false, Value.bool false, undef, undef, Value.bool false, u32, u33, u34, u35, Value.int IntKind.u8 (m : Int), Value.func (Fn.func 45) #[] #[Value.pointer (some { block := S + 1 + 1 + 1, off := 0 })], Value.func (Fn.func 45) #[] #[Value.pointer (some { block := S + 1 + 1 + 1, off := 0 })], Value.bool false, Value.int IntKind.u8 (m : Int), Value.func (Fn.func 47) #[] #[Value.pointer (some { block := S + 1 + 1 + 1 + 1, off := 0 })], Value.func (Fn.func 45) #[] #[Value.pointer (some { block := S + 1 + 1 + 1, off := 0 })], Value.bool false, Value.bool false, Value.func (Fn.func 47) #[] #[Value.pointer (some { block := S + 1 + 1 + 1 + 1, off := 0 })], Value.bool false, Value.bool false, Value.func (Fn.func 45) #[] #[Value.pointer (some { block := S + 1 + 1 + 1, off := 0 })], Value.int IntKind.u8 (x.val : Int), undef, undef, undef, undef, undef, undef, undef, undef, undef, undef, undef, undef, undef, undef, undef, undef, undef, undef, undef, undef, undef, undef, undef, undef, undef, undef, undef, undef, undef, undef, undef, undef, undef, undef, undef, undef, undef, undef, undef, undef, undef, undef, undef, undef, undef, undef, undef, undef, undef, undef, undef, undef, undef, undef, undef, undef, undef, undef, undef, undef, undef, undef, undef, undef, undef, undef, undef, undef, undef, undef], defers := [] }) ?assign ?body ?done ?stop
      case assign =>
        intro l x W K hK
        simp only [enc64]
        gi_wp2
        exact hK
      case body =>
        rintro l pre x W ⟨iA, iB, iR, iK, iM, iL, iW, iE, iX⟩ hl64
        have cA := iA.cell
        have cB := iB.cell
        have cK := iK.cell
        have cM := iM.cell
        have cL := iL.cell
        have cR := iR.cell
        have fR := iR.frozen
        have fK := iK.frozen
        have fM := iM.frozen
        have fL := iL.frozen
        have hx64 := x.isLt
        cases hgl : decide ((x.val : Int) ≤ lastOf (-1) pre) with
        | true =>
          gi_wp2_with (refine ⟨trivial, ?_⟩)
          exact ⟨(KeepsOthers.setCell _ _ _).from _, rfl, fun h => by have := (subs_next m hm h).1; simp at hgl; omega⟩
        | false =>
          cases hs : Nat.beq (Nat.land x.val m) x.val with
          | false =>
            have Hs := Lib.hid hs
            clear hs
            gi_wp2_with ((refine ⟨trivial, ?_⟩; gi_at_call 31; refine (CallsIn.inRound l (callsIn_wide.2 (has_m m x.val hm x.isLt _))).mono ?_; rw [Hs.out]; rintro e w' ⟨rfl, rfl⟩))
            exact ⟨(KeepsOthers.setCell _ _ _).from _, rfl, fun h => by have := (subs_next m hm h).2; rw [Hs.out] at this; cases this⟩
          | true =>
            have Hs := Lib.hid hs
            clear hs
            cases hmet : metQ q pre with
            | true =>
              have Hm := Lib.hid hmet
              rw [hmet] at cM iM
              clear hmet
              gi_wp2_with ((refine ⟨trivial, ?_⟩; gi_at_call 31; refine (CallsIn.inRound l (callsIn_wide.2 (has_m m x.val hm x.isLt _))).mono ?_; rw [Hs.out]; rintro e w' ⟨rfl, rfl⟩))
              exact ⟨(((KeepsOthers.setCell _ _ _).trans (KeepsOthers.setCell _ _ _)).trans (KeepsOthers.setCell _ _ _)).from _, kpB_of iW (box_other (box_other (box_other iW (by omega)) (by omega)) (by omega)), ⟨box_other (box_other (box_other iA (by omega)) (by omega)) (by omega), box_other (box_other (box_other iB (by omega)) (by omega)) (by omega), box_other (box_other (box_other iR (by omega)) (by omega)) (by omega), by rw [List.length_append]; exact (box_other (box_other iK (by omega)) (by omega)).set _, by rw [metQ_snoc, Hm.out]; exact box_other ((box_other iM (by omega)).set _) (by omega), by rw [lastOf_snoc]; exact box_other (box_other (iL.set _) (by omega)) (by omega), box_other (box_other (box_other iW (by omega)) (by omega)) (by omega), box_other (box_other (box_other iE (by omega)) (by omega)) (by omega), ((iX.setCell (p := ⟨S + 1 + 1, 0, none⟩) (by simp only; omega) _).setCell (p := ⟨S + 1, 0, none⟩) (by simp only; omega) _).setCell (p := ⟨S, 0, none⟩) (by simp only; omega) _⟩⟩
            | false =>
              have Hm := Lib.hid hmet
              rw [hmet] at cM iM
              clear hmet
              cases hxq : (x.val : Int) == (q : Int) with
              | true =>
                have Hq := Lib.hid hxq
                gi_wp2_with ((refine ⟨trivial, ?_⟩; gi_at_call 31; refine (CallsIn.inRound l (callsIn_wide.2 (has_m m x.val hm x.isLt _))).mono ?_; rw [Hs.out]; rintro e w' ⟨rfl, rfl⟩))
                exact ⟨(((KeepsOthers.setCell _ _ _).trans (KeepsOthers.setCell _ _ _)).trans (KeepsOthers.setCell _ _ _)).from _, kpB_of iW (box_other (box_other (box_other iW (by omega)) (by omega)) (by omega)), ⟨box_other (box_other (box_other iA (by omega)) (by omega)) (by omega), box_other (box_other (box_other iB (by omega)) (by omega)) (by omega), box_other (box_other (box_other iR (by omega)) (by omega)) (by omega), by rw [List.length_append]; exact (box_other (box_other iK (by omega)) (by omega)).set _, by rw [metQ_snoc, Hm.out, Hq.out]; exact box_other ((box_other iM (by omega)).set _) (by omega), by rw [lastOf_snoc]; exact box_other (box_other (iL.set _) (by omega)) (by omega), box_other (box_other (box_other iW (by omega)) (by omega)) (by omega), box_other (box_other (box_other iE (by omega)) (by omega)) (by omega), ((iX.setCell (p := ⟨S + 1 + 1, 0, none⟩) (by simp only; omega) _).setCell (p := ⟨S + 1, 0, none⟩) (by simp only; omega) _).setCell (p := ⟨S, 0, none⟩) (by simp only; omega) _⟩⟩
              | false =>
                have Hq := Lib.hid hxq
                gi_wp2_with ((refine ⟨trivial, ?_⟩; gi_at_call 31; refine (CallsIn.inRound l (callsIn_wide.2 (has_m m x.val hm x.isLt _))).mono ?_; rw [Hs.out]; rintro e w' ⟨rfl, rfl⟩))
                exact ⟨(((KeepsOthers.setCell _ _ _).trans (KeepsOthers.setCell _ _ _)).trans (KeepsOthers.setCell _ _ _)).from _, kpB_of iW (box_other (box_other (box_other iW (by omega)) (by omega)) (by omega)), ⟨box_other (box_other (box_other iA (by omega)) (by omega)) (by omega), box_other (box_other (box_other iB (by omega)) (by omega)) (by omega), box_other (box_other (box_other iR (by omega)) (by omega)) (by omega), by rw [List.length_append]; exact (box_other (box_other iK (by omega)) (by omega)).set _, by rw [metQ_snoc, Hm.out, Hq.out]; exact box_other ((box_other iM (by omega)).set _) (by omega), by rw [lastOf_snoc]; exact box_other (box_other (iL.set _) (by omega)) (by omega), box_other (box_other (box_other iW (by omega)) (by omega)) (by omega), box_other (box_other (box_other iE (by omega)) (by omega)) (by omega), ((iX.setCell (p := ⟨S + 1 + 1, 0, none⟩) (by simp only; omega) _).setCell (p := ⟨S + 1, 0, none⟩) (by simp only; omega) _).setCell (p := ⟨S, 0, none⟩) (by simp only; omega) _⟩⟩
      case stop =>
        rintro D c pre W _ hSp ⟨rfl, hbad⟩ _
        exact absurd hSp hbad
      case done =>
        rintro D ys W hD rfl ⟨iA, iB, iR, iK, iM, iL, iW, iE, iX⟩ hK
        rw [Hlen.out, Int.toNat_natCast, ← Hp.out] at iK
        rw [met_at m q hm hq] at iM
        have HK := Lib.hid hK
        have hDlt : D < W.heap.size := (Array.getElem?_eq_some_iff.1 hK).1
        have hSW : S + 1 + 1 + 1 + 1 < W.heap.size := iE.lt
        have hD3 : w.heap.size ≤ D := Nat.le_trans hS3 hD
        clear hK iL iW HI0
        have jV := (Boxed.new W 22 (.int .u8 0)).alloc (.cells #[.int .i64 0] 3)
        have jI := Boxed.new (W.alloc (.cells #[.int .u8 0] 22)) 3 (.int .i64 0)
        rw [World.size_alloc] at jI
        have hj : QInv m q S W.heap.size D p w [] ((W.alloc (.cells #[.int .u8 0] 22)).alloc (.cells #[.int .i64 0] 3)) := by
          refine ⟨(iA.alloc _).alloc _, (iB.alloc _).alloc _, (iR.alloc _).alloc _, ?_, (iM.alloc _).alloc _, (iE.alloc _).alloc _, jV, jI, (iX.alloc iX.size _).alloc (by simp only [World.size_alloc]; have := iX.size; omega) _, ?_⟩
          · exact (iK.alloc _).alloc _
          · exact (Below.heap_alloc _ _ _ (by simp only [World.size_alloc]; omega)).trans ((Below.heap_alloc _ _ _ hDlt).trans HK.out)
        have jE := (iE.alloc (.cells #[.int .u8 0] 22)).alloc (.cells #[.int .i64 0] 3)
        have hX := iX.size
        have Hj := Lib.hid hj
        have HX := Lib.hid iX
        clear hj iA iB iR iK iM iE jV jI iX
        gi_wp2
        generalize hV : W.heap.size = V at *
        have hW4 : ((W.alloc (.cells #[.int .u8 0] 22)).alloc (.cells #[.int .i64 0] 3)).heap.size = V + 1 + 1 := by rw [World.size_alloc, World.size_alloc, hV]
        refine wpIn_rangeFunc_ownG rfl (by omega) (gf := 47) (lb := #[.pointer (some ⟨S + 1 + 1 + 1 + 1, 0, none⟩)]) rfl trivial (enters_of Try.func47 (by kernel_rfl) rfl)
          (each_stops Fence.wide 9 trivial rfl (by omega) (S + 1 + 1 + 1 + 1) (m : Int) _ jE.lt jE.cell) KpB.t (fun W l o o' _ h hc _ => KpB.b W l o o' h hc) (Below.refl _ _) (fun _ => rfl)
          (QInv m q S V D p w) (fun c pre _ => c = .ret ∧ ¬ pre <+: upto (m : Int) 6) (QInv.own m q S V D p w _ (by rw [hW4]; omega) (by rw [hW4]; omega)) (fun _ => ownFrom_pure _ _) Hj.out
          (fun x => { tmps := #[Value.int IntKind.u8 a, Value.int IntKind.u8 b, Value.pointer (some { block := w.heap.size, off := 0 }), Value.pointer (some { block := w.heap.size + 1, off := 0 }), Value.pointer (some { block := w.heap.size + 1 + 1, off := 0 }), Value.int IntKind.i64 (p : Int), Value.int IntKind.i64 (k : Int), Value.pointer (some { block := S, off := 0 }), Value.pointer (some { block := S + 1, off := 0 }), Value.pointer (some { block := S + 1 + 1, off := 0 }), Value.func (Fn.func 45) #[] #[Value.pointer (some { block := S + 1 + 1 + 1, off := 0 })], Value.func (Fn.func 47) #[] #[Value.pointer (some { block := S + 1 + 1 + 1 + 1, off := 0 })], undef, Value.pointer (some { block := V, off := 0 }), Value.pointer (some { block := V + 1, off := 0 }), Value.int IntKind.u8 ((2 : Int) ^ x.val), undef, undef, Value.bool true, Value.bool false, Value.int IntKind.u8 a, Value.int IntKind.u8 (m : Int), Value.int IntKind.u8 b, Value.int IntKind.u8 (q : Int), Value.int IntKind.i64 (k : Int), Value.int IntKind.u8 (m : Int), Value.int IntKind.i64 (k : Int), Value.bool false, Value.bool false, undef, undef, Value.bool false, u32, u33, u34, u35, Value.int IntKind.u8 (m : Int), Value.func (Fn.func 45) #[] #[Value.pointer (some { block := S + 1 + 1 + 1, off := 0 })], Value.func (Fn.func 45) #[] #[Value.pointer (some { block := S + 1 + 1 + 1, off := 0 })], Value.bool false, Value.int IntKind.u8 (m : Int), Value.func (Fn.func 47) #[] #[Value.pointer (some { block := S + 1 + 1 + 1 + 1, off := 0 })], Value.func (Fn.func 45) #[] #[Value.pointer (some { block := S + 1 + 1 + 1, off := 0 })], Value.bool false, Value.bool false, Value.func (Fn.func 47) #[] #[Value.pointer (some { block := S + 1 + 1 + 1 + 1, off := 0 })], Value.bool false, Value.bool false, Value.func (Fn.func 45) #[] #[Value.pointer (some { block := S + 1 + 1 + 1, off := 0 })], undef, undef, undef, undef, undef, undef, undef, undef, undef, undef, undef, undef, undef, undef, undef, undef, undef, undef, undef, undef, undef, Value.func (Fn.func 47) #[] #[Value.pointer (some { block := S + 1 + 1 + 1 + 1, off := 0 })], Value.int IntKind.u8 ((2 : Int) ^ x.val), undef, undef, undef, undef, undef, undef, undef, undef, undef, undef, undef, undef, undef, undef, undef, undef, undef, undef, undef, undef, undef, undef, undef, undef, undef, undef, undef, undef, undef, undef, undef, undef, undef, undef, undef, undef, undef, undef, undef, undef, undef, undef, undef, undef, undef, undef, undef, undef], defers := [] }) ?assign2 ?body2 ?done2 ?stop2
        case assign2 =>
          intro l x W K hK
          simp only [enc6]
          gi_wp2
          exact hK
        case stop2 =>
          rintro D c pre W _ hSp ⟨rfl, hbad⟩ _
          exact absurd hSp hbad
        case body2 =>
          rintro l pre x W ⟨iA, iB, iR, iK, iM, iE, iV, iI, iX, iD⟩ hl6
          have cV := iV.cell
          have cR := iR.cell
          have fR := iR.frozen
          have fV := iV.frozen
          have hx6 := x.isLt
          have hltV := iV.lt
          have hltR := iR.lt
          have hltI := iI.lt
          have hA64 := allOf_lt pre 0 (by omega)
          have HP := Lib.hid (place_pow x)
          have HO := Lib.hid (one_pow' x)
          obtain ⟨y, hy, hyv⟩ : ∃ y : Nat, (2 : Int) ^ x.val = (y : Int) ∧ 2 ^ x.val = y := ⟨2 ^ x.val, by simp, rfl⟩
          have hy64 : y < 64 := by rw [← hyv]; exact Nat.lt_of_lt_of_le (Nat.pow_lt_pow_right (by omega) hx6) (by omega)
          have HN := Lib.hid (fun h => upto_next m hm (pre := pre) (x := x) h)
          have HS := Lib.hid (allOf_snoc 0 pre x)
          have HT := Lib.hid (nextOf_snoc 0 pre x)
          have HD := Lib.hid iD
          rw [hyv] at HN HS
          rw [hy] at HP HO ⊢
          clear hy hyv iD
          generalize hA : allOf 0 pre = A at *
          generalize hNx : nextOf 0 pre = N at *
          clear hA hNx
          obtain ⟨xi, hxi⟩ : ∃ xi : Int, (x.val : Int) = xi := ⟨_, rfl⟩
          obtain ⟨ni, hni⟩ : ∃ ni : Int, (N : Int) = ni := ⟨_, rfl⟩
          obtain ⟨ri, hri⟩ : ∃ ri : Int, ((A &&& y : Nat) : Int) = ri := ⟨_, rfl⟩
          have hM := meetW A y hA64 hy64
          rw [hri] at hM
          rw [hxi] at HP
          rw [hni] at iI
          have HM := Lib.hid hM
          have HXi := Lib.hid hxi
          have HNi := Lib.hid hni
          have HRi := Lib.hid hri
          have hx0 : 0 ≤ xi := by omega
          have hx5 : xi < 6 := by omega
          have cI := iI.cell
          have fI := iI.frozen
          clear hM hxi hni hri
          cases hlt : decide (xi < ni) with
          | true =>
            gi_wp2_with (first
              | (refine ⟨trivial, ?_⟩; gi_at_call 15; refine (CallsIn.inRound l (callsIn_wide.2 (HP.out _))).mono ?_; rintro e w' ⟨rfl, rfl⟩)
              | (refine ⟨trivial, ?_⟩; gi_at_call 19; refine (CallsIn.inRound l (callsIn_wide.2 (HO.out _))).mono ?_; rintro e w' ⟨rfl, rfl⟩)
              | (refine ⟨trivial, ?_⟩))
            exact ⟨(KeepsOthers.setCell _ _ _).from _, rfl, fun h => by have := (HN.out h).1; have h1 := HXi.out; have h2 := HNi.out; simp at hlt; omega⟩
          | false =>
            cases hmt : ri != 0 with
            | true =>
              gi_wp2_with (first
                | (refine ⟨trivial, ?_⟩; gi_at_call 15; refine (CallsIn.inRound l (callsIn_wide.2 (HP.out _))).mono ?_; rintro e w' ⟨rfl, rfl⟩)
                | (refine ⟨trivial, ?_⟩; gi_at_call 19; refine (CallsIn.inRound l (callsIn_wide.2 (HO.out _))).mono ?_; rintro e w' ⟨rfl, rfl⟩)
                | (refine ⟨trivial, ?_⟩; gi_at_call 24; refine (CallsIn.inRound l (callsIn_wide.2 (HM.out _))).mono ?_; rintro e w' ⟨rfl, rfl⟩))
              exact ⟨((KeepsOthers.setCell _ _ _).trans (KeepsOthers.alloc _ _)).from _, rfl, fun h => by have := (HN.out h).2; have h1 := HRi.out; rw [this] at h1; subst h1; simp at hmt⟩
            | false =>
              have hSz : ∀ o, (W.alloc o).heap.size = W.heap.size + 1 := fun o => World.size_alloc _ _
              have HJ := Lib.hid (joinB A y hA64 hy64)
              gi_wp2_with (first
                | (refine ⟨trivial, ?_⟩; gi_at_call 15; refine (CallsIn.inRound l (callsIn_wide.2 (HP.out _))).mono ?_; rintro e w' ⟨rfl, rfl⟩)
                | (refine ⟨trivial, ?_⟩; gi_at_call 19; refine (CallsIn.inRound l (callsIn_wide.2 (HO.out _))).mono ?_; rintro e w' ⟨rfl, rfl⟩)
                | (refine ⟨trivial, ?_⟩; gi_at_call 24; refine (CallsIn.inRound l (callsIn_wide.2 (HM.out _))).mono ?_; rintro e w' ⟨rfl, rfl⟩)
                | (refine ⟨trivial, ?_⟩; gi_at_call 26; refine (CallsIn.inRound l (callsIn_wide.2 (HJ.out _ _ (World.size_alloc _ _)))).mono ?_; rintro e w' ⟨rfl, rfl⟩))
              refine ⟨((((KeepsOthers.setCell _ _ _).trans (KeepsOthers.setCell _ _ _)).trans (KeepsOthers.alloc _ _)).trans (KeepsOthers.alloc _ _)).from _, kpB_of iE (two iE (by omega) (by omega)), two iA (by omega) (by omega), two iB (by omega) (by omega), two iR (by omega) (by omega), two iK (by omega) (by omega), two iM (by omega) (by omega), two iE (by omega) (by omega), ?_, ?_, ?_, ?_⟩
              · rw [HS.out]; exact ((box_other (iV.set _) (by omega)).alloc _).alloc _
              · rw [HT.out, show ((x.val + 1 : Nat) : Int) = xi + 1 by have := HXi.out; omega]; exact (((box_other iI (by omega)).set _).alloc _).alloc _
              · have hs := iX.size
                exact (((iX.setCell (p := ⟨V, 0, none⟩) (by simp only; omega) _).setCell (p := ⟨V + 1, 0, none⟩) (by simp only; omega) _).alloc (by simp; omega) _).alloc (by simp; omega) _
              · exact ((((KeepsOthers.setCell _ _ _).trans (KeepsOthers.setCell _ _ _)).trans (KeepsOthers.alloc _ _)).trans (KeepsOthers.alloc _ _)).same D _ HD.out rfl
        case done2 =>
          rintro D2 ys W4 hD2 rfl ⟨iA, iB, iR, iK, iM, _, iV, _, iX, iD⟩ hK2
          rw [show allOf 0 (upto (m : Int) 6) = m from (parts_at m hm).2.2.2.2.2] at iV
          have cA := iA.cell
          have cB := iB.cell
          have cR := iR.cell
          have cK := iK.cell
          have cM := iM.cell
          have cV := iV.cell
          have fR := iR.frozen
          have HD1 := Lib.hid iD
          have HD2 := Lib.hid hK2
          have HIX := Lib.hid iX
          have HR := Lib.hid iR
          have iR0 := Lib.hid iR.lt
          have hD5 : D2 < W4.heap.size := (Array.getElem?_eq_some_iff.1 hK2).1
          have hD6 : D < W4.heap.size := (Array.getElem?_eq_some_iff.1 iD).1
          have hne : D2 ≠ D := by rw [hW4] at hD2; omega
          have hDw : w.heap.size ≤ D2 := by rw [hW4] at hD2; omega
          have fin : ∀ w5, Below W4.drew.heap.size W4.drew w5 →
              (w5.setCell ⟨w.heap.size + 1 + 1, 0, none⟩ (.bool true)).heap[D2]? = some (.deferred (some [])) ∧
              ((w5.setCell ⟨w.heap.size + 1 + 1, 0, none⟩ (.bool true)).putObj D2 (.deferred none)).heap[D]? = some (.deferred (some [])) ∧
              (((w5.setCell ⟨w.heap.size + 1 + 1, 0, none⟩ (.bool true)).putObj D2 (.deferred none)).putObj D (.deferred none)).cell? ⟨w.heap.size + 1 + 1, 0, none⟩ = some (.bool true) ∧
              Below w.heap.size w (((w5.setCell ⟨w.heap.size + 1 + 1, 0, none⟩ (.bool true)).putObj D2 (.deferred none)).putObj D (.deferred none)) := by
            intro w5 hb5
            have k2 : w5.heap[D2]? = some (.deferred (some [])) := (hb5.block D2 hD5).trans hK2
            have k1 : w5.heap[D]? = some (.deferred (some [])) := (hb5.block D hD6).trans iD
            have r5 : Boxed w5 (w.heap.size + 1 + 1) 4 (.bool false) := boxBelow (boxDrew iR) hb5 iR.lt
            have g1 := (KeepsOthers.setCell w5 ⟨w.heap.size + 1 + 1, 0, none⟩ (.bool true)).same D2 _ k2 rfl
            have g2 : ((w5.setCell ⟨w.heap.size + 1 + 1, 0, none⟩ (.bool true)).putObj D2 (.deferred none)).heap[D]? = some (.deferred (some [])) := (World.putObj_heap_other (fun e => hne e.symm)).trans ((KeepsOthers.setCell _ _ _).same D _ k1 rfl)
            refine ⟨g1, g2, cell_kept (cell_kept (r5.set (.bool true)).cell (grownBy_putObj' _ D2 (.deferred none)) (fun r e => by cases e; exact ⟨_, g1, rfl⟩)) (grownBy_putObj' _ D (.deferred none)) (fun r e => by cases e; exact ⟨_, g2, rfl⟩), ?_⟩
            exact below_put (below_put ((iX.drew.trans (hb5.mono iX.size)).setCell (p := ⟨w.heap.size + 1 + 1, 0, none⟩) (by simp only; omega) (.bool true)) hDw (.deferred none)) hD3 (.deferred none)
          have Fin' := Lib.hid fin
          clear iD hK2 iX iR fin
          generalize hbq : Nat.beq (Nat.land q m) q = bq at *
          have hH := has_m m q hm hq
          rw [hbq] at hH
          have HH := Lib.hid hH
          clear hH hbq
          gi_wp2_with fail
--END
          have hltR := iR0.out
          refine wpIn_region_any (by kernel_rfl) ?_
          change wpAnyIn _ _ _ _ _ _ _ _ _ (World.drew _)
          refine wpAnyIn_ready (rs := [0, 1]) (by kernel_rfl) (by simp) ?_
          refine AllReadyIn.cons rfl (fun K hK => ?_) ?_
          · go_simp
            refine hK _ _ ?_; clear hK K
            refine wpAnyIn_ready (rs := [1]) (by kernel_rfl) (by simp) ?_
            refine AllReadyIn.cons rfl (fun K hK => ?_) ?_
            · go_simp
              refine hK _ _ ?_; clear hK K
              refine wpAnyIn_ready (rs := [2]) (by kernel_rfl) (by simp) ?_
              refine AllReadyIn.cons rfl (fun K hK => ?_) ?_
              · go_simp
                refine hK _ _ ?_; clear hK K
                refine wpAnyIn_ready (rs := [3]) (by kernel_rfl) (by simp) ?_
                refine AllReadyIn.cons rfl (fun K hK => ?_) ?_
                · go_simp
                  refine hK _ _ ?_; clear hK K
                  refine wpAnyIn_ready (rs := [4, 5, 6]) (by kernel_rfl) (by simp) ?_
                  refine AllReadyIn.cons rfl (fun K hK => ?_) ?_
                  · go_simp
                    refine hK _ _ ?_; clear hK K
                    refine wpAnyIn_ready (rs := [5, 6]) (by kernel_rfl) (by simp) ?_
                    refine AllReadyIn.cons rfl (fun K hK => ?_) ?_
                    · go_simp
                      refine hK _ _ ?_; clear hK K
                      refine wpAnyIn_ready (rs := [6]) (by kernel_rfl) (by simp) ?_
                      refine AllReadyIn.cons rfl (fun K hK => ?_) ?_
                      · go_simp
                        refine hK _ _ ?_; clear hK K
                        refine wpAnyIn_ready (rs := [7]) (by kernel_rfl) (by simp) ?_
                        refine AllReadyIn.cons rfl (fun K hK => ?_) ?_
                        · go_simp
                          refine ⟨trivial, (callsIn_wide.2 (HH.out _)).mono ?_⟩; rintro e w' ⟨rfl, rfl⟩
                          refine hK _ _ ?_; clear hK K
                          refine wpAnyIn_ready (rs := [8]) (by kernel_rfl) (by simp) ?_
                          refine AllReadyIn.cons rfl (fun K hK => ?_) ?_
                          · go_simp
                            refine hK _ _ ?_; clear hK K
                            refine wpAnyIn_ready (rs := [9]) (by kernel_rfl) (by simp) ?_
                            refine AllReadyIn.cons rfl (fun K hK => ?_) ?_
                            · go_simp
                              refine hK _ _ ?_; clear hK K
                              refine wpAnyIn_ready (rs := [10]) (by kernel_rfl) (by simp) ?_
                              refine AllReadyIn.cons rfl (fun K hK => ?_) ?_
                              · go_simp
                                refine hK _ _ ?_; clear hK K
                                refine wpAnyIn_ready (rs := [11, 12]) (by kernel_rfl) (by simp) ?_
                                refine AllReadyIn.cons rfl (fun K hK => ?_) ?_
                                · go_simp
                                  refine hK _ _ ?_; clear hK K
                                  refine wpAnyIn_ready (rs := [12]) (by kernel_rfl) (by simp) ?_
                                  refine AllReadyIn.cons rfl (fun K hK => ?_) ?_
                                  · go_simp
                                    refine hK _ _ ?_; clear hK K
                                    refine wpAnyIn_ready (rs := [13]) (by kernel_rfl) (by simp) ?_
                                    refine AllReadyIn.cons rfl (fun K hK => ?_) ?_
                                    · go_simp
                                      refine hK _ _ ?_; clear hK K
                                      refine wpAnyIn_ready (rs := [14]) (by kernel_rfl) (by simp) ?_
                                      refine AllReadyIn.cons rfl (fun K hK => ?_) ?_
                                      · go_simp
                                        refine hK _ _ ?_; clear hK K
                                        refine wpAnyIn_ready (rs := [15]) (by kernel_rfl) (by simp) ?_
                                        refine AllReadyIn.cons rfl (fun K hK => ?_) ?_
                                        · go_simp
                                          refine hK _ _ ?_; clear hK K
                                          refine wpAnyIn_ready (rs := [16]) (by kernel_rfl) (by simp) ?_
                                          refine AllReadyIn.cons rfl (fun K hK => ?_) ?_
                                          · go_simp
                                            refine ⟨trivial, (callsIn_wide.2 (lives_any _)).mono ?_⟩; rintro e w5 ⟨rfl, hb5⟩
                                            have c5 := (boxBelow (boxDrew HR.out) hb5 hltR).cell
                                            have f5 := (boxBelow (boxDrew HR.out) hb5 hltR).frozen
                                            have Hb5 := Lib.hid hb5
                                            clear hb5
                                            refine hK _ _ ?_; clear hK K
                                            refine wpAnyIn_ready (rs := [17]) (by kernel_rfl) (by simp) ?_
                                            refine AllReadyIn.cons rfl (fun K hK => ?_) ?_
                                            · go_simp
                                              refine hK _ _ ?_; clear hK K
                                              refine wpAnyIn_ready (rs := [18]) (by kernel_rfl) (by simp) ?_
                                              refine AllReadyIn.cons rfl (fun K hK => ?_) ?_
                                              · go_simp
                                                refine hK _ _ ?_; clear hK K
                                                refine wpAnyIn_done (by kernel_rfl) ?_ _
                                                gi_wp2
                                                obtain ⟨g1, g2, g3, g4⟩ := Fin'.out w5 Hb5.out
                                                refine ⟨by simp, .inl ⟨_, _, rfl, run_takeDeferred g1, ⟨by simp, .inl ⟨_, _, rfl, run_takeDeferred g2, ?_⟩⟩⟩⟩
                                                exact ⟨_, by simp [results, Try.results9, go_sem, g3], rfl, g4⟩
                                              exact AllReadyIn.nil
                                            exact AllReadyIn.nil
                                          exact AllReadyIn.nil
                                        exact AllReadyIn.nil
                                      exact AllReadyIn.nil
                                    exact AllReadyIn.nil
                                  exact AllReadyIn.nil
                                refine AllReadyIn.cons rfl (fun K hK => ?_) ?_
                                · go_simp
                                  refine hK _ _ ?_; clear hK K
                                  refine wpAnyIn_ready (rs := [11]) (by kernel_rfl) (by simp) ?_
                                  refine AllReadyIn.cons rfl (fun K hK => ?_) ?_
                                  · go_simp
                                    refine hK _ _ ?_; clear hK K
                                    refine wpAnyIn_ready (rs := [13]) (by kernel_rfl) (by simp) ?_
                                    refine AllReadyIn.cons rfl (fun K hK => ?_) ?_
                                    · go_simp
                                      refine hK _ _ ?_; clear hK K
                                      refine wpAnyIn_ready (rs := [14]) (by kernel_rfl) (by simp) ?_
                                      refine AllReadyIn.cons rfl (fun K hK => ?_) ?_
                                      · go_simp
                                        refine hK _ _ ?_; clear hK K
                                        refine wpAnyIn_ready (rs := [15]) (by kernel_rfl) (by simp) ?_
                                        refine AllReadyIn.cons rfl (fun K hK => ?_) ?_
                                        · go_simp
                                          refine hK _ _ ?_; clear hK K
                                          refine wpAnyIn_ready (rs := [16]) (by kernel_rfl) (by simp) ?_
                                          refine AllReadyIn.cons rfl (fun K hK => ?_) ?_
                                          · go_simp
                                            refine ⟨trivial, (callsIn_wide.2 (lives_any _)).mono ?_⟩; rintro e w5 ⟨rfl, hb5⟩
                                            have c5 := (boxBelow (boxDrew HR.out) hb5 hltR).cell
                                            have f5 := (boxBelow (boxDrew HR.out) hb5 hltR).frozen
                                            have Hb5 := Lib.hid hb5
                                            clear hb5
                                            refine hK _ _ ?_; clear hK K
                                            refine wpAnyIn_ready (rs := [17]) (by kernel_rfl) (by simp) ?_
                                            refine AllReadyIn.cons rfl (fun K hK => ?_) ?_
                                            · go_simp
                                              refine hK _ _ ?_; clear hK K
                                              refine wpAnyIn_ready (rs := [18]) (by kernel_rfl) (by simp) ?_
                                              refine AllReadyIn.cons rfl (fun K hK => ?_) ?_
                                              · go_simp
                                                refine hK _ _ ?_; clear hK K
                                                refine wpAnyIn_done (by kernel_rfl) ?_ _
                                                gi_wp2
                                                obtain ⟨g1, g2, g3, g4⟩ := Fin'.out w5 Hb5.out
                                                refine ⟨by simp, .inl ⟨_, _, rfl, run_takeDeferred g1, ⟨by simp, .inl ⟨_, _, rfl, run_takeDeferred g2, ?_⟩⟩⟩⟩
                                                exact ⟨_, by simp [results, Try.results9, go_sem, g3], rfl, g4⟩
                                              exact AllReadyIn.nil
                                            exact AllReadyIn.nil
                                          exact AllReadyIn.nil
                                        exact AllReadyIn.nil
                                      exact AllReadyIn.nil
                                    exact AllReadyIn.nil
                                  exact AllReadyIn.nil
                                exact AllReadyIn.nil
                              exact AllReadyIn.nil
                            exact AllReadyIn.nil
                          exact AllReadyIn.nil
                        exact AllReadyIn.nil
                      exact AllReadyIn.nil
                    refine AllReadyIn.cons rfl (fun K hK => ?_) ?_
                    · go_simp
                      refine hK _ _ ?_; clear hK K
                      refine wpAnyIn_ready (rs := [5]) (by kernel_rfl) (by simp) ?_
                      refine AllReadyIn.cons rfl (fun K hK => ?_) ?_
                      · go_simp
                        refine hK _ _ ?_; clear hK K
                        refine wpAnyIn_ready (rs := [7]) (by kernel_rfl) (by simp) ?_
                        refine AllReadyIn.cons rfl (fun K hK => ?_) ?_
                        · go_simp
                          refine ⟨trivial, (callsIn_wide.2 (HH.out _)).mono ?_⟩; rintro e w' ⟨rfl, rfl⟩
                          refine hK _ _ ?_; clear hK K
                          refine wpAnyIn_ready (rs := [8]) (by kernel_rfl) (by simp) ?_
                          refine AllReadyIn.cons rfl (fun K hK => ?_) ?_
                          · go_simp
                            refine hK _ _ ?_; clear hK K
                            refine wpAnyIn_ready (rs := [9]) (by kernel_rfl) (by simp) ?_
                            refine AllReadyIn.cons rfl (fun K hK => ?_) ?_
                            · go_simp
                              refine hK _ _ ?_; clear hK K
                              refine wpAnyIn_ready (rs := [10]) (by kernel_rfl) (by simp) ?_
                              refine AllReadyIn.cons rfl (fun K hK => ?_) ?_
                              · go_simp
                                refine hK _ _ ?_; clear hK K
                                refine wpAnyIn_ready (rs := [11, 12]) (by kernel_rfl) (by simp) ?_
                                refine AllReadyIn.cons rfl (fun K hK => ?_) ?_
                                · go_simp
                                  refine hK _ _ ?_; clear hK K
                                  refine wpAnyIn_ready (rs := [12]) (by kernel_rfl) (by simp) ?_
                                  refine AllReadyIn.cons rfl (fun K hK => ?_) ?_
                                  · go_simp
                                    refine hK _ _ ?_; clear hK K
                                    refine wpAnyIn_ready (rs := [13]) (by kernel_rfl) (by simp) ?_
                                    refine AllReadyIn.cons rfl (fun K hK => ?_) ?_
                                    · go_simp
                                      refine hK _ _ ?_; clear hK K
                                      refine wpAnyIn_ready (rs := [14]) (by kernel_rfl) (by simp) ?_
                                      refine AllReadyIn.cons rfl (fun K hK => ?_) ?_
                                      · go_simp
                                        refine hK _ _ ?_; clear hK K
                                        refine wpAnyIn_ready (rs := [15]) (by kernel_rfl) (by simp) ?_
                                        refine AllReadyIn.cons rfl (fun K hK => ?_) ?_
                                        · go_simp
                                          refine hK _ _ ?_; clear hK K
                                          refine wpAnyIn_ready (rs := [16]) (by kernel_rfl) (by simp) ?_
                                          refine AllReadyIn.cons rfl (fun K hK => ?_) ?_
                                          · go_simp
                                            refine ⟨trivial, (callsIn_wide.2 (lives_any _)).mono ?_⟩; rintro e w5 ⟨rfl, hb5⟩
                                            have c5 := (boxBelow (boxDrew HR.out) hb5 hltR).cell
                                            have f5 := (boxBelow (boxDrew HR.out) hb5 hltR).frozen
                                            have Hb5 := Lib.hid hb5
                                            clear hb5
                                            refine hK _ _ ?_; clear hK K
                                            refine wpAnyIn_ready (rs := [17]) (by kernel_rfl) (by simp) ?_
                                            refine AllReadyIn.cons rfl (fun K hK => ?_) ?_
                                            · go_simp
                                              refine hK _ _ ?_; clear hK K
                                              refine wpAnyIn_ready (rs := [18]) (by kernel_rfl) (by simp) ?_
                                              refine AllReadyIn.cons rfl (fun K hK => ?_) ?_
                                              · go_simp
                                                refine hK _ _ ?_; clear hK K
                                                refine wpAnyIn_done (by kernel_rfl) ?_ _
                                                gi_wp2
                                                obtain ⟨g1, g2, g3, g4⟩ := Fin'.out w5 Hb5.out
                                                refine ⟨by simp, .inl ⟨_, _, rfl, run_takeDeferred g1, ⟨by simp, .inl ⟨_, _, rfl, run_takeDeferred g2, ?_⟩⟩⟩⟩
                                                exact ⟨_, by simp [results, Try.results9, go_sem, g3], rfl, g4⟩
                                              exact AllReadyIn.nil
                                            exact AllReadyIn.nil
                                          exact AllReadyIn.nil
                                        exact AllReadyIn.nil
                                      exact AllReadyIn.nil
                                    exact AllReadyIn.nil
                                  exact AllReadyIn.nil
                                refine AllReadyIn.cons rfl (fun K hK => ?_) ?_
                                · go_simp
                                  refine hK _ _ ?_; clear hK K
                                  refine wpAnyIn_ready (rs := [11]) (by kernel_rfl) (by simp) ?_
                                  refine AllReadyIn.cons rfl (fun K hK => ?_) ?_
                                  · go_simp
                                    refine hK _ _ ?_; clear hK K
                                    refine wpAnyIn_ready (rs := [13]) (by kernel_rfl) (by simp) ?_
                                    refine AllReadyIn.cons rfl (fun K hK => ?_) ?_
                                    · go_simp
                                      refine hK _ _ ?_; clear hK K
                                      refine wpAnyIn_ready (rs := [14]) (by kernel_rfl) (by simp) ?_
                                      refine AllReadyIn.cons rfl (fun K hK => ?_) ?_
                                      · go_simp
                                        refine hK _ _ ?_; clear hK K
                                        refine wpAnyIn_ready (rs := [15]) (by kernel_rfl) (by simp) ?_
                                        refine AllReadyIn.cons rfl (fun K hK => ?_) ?_
                                        · go_simp
                                          refine hK _ _ ?_; clear hK K
                                          refine wpAnyIn_ready (rs := [16]) (by kernel_rfl) (by simp) ?_
                                          refine AllReadyIn.cons rfl (fun K hK => ?_) ?_
                                          · go_simp
                                            refine ⟨trivial, (callsIn_wide.2 (lives_any _)).mono ?_⟩; rintro e w5 ⟨rfl, hb5⟩
                                            have c5 := (boxBelow (boxDrew HR.out) hb5 hltR).cell
                                            have f5 := (boxBelow (boxDrew HR.out) hb5 hltR).frozen
                                            have Hb5 := Lib.hid hb5
                                            clear hb5
                                            refine hK _ _ ?_; clear hK K
                                            refine wpAnyIn_ready (rs := [17]) (by kernel_rfl) (by simp) ?_
                                            refine AllReadyIn.cons rfl (fun K hK => ?_) ?_
                                            · go_simp
                                              refine hK _ _ ?_; clear hK K
                                              refine wpAnyIn_ready (rs := [18]) (by kernel_rfl) (by simp) ?_
                                              refine AllReadyIn.cons rfl (fun K hK => ?_) ?_
                                              · go_simp
                                                refine hK _ _ ?_; clear hK K
                                                refine wpAnyIn_done (by kernel_rfl) ?_ _
                                                gi_wp2
                                                obtain ⟨g1, g2, g3, g4⟩ := Fin'.out w5 Hb5.out
                                                refine ⟨by simp, .inl ⟨_, _, rfl, run_takeDeferred g1, ⟨by simp, .inl ⟨_, _, rfl, run_takeDeferred g2, ?_⟩⟩⟩⟩
                                                exact ⟨_, by simp [results, Try.results9, go_sem, g3], rfl, g4⟩
                                              exact AllReadyIn.nil
                                            exact AllReadyIn.nil
                                          exact AllReadyIn.nil
                                        exact AllReadyIn.nil
                                      exact AllReadyIn.nil
                                    exact AllReadyIn.nil
                                  exact AllReadyIn.nil
                                exact AllReadyIn.nil
                              exact AllReadyIn.nil
                            exact AllReadyIn.nil
                          exact AllReadyIn.nil
                        exact AllReadyIn.nil
                      exact AllReadyIn.nil
                    exact AllReadyIn.nil
                  refine AllReadyIn.cons rfl (fun K hK => ?_) ?_
                  · go_simp
                    refine hK _ _ ?_; clear hK K
                    refine wpAnyIn_ready (rs := [4, 6]) (by kernel_rfl) (by simp) ?_
                    refine AllReadyIn.cons rfl (fun K hK => ?_) ?_
                    · go_simp
                      refine hK _ _ ?_; clear hK K
                      refine wpAnyIn_ready (rs := [6]) (by kernel_rfl) (by simp) ?_
                      refine AllReadyIn.cons rfl (fun K hK => ?_) ?_
                      · go_simp
                        refine hK _ _ ?_; clear hK K
                        refine wpAnyIn_ready (rs := [7]) (by kernel_rfl) (by simp) ?_
                        refine AllReadyIn.cons rfl (fun K hK => ?_) ?_
                        · go_simp
                          refine ⟨trivial, (callsIn_wide.2 (HH.out _)).mono ?_⟩; rintro e w' ⟨rfl, rfl⟩
                          refine hK _ _ ?_; clear hK K
                          refine wpAnyIn_ready (rs := [8]) (by kernel_rfl) (by simp) ?_
                          refine AllReadyIn.cons rfl (fun K hK => ?_) ?_
                          · go_simp
                            refine hK _ _ ?_; clear hK K
                            refine wpAnyIn_ready (rs := [9]) (by kernel_rfl) (by simp) ?_
                            refine AllReadyIn.cons rfl (fun K hK => ?_) ?_
                            · go_simp
                              refine hK _ _ ?_; clear hK K
                              refine wpAnyIn_ready (rs := [10]) (by kernel_rfl) (by simp) ?_
                              refine AllReadyIn.cons rfl (fun K hK => ?_) ?_
                              · go_simp
                                refine hK _ _ ?_; clear hK K
                                refine wpAnyIn_ready (rs := [11, 12]) (by kernel_rfl) (by simp) ?_
                                refine AllReadyIn.cons rfl (fun K hK => ?_) ?_
                                · go_simp
                                  refine hK _ _ ?_; clear hK K
                                  refine wpAnyIn_ready (rs := [12]) (by kernel_rfl) (by simp) ?_
                                  refine AllReadyIn.cons rfl (fun K hK => ?_) ?_
                                  · go_simp
                                    refine hK _ _ ?_; clear hK K
                                    refine wpAnyIn_ready (rs := [13]) (by kernel_rfl) (by simp) ?_
                                    refine AllReadyIn.cons rfl (fun K hK => ?_) ?_
                                    · go_simp
                                      refine hK _ _ ?_; clear hK K
                                      refine wpAnyIn_ready (rs := [14]) (by kernel_rfl) (by simp) ?_
                                      refine AllReadyIn.cons rfl (fun K hK => ?_) ?_
                                      · go_simp
                                        refine hK _ _ ?_; clear hK K
                                        refine wpAnyIn_ready (rs := [15]) (by kernel_rfl) (by simp) ?_
                                        refine AllReadyIn.cons rfl (fun K hK => ?_) ?_
                                        · go_simp
                                          refine hK _ _ ?_; clear hK K
                                          refine wpAnyIn_ready (rs := [16]) (by kernel_rfl) (by simp) ?_
                                          refine AllReadyIn.cons rfl (fun K hK => ?_) ?_
                                          · go_simp
                                            refine ⟨trivial, (callsIn_wide.2 (lives_any _)).mono ?_⟩; rintro e w5 ⟨rfl, hb5⟩
                                            have c5 := (boxBelow (boxDrew HR.out) hb5 hltR).cell
                                            have f5 := (boxBelow (boxDrew HR.out) hb5 hltR).frozen
                                            have Hb5 := Lib.hid hb5
                                            clear hb5
                                            refine hK _ _ ?_; clear hK K
                                            refine wpAnyIn_ready (rs := [17]) (by kernel_rfl) (by simp) ?_
                                            refine AllReadyIn.cons rfl (fun K hK => ?_) ?_
                                            · go_simp
                                              refine hK _ _ ?_; clear hK K
                                              refine wpAnyIn_ready (rs := [18]) (by kernel_rfl) (by simp) ?_
                                              refine AllReadyIn.cons rfl (fun K hK => ?_) ?_
                                              · go_simp
                                                refine hK _ _ ?_; clear hK K
                                                refine wpAnyIn_done (by kernel_rfl) ?_ _
                                                gi_wp2
                                                obtain ⟨g1, g2, g3, g4⟩ := Fin'.out w5 Hb5.out
                                                refine ⟨by simp, .inl ⟨_, _, rfl, run_takeDeferred g1, ⟨by simp, .inl ⟨_, _, rfl, run_takeDeferred g2, ?_⟩⟩⟩⟩
                                                exact ⟨_, by simp [results, Try.results9, go_sem, g3], rfl, g4⟩
                                              exact AllReadyIn.nil
                                            exact AllReadyIn.nil
                                          exact AllReadyIn.nil
                                        exact AllReadyIn.nil
                                      exact AllReadyIn.nil
                                    exact AllReadyIn.nil
                                  exact AllReadyIn.nil
                                refine AllReadyIn.cons rfl (fun K hK => ?_) ?_
                                · go_simp
                                  refine hK _ _ ?_; clear hK K
                                  refine wpAnyIn_ready (rs := [11]) (by kernel_rfl) (by simp) ?_
                                  refine AllReadyIn.cons rfl (fun K hK => ?_) ?_
                                  · go_simp
                                    refine hK _ _ ?_; clear hK K
                                    refine wpAnyIn_ready (rs := [13]) (by kernel_rfl) (by simp) ?_
                                    refine AllReadyIn.cons rfl (fun K hK => ?_) ?_
                                    · go_simp
                                      refine hK _ _ ?_; clear hK K
                                      refine wpAnyIn_ready (rs := [14]) (by kernel_rfl) (by simp) ?_
                                      refine AllReadyIn.cons rfl (fun K hK => ?_) ?_
                                      · go_simp
                                        refine hK _ _ ?_; clear hK K
                                        refine wpAnyIn_ready (rs := [15]) (by kernel_rfl) (by simp) ?_
                                        refine AllReadyIn.cons rfl (fun K hK => ?_) ?_
                                        · go_simp
                                          refine hK _ _ ?_; clear hK K
                                          refine wpAnyIn_ready (rs := [16]) (by kernel_rfl) (by simp) ?_
                                          refine AllReadyIn.cons rfl (fun K hK => ?_) ?_
                                          · go_simp
                                            refine ⟨trivial, (callsIn_wide.2 (lives_any _)).mono ?_⟩; rintro e w5 ⟨rfl, hb5⟩
                                            have c5 := (boxBelow (boxDrew HR.out) hb5 hltR).cell
                                            have f5 := (boxBelow (boxDrew HR.out) hb5 hltR).frozen
                                            have Hb5 := Lib.hid hb5
                                            clear hb5
                                            refine hK _ _ ?_; clear hK K
                                            refine wpAnyIn_ready (rs := [17]) (by kernel_rfl) (by simp) ?_
                                            refine AllReadyIn.cons rfl (fun K hK => ?_) ?_
                                            · go_simp
                                              refine hK _ _ ?_; clear hK K
                                              refine wpAnyIn_ready (rs := [18]) (by kernel_rfl) (by simp) ?_
                                              refine AllReadyIn.cons rfl (fun K hK => ?_) ?_
                                              · go_simp
                                                refine hK _ _ ?_; clear hK K
                                                refine wpAnyIn_done (by kernel_rfl) ?_ _
                                                gi_wp2
                                                obtain ⟨g1, g2, g3, g4⟩ := Fin'.out w5 Hb5.out
                                                refine ⟨by simp, .inl ⟨_, _, rfl, run_takeDeferred g1, ⟨by simp, .inl ⟨_, _, rfl, run_takeDeferred g2, ?_⟩⟩⟩⟩
                                                exact ⟨_, by simp [results, Try.results9, go_sem, g3], rfl, g4⟩
                                              exact AllReadyIn.nil
                                            exact AllReadyIn.nil
                                          exact AllReadyIn.nil
                                        exact AllReadyIn.nil
                                      exact AllReadyIn.nil
                                    exact AllReadyIn.nil
                                  exact AllReadyIn.nil
                                exact AllReadyIn.nil
                              exact AllReadyIn.nil
                            exact AllReadyIn.nil
                          exact AllReadyIn.nil
                        exact AllReadyIn.nil
                      exact AllReadyIn.nil
                    refine AllReadyIn.cons rfl (fun K hK => ?_) ?_
                    · go_simp
                      refine hK _ _ ?_; clear hK K
                      refine wpAnyIn_ready (rs := [4, 7]) (by kernel_rfl) (by simp) ?_
                      refine AllReadyIn.cons rfl (fun K hK => ?_) ?_
                      · go_simp
                        refine hK _ _ ?_; clear hK K
                        refine wpAnyIn_ready (rs := [7]) (by kernel_rfl) (by simp) ?_
                        refine AllReadyIn.cons rfl (fun K hK => ?_) ?_
                        · go_simp
                          refine ⟨trivial, (callsIn_wide.2 (HH.out _)).mono ?_⟩; rintro e w' ⟨rfl, rfl⟩
                          refine hK _ _ ?_; clear hK K
                          refine wpAnyIn_ready (rs := [8]) (by kernel_rfl) (by simp) ?_
                          refine AllReadyIn.cons rfl (fun K hK => ?_) ?_
                          · go_simp
                            refine hK _ _ ?_; clear hK K
                            refine wpAnyIn_ready (rs := [9]) (by kernel_rfl) (by simp) ?_
                            refine AllReadyIn.cons rfl (fun K hK => ?_) ?_
                            · go_simp
                              refine hK _ _ ?_; clear hK K
                              refine wpAnyIn_ready (rs := [10]) (by kernel_rfl) (by simp) ?_
                              refine AllReadyIn.cons rfl (fun K hK => ?_) ?_
                              · go_simp
                                refine hK _ _ ?_; clear hK K
                                refine wpAnyIn_ready (rs := [11, 12]) (by kernel_rfl) (by simp) ?_
                                refine AllReadyIn.cons rfl (fun K hK => ?_) ?_
                                · go_simp
                                  refine hK _ _ ?_; clear hK K
                                  refine wpAnyIn_ready (rs := [12]) (by kernel_rfl) (by simp) ?_
                                  refine AllReadyIn.cons rfl (fun K hK => ?_) ?_
                                  · go_simp
                                    refine hK _ _ ?_; clear hK K
                                    refine wpAnyIn_ready (rs := [13]) (by kernel_rfl) (by simp) ?_
                                    refine AllReadyIn.cons rfl (fun K hK => ?_) ?_
                                    · go_simp
                                      refine hK _ _ ?_; clear hK K
                                      refine wpAnyIn_ready (rs := [14]) (by kernel_rfl) (by simp) ?_
                                      refine AllReadyIn.cons rfl (fun K hK => ?_) ?_
                                      · go_simp
                                        refine hK _ _ ?_; clear hK K
                                        refine wpAnyIn_ready (rs := [15]) (by kernel_rfl) (by simp) ?_
                                        refine AllReadyIn.cons rfl (fun K hK => ?_) ?_
                                        · go_simp
                                          refine hK _ _ ?_; clear hK K
                                          refine wpAnyIn_ready (rs := [16]) (by kernel_rfl) (by simp) ?_
                                          refine AllReadyIn.cons rfl (fun K hK => ?_) ?_
                                          · go_simp
                                            refine ⟨trivial, (callsIn_wide.2 (lives_any _)).mono ?_⟩; rintro e w5 ⟨rfl, hb5⟩
                                            have c5 := (boxBelow (boxDrew HR.out) hb5 hltR).cell
                                            have f5 := (boxBelow (boxDrew HR.out) hb5 hltR).frozen
                                            have Hb5 := Lib.hid hb5
                                            clear hb5
                                            refine hK _ _ ?_; clear hK K
                                            refine wpAnyIn_ready (rs := [17]) (by kernel_rfl) (by simp) ?_
                                            refine AllReadyIn.cons rfl (fun K hK => ?_) ?_
                                            · go_simp
                                              refine hK _ _ ?_; clear hK K
                                              refine wpAnyIn_ready (rs := [18]) (by kernel_rfl) (by simp) ?_
                                              refine AllReadyIn.cons rfl (fun K hK => ?_) ?_
                                              · go_simp
                                                refine hK _ _ ?_; clear hK K
                                                refine wpAnyIn_done (by kernel_rfl) ?_ _
                                                gi_wp2
                                                obtain ⟨g1, g2, g3, g4⟩ := Fin'.out w5 Hb5.out
                                                refine ⟨by simp, .inl ⟨_, _, rfl, run_takeDeferred g1, ⟨by simp, .inl ⟨_, _, rfl, run_takeDeferred g2, ?_⟩⟩⟩⟩
                                                exact ⟨_, by simp [results, Try.results9, go_sem, g3], rfl, g4⟩
                                              exact AllReadyIn.nil
                                            exact AllReadyIn.nil
                                          exact AllReadyIn.nil
                                        exact AllReadyIn.nil
                                      exact AllReadyIn.nil
                                    exact AllReadyIn.nil
                                  exact AllReadyIn.nil
                                refine AllReadyIn.cons rfl (fun K hK => ?_) ?_
                                · go_simp
                                  refine hK _ _ ?_; clear hK K
                                  refine wpAnyIn_ready (rs := [11]) (by kernel_rfl) (by simp) ?_
                                  refine AllReadyIn.cons rfl (fun K hK => ?_) ?_
                                  · go_simp
                                    refine hK _ _ ?_; clear hK K
                                    refine wpAnyIn_ready (rs := [13]) (by kernel_rfl) (by simp) ?_
                                    refine AllReadyIn.cons rfl (fun K hK => ?_) ?_
                                    · go_simp
                                      refine hK _ _ ?_; clear hK K
                                      refine wpAnyIn_ready (rs := [14]) (by kernel_rfl) (by simp) ?_
                                      refine AllReadyIn.cons rfl (fun K hK => ?_) ?_
                                      · go_simp
                                        refine hK _ _ ?_; clear hK K
                                        refine wpAnyIn_ready (rs := [15]) (by kernel_rfl) (by simp) ?_
                                        refine AllReadyIn.cons rfl (fun K hK => ?_) ?_
                                        · go_simp
                                          refine hK _ _ ?_; clear hK K
                                          refine wpAnyIn_ready (rs := [16]) (by kernel_rfl) (by simp) ?_
                                          refine AllReadyIn.cons rfl (fun K hK => ?_) ?_
                                          · go_simp
                                            refine ⟨trivial, (callsIn_wide.2 (lives_any _)).mono ?_⟩; rintro e w5 ⟨rfl, hb5⟩
                                            have c5 := (boxBelow (boxDrew HR.out) hb5 hltR).cell
                                            have f5 := (boxBelow (boxDrew HR.out) hb5 hltR).frozen
                                            have Hb5 := Lib.hid hb5
                                            clear hb5
                                            refine hK _ _ ?_; clear hK K
                                            refine wpAnyIn_ready (rs := [17]) (by kernel_rfl) (by simp) ?_
                                            refine AllReadyIn.cons rfl (fun K hK => ?_) ?_
                                            · go_simp
                                              refine hK _ _ ?_; clear hK K
                                              refine wpAnyIn_ready (rs := [18]) (by kernel_rfl) (by simp) ?_
                                              refine AllReadyIn.cons rfl (fun K hK => ?_) ?_
                                              · go_simp
                                                refine hK _ _ ?_; clear hK K
                                                refine wpAnyIn_done (by kernel_rfl) ?_ _
                                                gi_wp2
                                                obtain ⟨g1, g2, g3, g4⟩ := Fin'.out w5 Hb5.out
                                                refine ⟨by simp, .inl ⟨_, _, rfl, run_takeDeferred g1, ⟨by simp, .inl ⟨_, _, rfl, run_takeDeferred g2, ?_⟩⟩⟩⟩
                                                exact ⟨_, by simp [results, Try.results9, go_sem, g3], rfl, g4⟩
                                              exact AllReadyIn.nil
                                            exact AllReadyIn.nil
                                          exact AllReadyIn.nil
                                        exact AllReadyIn.nil
                                      exact AllReadyIn.nil
                                    exact AllReadyIn.nil
                                  exact AllReadyIn.nil
                                exact AllReadyIn.nil
                              exact AllReadyIn.nil
                            exact AllReadyIn.nil
                          exact AllReadyIn.nil
                        exact AllReadyIn.nil
                      refine AllReadyIn.cons rfl (fun K hK => ?_) ?_
                      · go_simp
                        refine ⟨trivial, (callsIn_wide.2 (HH.out _)).mono ?_⟩; rintro e w' ⟨rfl, rfl⟩
                        refine hK _ _ ?_; clear hK K
                        refine wpAnyIn_ready (rs := [4]) (by kernel_rfl) (by simp) ?_
                        refine AllReadyIn.cons rfl (fun K hK => ?_) ?_
                        · go_simp
                          refine hK _ _ ?_; clear hK K
                          refine wpAnyIn_ready (rs := [8]) (by kernel_rfl) (by simp) ?_
                          refine AllReadyIn.cons rfl (fun K hK => ?_) ?_
                          · go_simp
                            refine hK _ _ ?_; clear hK K
                            refine wpAnyIn_ready (rs := [9]) (by kernel_rfl) (by simp) ?_
                            refine AllReadyIn.cons rfl (fun K hK => ?_) ?_
                            · go_simp
                              refine hK _ _ ?_; clear hK K
                              refine wpAnyIn_ready (rs := [10]) (by kernel_rfl) (by simp) ?_
                              refine AllReadyIn.cons rfl (fun K hK => ?_) ?_
                              · go_simp
                                refine hK _ _ ?_; clear hK K
                                refine wpAnyIn_ready (rs := [11, 12]) (by kernel_rfl) (by simp) ?_
                                refine AllReadyIn.cons rfl (fun K hK => ?_) ?_
                                · go_simp
                                  refine hK _ _ ?_; clear hK K
                                  refine wpAnyIn_ready (rs := [12]) (by kernel_rfl) (by simp) ?_
                                  refine AllReadyIn.cons rfl (fun K hK => ?_) ?_
                                  · go_simp
                                    refine hK _ _ ?_; clear hK K
                                    refine wpAnyIn_ready (rs := [13]) (by kernel_rfl) (by simp) ?_
                                    refine AllReadyIn.cons rfl (fun K hK => ?_) ?_
                                    · go_simp
                                      refine hK _ _ ?_; clear hK K
                                      refine wpAnyIn_ready (rs := [14]) (by kernel_rfl) (by simp) ?_
                                      refine AllReadyIn.cons rfl (fun K hK => ?_) ?_
                                      · go_simp
                                        refine hK _ _ ?_; clear hK K
                                        refine wpAnyIn_ready (rs := [15]) (by kernel_rfl) (by simp) ?_
                                        refine AllReadyIn.cons rfl (fun K hK => ?_) ?_
                                        · go_simp
                                          refine hK _ _ ?_; clear hK K
                                          refine wpAnyIn_ready (rs := [16]) (by kernel_rfl) (by simp) ?_
                                          refine AllReadyIn.cons rfl (fun K hK => ?_) ?_
                                          · go_simp
                                            refine ⟨trivial, (callsIn_wide.2 (lives_any _)).mono ?_⟩; rintro e w5 ⟨rfl, hb5⟩
                                            have c5 := (boxBelow (boxDrew HR.out) hb5 hltR).cell
                                            have f5 := (boxBelow (boxDrew HR.out) hb5 hltR).frozen
                                            have Hb5 := Lib.hid hb5
                                            clear hb5
                                            refine hK _ _ ?_; clear hK K
                                            refine wpAnyIn_ready (rs := [17]) (by kernel_rfl) (by simp) ?_
                                            refine AllReadyIn.cons rfl (fun K hK => ?_) ?_
                                            · go_simp
                                              refine hK _ _ ?_; clear hK K
                                              refine wpAnyIn_ready (rs := [18]) (by kernel_rfl) (by simp) ?_
                                              refine AllReadyIn.cons rfl (fun K hK => ?_) ?_
                                              · go_simp
                                                refine hK _ _ ?_; clear hK K
                                                refine wpAnyIn_done (by kernel_rfl) ?_ _
                                                gi_wp2
                                                obtain ⟨g1, g2, g3, g4⟩ := Fin'.out w5 Hb5.out
                                                refine ⟨by simp, .inl ⟨_, _, rfl, run_takeDeferred g1, ⟨by simp, .inl ⟨_, _, rfl, run_takeDeferred g2, ?_⟩⟩⟩⟩
                                                exact ⟨_, by simp [results, Try.results9, go_sem, g3], rfl, g4⟩
                                              exact AllReadyIn.nil
                                            exact AllReadyIn.nil
                                          exact AllReadyIn.nil
                                        exact AllReadyIn.nil
                                      exact AllReadyIn.nil
                                    exact AllReadyIn.nil
                                  exact AllReadyIn.nil
                                refine AllReadyIn.cons rfl (fun K hK => ?_) ?_
                                · go_simp
                                  refine hK _ _ ?_; clear hK K
                                  refine wpAnyIn_ready (rs := [11]) (by kernel_rfl) (by simp) ?_
                                  refine AllReadyIn.cons rfl (fun K hK => ?_) ?_
                                  · go_simp
                                    refine hK _ _ ?_; clear hK K
                                    refine wpAnyIn_ready (rs := [13]) (by kernel_rfl) (by simp) ?_
                                    refine AllReadyIn.cons rfl (fun K hK => ?_) ?_
                                    · go_simp
                                      refine hK _ _ ?_; clear hK K
                                      refine wpAnyIn_ready (rs := [14]) (by kernel_rfl) (by simp) ?_
                                      refine AllReadyIn.cons rfl (fun K hK => ?_) ?_
                                      · go_simp
                                        refine hK _ _ ?_; clear hK K
                                        refine wpAnyIn_ready (rs := [15]) (by kernel_rfl) (by simp) ?_
                                        refine AllReadyIn.cons rfl (fun K hK => ?_) ?_
                                        · go_simp
                                          refine hK _ _ ?_; clear hK K
                                          refine wpAnyIn_ready (rs := [16]) (by kernel_rfl) (by simp) ?_
                                          refine AllReadyIn.cons rfl (fun K hK => ?_) ?_
                                          · go_simp
                                            refine ⟨trivial, (callsIn_wide.2 (lives_any _)).mono ?_⟩; rintro e w5 ⟨rfl, hb5⟩
                                            have c5 := (boxBelow (boxDrew HR.out) hb5 hltR).cell
                                            have f5 := (boxBelow (boxDrew HR.out) hb5 hltR).frozen
                                            have Hb5 := Lib.hid hb5
                                            clear hb5
                                            refine hK _ _ ?_; clear hK K
                                            refine wpAnyIn_ready (rs := [17]) (by kernel_rfl) (by simp) ?_
                                            refine AllReadyIn.cons rfl (fun K hK => ?_) ?_
                                            · go_simp
                                              refine hK _ _ ?_; clear hK K
                                              refine wpAnyIn_ready (rs := [18]) (by kernel_rfl) (by simp) ?_
                                              refine AllReadyIn.cons rfl (fun K hK => ?_) ?_
                                              · go_simp
                                                refine hK _ _ ?_; clear hK K
                                                refine wpAnyIn_done (by kernel_rfl) ?_ _
                                                gi_wp2
                                                obtain ⟨g1, g2, g3, g4⟩ := Fin'.out w5 Hb5.out
                                                refine ⟨by simp, .inl ⟨_, _, rfl, run_takeDeferred g1, ⟨by simp, .inl ⟨_, _, rfl, run_takeDeferred g2, ?_⟩⟩⟩⟩
                                                exact ⟨_, by simp [results, Try.results9, go_sem, g3], rfl, g4⟩
                                              exact AllReadyIn.nil
                                            exact AllReadyIn.nil
                                          exact AllReadyIn.nil
                                        exact AllReadyIn.nil
                                      exact AllReadyIn.nil
                                    exact AllReadyIn.nil
                                  exact AllReadyIn.nil
                                exact AllReadyIn.nil
                              exact AllReadyIn.nil
                            exact AllReadyIn.nil
                          exact AllReadyIn.nil
                        exact AllReadyIn.nil
                      exact AllReadyIn.nil
                    exact AllReadyIn.nil
                  refine AllReadyIn.cons rfl (fun K hK => ?_) ?_
                  · go_simp
                    refine hK _ _ ?_; clear hK K
                    refine wpAnyIn_ready (rs := [4, 5]) (by kernel_rfl) (by simp) ?_
                    refine AllReadyIn.cons rfl (fun K hK => ?_) ?_
                    · go_simp
                      refine hK _ _ ?_; clear hK K
                      refine wpAnyIn_ready (rs := [5]) (by kernel_rfl) (by simp) ?_
                      refine AllReadyIn.cons rfl (fun K hK => ?_) ?_
                      · go_simp
                        refine hK _ _ ?_; clear hK K
                        refine wpAnyIn_ready (rs := [7]) (by kernel_rfl) (by simp) ?_
                        refine AllReadyIn.cons rfl (fun K hK => ?_) ?_
                        · go_simp
                          refine ⟨trivial, (callsIn_wide.2 (HH.out _)).mono ?_⟩; rintro e w' ⟨rfl, rfl⟩
                          refine hK _ _ ?_; clear hK K
                          refine wpAnyIn_ready (rs := [8]) (by kernel_rfl) (by simp) ?_
                          refine AllReadyIn.cons rfl (fun K hK => ?_) ?_
                          · go_simp
                            refine hK _ _ ?_; clear hK K
                            refine wpAnyIn_ready (rs := [9]) (by kernel_rfl) (by simp) ?_
                            refine AllReadyIn.cons rfl (fun K hK => ?_) ?_
                            · go_simp
                              refine hK _ _ ?_; clear hK K
                              refine wpAnyIn_ready (rs := [10]) (by kernel_rfl) (by simp) ?_
                              refine AllReadyIn.cons rfl (fun K hK => ?_) ?_
                              · go_simp
                                refine hK _ _ ?_; clear hK K
                                refine wpAnyIn_ready (rs := [11, 12]) (by kernel_rfl) (by simp) ?_
                                refine AllReadyIn.cons rfl (fun K hK => ?_) ?_
                                · go_simp
                                  refine hK _ _ ?_; clear hK K
                                  refine wpAnyIn_ready (rs := [12]) (by kernel_rfl) (by simp) ?_
                                  refine AllReadyIn.cons rfl (fun K hK => ?_) ?_
                                  · go_simp
                                    refine hK _ _ ?_; clear hK K
                                    refine wpAnyIn_ready (rs := [13]) (by kernel_rfl) (by simp) ?_
                                    refine AllReadyIn.cons rfl (fun K hK => ?_) ?_
                                    · go_simp
                                      refine hK _ _ ?_; clear hK K
                                      refine wpAnyIn_ready (rs := [14]) (by kernel_rfl) (by simp) ?_
                                      refine AllReadyIn.cons rfl (fun K hK => ?_) ?_
                                      · go_simp
                                        refine hK _ _ ?_; clear hK K
                                        refine wpAnyIn_ready (rs := [15]) (by kernel_rfl) (by simp) ?_
                                        refine AllReadyIn.cons rfl (fun K hK => ?_) ?_
                                        · go_simp
                                          refine hK _ _ ?_; clear hK K
                                          refine wpAnyIn_ready (rs := [16]) (by kernel_rfl) (by simp) ?_
                                          refine AllReadyIn.cons rfl (fun K hK => ?_) ?_
                                          · go_simp
                                            refine ⟨trivial, (callsIn_wide.2 (lives_any _)).mono ?_⟩; rintro e w5 ⟨rfl, hb5⟩
                                            have c5 := (boxBelow (boxDrew HR.out) hb5 hltR).cell
                                            have f5 := (boxBelow (boxDrew HR.out) hb5 hltR).frozen
                                            have Hb5 := Lib.hid hb5
                                            clear hb5
                                            refine hK _ _ ?_; clear hK K
                                            refine wpAnyIn_ready (rs := [17]) (by kernel_rfl) (by simp) ?_
                                            refine AllReadyIn.cons rfl (fun K hK => ?_) ?_
                                            · go_simp
                                              refine hK _ _ ?_; clear hK K
                                              refine wpAnyIn_ready (rs := [18]) (by kernel_rfl) (by simp) ?_
                                              refine AllReadyIn.cons rfl (fun K hK => ?_) ?_
                                              · go_simp
                                                refine hK _ _ ?_; clear hK K
                                                refine wpAnyIn_done (by kernel_rfl) ?_ _
                                                gi_wp2
                                                obtain ⟨g1, g2, g3, g4⟩ := Fin'.out w5 Hb5.out
                                                refine ⟨by simp, .inl ⟨_, _, rfl, run_takeDeferred g1, ⟨by simp, .inl ⟨_, _, rfl, run_takeDeferred g2, ?_⟩⟩⟩⟩
                                                exact ⟨_, by simp [results, Try.results9, go_sem, g3], rfl, g4⟩
                                              exact AllReadyIn.nil
                                            exact AllReadyIn.nil
                                          exact AllReadyIn.nil
                                        exact AllReadyIn.nil
                                      exact AllReadyIn.nil
                                    exact AllReadyIn.nil
                                  exact AllReadyIn.nil
                                refine AllReadyIn.cons rfl (fun K hK => ?_) ?_
                                · go_simp
                                  refine hK _ _ ?_; clear hK K
                                  refine wpAnyIn_ready (rs := [11]) (by kernel_rfl) (by simp) ?_
                                  refine AllReadyIn.cons rfl (fun K hK => ?_) ?_
                                  · go_simp
                                    refine hK _ _ ?_; clear hK K
                                    refine wpAnyIn_ready (rs := [13]) (by kernel_rfl) (by simp) ?_
                                    refine AllReadyIn.cons rfl (fun K hK => ?_) ?_
                                    · go_simp
                                      refine hK _ _ ?_; clear hK K
                                      refine wpAnyIn_ready (rs := [14]) (by kernel_rfl) (by simp) ?_
                                      refine AllReadyIn.cons rfl (fun K hK => ?_) ?_
                                      · go_simp
                                        refine hK _ _ ?_; clear hK K
                                        refine wpAnyIn_ready (rs := [15]) (by kernel_rfl) (by simp) ?_
                                        refine AllReadyIn.cons rfl (fun K hK => ?_) ?_
                                        · go_simp
                                          refine hK _ _ ?_; clear hK K
                                          refine wpAnyIn_ready (rs := [16]) (by kernel_rfl) (by simp) ?_
                                          refine AllReadyIn.cons rfl (fun K hK => ?_) ?_
                                          · go_simp
                                            refine ⟨trivial, (callsIn_wide.2 (lives_any _)).mono ?_⟩; rintro e w5 ⟨rfl, hb5⟩
                                            have c5 := (boxBelow (boxDrew HR.out) hb5 hltR).cell
                                            have f5 := (boxBelow (boxDrew HR.out) hb5 hltR).frozen
                                            have Hb5 := Lib.hid hb5
                                            clear hb5
                                            refine hK _ _ ?_; clear hK K
                                            refine wpAnyIn_ready (rs := [17]) (by kernel_rfl) (by simp) ?_
                                            refine AllReadyIn.cons rfl (fun K hK => ?_) ?_
                                            · go_simp
                                              refine hK _ _ ?_; clear hK K
                                              refine wpAnyIn_ready (rs := [18]) (by kernel_rfl) (by simp) ?_
                                              refine AllReadyIn.cons rfl (fun K hK => ?_) ?_
                                              · go_simp
                                                refine hK _ _ ?_; clear hK K
                                                refine wpAnyIn_done (by kernel_rfl) ?_ _
                                                gi_wp2
                                                obtain ⟨g1, g2, g3, g4⟩ := Fin'.out w5 Hb5.out
                                                refine ⟨by simp, .inl ⟨_, _, rfl, run_takeDeferred g1, ⟨by simp, .inl ⟨_, _, rfl, run_takeDeferred g2, ?_⟩⟩⟩⟩
                                                exact ⟨_, by simp [results, Try.results9, go_sem, g3], rfl, g4⟩
                                              exact AllReadyIn.nil
                                            exact AllReadyIn.nil
                                          exact AllReadyIn.nil
                                        exact AllReadyIn.nil
                                      exact AllReadyIn.nil
                                    exact AllReadyIn.nil
                                  exact AllReadyIn.nil
                                exact AllReadyIn.nil
                              exact AllReadyIn.nil
                            exact AllReadyIn.nil
                          exact AllReadyIn.nil
                        exact AllReadyIn.nil
                      exact AllReadyIn.nil
                    refine AllReadyIn.cons rfl (fun K hK => ?_) ?_
                    · go_simp
                      refine hK _ _ ?_; clear hK K
                      refine wpAnyIn_ready (rs := [4, 7]) (by kernel_rfl) (by simp) ?_
                      refine AllReadyIn.cons rfl (fun K hK => ?_) ?_
                      · go_simp
                        refine hK _ _ ?_; clear hK K
                        refine wpAnyIn_ready (rs := [7]) (by kernel_rfl) (by simp) ?_
                        refine AllReadyIn.cons rfl (fun K hK => ?_) ?_
                        · go_simp
                          refine ⟨trivial, (callsIn_wide.2 (HH.out _)).mono ?_⟩; rintro e w' ⟨rfl, rfl⟩
                          refine hK _ _ ?_; clear hK K
                          refine wpAnyIn_ready (rs := [8]) (by kernel_rfl) (by simp) ?_
                          refine AllReadyIn.cons rfl (fun K hK => ?_) ?_
                          · go_simp
                            refine hK _ _ ?_; clear hK K
                            refine wpAnyIn_ready (rs := [9]) (by kernel_rfl) (by simp) ?_
                            refine AllReadyIn.cons rfl (fun K hK => ?_) ?_
                            · go_simp
                              refine hK _ _ ?_; clear hK K
                              refine wpAnyIn_ready (rs := [10]) (by kernel_rfl) (by simp) ?_
                              refine AllReadyIn.cons rfl (fun K hK => ?_) ?_
                              · go_simp
                                refine hK _ _ ?_; clear hK K
                                refine wpAnyIn_ready (rs := [11, 12]) (by kernel_rfl) (by simp) ?_
                                refine AllReadyIn.cons rfl (fun K hK => ?_) ?_
                                · go_simp
                                  refine hK _ _ ?_; clear hK K
                                  refine wpAnyIn_ready (rs := [12]) (by kernel_rfl) (by simp) ?_
                                  refine AllReadyIn.cons rfl (fun K hK => ?_) ?_
                                  · go_simp
                                    refine hK _ _ ?_; clear hK K
                                    refine wpAnyIn_ready (rs := [13]) (by kernel_rfl) (by simp) ?_
                                    refine AllReadyIn.cons rfl (fun K hK => ?_) ?_
                                    · go_simp
                                      refine hK _ _ ?_; clear hK K
                                      refine wpAnyIn_ready (rs := [14]) (by kernel_rfl) (by simp) ?_
                                      refine AllReadyIn.cons rfl (fun K hK => ?_) ?_
                                      · go_simp
                                        refine hK _ _ ?_; clear hK K
                                        refine wpAnyIn_ready (rs := [15]) (by kernel_rfl) (by simp) ?_
                                        refine AllReadyIn.cons rfl (fun K hK => ?_) ?_
                                        · go_simp
                                          refine hK _ _ ?_; clear hK K
                                          refine wpAnyIn_ready (rs := [16]) (by kernel_rfl) (by simp) ?_
                                          refine AllReadyIn.cons rfl (fun K hK => ?_) ?_
                                          · go_simp
                                            refine ⟨trivial, (callsIn_wide.2 (lives_any _)).mono ?_⟩; rintro e w5 ⟨rfl, hb5⟩
                                            have c5 := (boxBelow (boxDrew HR.out) hb5 hltR).cell
                                            have f5 := (boxBelow (boxDrew HR.out) hb5 hltR).frozen
                                            have Hb5 := Lib.hid hb5
                                            clear hb5
                                            refine hK _ _ ?_; clear hK K
                                            refine wpAnyIn_ready (rs := [17]) (by kernel_rfl) (by simp) ?_
                                            refine AllReadyIn.cons rfl (fun K hK => ?_) ?_
                                            · go_simp
                                              refine hK _ _ ?_; clear hK K
                                              refine wpAnyIn_ready (rs := [18]) (by kernel_rfl) (by simp) ?_
                                              refine AllReadyIn.cons rfl (fun K hK => ?_) ?_
                                              · go_simp
                                                refine hK _ _ ?_; clear hK K
                                                refine wpAnyIn_done (by kernel_rfl) ?_ _
                                                gi_wp2
                                                obtain ⟨g1, g2, g3, g4⟩ := Fin'.out w5 Hb5.out
                                                refine ⟨by simp, .inl ⟨_, _, rfl, run_takeDeferred g1, ⟨by simp, .inl ⟨_, _, rfl, run_takeDeferred g2, ?_⟩⟩⟩⟩
                                                exact ⟨_, by simp [results, Try.results9, go_sem, g3], rfl, g4⟩
                                              exact AllReadyIn.nil
                                            exact AllReadyIn.nil
                                          exact AllReadyIn.nil
                                        exact AllReadyIn.nil
                                      exact AllReadyIn.nil
                                    exact AllReadyIn.nil
                                  exact AllReadyIn.nil
                                refine AllReadyIn.cons rfl (fun K hK => ?_) ?_
                                · go_simp
                                  refine hK _ _ ?_; clear hK K
                                  refine wpAnyIn_ready (rs := [11]) (by kernel_rfl) (by simp) ?_
                                  refine AllReadyIn.cons rfl (fun K hK => ?_) ?_
                                  · go_simp
                                    refine hK _ _ ?_; clear hK K
                                    refine wpAnyIn_ready (rs := [13]) (by kernel_rfl) (by simp) ?_
                                    refine AllReadyIn.cons rfl (fun K hK => ?_) ?_
                                    · go_simp
                                      refine hK _ _ ?_; clear hK K
                                      refine wpAnyIn_ready (rs := [14]) (by kernel_rfl) (by simp) ?_
                                      refine AllReadyIn.cons rfl (fun K hK => ?_) ?_
                                      · go_simp
                                        refine hK _ _ ?_; clear hK K
                                        refine wpAnyIn_ready (rs := [15]) (by kernel_rfl) (by simp) ?_
                                        refine AllReadyIn.cons rfl (fun K hK => ?_) ?_
                                        · go_simp
                                          refine hK _ _ ?_; clear hK K
                                          refine wpAnyIn_ready (rs := [16]) (by kernel_rfl) (by simp) ?_
                                          refine AllReadyIn.cons rfl (fun K hK => ?_) ?_
                                          · go_simp
                                            refine ⟨trivial, (callsIn_wide.2 (lives_any _)).mono ?_⟩; rintro e w5 ⟨rfl, hb5⟩
                                            have c5 := (boxBelow (boxDrew HR.out) hb5 hltR).cell
                                            have f5 := (boxBelow (boxDrew HR.out) hb5 hltR).frozen
                                            have Hb5 := Lib.hid hb5
                                            clear hb5
                                            refine hK _ _ ?_; clear hK K
                                            refine wpAnyIn_ready (rs := [17]) (by kernel_rfl) (by simp) ?_
                                            refine AllReadyIn.cons rfl (fun K hK => ?_) ?_
                                            · go_simp
                                              refine hK _ _ ?_; clear hK K
                                              refine wpAnyIn_ready (rs := [18]) (by kernel_rfl) (by simp) ?_
                                              refine AllReadyIn.cons rfl (fun K hK => ?_) ?_
                                              · go_simp
                                                refine hK _ _ ?_; clear hK K
                                                refine wpAnyIn_done (by kernel_rfl) ?_ _
                                                gi_wp2
                                                obtain ⟨g1, g2, g3, g4⟩ := Fin'.out w5 Hb5.out
                                                refine ⟨by simp, .inl ⟨_, _, rfl, run_takeDeferred g1, ⟨by simp, .inl ⟨_, _, rfl, run_takeDeferred g2, ?_⟩⟩⟩⟩
                                                exact ⟨_, by simp [results, Try.results9, go_sem, g3], rfl, g4⟩
                                              exact AllReadyIn.nil
                                            exact AllReadyIn.nil
                                          exact AllReadyIn.nil
                                        exact AllReadyIn.nil
                                      exact AllReadyIn.nil
                                    exact AllReadyIn.nil
                                  exact AllReadyIn.nil
                                exact AllReadyIn.nil
                              exact AllReadyIn.nil
                            exact AllReadyIn.nil
                          exact AllReadyIn.nil
                        exact AllReadyIn.nil
                      refine AllReadyIn.cons rfl (fun K hK => ?_) ?_
                      · go_simp
                        refine ⟨trivial, (callsIn_wide.2 (HH.out _)).mono ?_⟩; rintro e w' ⟨rfl, rfl⟩
                        refine hK _ _ ?_; clear hK K
                        refine wpAnyIn_ready (rs := [4]) (by kernel_rfl) (by simp) ?_
                        refine AllReadyIn.cons rfl (fun K hK => ?_) ?_
                        · go_simp
                          refine hK _ _ ?_; clear hK K
                          refine wpAnyIn_ready (rs := [8]) (by kernel_rfl) (by simp) ?_
                          refine AllReadyIn.cons rfl (fun K hK => ?_) ?_
                          · go_simp
                            refine hK _ _ ?_; clear hK K
                            refine wpAnyIn_ready (rs := [9]) (by kernel_rfl) (by simp) ?_
                            refine AllReadyIn.cons rfl (fun K hK => ?_) ?_
                            · go_simp
                              refine hK _ _ ?_; clear hK K
                              refine wpAnyIn_ready (rs := [10]) (by kernel_rfl) (by simp) ?_
                              refine AllReadyIn.cons rfl (fun K hK => ?_) ?_
                              · go_simp
                                refine hK _ _ ?_; clear hK K
                                refine wpAnyIn_ready (rs := [11, 12]) (by kernel_rfl) (by simp) ?_
                                refine AllReadyIn.cons rfl (fun K hK => ?_) ?_
                                · go_simp
                                  refine hK _ _ ?_; clear hK K
                                  refine wpAnyIn_ready (rs := [12]) (by kernel_rfl) (by simp) ?_
                                  refine AllReadyIn.cons rfl (fun K hK => ?_) ?_
                                  · go_simp
                                    refine hK _ _ ?_; clear hK K
                                    refine wpAnyIn_ready (rs := [13]) (by kernel_rfl) (by simp) ?_
                                    refine AllReadyIn.cons rfl (fun K hK => ?_) ?_
                                    · go_simp
                                      refine hK _ _ ?_; clear hK K
                                      refine wpAnyIn_ready (rs := [14]) (by kernel_rfl) (by simp) ?_
                                      refine AllReadyIn.cons rfl (fun K hK => ?_) ?_
                                      · go_simp
                                        refine hK _ _ ?_; clear hK K
                                        refine wpAnyIn_ready (rs := [15]) (by kernel_rfl) (by simp) ?_
                                        refine AllReadyIn.cons rfl (fun K hK => ?_) ?_
                                        · go_simp
                                          refine hK _ _ ?_; clear hK K
                                          refine wpAnyIn_ready (rs := [16]) (by kernel_rfl) (by simp) ?_
                                          refine AllReadyIn.cons rfl (fun K hK => ?_) ?_
                                          · go_simp
                                            refine ⟨trivial, (callsIn_wide.2 (lives_any _)).mono ?_⟩; rintro e w5 ⟨rfl, hb5⟩
                                            have c5 := (boxBelow (boxDrew HR.out) hb5 hltR).cell
                                            have f5 := (boxBelow (boxDrew HR.out) hb5 hltR).frozen
                                            have Hb5 := Lib.hid hb5
                                            clear hb5
                                            refine hK _ _ ?_; clear hK K
                                            refine wpAnyIn_ready (rs := [17]) (by kernel_rfl) (by simp) ?_
                                            refine AllReadyIn.cons rfl (fun K hK => ?_) ?_
                                            · go_simp
                                              refine hK _ _ ?_; clear hK K
                                              refine wpAnyIn_ready (rs := [18]) (by kernel_rfl) (by simp) ?_
                                              refine AllReadyIn.cons rfl (fun K hK => ?_) ?_
                                              · go_simp
                                                refine hK _ _ ?_; clear hK K
                                                refine wpAnyIn_done (by kernel_rfl) ?_ _
                                                gi_wp2
                                                obtain ⟨g1, g2, g3, g4⟩ := Fin'.out w5 Hb5.out
                                                refine ⟨by simp, .inl ⟨_, _, rfl, run_takeDeferred g1, ⟨by simp, .inl ⟨_, _, rfl, run_takeDeferred g2, ?_⟩⟩⟩⟩
                                                exact ⟨_, by simp [results, Try.results9, go_sem, g3], rfl, g4⟩
                                              exact AllReadyIn.nil
                                            exact AllReadyIn.nil
                                          exact AllReadyIn.nil
                                        exact AllReadyIn.nil
                                      exact AllReadyIn.nil
                                    exact AllReadyIn.nil
                                  exact AllReadyIn.nil
                                refine AllReadyIn.cons rfl (fun K hK => ?_) ?_
                                · go_simp
                                  refine hK _ _ ?_; clear hK K
                                  refine wpAnyIn_ready (rs := [11]) (by kernel_rfl) (by simp) ?_
                                  refine AllReadyIn.cons rfl (fun K hK => ?_) ?_
                                  · go_simp
                                    refine hK _ _ ?_; clear hK K
                                    refine wpAnyIn_ready (rs := [13]) (by kernel_rfl) (by simp) ?_
                                    refine AllReadyIn.cons rfl (fun K hK => ?_) ?_
                                    · go_simp
                                      refine hK _ _ ?_; clear hK K
                                      refine wpAnyIn_ready (rs := [14]) (by kernel_rfl) (by simp) ?_
                                      refine AllReadyIn.cons rfl (fun K hK => ?_) ?_
                                      · go_simp
                                        refine hK _ _ ?_; clear hK K
                                        refine wpAnyIn_ready (rs := [15]) (by kernel_rfl) (by simp) ?_
                                        refine AllReadyIn.cons rfl (fun K hK => ?_) ?_
                                        · go_simp
                                          refine hK _ _ ?_; clear hK K
                                          refine wpAnyIn_ready (rs := [16]) (by kernel_rfl) (by simp) ?_
                                          refine AllReadyIn.cons rfl (fun K hK => ?_) ?_
                                          · go_simp
                                            refine ⟨trivial, (callsIn_wide.2 (lives_any _)).mono ?_⟩; rintro e w5 ⟨rfl, hb5⟩
                                            have c5 := (boxBelow (boxDrew HR.out) hb5 hltR).cell
                                            have f5 := (boxBelow (boxDrew HR.out) hb5 hltR).frozen
                                            have Hb5 := Lib.hid hb5
                                            clear hb5
                                            refine hK _ _ ?_; clear hK K
                                            refine wpAnyIn_ready (rs := [17]) (by kernel_rfl) (by simp) ?_
                                            refine AllReadyIn.cons rfl (fun K hK => ?_) ?_
                                            · go_simp
                                              refine hK _ _ ?_; clear hK K
                                              refine wpAnyIn_ready (rs := [18]) (by kernel_rfl) (by simp) ?_
                                              refine AllReadyIn.cons rfl (fun K hK => ?_) ?_
                                              · go_simp
                                                refine hK _ _ ?_; clear hK K
                                                refine wpAnyIn_done (by kernel_rfl) ?_ _
                                                gi_wp2
                                                obtain ⟨g1, g2, g3, g4⟩ := Fin'.out w5 Hb5.out
                                                refine ⟨by simp, .inl ⟨_, _, rfl, run_takeDeferred g1, ⟨by simp, .inl ⟨_, _, rfl, run_takeDeferred g2, ?_⟩⟩⟩⟩
                                                exact ⟨_, by simp [results, Try.results9, go_sem, g3], rfl, g4⟩
                                              exact AllReadyIn.nil
                                            exact AllReadyIn.nil
                                          exact AllReadyIn.nil
                                        exact AllReadyIn.nil
                                      exact AllReadyIn.nil
                                    exact AllReadyIn.nil
                                  exact AllReadyIn.nil
                                exact AllReadyIn.nil
                              exact AllReadyIn.nil
                            exact AllReadyIn.nil
                          exact AllReadyIn.nil
                        exact AllReadyIn.nil
                      exact AllReadyIn.nil
                    exact AllReadyIn.nil
                  exact AllReadyIn.nil
                exact AllReadyIn.nil
              exact AllReadyIn.nil
            exact AllReadyIn.nil
          refine AllReadyIn.cons rfl (fun K hK => ?_) ?_
          · go_simp
            refine hK _ _ ?_; clear hK K
            refine wpAnyIn_ready (rs := [0]) (by kernel_rfl) (by simp) ?_
            refine AllReadyIn.cons rfl (fun K hK => ?_) ?_
            · go_simp
              refine hK _ _ ?_; clear hK K
              refine wpAnyIn_ready (rs := [2]) (by kernel_rfl) (by simp) ?_
              refine AllReadyIn.cons rfl (fun K hK => ?_) ?_
              · go_simp
                refine hK _ _ ?_; clear hK K
                refine wpAnyIn_ready (rs := [3]) (by kernel_rfl) (by simp) ?_
                refine AllReadyIn.cons rfl (fun K hK => ?_) ?_
                · go_simp
                  refine hK _ _ ?_; clear hK K
                  refine wpAnyIn_ready (rs := [4, 5, 6]) (by kernel_rfl) (by simp) ?_
                  refine AllReadyIn.cons rfl (fun K hK => ?_) ?_
                  · go_simp
                    refine hK _ _ ?_; clear hK K
                    refine wpAnyIn_ready (rs := [5, 6]) (by kernel_rfl) (by simp) ?_
                    refine AllReadyIn.cons rfl (fun K hK => ?_) ?_
                    · go_simp
                      refine hK _ _ ?_; clear hK K
                      refine wpAnyIn_ready (rs := [6]) (by kernel_rfl) (by simp) ?_
                      refine AllReadyIn.cons rfl (fun K hK => ?_) ?_
                      · go_simp
                        refine hK _ _ ?_; clear hK K
                        refine wpAnyIn_ready (rs := [7]) (by kernel_rfl) (by simp) ?_
                        refine AllReadyIn.cons rfl (fun K hK => ?_) ?_
                        · go_simp
                          refine ⟨trivial, (callsIn_wide.2 (HH.out _)).mono ?_⟩; rintro e w' ⟨rfl, rfl⟩
                          refine hK _ _ ?_; clear hK K
                          refine wpAnyIn_ready (rs := [8]) (by kernel_rfl) (by simp) ?_
                          refine AllReadyIn.cons rfl (fun K hK => ?_) ?_
                          · go_simp
                            refine hK _ _ ?_; clear hK K
                            refine wpAnyIn_ready (rs := [9]) (by kernel_rfl) (by simp) ?_
                            refine AllReadyIn.cons rfl (fun K hK => ?_) ?_
                            · go_simp
                              refine hK _ _ ?_; clear hK K
                              refine wpAnyIn_ready (rs := [10]) (by kernel_rfl) (by simp) ?_
                              refine AllReadyIn.cons rfl (fun K hK => ?_) ?_
                              · go_simp
                                refine hK _ _ ?_; clear hK K
                                refine wpAnyIn_ready (rs := [11, 12]) (by kernel_rfl) (by simp) ?_
                                refine AllReadyIn.cons rfl (fun K hK => ?_) ?_
                                · go_simp
                                  refine hK _ _ ?_; clear hK K
                                  refine wpAnyIn_ready (rs := [12]) (by kernel_rfl) (by simp) ?_
                                  refine AllReadyIn.cons rfl (fun K hK => ?_) ?_
                                  · go_simp
                                    refine hK _ _ ?_; clear hK K
                                    refine wpAnyIn_ready (rs := [13]) (by kernel_rfl) (by simp) ?_
                                    refine AllReadyIn.cons rfl (fun K hK => ?_) ?_
                                    · go_simp
                                      refine hK _ _ ?_; clear hK K
                                      refine wpAnyIn_ready (rs := [14]) (by kernel_rfl) (by simp) ?_
                                      refine AllReadyIn.cons rfl (fun K hK => ?_) ?_
                                      · go_simp
                                        refine hK _ _ ?_; clear hK K
                                        refine wpAnyIn_ready (rs := [15]) (by kernel_rfl) (by simp) ?_
                                        refine AllReadyIn.cons rfl (fun K hK => ?_) ?_
                                        · go_simp
                                          refine hK _ _ ?_; clear hK K
                                          refine wpAnyIn_ready (rs := [16]) (by kernel_rfl) (by simp) ?_
                                          refine AllReadyIn.cons rfl (fun K hK => ?_) ?_
                                          · go_simp
                                            refine ⟨trivial, (callsIn_wide.2 (lives_any _)).mono ?_⟩; rintro e w5 ⟨rfl, hb5⟩
                                            have c5 := (boxBelow (boxDrew HR.out) hb5 hltR).cell
                                            have f5 := (boxBelow (boxDrew HR.out) hb5 hltR).frozen
                                            have Hb5 := Lib.hid hb5
                                            clear hb5
                                            refine hK _ _ ?_; clear hK K
                                            refine wpAnyIn_ready (rs := [17]) (by kernel_rfl) (by simp) ?_
                                            refine AllReadyIn.cons rfl (fun K hK => ?_) ?_
                                            · go_simp
                                              refine hK _ _ ?_; clear hK K
                                              refine wpAnyIn_ready (rs := [18]) (by kernel_rfl) (by simp) ?_
                                              refine AllReadyIn.cons rfl (fun K hK => ?_) ?_
                                              · go_simp
                                                refine hK _ _ ?_; clear hK K
                                                refine wpAnyIn_done (by kernel_rfl) ?_ _
                                                gi_wp2
                                                obtain ⟨g1, g2, g3, g4⟩ := Fin'.out w5 Hb5.out
                                                refine ⟨by simp, .inl ⟨_, _, rfl, run_takeDeferred g1, ⟨by simp, .inl ⟨_, _, rfl, run_takeDeferred g2, ?_⟩⟩⟩⟩
                                                exact ⟨_, by simp [results, Try.results9, go_sem, g3], rfl, g4⟩
                                              exact AllReadyIn.nil
                                            exact AllReadyIn.nil
                                          exact AllReadyIn.nil
                                        exact AllReadyIn.nil
                                      exact AllReadyIn.nil
                                    exact AllReadyIn.nil
                                  exact AllReadyIn.nil
                                refine AllReadyIn.cons rfl (fun K hK => ?_) ?_
                                · go_simp
                                  refine hK _ _ ?_; clear hK K
                                  refine wpAnyIn_ready (rs := [11]) (by kernel_rfl) (by simp) ?_
                                  refine AllReadyIn.cons rfl (fun K hK => ?_) ?_
                                  · go_simp
                                    refine hK _ _ ?_; clear hK K
                                    refine wpAnyIn_ready (rs := [13]) (by kernel_rfl) (by simp) ?_
                                    refine AllReadyIn.cons rfl (fun K hK => ?_) ?_
                                    · go_simp
                                      refine hK _ _ ?_; clear hK K
                                      refine wpAnyIn_ready (rs := [14]) (by kernel_rfl) (by simp) ?_
                                      refine AllReadyIn.cons rfl (fun K hK => ?_) ?_
                                      · go_simp
                                        refine hK _ _ ?_; clear hK K
                                        refine wpAnyIn_ready (rs := [15]) (by kernel_rfl) (by simp) ?_
                                        refine AllReadyIn.cons rfl (fun K hK => ?_) ?_
                                        · go_simp
                                          refine hK _ _ ?_; clear hK K
                                          refine wpAnyIn_ready (rs := [16]) (by kernel_rfl) (by simp) ?_
                                          refine AllReadyIn.cons rfl (fun K hK => ?_) ?_
                                          · go_simp
                                            refine ⟨trivial, (callsIn_wide.2 (lives_any _)).mono ?_⟩; rintro e w5 ⟨rfl, hb5⟩
                                            have c5 := (boxBelow (boxDrew HR.out) hb5 hltR).cell
                                            have f5 := (boxBelow (boxDrew HR.out) hb5 hltR).frozen
                                            have Hb5 := Lib.hid hb5
                                            clear hb5
                                            refine hK _ _ ?_; clear hK K
                                            refine wpAnyIn_ready (rs := [17]) (by kernel_rfl) (by simp) ?_
                                            refine AllReadyIn.cons rfl (fun K hK => ?_) ?_
                                            · go_simp
                                              refine hK _ _ ?_; clear hK K
                                              refine wpAnyIn_ready (rs := [18]) (by kernel_rfl) (by simp) ?_
                                              refine AllReadyIn.cons rfl (fun K hK => ?_) ?_
                                              · go_simp
                                                refine hK _ _ ?_; clear hK K
                                                refine wpAnyIn_done (by kernel_rfl) ?_ _
                                                gi_wp2
                                                obtain ⟨g1, g2, g3, g4⟩ := Fin'.out w5 Hb5.out
                                                refine ⟨by simp, .inl ⟨_, _, rfl, run_takeDeferred g1, ⟨by simp, .inl ⟨_, _, rfl, run_takeDeferred g2, ?_⟩⟩⟩⟩
                                                exact ⟨_, by simp [results, Try.results9, go_sem, g3], rfl, g4⟩
                                              exact AllReadyIn.nil
                                            exact AllReadyIn.nil
                                          exact AllReadyIn.nil
                                        exact AllReadyIn.nil
                                      exact AllReadyIn.nil
                                    exact AllReadyIn.nil
                                  exact AllReadyIn.nil
                                exact AllReadyIn.nil
                              exact AllReadyIn.nil
                            exact AllReadyIn.nil
                          exact AllReadyIn.nil
                        exact AllReadyIn.nil
                      exact AllReadyIn.nil
                    refine AllReadyIn.cons rfl (fun K hK => ?_) ?_
                    · go_simp
                      refine hK _ _ ?_; clear hK K
                      refine wpAnyIn_ready (rs := [5]) (by kernel_rfl) (by simp) ?_
                      refine AllReadyIn.cons rfl (fun K hK => ?_) ?_
                      · go_simp
                        refine hK _ _ ?_; clear hK K
                        refine wpAnyIn_ready (rs := [7]) (by kernel_rfl) (by simp) ?_
                        refine AllReadyIn.cons rfl (fun K hK => ?_) ?_
                        · go_simp
                          refine ⟨trivial, (callsIn_wide.2 (HH.out _)).mono ?_⟩; rintro e w' ⟨rfl, rfl⟩
                          refine hK _ _ ?_; clear hK K
                          refine wpAnyIn_ready (rs := [8]) (by kernel_rfl) (by simp) ?_
                          refine AllReadyIn.cons rfl (fun K hK => ?_) ?_
                          · go_simp
                            refine hK _ _ ?_; clear hK K
                            refine wpAnyIn_ready (rs := [9]) (by kernel_rfl) (by simp) ?_
                            refine AllReadyIn.cons rfl (fun K hK => ?_) ?_
                            · go_simp
                              refine hK _ _ ?_; clear hK K
                              refine wpAnyIn_ready (rs := [10]) (by kernel_rfl) (by simp) ?_
                              refine AllReadyIn.cons rfl (fun K hK => ?_) ?_
                              · go_simp
                                refine hK _ _ ?_; clear hK K
                                refine wpAnyIn_ready (rs := [11, 12]) (by kernel_rfl) (by simp) ?_
                                refine AllReadyIn.cons rfl (fun K hK => ?_) ?_
                                · go_simp
                                  refine hK _ _ ?_; clear hK K
                                  refine wpAnyIn_ready (rs := [12]) (by kernel_rfl) (by simp) ?_
                                  refine AllReadyIn.cons rfl (fun K hK => ?_) ?_
                                  · go_simp
                                    refine hK _ _ ?_; clear hK K
                                    refine wpAnyIn_ready (rs := [13]) (by kernel_rfl) (by simp) ?_
                                    refine AllReadyIn.cons rfl (fun K hK => ?_) ?_
                                    · go_simp
                                      refine hK _ _ ?_; clear hK K
                                      refine wpAnyIn_ready (rs := [14]) (by kernel_rfl) (by simp) ?_
                                      refine AllReadyIn.cons rfl (fun K hK => ?_) ?_
                                      · go_simp
                                        refine hK _ _ ?_; clear hK K
                                        refine wpAnyIn_ready (rs := [15]) (by kernel_rfl) (by simp) ?_
                                        refine AllReadyIn.cons rfl (fun K hK => ?_) ?_
                                        · go_simp
                                          refine hK _ _ ?_; clear hK K
                                          refine wpAnyIn_ready (rs := [16]) (by kernel_rfl) (by simp) ?_
                                          refine AllReadyIn.cons rfl (fun K hK => ?_) ?_
                                          · go_simp
                                            refine ⟨trivial, (callsIn_wide.2 (lives_any _)).mono ?_⟩; rintro e w5 ⟨rfl, hb5⟩
                                            have c5 := (boxBelow (boxDrew HR.out) hb5 hltR).cell
                                            have f5 := (boxBelow (boxDrew HR.out) hb5 hltR).frozen
                                            have Hb5 := Lib.hid hb5
                                            clear hb5
                                            refine hK _ _ ?_; clear hK K
                                            refine wpAnyIn_ready (rs := [17]) (by kernel_rfl) (by simp) ?_
                                            refine AllReadyIn.cons rfl (fun K hK => ?_) ?_
                                            · go_simp
                                              refine hK _ _ ?_; clear hK K
                                              refine wpAnyIn_ready (rs := [18]) (by kernel_rfl) (by simp) ?_
                                              refine AllReadyIn.cons rfl (fun K hK => ?_) ?_
                                              · go_simp
                                                refine hK _ _ ?_; clear hK K
                                                refine wpAnyIn_done (by kernel_rfl) ?_ _
                                                gi_wp2
                                                obtain ⟨g1, g2, g3, g4⟩ := Fin'.out w5 Hb5.out
                                                refine ⟨by simp, .inl ⟨_, _, rfl, run_takeDeferred g1, ⟨by simp, .inl ⟨_, _, rfl, run_takeDeferred g2, ?_⟩⟩⟩⟩
                                                exact ⟨_, by simp [results, Try.results9, go_sem, g3], rfl, g4⟩
                                              exact AllReadyIn.nil
                                            exact AllReadyIn.nil
                                          exact AllReadyIn.nil
                                        exact AllReadyIn.nil
                                      exact AllReadyIn.nil
                                    exact AllReadyIn.nil
                                  exact AllReadyIn.nil
                                refine AllReadyIn.cons rfl (fun K hK => ?_) ?_
                                · go_simp
                                  refine hK _ _ ?_; clear hK K
                                  refine wpAnyIn_ready (rs := [11]) (by kernel_rfl) (by simp) ?_
                                  refine AllReadyIn.cons rfl (fun K hK => ?_) ?_
                                  · go_simp
                                    refine hK _ _ ?_; clear hK K
                                    refine wpAnyIn_ready (rs := [13]) (by kernel_rfl) (by simp) ?_
                                    refine AllReadyIn.cons rfl (fun K hK => ?_) ?_
                                    · go_simp
                                      refine hK _ _ ?_; clear hK K
                                      refine wpAnyIn_ready (rs := [14]) (by kernel_rfl) (by simp) ?_
                                      refine AllReadyIn.cons rfl (fun K hK => ?_) ?_
                                      · go_simp
                                        refine hK _ _ ?_; clear hK K
                                        refine wpAnyIn_ready (rs := [15]) (by kernel_rfl) (by simp) ?_
                                        refine AllReadyIn.cons rfl (fun K hK => ?_) ?_
                                        · go_simp
                                          refine hK _ _ ?_; clear hK K
                                          refine wpAnyIn_ready (rs := [16]) (by kernel_rfl) (by simp) ?_
                                          refine AllReadyIn.cons rfl (fun K hK => ?_) ?_
                                          · go_simp
                                            refine ⟨trivial, (callsIn_wide.2 (lives_any _)).mono ?_⟩; rintro e w5 ⟨rfl, hb5⟩
                                            have c5 := (boxBelow (boxDrew HR.out) hb5 hltR).cell
                                            have f5 := (boxBelow (boxDrew HR.out) hb5 hltR).frozen
                                            have Hb5 := Lib.hid hb5
                                            clear hb5
                                            refine hK _ _ ?_; clear hK K
                                            refine wpAnyIn_ready (rs := [17]) (by kernel_rfl) (by simp) ?_
                                            refine AllReadyIn.cons rfl (fun K hK => ?_) ?_
                                            · go_simp
                                              refine hK _ _ ?_; clear hK K
                                              refine wpAnyIn_ready (rs := [18]) (by kernel_rfl) (by simp) ?_
                                              refine AllReadyIn.cons rfl (fun K hK => ?_) ?_
                                              · go_simp
                                                refine hK _ _ ?_; clear hK K
                                                refine wpAnyIn_done (by kernel_rfl) ?_ _
                                                gi_wp2
                                                obtain ⟨g1, g2, g3, g4⟩ := Fin'.out w5 Hb5.out
                                                refine ⟨by simp, .inl ⟨_, _, rfl, run_takeDeferred g1, ⟨by simp, .inl ⟨_, _, rfl, run_takeDeferred g2, ?_⟩⟩⟩⟩
                                                exact ⟨_, by simp [results, Try.results9, go_sem, g3], rfl, g4⟩
                                              exact AllReadyIn.nil
                                            exact AllReadyIn.nil
                                          exact AllReadyIn.nil
                                        exact AllReadyIn.nil
                                      exact AllReadyIn.nil
                                    exact AllReadyIn.nil
                                  exact AllReadyIn.nil
                                exact AllReadyIn.nil
                              exact AllReadyIn.nil
                            exact AllReadyIn.nil
                          exact AllReadyIn.nil
                        exact AllReadyIn.nil
                      exact AllReadyIn.nil
                    exact AllReadyIn.nil
                  refine AllReadyIn.cons rfl (fun K hK => ?_) ?_
                  · go_simp
                    refine hK _ _ ?_; clear hK K
                    refine wpAnyIn_ready (rs := [4, 6]) (by kernel_rfl) (by simp) ?_
                    refine AllReadyIn.cons rfl (fun K hK => ?_) ?_
                    · go_simp
                      refine hK _ _ ?_; clear hK K
                      refine wpAnyIn_ready (rs := [6]) (by kernel_rfl) (by simp) ?_
                      refine AllReadyIn.cons rfl (fun K hK => ?_) ?_
                      · go_simp
                        refine hK _ _ ?_; clear hK K
                        refine wpAnyIn_ready (rs := [7]) (by kernel_rfl) (by simp) ?_
                        refine AllReadyIn.cons rfl (fun K hK => ?_) ?_
                        · go_simp
                          refine ⟨trivial, (callsIn_wide.2 (HH.out _)).mono ?_⟩; rintro e w' ⟨rfl, rfl⟩
                          refine hK _ _ ?_; clear hK K
                          refine wpAnyIn_ready (rs := [8]) (by kernel_rfl) (by simp) ?_
                          refine AllReadyIn.cons rfl (fun K hK => ?_) ?_
                          · go_simp
                            refine hK _ _ ?_; clear hK K
                            refine wpAnyIn_ready (rs := [9]) (by kernel_rfl) (by simp) ?_
                            refine AllReadyIn.cons rfl (fun K hK => ?_) ?_
                            · go_simp
                              refine hK _ _ ?_; clear hK K
                              refine wpAnyIn_ready (rs := [10]) (by kernel_rfl) (by simp) ?_
                              refine AllReadyIn.cons rfl (fun K hK => ?_) ?_
                              · go_simp
                                refine hK _ _ ?_; clear hK K
                                refine wpAnyIn_ready (rs := [11, 12]) (by kernel_rfl) (by simp) ?_
                                refine AllReadyIn.cons rfl (fun K hK => ?_) ?_
                                · go_simp
                                  refine hK _ _ ?_; clear hK K
                                  refine wpAnyIn_ready (rs := [12]) (by kernel_rfl) (by simp) ?_
                                  refine AllReadyIn.cons rfl (fun K hK => ?_) ?_
                                  · go_simp
                                    refine hK _ _ ?_; clear hK K
                                    refine wpAnyIn_ready (rs := [13]) (by kernel_rfl) (by simp) ?_
                                    refine AllReadyIn.cons rfl (fun K hK => ?_) ?_
                                    · go_simp
                                      refine hK _ _ ?_; clear hK K
                                      refine wpAnyIn_ready (rs := [14]) (by kernel_rfl) (by simp) ?_
                                      refine AllReadyIn.cons rfl (fun K hK => ?_) ?_
                                      · go_simp
                                        refine hK _ _ ?_; clear hK K
                                        refine wpAnyIn_ready (rs := [15]) (by kernel_rfl) (by simp) ?_
                                        refine AllReadyIn.cons rfl (fun K hK => ?_) ?_
                                        · go_simp
                                          refine hK _ _ ?_; clear hK K
                                          refine wpAnyIn_ready (rs := [16]) (by kernel_rfl) (by simp) ?_
                                          refine AllReadyIn.cons rfl (fun K hK => ?_) ?_
                                          · go_simp
                                            refine ⟨trivial, (callsIn_wide.2 (lives_any _)).mono ?_⟩; rintro e w5 ⟨rfl, hb5⟩
                                            have c5 := (boxBelow (boxDrew HR.out) hb5 hltR).cell
                                            have f5 := (boxBelow (boxDrew HR.out) hb5 hltR).frozen
                                            have Hb5 := Lib.hid hb5
                                            clear hb5
                                            refine hK _ _ ?_; clear hK K
                                            refine wpAnyIn_ready (rs := [17]) (by kernel_rfl) (by simp) ?_
                                            refine AllReadyIn.cons rfl (fun K hK => ?_) ?_
                                            · go_simp
                                              refine hK _ _ ?_; clear hK K
                                              refine wpAnyIn_ready (rs := [18]) (by kernel_rfl) (by simp) ?_
                                              refine AllReadyIn.cons rfl (fun K hK => ?_) ?_
                                              · go_simp
                                                refine hK _ _ ?_; clear hK K
                                                refine wpAnyIn_done (by kernel_rfl) ?_ _
                                                gi_wp2
                                                obtain ⟨g1, g2, g3, g4⟩ := Fin'.out w5 Hb5.out
                                                refine ⟨by simp, .inl ⟨_, _, rfl, run_takeDeferred g1, ⟨by simp, .inl ⟨_, _, rfl, run_takeDeferred g2, ?_⟩⟩⟩⟩
                                                exact ⟨_, by simp [results, Try.results9, go_sem, g3], rfl, g4⟩
                                              exact AllReadyIn.nil
                                            exact AllReadyIn.nil
                                          exact AllReadyIn.nil
                                        exact AllReadyIn.nil
                                      exact AllReadyIn.nil
                                    exact AllReadyIn.nil
                                  exact AllReadyIn.nil
                                refine AllReadyIn.cons rfl (fun K hK => ?_) ?_
                                · go_simp
                                  refine hK _ _ ?_; clear hK K
                                  refine wpAnyIn_ready (rs := [11]) (by kernel_rfl) (by simp) ?_
                                  refine AllReadyIn.cons rfl (fun K hK => ?_) ?_
                                  · go_simp
                                    refine hK _ _ ?_; clear hK K
                                    refine wpAnyIn_ready (rs := [13]) (by kernel_rfl) (by simp) ?_
                                    refine AllReadyIn.cons rfl (fun K hK => ?_) ?_
                                    · go_simp
                                      refine hK _ _ ?_; clear hK K
                                      refine wpAnyIn_ready (rs := [14]) (by kernel_rfl) (by simp) ?_
                                      refine AllReadyIn.cons rfl (fun K hK => ?_) ?_
                                      · go_simp
                                        refine hK _ _ ?_; clear hK K
                                        refine wpAnyIn_ready (rs := [15]) (by kernel_rfl) (by simp) ?_
                                        refine AllReadyIn.cons rfl (fun K hK => ?_) ?_
                                        · go_simp
                                          refine hK _ _ ?_; clear hK K
                                          refine wpAnyIn_ready (rs := [16]) (by kernel_rfl) (by simp) ?_
                                          refine AllReadyIn.cons rfl (fun K hK => ?_) ?_
                                          · go_simp
                                            refine ⟨trivial, (callsIn_wide.2 (lives_any _)).mono ?_⟩; rintro e w5 ⟨rfl, hb5⟩
                                            have c5 := (boxBelow (boxDrew HR.out) hb5 hltR).cell
                                            have f5 := (boxBelow (boxDrew HR.out) hb5 hltR).frozen
                                            have Hb5 := Lib.hid hb5
                                            clear hb5
                                            refine hK _ _ ?_; clear hK K
                                            refine wpAnyIn_ready (rs := [17]) (by kernel_rfl) (by simp) ?_
                                            refine AllReadyIn.cons rfl (fun K hK => ?_) ?_
                                            · go_simp
                                              refine hK _ _ ?_; clear hK K
                                              refine wpAnyIn_ready (rs := [18]) (by kernel_rfl) (by simp) ?_
                                              refine AllReadyIn.cons rfl (fun K hK => ?_) ?_
                                              · go_simp
                                                refine hK _ _ ?_; clear hK K
                                                refine wpAnyIn_done (by kernel_rfl) ?_ _
                                                gi_wp2
                                                obtain ⟨g1, g2, g3, g4⟩ := Fin'.out w5 Hb5.out
                                                refine ⟨by simp, .inl ⟨_, _, rfl, run_takeDeferred g1, ⟨by simp, .inl ⟨_, _, rfl, run_takeDeferred g2, ?_⟩⟩⟩⟩
                                                exact ⟨_, by simp [results, Try.results9, go_sem, g3], rfl, g4⟩
                                              exact AllReadyIn.nil
                                            exact AllReadyIn.nil
                                          exact AllReadyIn.nil
                                        exact AllReadyIn.nil
                                      exact AllReadyIn.nil
                                    exact AllReadyIn.nil
                                  exact AllReadyIn.nil
                                exact AllReadyIn.nil
                              exact AllReadyIn.nil
                            exact AllReadyIn.nil
                          exact AllReadyIn.nil
                        exact AllReadyIn.nil
                      exact AllReadyIn.nil
                    refine AllReadyIn.cons rfl (fun K hK => ?_) ?_
                    · go_simp
                      refine hK _ _ ?_; clear hK K
                      refine wpAnyIn_ready (rs := [4, 7]) (by kernel_rfl) (by simp) ?_
                      refine AllReadyIn.cons rfl (fun K hK => ?_) ?_
                      · go_simp
                        refine hK _ _ ?_; clear hK K
                        refine wpAnyIn_ready (rs := [7]) (by kernel_rfl) (by simp) ?_
                        refine AllReadyIn.cons rfl (fun K hK => ?_) ?_
                        · go_simp
                          refine ⟨trivial, (callsIn_wide.2 (HH.out _)).mono ?_⟩; rintro e w' ⟨rfl, rfl⟩
                          refine hK _ _ ?_; clear hK K
                          refine wpAnyIn_ready (rs := [8]) (by kernel_rfl) (by simp) ?_
                          refine AllReadyIn.cons rfl (fun K hK => ?_) ?_
                          · go_simp
                            refine hK _ _ ?_; clear hK K
                            refine wpAnyIn_ready (rs := [9]) (by kernel_rfl) (by simp) ?_
                            refine AllReadyIn.cons rfl (fun K hK => ?_) ?_
                            · go_simp
                              refine hK _ _ ?_; clear hK K
                              refine wpAnyIn_ready (rs := [10]) (by kernel_rfl) (by simp) ?_
                              refine AllReadyIn.cons rfl (fun K hK => ?_) ?_
                              · go_simp
                                refine hK _ _ ?_; clear hK K
                                refine wpAnyIn_ready (rs := [11, 12]) (by kernel_rfl) (by simp) ?_
                                refine AllReadyIn.cons rfl (fun K hK => ?_) ?_
                                · go_simp
                                  refine hK _ _ ?_; clear hK K
                                  refine wpAnyIn_ready (rs := [12]) (by kernel_rfl) (by simp) ?_
                                  refine AllReadyIn.cons rfl (fun K hK => ?_) ?_
                                  · go_simp
                                    refine hK _ _ ?_; clear hK K
                                    refine wpAnyIn_ready (rs := [13]) (by kernel_rfl) (by simp) ?_
                                    refine AllReadyIn.cons rfl (fun K hK => ?_) ?_
                                    · go_simp
                                      refine hK _ _ ?_; clear hK K
                                      refine wpAnyIn_ready (rs := [14]) (by kernel_rfl) (by simp) ?_
                                      refine AllReadyIn.cons rfl (fun K hK => ?_) ?_
                                      · go_simp
                                        refine hK _ _ ?_; clear hK K
                                        refine wpAnyIn_ready (rs := [15]) (by kernel_rfl) (by simp) ?_
                                        refine AllReadyIn.cons rfl (fun K hK => ?_) ?_
                                        · go_simp
                                          refine hK _ _ ?_; clear hK K
                                          refine wpAnyIn_ready (rs := [16]) (by kernel_rfl) (by simp) ?_
                                          refine AllReadyIn.cons rfl (fun K hK => ?_) ?_
                                          · go_simp
                                            refine ⟨trivial, (callsIn_wide.2 (lives_any _)).mono ?_⟩; rintro e w5 ⟨rfl, hb5⟩
                                            have c5 := (boxBelow (boxDrew HR.out) hb5 hltR).cell
                                            have f5 := (boxBelow (boxDrew HR.out) hb5 hltR).frozen
                                            have Hb5 := Lib.hid hb5
                                            clear hb5
                                            refine hK _ _ ?_; clear hK K
                                            refine wpAnyIn_ready (rs := [17]) (by kernel_rfl) (by simp) ?_
                                            refine AllReadyIn.cons rfl (fun K hK => ?_) ?_
                                            · go_simp
                                              refine hK _ _ ?_; clear hK K
                                              refine wpAnyIn_ready (rs := [18]) (by kernel_rfl) (by simp) ?_
                                              refine AllReadyIn.cons rfl (fun K hK => ?_) ?_
                                              · go_simp
                                                refine hK _ _ ?_; clear hK K
                                                refine wpAnyIn_done (by kernel_rfl) ?_ _
                                                gi_wp2
                                                obtain ⟨g1, g2, g3, g4⟩ := Fin'.out w5 Hb5.out
                                                refine ⟨by simp, .inl ⟨_, _, rfl, run_takeDeferred g1, ⟨by simp, .inl ⟨_, _, rfl, run_takeDeferred g2, ?_⟩⟩⟩⟩
                                                exact ⟨_, by simp [results, Try.results9, go_sem, g3], rfl, g4⟩
                                              exact AllReadyIn.nil
                                            exact AllReadyIn.nil
                                          exact AllReadyIn.nil
                                        exact AllReadyIn.nil
                                      exact AllReadyIn.nil
                                    exact AllReadyIn.nil
                                  exact AllReadyIn.nil
                                refine AllReadyIn.cons rfl (fun K hK => ?_) ?_
                                · go_simp
                                  refine hK _ _ ?_; clear hK K
                                  refine wpAnyIn_ready (rs := [11]) (by kernel_rfl) (by simp) ?_
                                  refine AllReadyIn.cons rfl (fun K hK => ?_) ?_
                                  · go_simp
                                    refine hK _ _ ?_; clear hK K
                                    refine wpAnyIn_ready (rs := [13]) (by kernel_rfl) (by simp) ?_
                                    refine AllReadyIn.cons rfl (fun K hK => ?_) ?_
                                    · go_simp
                                      refine hK _ _ ?_; clear hK K
                                      refine wpAnyIn_ready (rs := [14]) (by kernel_rfl) (by simp) ?_
                                      refine AllReadyIn.cons rfl (fun K hK => ?_) ?_
                                      · go_simp
                                        refine hK _ _ ?_; clear hK K
                                        refine wpAnyIn_ready (rs := [15]) (by kernel_rfl) (by simp) ?_
                                        refine AllReadyIn.cons rfl (fun K hK => ?_) ?_
                                        · go_simp
                                          refine hK _ _ ?_; clear hK K
                                          refine wpAnyIn_ready (rs := [16]) (by kernel_rfl) (by simp) ?_
                                          refine AllReadyIn.cons rfl (fun K hK => ?_) ?_
                                          · go_simp
                                            refine ⟨trivial, (callsIn_wide.2 (lives_any _)).mono ?_⟩; rintro e w5 ⟨rfl, hb5⟩
                                            have c5 := (boxBelow (boxDrew HR.out) hb5 hltR).cell
                                            have f5 := (boxBelow (boxDrew HR.out) hb5 hltR).frozen
                                            have Hb5 := Lib.hid hb5
                                            clear hb5
                                            refine hK _ _ ?_; clear hK K
                                            refine wpAnyIn_ready (rs := [17]) (by kernel_rfl) (by simp) ?_
                                            refine AllReadyIn.cons rfl (fun K hK => ?_) ?_
                                            · go_simp
                                              refine hK _ _ ?_; clear hK K
                                              refine wpAnyIn_ready (rs := [18]) (by kernel_rfl) (by simp) ?_
                                              refine AllReadyIn.cons rfl (fun K hK => ?_) ?_
                                              · go_simp
                                                refine hK _ _ ?_; clear hK K
                                                refine wpAnyIn_done (by kernel_rfl) ?_ _
                                                gi_wp2
                                                obtain ⟨g1, g2, g3, g4⟩ := Fin'.out w5 Hb5.out
                                                refine ⟨by simp, .inl ⟨_, _, rfl, run_takeDeferred g1, ⟨by simp, .inl ⟨_, _, rfl, run_takeDeferred g2, ?_⟩⟩⟩⟩
                                                exact ⟨_, by simp [results, Try.results9, go_sem, g3], rfl, g4⟩
                                              exact AllReadyIn.nil
                                            exact AllReadyIn.nil
                                          exact AllReadyIn.nil
                                        exact AllReadyIn.nil
                                      exact AllReadyIn.nil
                                    exact AllReadyIn.nil
                                  exact AllReadyIn.nil
                                exact AllReadyIn.nil
                              exact AllReadyIn.nil
                            exact AllReadyIn.nil
                          exact AllReadyIn.nil
                        exact AllReadyIn.nil
                      refine AllReadyIn.cons rfl (fun K hK => ?_) ?_
                      · go_simp
                        refine ⟨trivial, (callsIn_wide.2 (HH.out _)).mono ?_⟩; rintro e w' ⟨rfl, rfl⟩
                        refine hK _ _ ?_; clear hK K
                        refine wpAnyIn_ready (rs := [4]) (by kernel_rfl) (by simp) ?_
                        refine AllReadyIn.cons rfl (fun K hK => ?_) ?_
                        · go_simp
                          refine hK _ _ ?_; clear hK K
                          refine wpAnyIn_ready (rs := [8]) (by kernel_rfl) (by simp) ?_
                          refine AllReadyIn.cons rfl (fun K hK => ?_) ?_
                          · go_simp
                            refine hK _ _ ?_; clear hK K
                            refine wpAnyIn_ready (rs := [9]) (by kernel_rfl) (by simp) ?_
                            refine AllReadyIn.cons rfl (fun K hK => ?_) ?_
                            · go_simp
                              refine hK _ _ ?_; clear hK K
                              refine wpAnyIn_ready (rs := [10]) (by kernel_rfl) (by simp) ?_
                              refine AllReadyIn.cons rfl (fun K hK => ?_) ?_
                              · go_simp
                                refine hK _ _ ?_; clear hK K
                                refine wpAnyIn_ready (rs := [11, 12]) (by kernel_rfl) (by simp) ?_
                                refine AllReadyIn.cons rfl (fun K hK => ?_) ?_
                                · go_simp
                                  refine hK _ _ ?_; clear hK K
                                  refine wpAnyIn_ready (rs := [12]) (by kernel_rfl) (by simp) ?_
                                  refine AllReadyIn.cons rfl (fun K hK => ?_) ?_
                                  · go_simp
                                    refine hK _ _ ?_; clear hK K
                                    refine wpAnyIn_ready (rs := [13]) (by kernel_rfl) (by simp) ?_
                                    refine AllReadyIn.cons rfl (fun K hK => ?_) ?_
                                    · go_simp
                                      refine hK _ _ ?_; clear hK K
                                      refine wpAnyIn_ready (rs := [14]) (by kernel_rfl) (by simp) ?_
                                      refine AllReadyIn.cons rfl (fun K hK => ?_) ?_
                                      · go_simp
                                        refine hK _ _ ?_; clear hK K
                                        refine wpAnyIn_ready (rs := [15]) (by kernel_rfl) (by simp) ?_
                                        refine AllReadyIn.cons rfl (fun K hK => ?_) ?_
                                        · go_simp
                                          refine hK _ _ ?_; clear hK K
                                          refine wpAnyIn_ready (rs := [16]) (by kernel_rfl) (by simp) ?_
                                          refine AllReadyIn.cons rfl (fun K hK => ?_) ?_
                                          · go_simp
                                            refine ⟨trivial, (callsIn_wide.2 (lives_any _)).mono ?_⟩; rintro e w5 ⟨rfl, hb5⟩
                                            have c5 := (boxBelow (boxDrew HR.out) hb5 hltR).cell
                                            have f5 := (boxBelow (boxDrew HR.out) hb5 hltR).frozen
                                            have Hb5 := Lib.hid hb5
                                            clear hb5
                                            refine hK _ _ ?_; clear hK K
                                            refine wpAnyIn_ready (rs := [17]) (by kernel_rfl) (by simp) ?_
                                            refine AllReadyIn.cons rfl (fun K hK => ?_) ?_
                                            · go_simp
                                              refine hK _ _ ?_; clear hK K
                                              refine wpAnyIn_ready (rs := [18]) (by kernel_rfl) (by simp) ?_
                                              refine AllReadyIn.cons rfl (fun K hK => ?_) ?_
                                              · go_simp
                                                refine hK _ _ ?_; clear hK K
                                                refine wpAnyIn_done (by kernel_rfl) ?_ _
                                                gi_wp2
                                                obtain ⟨g1, g2, g3, g4⟩ := Fin'.out w5 Hb5.out
                                                refine ⟨by simp, .inl ⟨_, _, rfl, run_takeDeferred g1, ⟨by simp, .inl ⟨_, _, rfl, run_takeDeferred g2, ?_⟩⟩⟩⟩
                                                exact ⟨_, by simp [results, Try.results9, go_sem, g3], rfl, g4⟩
                                              exact AllReadyIn.nil
                                            exact AllReadyIn.nil
                                          exact AllReadyIn.nil
                                        exact AllReadyIn.nil
                                      exact AllReadyIn.nil
                                    exact AllReadyIn.nil
                                  exact AllReadyIn.nil
                                refine AllReadyIn.cons rfl (fun K hK => ?_) ?_
                                · go_simp
                                  refine hK _ _ ?_; clear hK K
                                  refine wpAnyIn_ready (rs := [11]) (by kernel_rfl) (by simp) ?_
                                  refine AllReadyIn.cons rfl (fun K hK => ?_) ?_
                                  · go_simp
                                    refine hK _ _ ?_; clear hK K
                                    refine wpAnyIn_ready (rs := [13]) (by kernel_rfl) (by simp) ?_
                                    refine AllReadyIn.cons rfl (fun K hK => ?_) ?_
                                    · go_simp
                                      refine hK _ _ ?_; clear hK K
                                      refine wpAnyIn_ready (rs := [14]) (by kernel_rfl) (by simp) ?_
                                      refine AllReadyIn.cons rfl (fun K hK => ?_) ?_
                                      · go_simp
                                        refine hK _ _ ?_; clear hK K
                                        refine wpAnyIn_ready (rs := [15]) (by kernel_rfl) (by simp) ?_
                                        refine AllReadyIn.cons rfl (fun K hK => ?_) ?_
                                        · go_simp
                                          refine hK _ _ ?_; clear hK K
                                          refine wpAnyIn_ready (rs := [16]) (by kernel_rfl) (by simp) ?_
                                          refine AllReadyIn.cons rfl (fun K hK => ?_) ?_
                                          · go_simp
                                            refine ⟨trivial, (callsIn_wide.2 (lives_any _)).mono ?_⟩; rintro e w5 ⟨rfl, hb5⟩
                                            have c5 := (boxBelow (boxDrew HR.out) hb5 hltR).cell
                                            have f5 := (boxBelow (boxDrew HR.out) hb5 hltR).frozen
                                            have Hb5 := Lib.hid hb5
                                            clear hb5
                                            refine hK _ _ ?_; clear hK K
                                            refine wpAnyIn_ready (rs := [17]) (by kernel_rfl) (by simp) ?_
                                            refine AllReadyIn.cons rfl (fun K hK => ?_) ?_
                                            · go_simp
                                              refine hK _ _ ?_; clear hK K
                                              refine wpAnyIn_ready (rs := [18]) (by kernel_rfl) (by simp) ?_
                                              refine AllReadyIn.cons rfl (fun K hK => ?_) ?_
                                              · go_simp
                                                refine hK _ _ ?_; clear hK K
                                                refine wpAnyIn_done (by kernel_rfl) ?_ _
                                                gi_wp2
                                                obtain ⟨g1, g2, g3, g4⟩ := Fin'.out w5 Hb5.out
                                                refine ⟨by simp, .inl ⟨_, _, rfl, run_takeDeferred g1, ⟨by simp, .inl ⟨_, _, rfl, run_takeDeferred g2, ?_⟩⟩⟩⟩
                                                exact ⟨_, by simp [results, Try.results9, go_sem, g3], rfl, g4⟩
                                              exact AllReadyIn.nil
                                            exact AllReadyIn.nil
                                          exact AllReadyIn.nil
                                        exact AllReadyIn.nil
                                      exact AllReadyIn.nil
                                    exact AllReadyIn.nil
                                  exact AllReadyIn.nil
                                exact AllReadyIn.nil
                              exact AllReadyIn.nil
                            exact AllReadyIn.nil
                          exact AllReadyIn.nil
                        exact AllReadyIn.nil
                      exact AllReadyIn.nil
                    exact AllReadyIn.nil
                  refine AllReadyIn.cons rfl (fun K hK => ?_) ?_
                  · go_simp
                    refine hK _ _ ?_; clear hK K
                    refine wpAnyIn_ready (rs := [4, 5]) (by kernel_rfl) (by simp) ?_
                    refine AllReadyIn.cons rfl (fun K hK => ?_) ?_
                    · go_simp
                      refine hK _ _ ?_; clear hK K
                      refine wpAnyIn_ready (rs := [5]) (by kernel_rfl) (by simp) ?_
                      refine AllReadyIn.cons rfl (fun K hK => ?_) ?_
                      · go_simp
                        refine hK _ _ ?_; clear hK K
                        refine wpAnyIn_ready (rs := [7]) (by kernel_rfl) (by simp) ?_
                        refine AllReadyIn.cons rfl (fun K hK => ?_) ?_
                        · go_simp
                          refine ⟨trivial, (callsIn_wide.2 (HH.out _)).mono ?_⟩; rintro e w' ⟨rfl, rfl⟩
                          refine hK _ _ ?_; clear hK K
                          refine wpAnyIn_ready (rs := [8]) (by kernel_rfl) (by simp) ?_
                          refine AllReadyIn.cons rfl (fun K hK => ?_) ?_
                          · go_simp
                            refine hK _ _ ?_; clear hK K
                            refine wpAnyIn_ready (rs := [9]) (by kernel_rfl) (by simp) ?_
                            refine AllReadyIn.cons rfl (fun K hK => ?_) ?_
                            · go_simp
                              refine hK _ _ ?_; clear hK K
                              refine wpAnyIn_ready (rs := [10]) (by kernel_rfl) (by simp) ?_
                              refine AllReadyIn.cons rfl (fun K hK => ?_) ?_
                              · go_simp
                                refine hK _ _ ?_; clear hK K
                                refine wpAnyIn_ready (rs := [11, 12]) (by kernel_rfl) (by simp) ?_
                                refine AllReadyIn.cons rfl (fun K hK => ?_) ?_
                                · go_simp
                                  refine hK _ _ ?_; clear hK K
                                  refine wpAnyIn_ready (rs := [12]) (by kernel_rfl) (by simp) ?_
                                  refine AllReadyIn.cons rfl (fun K hK => ?_) ?_
                                  · go_simp
                                    refine hK _ _ ?_; clear hK K
                                    refine wpAnyIn_ready (rs := [13]) (by kernel_rfl) (by simp) ?_
                                    refine AllReadyIn.cons rfl (fun K hK => ?_) ?_
                                    · go_simp
                                      refine hK _ _ ?_; clear hK K
                                      refine wpAnyIn_ready (rs := [14]) (by kernel_rfl) (by simp) ?_
                                      refine AllReadyIn.cons rfl (fun K hK => ?_) ?_
                                      · go_simp
                                        refine hK _ _ ?_; clear hK K
                                        refine wpAnyIn_ready (rs := [15]) (by kernel_rfl) (by simp) ?_
                                        refine AllReadyIn.cons rfl (fun K hK => ?_) ?_
                                        · go_simp
                                          refine hK _ _ ?_; clear hK K
                                          refine wpAnyIn_ready (rs := [16]) (by kernel_rfl) (by simp) ?_
                                          refine AllReadyIn.cons rfl (fun K hK => ?_) ?_
                                          · go_simp
                                            refine ⟨trivial, (callsIn_wide.2 (lives_any _)).mono ?_⟩; rintro e w5 ⟨rfl, hb5⟩
                                            have c5 := (boxBelow (boxDrew HR.out) hb5 hltR).cell
                                            have f5 := (boxBelow (boxDrew HR.out) hb5 hltR).frozen
                                            have Hb5 := Lib.hid hb5
                                            clear hb5
                                            refine hK _ _ ?_; clear hK K
                                            refine wpAnyIn_ready (rs := [17]) (by kernel_rfl) (by simp) ?_
                                            refine AllReadyIn.cons rfl (fun K hK => ?_) ?_
                                            · go_simp
                                              refine hK _ _ ?_; clear hK K
                                              refine wpAnyIn_ready (rs := [18]) (by kernel_rfl) (by simp) ?_
                                              refine AllReadyIn.cons rfl (fun K hK => ?_) ?_
                                              · go_simp
                                                refine hK _ _ ?_; clear hK K
                                                refine wpAnyIn_done (by kernel_rfl) ?_ _
                                                gi_wp2
                                                obtain ⟨g1, g2, g3, g4⟩ := Fin'.out w5 Hb5.out
                                                refine ⟨by simp, .inl ⟨_, _, rfl, run_takeDeferred g1, ⟨by simp, .inl ⟨_, _, rfl, run_takeDeferred g2, ?_⟩⟩⟩⟩
                                                exact ⟨_, by simp [results, Try.results9, go_sem, g3], rfl, g4⟩
                                              exact AllReadyIn.nil
                                            exact AllReadyIn.nil
                                          exact AllReadyIn.nil
                                        exact AllReadyIn.nil
                                      exact AllReadyIn.nil
                                    exact AllReadyIn.nil
                                  exact AllReadyIn.nil
                                refine AllReadyIn.cons rfl (fun K hK => ?_) ?_
                                · go_simp
                                  refine hK _ _ ?_; clear hK K
                                  refine wpAnyIn_ready (rs := [11]) (by kernel_rfl) (by simp) ?_
                                  refine AllReadyIn.cons rfl (fun K hK => ?_) ?_
                                  · go_simp
                                    refine hK _ _ ?_; clear hK K
                                    refine wpAnyIn_ready (rs := [13]) (by kernel_rfl) (by simp) ?_
                                    refine AllReadyIn.cons rfl (fun K hK => ?_) ?_
                                    · go_simp
                                      refine hK _ _ ?_; clear hK K
                                      refine wpAnyIn_ready (rs := [14]) (by kernel_rfl) (by simp) ?_
                                      refine AllReadyIn.cons rfl (fun K hK => ?_) ?_
                                      · go_simp
                                        refine hK _ _ ?_; clear hK K
                                        refine wpAnyIn_ready (rs := [15]) (by kernel_rfl) (by simp) ?_
                                        refine AllReadyIn.cons rfl (fun K hK => ?_) ?_
                                        · go_simp
                                          refine hK _ _ ?_; clear hK K
                                          refine wpAnyIn_ready (rs := [16]) (by kernel_rfl) (by simp) ?_
                                          refine AllReadyIn.cons rfl (fun K hK => ?_) ?_
                                          · go_simp
                                            refine ⟨trivial, (callsIn_wide.2 (lives_any _)).mono ?_⟩; rintro e w5 ⟨rfl, hb5⟩
                                            have c5 := (boxBelow (boxDrew HR.out) hb5 hltR).cell
                                            have f5 := (boxBelow (boxDrew HR.out) hb5 hltR).frozen
                                            have Hb5 := Lib.hid hb5
                                            clear hb5
                                            refine hK _ _ ?_; clear hK K
                                            refine wpAnyIn_ready (rs := [17]) (by kernel_rfl) (by simp) ?_
                                            refine AllReadyIn.cons rfl (fun K hK => ?_) ?_
                                            · go_simp
                                              refine hK _ _ ?_; clear hK K
                                              refine wpAnyIn_ready (rs := [18]) (by kernel_rfl) (by simp) ?_
                                              refine AllReadyIn.cons rfl (fun K hK => ?_) ?_
                                              · go_simp
                                                refine hK _ _ ?_; clear hK K
                                                refine wpAnyIn_done (by kernel_rfl) ?_ _
                                                gi_wp2
                                                obtain ⟨g1, g2, g3, g4⟩ := Fin'.out w5 Hb5.out
                                                refine ⟨by simp, .inl ⟨_, _, rfl, run_takeDeferred g1, ⟨by simp, .inl ⟨_, _, rfl, run_takeDeferred g2, ?_⟩⟩⟩⟩
                                                exact ⟨_, by simp [results, Try.results9, go_sem, g3], rfl, g4⟩
                                              exact AllReadyIn.nil
                                            exact AllReadyIn.nil
                                          exact AllReadyIn.nil
                                        exact AllReadyIn.nil
                                      exact AllReadyIn.nil
                                    exact AllReadyIn.nil
                                  exact AllReadyIn.nil
                                exact AllReadyIn.nil
                              exact AllReadyIn.nil
                            exact AllReadyIn.nil
                          exact AllReadyIn.nil
                        exact AllReadyIn.nil
                      exact AllReadyIn.nil
                    refine AllReadyIn.cons rfl (fun K hK => ?_) ?_
                    · go_simp
                      refine hK _ _ ?_; clear hK K
                      refine wpAnyIn_ready (rs := [4, 7]) (by kernel_rfl) (by simp) ?_
                      refine AllReadyIn.cons rfl (fun K hK => ?_) ?_
                      · go_simp
                        refine hK _ _ ?_; clear hK K
                        refine wpAnyIn_ready (rs := [7]) (by kernel_rfl) (by simp) ?_
                        refine AllReadyIn.cons rfl (fun K hK => ?_) ?_
                        · go_simp
                          refine ⟨trivial, (callsIn_wide.2 (HH.out _)).mono ?_⟩; rintro e w' ⟨rfl, rfl⟩
                          refine hK _ _ ?_; clear hK K
                          refine wpAnyIn_ready (rs := [8]) (by kernel_rfl) (by simp) ?_
                          refine AllReadyIn.cons rfl (fun K hK => ?_) ?_
                          · go_simp
                            refine hK _ _ ?_; clear hK K
                            refine wpAnyIn_ready (rs := [9]) (by kernel_rfl) (by simp) ?_
                            refine AllReadyIn.cons rfl (fun K hK => ?_) ?_
                            · go_simp
                              refine hK _ _ ?_; clear hK K
                              refine wpAnyIn_ready (rs := [10]) (by kernel_rfl) (by simp) ?_
                              refine AllReadyIn.cons rfl (fun K hK => ?_) ?_
                              · go_simp
                                refine hK _ _ ?_; clear hK K
                                refine wpAnyIn_ready (rs := [11, 12]) (by kernel_rfl) (by simp) ?_
                                refine AllReadyIn.cons rfl (fun K hK => ?_) ?_
                                · go_simp
                                  refine hK _ _ ?_; clear hK K
                                  refine wpAnyIn_ready (rs := [12]) (by kernel_rfl) (by simp) ?_
                                  refine AllReadyIn.cons rfl (fun K hK => ?_) ?_
                                  · go_simp
                                    refine hK _ _ ?_; clear hK K
                                    refine wpAnyIn_ready (rs := [13]) (by kernel_rfl) (by simp) ?_
                                    refine AllReadyIn.cons rfl (fun K hK => ?_) ?_
                                    · go_simp
                                      refine hK _ _ ?_; clear hK K
                                      refine wpAnyIn_ready (rs := [14]) (by kernel_rfl) (by simp) ?_
                                      refine AllReadyIn.cons rfl (fun K hK => ?_) ?_
                                      · go_simp
                                        refine hK _ _ ?_; clear hK K
                                        refine wpAnyIn_ready (rs := [15]) (by kernel_rfl) (by simp) ?_
                                        refine AllReadyIn.cons rfl (fun K hK => ?_) ?_
                                        · go_simp
                                          refine hK _ _ ?_; clear hK K
                                          refine wpAnyIn_ready (rs := [16]) (by kernel_rfl) (by simp) ?_
                                          refine AllReadyIn.cons rfl (fun K hK => ?_) ?_
                                          · go_simp
                                            refine ⟨trivial, (callsIn_wide.2 (lives_any _)).mono ?_⟩; rintro e w5 ⟨rfl, hb5⟩
                                            have c5 := (boxBelow (boxDrew HR.out) hb5 hltR).cell
                                            have f5 := (boxBelow (boxDrew HR.out) hb5 hltR).frozen
                                            have Hb5 := Lib.hid hb5
                                            clear hb5
                                            refine hK _ _ ?_; clear hK K
                                            refine wpAnyIn_ready (rs := [17]) (by kernel_rfl) (by simp) ?_
                                            refine AllReadyIn.cons rfl (fun K hK => ?_) ?_
                                            · go_simp
                                              refine hK _ _ ?_; clear hK K
                                              refine wpAnyIn_ready (rs := [18]) (by kernel_rfl) (by simp) ?_
                                              refine AllReadyIn.cons rfl (fun K hK => ?_) ?_
                                              · go_simp
                                                refine hK _ _ ?_; clear hK K
                                                refine wpAnyIn_done (by kernel_rfl) ?_ _
                                                gi_wp2
                                                obtain ⟨g1, g2, g3, g4⟩ := Fin'.out w5 Hb5.out
                                                refine ⟨by simp, .inl ⟨_, _, rfl, run_takeDeferred g1, ⟨by simp, .inl ⟨_, _, rfl, run_takeDeferred g2, ?_⟩⟩⟩⟩
                                                exact ⟨_, by simp [results, Try.results9, go_sem, g3], rfl, g4⟩
                                              exact AllReadyIn.nil
                                            exact AllReadyIn.nil
                                          exact AllReadyIn.nil
                                        exact AllReadyIn.nil
                                      exact AllReadyIn.nil
                                    exact AllReadyIn.nil
                                  exact AllReadyIn.nil
                                refine AllReadyIn.cons rfl (fun K hK => ?_) ?_
                                · go_simp
                                  refine hK _ _ ?_; clear hK K
                                  refine wpAnyIn_ready (rs := [11]) (by kernel_rfl) (by simp) ?_
                                  refine AllReadyIn.cons rfl (fun K hK => ?_) ?_
                                  · go_simp
                                    refine hK _ _ ?_; clear hK K
                                    refine wpAnyIn_ready (rs := [13]) (by kernel_rfl) (by simp) ?_
                                    refine AllReadyIn.cons rfl (fun K hK => ?_) ?_
                                    · go_simp
                                      refine hK _ _ ?_; clear hK K
                                      refine wpAnyIn_ready (rs := [14]) (by kernel_rfl) (by simp) ?_
                                      refine AllReadyIn.cons rfl (fun K hK => ?_) ?_
                                      · go_simp
                                        refine hK _ _ ?_; clear hK K
                                        refine wpAnyIn_ready (rs := [15]) (by kernel_rfl) (by simp) ?_
                                        refine AllReadyIn.cons rfl (fun K hK => ?_) ?_
                                        · go_simp
                                          refine hK _ _ ?_; clear hK K
                                          refine wpAnyIn_ready (rs := [16]) (by kernel_rfl) (by simp) ?_
                                          refine AllReadyIn.cons rfl (fun K hK => ?_) ?_
                                          · go_simp
                                            refine ⟨trivial, (callsIn_wide.2 (lives_any _)).mono ?_⟩; rintro e w5 ⟨rfl, hb5⟩
                                            have c5 := (boxBelow (boxDrew HR.out) hb5 hltR).cell
                                            have f5 := (boxBelow (boxDrew HR.out) hb5 hltR).frozen
                                            have Hb5 := Lib.hid hb5
                                            clear hb5
                                            refine hK _ _ ?_; clear hK K
                                            refine wpAnyIn_ready (rs := [17]) (by kernel_rfl) (by simp) ?_
                                            refine AllReadyIn.cons rfl (fun K hK => ?_) ?_
                                            · go_simp
                                              refine hK _ _ ?_; clear hK K
                                              refine wpAnyIn_ready (rs := [18]) (by kernel_rfl) (by simp) ?_
                                              refine AllReadyIn.cons rfl (fun K hK => ?_) ?_
                                              · go_simp
                                                refine hK _ _ ?_; clear hK K
                                                refine wpAnyIn_done (by kernel_rfl) ?_ _
                                                gi_wp2
                                                obtain ⟨g1, g2, g3, g4⟩ := Fin'.out w5 Hb5.out
                                                refine ⟨by simp, .inl ⟨_, _, rfl, run_takeDeferred g1, ⟨by simp, .inl ⟨_, _, rfl, run_takeDeferred g2, ?_⟩⟩⟩⟩
                                                exact ⟨_, by simp [results, Try.results9, go_sem, g3], rfl, g4⟩
                                              exact AllReadyIn.nil
                                            exact AllReadyIn.nil
                                          exact AllReadyIn.nil
                                        exact AllReadyIn.nil
                                      exact AllReadyIn.nil
                                    exact AllReadyIn.nil
                                  exact AllReadyIn.nil
                                exact AllReadyIn.nil
                              exact AllReadyIn.nil
                            exact AllReadyIn.nil
                          exact AllReadyIn.nil
                        exact AllReadyIn.nil
                      refine AllReadyIn.cons rfl (fun K hK => ?_) ?_
                      · go_simp
                        refine ⟨trivial, (callsIn_wide.2 (HH.out _)).mono ?_⟩; rintro e w' ⟨rfl, rfl⟩
                        refine hK _ _ ?_; clear hK K
                        refine wpAnyIn_ready (rs := [4]) (by kernel_rfl) (by simp) ?_
                        refine AllReadyIn.cons rfl (fun K hK => ?_) ?_
                        · go_simp
                          refine hK _ _ ?_; clear hK K
                          refine wpAnyIn_ready (rs := [8]) (by kernel_rfl) (by simp) ?_
                          refine AllReadyIn.cons rfl (fun K hK => ?_) ?_
                          · go_simp
                            refine hK _ _ ?_; clear hK K
                            refine wpAnyIn_ready (rs := [9]) (by kernel_rfl) (by simp) ?_
                            refine AllReadyIn.cons rfl (fun K hK => ?_) ?_
                            · go_simp
                              refine hK _ _ ?_; clear hK K
                              refine wpAnyIn_ready (rs := [10]) (by kernel_rfl) (by simp) ?_
                              refine AllReadyIn.cons rfl (fun K hK => ?_) ?_
                              · go_simp
                                refine hK _ _ ?_; clear hK K
                                refine wpAnyIn_ready (rs := [11, 12]) (by kernel_rfl) (by simp) ?_
                                refine AllReadyIn.cons rfl (fun K hK => ?_) ?_
                                · go_simp
                                  refine hK _ _ ?_; clear hK K
                                  refine wpAnyIn_ready (rs := [12]) (by kernel_rfl) (by simp) ?_
                                  refine AllReadyIn.cons rfl (fun K hK => ?_) ?_
                                  · go_simp
                                    refine hK _ _ ?_; clear hK K
                                    refine wpAnyIn_ready (rs := [13]) (by kernel_rfl) (by simp) ?_
                                    refine AllReadyIn.cons rfl (fun K hK => ?_) ?_
                                    · go_simp
                                      refine hK _ _ ?_; clear hK K
                                      refine wpAnyIn_ready (rs := [14]) (by kernel_rfl) (by simp) ?_
                                      refine AllReadyIn.cons rfl (fun K hK => ?_) ?_
                                      · go_simp
                                        refine hK _ _ ?_; clear hK K
                                        refine wpAnyIn_ready (rs := [15]) (by kernel_rfl) (by simp) ?_
                                        refine AllReadyIn.cons rfl (fun K hK => ?_) ?_
                                        · go_simp
                                          refine hK _ _ ?_; clear hK K
                                          refine wpAnyIn_ready (rs := [16]) (by kernel_rfl) (by simp) ?_
                                          refine AllReadyIn.cons rfl (fun K hK => ?_) ?_
                                          · go_simp
                                            refine ⟨trivial, (callsIn_wide.2 (lives_any _)).mono ?_⟩; rintro e w5 ⟨rfl, hb5⟩
                                            have c5 := (boxBelow (boxDrew HR.out) hb5 hltR).cell
                                            have f5 := (boxBelow (boxDrew HR.out) hb5 hltR).frozen
                                            have Hb5 := Lib.hid hb5
                                            clear hb5
                                            refine hK _ _ ?_; clear hK K
                                            refine wpAnyIn_ready (rs := [17]) (by kernel_rfl) (by simp) ?_
                                            refine AllReadyIn.cons rfl (fun K hK => ?_) ?_
                                            · go_simp
                                              refine hK _ _ ?_; clear hK K
                                              refine wpAnyIn_ready (rs := [18]) (by kernel_rfl) (by simp) ?_
                                              refine AllReadyIn.cons rfl (fun K hK => ?_) ?_
                                              · go_simp
                                                refine hK _ _ ?_; clear hK K
                                                refine wpAnyIn_done (by kernel_rfl) ?_ _
                                                gi_wp2
                                                obtain ⟨g1, g2, g3, g4⟩ := Fin'.out w5 Hb5.out
                                                refine ⟨by simp, .inl ⟨_, _, rfl, run_takeDeferred g1, ⟨by simp, .inl ⟨_, _, rfl, run_takeDeferred g2, ?_⟩⟩⟩⟩
                                                exact ⟨_, by simp [results, Try.results9, go_sem, g3], rfl, g4⟩
                                              exact AllReadyIn.nil
                                            exact AllReadyIn.nil
                                          exact AllReadyIn.nil
                                        exact AllReadyIn.nil
                                      exact AllReadyIn.nil
                                    exact AllReadyIn.nil
                                  exact AllReadyIn.nil
                                refine AllReadyIn.cons rfl (fun K hK => ?_) ?_
                                · go_simp
                                  refine hK _ _ ?_; clear hK K
                                  refine wpAnyIn_ready (rs := [11]) (by kernel_rfl) (by simp) ?_
                                  refine AllReadyIn.cons rfl (fun K hK => ?_) ?_
                                  · go_simp
                                    refine hK _ _ ?_; clear hK K
                                    refine wpAnyIn_ready (rs := [13]) (by kernel_rfl) (by simp) ?_
                                    refine AllReadyIn.cons rfl (fun K hK => ?_) ?_
                                    · go_simp
                                      refine hK _ _ ?_; clear hK K
                                      refine wpAnyIn_ready (rs := [14]) (by kernel_rfl) (by simp) ?_
                                      refine AllReadyIn.cons rfl (fun K hK => ?_) ?_
                                      · go_simp
                                        refine hK _ _ ?_; clear hK K
                                        refine wpAnyIn_ready (rs := [15]) (by kernel_rfl) (by simp) ?_
                                        refine AllReadyIn.cons rfl (fun K hK => ?_) ?_
                                        · go_simp
                                          refine hK _ _ ?_; clear hK K
                                          refine wpAnyIn_ready (rs := [16]) (by kernel_rfl) (by simp) ?_
                                          refine AllReadyIn.cons rfl (fun K hK => ?_) ?_
                                          · go_simp
                                            refine ⟨trivial, (callsIn_wide.2 (lives_any _)).mono ?_⟩; rintro e w5 ⟨rfl, hb5⟩
                                            have c5 := (boxBelow (boxDrew HR.out) hb5 hltR).cell
                                            have f5 := (boxBelow (boxDrew HR.out) hb5 hltR).frozen
                                            have Hb5 := Lib.hid hb5
                                            clear hb5
                                            refine hK _ _ ?_; clear hK K
                                            refine wpAnyIn_ready (rs := [17]) (by kernel_rfl) (by simp) ?_
                                            refine AllReadyIn.cons rfl (fun K hK => ?_) ?_
                                            · go_simp
                                              refine hK _ _ ?_; clear hK K
                                              refine wpAnyIn_ready (rs := [18]) (by kernel_rfl) (by simp) ?_
                                              refine AllReadyIn.cons rfl (fun K hK => ?_) ?_
                                              · go_simp
                                                refine hK _ _ ?_; clear hK K
                                                refine wpAnyIn_done (by kernel_rfl) ?_ _
                                                gi_wp2
                                                obtain ⟨g1, g2, g3, g4⟩ := Fin'.out w5 Hb5.out
                                                refine ⟨by simp, .inl ⟨_, _, rfl, run_takeDeferred g1, ⟨by simp, .inl ⟨_, _, rfl, run_takeDeferred g2, ?_⟩⟩⟩⟩
                                                exact ⟨_, by simp [results, Try.results9, go_sem, g3], rfl, g4⟩
                                              exact AllReadyIn.nil
                                            exact AllReadyIn.nil
                                          exact AllReadyIn.nil
                                        exact AllReadyIn.nil
                                      exact AllReadyIn.nil
                                    exact AllReadyIn.nil
                                  exact AllReadyIn.nil
                                exact AllReadyIn.nil
                              exact AllReadyIn.nil
                            exact AllReadyIn.nil
                          exact AllReadyIn.nil
                        exact AllReadyIn.nil
                      exact AllReadyIn.nil
                    exact AllReadyIn.nil
                  exact AllReadyIn.nil
                exact AllReadyIn.nil
              exact AllReadyIn.nil
            exact AllReadyIn.nil
          exact AllReadyIn.nil
end Go.Proofs.Ytbdbhacniejagaa
