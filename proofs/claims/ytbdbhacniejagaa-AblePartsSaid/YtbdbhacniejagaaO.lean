/- The contracts of the law's own walk over an iterator: what is gone over, left early, gone over again. -/
import Derived.Test.YtbdbhacniejagaaK
import Derived.Test.YtbdbhacniejagaaI
namespace Go.Proofs.Ytbdbhacniejagaa
open Go.RowKit Go.Shelf
attribute [local go_sem] Oper.semAt_some
set_option maxHeartbeats 4000000
theorem notNil47 (cp : Array Value) (w : World) : (binOp BinOp.eql 53 (.func (.func 47) #[] cp) .nilFunc).run Try.prog w = .ok (.bool false) w := by kernel_rfl
theorem notNil45 (cp : Array Value) (w : World) : (binOp BinOp.eql 53 (.func (.func 45) #[] cp) .nilFunc).run Try.prog w = .ok (.bool false) w := by kernel_rfl
theorem within_nat (a : Int) (m : Nat) (h0 : 0 ≤ a) (h1 : a ≤ 255) (hm : a % 64 = (m : Int)) (w : World) :
    Calls Try.prog 36 #[.int .u8 a] w fun e w' => e = .returned (.func (.func 45) #[] #[.pointer (some ⟨w.heap.size, 0, none⟩)]) ∧ w.alloc (.cells #[.int .u8 (m : Int)] 22) = w' := by
  have := within_any a h0 h1 w
  rw [hm, show (((m : Int).toNat : Nat) : Int) = (m : Int) by omega] at this
  exact this
/-- The list that is wanted: n cells that hold the numbers of xs. -/
def WantOk {α : Type} (val : α → Int) (A : Option Addr) (xs : List α) (W : World) : Prop :=
  ∀ (j : Nat) (x : α), xs[j]? = some x → ∃ gg, A = some ⟨gg, 0, none⟩ ∧ W.cell? ⟨gg, j, none⟩ = some (.int .u8 (val x))
theorem WantOk.own {α β : Type} (val : α → Int) (A : Option Addr) (xs : List α) : Own (fun (_ : β) W => WantOk val A xs W) := fun s X Y row hs hg hr j x hx => by
  obtain ⟨gg, e, hc⟩ := hs j x hx
  exact ⟨gg, e, cell_kept hc hg hr⟩
theorem WantOk.below {α : Type} {val : α → Int} {A : Option Addr} {xs : List α} {W W' : World} (h : WantOk val A xs W) (hb : Below W.heap.size W W') : WantOk val A xs W' := fun j x hx => by
  obtain ⟨gg, e, hc⟩ := h j x hx
  exact ⟨gg, e, (hb.cell (p := ⟨gg, j, none⟩) (World.block_lt_of_cell? W _ hc)).trans hc⟩
/-- A store into one's own box leaves the list as it was. -/
theorem WantOk.set {α : Type} {val : α → Int} {A : Option Addr} {xs : List α} {W : World} (h : WantOk val A xs W) {B : Nat} (hB : ∀ gg, A = some ⟨gg, 0, none⟩ → gg ≠ B) (v : Value) : WantOk val A xs (W.setCell ⟨B, 0, none⟩ v) := fun j x hx => by
  obtain ⟨gg, e, hc⟩ := h j x hx
  refine ⟨gg, e, ?_⟩
  rw [World.cell?_setCell_other]
  · exact hc
  · intro hh
    have := congrArg Addr.block hh
    exact hB gg e (by simpa using this.symm)
theorem box_other {W : World} {B B' : Nat} {t : TypeId} {u v : Value} (h : Boxed W B t u) (hne : B ≠ B') : Boxed (W.setCell ⟨B', 0, none⟩ v) B t u := h.kept (grownBy_setCell' W B' v) (by simpa using hne)
theorem below_put {w W : World} (h : Below w.heap.size w W) {l : Nat} (hl : w.heap.size ≤ l) (o : Obj) : Below w.heap.size w (W.putObj l o) :=
  h.grown (grownBy_putObj' W l o) h.size (fun k e => by cases e; exact hl)
theorem ownFrom_block {β : Type} {B D : Nat} {o : Obj} (h : D < B) : OwnFrom B (fun (_ : β) (W : World) => W.heap[D]? = some o) := fun _ X Y row hs hg hr =>
  (hg.block D (Array.getElem?_eq_some_iff.1 hs).1 (fun e => by have := (hr D e.symm).1; omega)).trans hs
theorem prefix_snoc {α : Type} {pre xs : List α} (h : pre <+: xs) {x : α} (hx : xs[pre.length]? = some x) : pre ++ [x] <+: xs := by
  obtain ⟨t, rfl⟩ := h
  cases t with
  | nil => simp at hx
  | cons y t =>
    obtain rfl : y = x := by simpa using hx
    exact ⟨t, by simp⟩
theorem prefix_at {α : Type} {pre xs : List α} {x : α} (h : pre ++ [x] <+: xs) : xs[pre.length]? = some x := by
  obtain ⟨t, rfl⟩ := h
  simp
theorem prefix_full {α : Type} {xs : List α} {pre : List α} (h : pre <+: xs) : pre.length ≤ xs.length := h.length_le
theorem pow_inj (x y : Fin 6) (h : (2 : Int) ^ x.val = 2 ^ y.val) : x = y := by
  revert x y; decide

def InvE (a : Int) (lv : Int) (A : Option Addr) (n cap : Nat) (xs : List (Fin 6)) (w : World) (pre : List (Fin 6)) (W : World) : Prop :=
  Boxed W (w.heap.size) 3 (.int .i64 lv) ∧ Boxed W (w.heap.size + 1) 33 (.slice A n cap) ∧ Boxed W (w.heap.size + 1 + 1) 4 (.bool false) ∧ Boxed W (w.heap.size + 1 + 1 + 1) 22 (.int .u8 a) ∧ Boxed W (w.heap.size + 1 + 1 + 1 + 1) 3 (.int .i64 (pre.length : Nat)) ∧ WantOk (fun k : Fin 6 => (2 : Int) ^ k.val) A xs W ∧ Below w.heap.size w W ∧ pre <+: xs
theorem InvE.own (a : Int) (lv : Int) (A : Option Addr) (n cap : Nat) (xs : List (Fin 6)) (w : World) (B : Nat) (hB : w.heap.size ≤ B) : OwnFrom B (InvE a lv A n cap xs w) :=
  OwnFrom.and (Own.from (Go.boxed_own _ _ (fun _ => _)) _) (OwnFrom.and (Own.from (Go.boxed_own _ _ (fun _ => _)) _) (OwnFrom.and (Own.from (Go.boxed_own _ _ (fun _ => _)) _) (OwnFrom.and (Own.from (Go.boxed_own _ _ (fun _ => _)) _) (OwnFrom.and (Own.from (Go.boxed_own _ _ (fun pre : List (Fin 6) => .int .i64 (pre.length : Nat))) _) (OwnFrom.and (Own.from (WantOk.own _ _ _) _) (OwnFrom.and (ownFrom_below (Nat.le_refl _) hB) (ownFrom_pure _ _)))))))
set_option maxRecDepth 100000 in
theorem walk_E (a lv : Int) (A : Option Addr) (n cap : Nat) (xs : List (Fin 6)) (hxs : xs = upto a 6) (hn : xs.length = n) (w : World) (hA : ∀ gg, A = some ⟨gg, 0, none⟩ → gg < w.heap.size) (hw : WantOk (fun k : Fin 6 => (2 : Int) ^ k.val) A xs w) :
    CallsIn Fence.wide 10 Try.prog 33 #[.int .u8 a, .bool false, .int .i64 lv, .slice A n cap] w fun e w' => e = .returned (.bool true) ∧ Below w.heap.size w w' := by
  have hn64 : n ≤ 64 := by rw [← hn, hxs]; exact Nat.le_trans (upto_len a 6 (by omega)) (by omega)
  have Hxs := Lib.hid hxs
  have Hn := Lib.hid hn
  have HA := Lib.hid hA
  have Hw := Lib.hid hw
  clear hxs hn hA hw
  refine callsIn_of_wp_marks Try.func33 rfl trivial ?_ rfl
  simp only [Try.ntmps33, List.size_toArray, List.length_cons, List.length_nil, Nat.reduceAdd, Nat.reduceSub, Array.replicate_succ, Array.replicate_zero, List.push_toArray, List.append_toArray, List.nil_append, List.cons_append]
  have n47 := notNil47
  have n45 := notNil45
  gi_wp2_with (first | (refine ⟨trivial, ?_⟩; gi_at_call 37; refine (callsIn_wide.2 (each_any _ _)).mono ?_; rintro e w' ⟨rfl, rfl⟩))
  have b0 := Boxed.new (w) 3 (.int .i64 lv)
  have b1 := Boxed.new ((w).alloc (.cells #[.int .i64 lv] 3)) 33 (.slice A n cap)
  simp only [World.size_alloc] at b1
  replace b0 := b0.alloc (.cells #[.slice A n cap] 33)
  have b2 := Boxed.new (((w).alloc (.cells #[.int .i64 lv] 3)).alloc (.cells #[.slice A n cap] 33)) 4 (.bool false)
  simp only [World.size_alloc] at b2
  replace b0 := b0.alloc (.cells #[.bool false] 4)
  replace b1 := b1.alloc (.cells #[.bool false] 4)
  have bC := Boxed.new ((((w).alloc (.cells #[.int .i64 lv] 3)).alloc (.cells #[.slice A n cap] 33)).alloc (.cells #[.bool false] 4)) 22 (.int .u8 a)
  simp only [World.size_alloc] at bC
  replace b0 := b0.alloc (.cells #[.int .u8 a] 22)
  replace b1 := b1.alloc (.cells #[.int .u8 a] 22)
  replace b2 := b2.alloc (.cells #[.int .u8 a] 22)
  have bI := Boxed.new (((((w).alloc (.cells #[.int .i64 lv] 3)).alloc (.cells #[.slice A n cap] 33)).alloc (.cells #[.bool false] 4)).alloc (.cells #[.int .u8 a] 22)) 3 (.int .i64 0)
  simp only [World.size_alloc] at bI
  replace b0 := b0.alloc (.cells #[.int .i64 0] 3)
  replace b1 := b1.alloc (.cells #[.int .i64 0] 3)
  replace b2 := b2.alloc (.cells #[.int .i64 0] 3)
  replace bC := bC.alloc (.cells #[.int .i64 0] 3)
  have hB0 : Below w.heap.size w (((((w.alloc (Obj.cells #[Value.int IntKind.i64 lv] 3)).alloc (Obj.cells #[Value.slice A n cap] 33)).alloc (Obj.cells #[Value.bool false] 4)).alloc (Obj.cells #[Value.int IntKind.u8 a] 22)).alloc (Obj.cells #[Value.int IntKind.i64 0] 3)) := (((((Below.refl _ w).alloc (Nat.le_refl _) _).alloc (by simp; try omega) _).alloc (by simp; try omega) _).alloc (by simp; try omega) _).alloc (by simp; try omega) _
  have hW0 : WantOk (fun k : Fin 6 => (2 : Int) ^ k.val) A xs (((((w.alloc (Obj.cells #[Value.int IntKind.i64 lv] 3)).alloc (Obj.cells #[Value.slice A n cap] 33)).alloc (Obj.cells #[Value.bool false] 4)).alloc (Obj.cells #[Value.int IntKind.u8 a] 22)).alloc (Obj.cells #[Value.int IntKind.i64 0] 3)) := Hw.out.below hB0
  have hi0 : InvE a lv A n cap xs w [] (((((w.alloc (Obj.cells #[Value.int IntKind.i64 lv] 3)).alloc (Obj.cells #[Value.slice A n cap] 33)).alloc (Obj.cells #[Value.bool false] 4)).alloc (Obj.cells #[Value.int IntKind.u8 a] 22)).alloc (Obj.cells #[Value.int IntKind.i64 0] 3)) := ⟨b0, b1, b2, bC, bI, hW0, hB0, List.nil_prefix⟩
  have Hi0 := Lib.hid hi0
  clear hi0 hW0
  refine wpIn_rangeFunc_ownG rfl (by omega) (gf := 47) (lb := #[.pointer (some ⟨w.heap.size + 1 + 1 + 1, 0, none⟩)]) rfl trivial (enters_of Try.func47 (by kernel_rfl) rfl)
    (each_stops Fence.wide 9 trivial rfl (by omega) (w.heap.size + 1 + 1 + 1) a _ (by simp) bC.cell) KpB.t (fun W l o o' _ h hc _ => KpB.b W l o o' h hc) (Below.refl _ _) (fun _ => rfl)
    (InvE a lv A n cap xs w)
    (fun c pre W => (c = .ret ∧ ¬ pre <+: xs) ∨ (c = .exit 0 ∧ InvE a lv A n cap xs w pre W ∧ ((pre.length : Nat) : Int) = lv))
    (InvE.own a lv A n cap xs w (((((w.alloc (Obj.cells #[Value.int IntKind.i64 lv] 3)).alloc (Obj.cells #[Value.slice A n cap] 33)).alloc (Obj.cells #[Value.bool false] 4)).alloc (Obj.cells #[Value.int IntKind.u8 a] 22)).alloc (Obj.cells #[Value.int IntKind.i64 0] 3)).heap.size (by simp; omega)) ?ownx Hi0.out
    (fun x => { tmps := #[Value.int IntKind.u8 a, Value.bool false, Value.int IntKind.i64 lv, Value.slice A n cap, undef, undef, Value.pointer (some { block := w.heap.size, off := 0 }), Value.pointer (some { block := w.heap.size + 1, off := 0 }), Value.pointer (some { block := w.heap.size + 1 + 1, off := 0 }), Value.func (Fn.func 47) #[] #[Value.pointer (some { block := w.heap.size + 1 + 1 + 1, off := 0 })], Value.pointer (some { block := w.heap.size + 1 + 1 + 1 + 1, off := 0 }), Value.int IntKind.u8 ((2 : Int) ^ x.val), undef, Value.int IntKind.u8 a, Value.func (Fn.func 47) #[] #[Value.pointer (some { block := w.heap.size + 1 + 1 + 1, off := 0 })], Value.bool false, undef, undef, Value.func (Fn.func 47) #[] #[Value.pointer (some { block := w.heap.size + 1 + 1 + 1, off := 0 })], Value.bool false, Value.func (Fn.func 47) #[] #[Value.pointer (some { block := w.heap.size + 1 + 1 + 1, off := 0 })], Value.int IntKind.u8 ((2 : Int) ^ x.val), undef, undef, undef, undef, undef, undef, undef, undef, undef, undef, undef, undef, undef, undef, undef, undef, undef, undef, undef, undef, undef, undef, undef, undef, undef, undef, undef, undef, undef, undef, undef, undef, undef, undef, undef, undef, undef, undef, undef, undef, undef, undef, undef, undef, undef, undef], defers := [] }) ?assign ?body ?done ?stop
  case ownx =>
    intro c s X Y row hs hg hr
    rcases hs with hs | ⟨h1, h2, h3⟩
    · exact .inl hs
    · exact .inr ⟨h1, InvE.own a lv A n cap xs w (((((w.alloc (Obj.cells #[Value.int IntKind.i64 lv] 3)).alloc (Obj.cells #[Value.slice A n cap] 33)).alloc (Obj.cells #[Value.bool false] 4)).alloc (Obj.cells #[Value.int IntKind.u8 a] 22)).alloc (Obj.cells #[Value.int IntKind.i64 0] 3)).heap.size (by simp; omega) s X Y row h2 hg hr, h3⟩
  case assign =>
    intro l x W K hK
    simp only [enc6]
    gi_wp2
    exact hK
  case body =>
    rintro l pre x W ⟨i0, i1, i2, iC, iI, iW, iB, ip⟩ _
    have c0 := i0.cell
    have c1 := i1.cell
    have c2 := i2.cell
    have cI := iI.cell
    have f2 := i2.frozen
    have fI := iI.frozen
    have hpl := ip.length_le
    rw [Hn.out] at hpl
    have Ip := Lib.hid ip
    have IW := Lib.hid iW
    clear ip iW
    generalize hxv : (2 : Int) ^ x.val = xv at *
    have Hxv := Lib.hid hxv
    clear hxv
    by_cases hlt : pre.length < n
    · obtain ⟨y, hy⟩ : ∃ y, xs[pre.length]? = some y := ⟨_, List.getElem?_eq_getElem (by rw [Hn.out]; exact hlt)⟩
      obtain ⟨gg, hAe, hcy⟩ := IW.out pre.length y hy
      dsimp only at hcy
      have Hy := Lib.hid hy
      have hggl := HA.out gg hAe
      clear hy
      subst hAe
      generalize hyv : (2 : Int) ^ y.val = yv at *
      have Hyv := Lib.hid hyv
      clear hyv
      by_cases hv : xv = yv
      · have hv1 : (xv != yv) = false := by simp [hv]
        have hxy : x = y := by
          have h := Hxv.out.trans (hv.trans Hyv.out.symm)
          exact pow_inj x y h
        have Hxy := Lib.hid hxy
        clear hxy hv
        by_cases hl : ((pre.length : Nat) : Int) + 1 = lv
        · have hl1 : (((pre.length : Nat) : Int) + 1 == lv) = true := by simpa using hl
          have Hl := Lib.hid hl
          clear hl
          gi_wp2
          exact ⟨(KeepsOthers.setCell _ _ _).from _, .inr ⟨rfl, ⟨box_other i0 (by omega), box_other i1 (by omega), box_other i2 (by omega), box_other iC (by omega), by rw [List.length_append]; exact iI.set _, IW.out.set (fun g e => by cases e; omega) _, iB.setCell (p := ⟨w.heap.size + 1 + 1 + 1 + 1, 0, none⟩) (by simp; omega) _, prefix_snoc Ip.out (by rw [Hxy.out]; exact Hy.out)⟩, by rw [List.length_append]; exact Hl.out⟩⟩
        · have hl1 : (((pre.length : Nat) : Int) + 1 == lv) = false := by simpa using hl
          clear hl
          gi_wp2
          exact ⟨(KeepsOthers.setCell _ _ _).from _, kpB_of iC (box_other iC (by omega)), ⟨box_other i0 (by omega), box_other i1 (by omega), box_other i2 (by omega), box_other iC (by omega), by rw [List.length_append]; exact iI.set _, IW.out.set (fun g e => by cases e; omega) _, iB.setCell (p := ⟨w.heap.size + 1 + 1 + 1 + 1, 0, none⟩) (by simp; omega) _, prefix_snoc Ip.out (by rw [Hxy.out]; exact Hy.out)⟩⟩
      · have hv1 : (xv != yv) = true := by simpa using hv
        have Hv := Lib.hid hv
        clear hv
        gi_wp2
        exact ⟨(KeepsOthers.setCell _ _ _).from _, .inl ⟨rfl, fun h => Hv.out (by have h2 := prefix_at h; rw [Hy.out] at h2; cases h2; exact Hxv.out.symm.trans Hyv.out)⟩⟩
    · have hge : ((n : Nat) : Int) ≤ ((pre.length : Nat) : Int) := by omega
      gi_wp2
      exact ⟨(KeepsOthers.setCell _ _ _).from _, .inl ⟨rfl, fun h => by have h2 := h.length_le; rw [List.length_append, Hn.out] at h2; simp at h2; omega⟩⟩
  case done =>
    rintro D ys W hD rfl ⟨i0, i1, i2, iC, iI, iW, iB, ip⟩ hK
    rw [← Hxs.out] at iI
    rw [Hn.out] at iI
    have c0 := i0.cell
    have c1 := i1.cell
    have cI := iI.cell
    have fI := iI.frozen
    have IW := Lib.hid iW
    have HK := Lib.hid hK
    clear iW hK ip
    by_cases hnl : ((n : Nat) : Int) = lv
    · have hnl1 : (((n : Nat) : Int) != lv) = false := by simp [hnl]
      clear hnl
      have hDlt : D < W.heap.size := (Array.getElem?_eq_some_iff.1 HK.out).1
      have jC := box_other (v := .int .i64 0) (B' := w.heap.size + 1 + 1 + 1 + 1) iC (by omega)
      have hj : InvE a lv A n cap xs w [] (W.setCell ⟨w.heap.size + 1 + 1 + 1 + 1, 0, none⟩ (.int .i64 0)) := ⟨box_other i0 (by omega), box_other i1 (by omega), box_other i2 (by omega), jC, iI.set _, IW.out.set (fun g e => by have := HA.out g e; omega) _, iB.setCell (p := ⟨w.heap.size + 1 + 1 + 1 + 1, 0, none⟩) (by simp; omega) _, List.nil_prefix⟩
      have hjD : (W.setCell ⟨w.heap.size + 1 + 1 + 1 + 1, 0, none⟩ (.int .i64 0)).heap[D]? = some (.deferred (some [])) := (KeepsOthers.setCell _ _ _).same D _ HK.out rfl
      have hsz2 : (W.setCell ⟨w.heap.size + 1 + 1 + 1 + 1, 0, none⟩ (.int .i64 0)).heap.size = W.heap.size := by simp
      have Hj := Lib.hid hj
      have HjD := Lib.hid hjD
      have Hsz2 := Lib.hid hsz2
      have hws : w.heap.size ≤ W.heap.size := iB.size
      clear hj hjD hsz2
      gi_wp2
      refine wpIn_rangeFunc_ownG rfl (by omega) (gf := 47) (lb := #[.pointer (some ⟨w.heap.size + 1 + 1 + 1, 0, none⟩)]) rfl trivial (enters_of Try.func47 (by kernel_rfl) rfl)
        (each_stops Fence.wide 9 trivial rfl (by omega) (w.heap.size + 1 + 1 + 1) a _ (by rw [Hsz2.out]; exact iC.lt) jC.cell) KpB.t (fun W l o o' _ h hc _ => KpB.b W l o o' h hc) (Below.refl _ _) (fun _ => rfl)
        (fun pre W2 => InvE a lv A n cap xs w pre W2 ∧ W2.heap[D]? = some (.deferred (some [])))
        (fun c pre _ => c = .ret ∧ ¬ pre <+: xs)
        (OwnFrom.and (InvE.own a lv A n cap xs w (W.setCell ⟨w.heap.size + 1 + 1 + 1 + 1, 0, none⟩ (.int .i64 0)).heap.size (by rw [Hsz2.out]; exact hws)) (ownFrom_block (by rw [Hsz2.out]; exact hDlt))) (fun _ => ownFrom_pure _ _) ⟨Hj.out, HjD.out⟩
        (fun x => { tmps := #[Value.int IntKind.u8 a, Value.bool false, Value.int IntKind.i64 lv, Value.slice A n cap, undef, undef, Value.pointer (some { block := w.heap.size, off := 0 }), Value.pointer (some { block := w.heap.size + 1, off := 0 }), Value.pointer (some { block := w.heap.size + 1 + 1, off := 0 }), Value.func (Fn.func 47) #[] #[Value.pointer (some { block := w.heap.size + 1 + 1 + 1, off := 0 })], Value.pointer (some { block := w.heap.size + 1 + 1 + 1 + 1, off := 0 }), undef, Value.int IntKind.u8 ((2 : Int) ^ x.val), Value.int IntKind.u8 a, Value.func (Fn.func 47) #[] #[Value.pointer (some { block := w.heap.size + 1 + 1 + 1, off := 0 })], Value.bool false, undef, undef, Value.func (Fn.func 47) #[] #[Value.pointer (some { block := w.heap.size + 1 + 1 + 1, off := 0 })], Value.bool false, Value.func (Fn.func 47) #[] #[Value.pointer (some { block := w.heap.size + 1 + 1 + 1, off := 0 })], undef, undef, undef, undef, undef, undef, undef, undef, undef, undef, undef, undef, undef, undef, undef, undef, undef, undef, Value.int IntKind.i64 ((n : Nat) : Int), Value.int IntKind.i64 lv, Value.bool false, Value.bool false, undef, undef, undef, undef, Value.bool false, Value.func (Fn.func 47) #[] #[Value.pointer (some { block := w.heap.size + 1 + 1 + 1, off := 0 })], Value.int IntKind.u8 ((2 : Int) ^ x.val), undef, undef, undef, undef, undef, undef, undef, undef, undef, undef, undef, undef, undef, undef, undef, undef, undef, undef], defers := [] }) ?assigna ?bodya ?donea ?stopa
      case assigna =>
        intro l x W K hK
        simp only [enc6]
        gi_wp2
        exact hK
      case bodya =>
        rintro l pre x W ⟨⟨i0, i1, i2, iC, iI, iW, iB, ip⟩, hKD⟩ _
        have HKD := Lib.hid hKD
        clear hKD
        have c0 := i0.cell
        have c1 := i1.cell
        have c2 := i2.cell
        have cI := iI.cell
        have f2 := i2.frozen
        have fI := iI.frozen
        have hpl := ip.length_le
        rw [Hn.out] at hpl
        have Ip := Lib.hid ip
        have IW := Lib.hid iW
        clear ip iW
        generalize hxv : (2 : Int) ^ x.val = xv at *
        have Hxv := Lib.hid hxv
        clear hxv
        by_cases hlt : pre.length < n
        · obtain ⟨y, hy⟩ : ∃ y, xs[pre.length]? = some y := ⟨_, List.getElem?_eq_getElem (by rw [Hn.out]; exact hlt)⟩
          obtain ⟨gg, hAe, hcy⟩ := IW.out pre.length y hy
          dsimp only at hcy
          have Hy := Lib.hid hy
          have hggl := HA.out gg hAe
          clear hy
          subst hAe
          generalize hyv : (2 : Int) ^ y.val = yv at *
          have Hyv := Lib.hid hyv
          clear hyv
          by_cases hv : xv = yv
          · have hv1 : (xv != yv) = false := by simp [hv]
            have hxy : x = y := by
              have h := Hxv.out.trans (hv.trans Hyv.out.symm)
              exact pow_inj x y h
            have Hxy := Lib.hid hxy
            clear hxy hv
            gi_wp2
            exact ⟨(KeepsOthers.setCell _ _ _).from _, kpB_of iC (box_other iC (by omega)), ⟨⟨box_other i0 (by omega), box_other i1 (by omega), box_other i2 (by omega), box_other iC (by omega), by rw [List.length_append]; exact iI.set _, IW.out.set (fun g e => by cases e; omega) _, iB.setCell (p := ⟨w.heap.size + 1 + 1 + 1 + 1, 0, none⟩) (by simp; omega) _, prefix_snoc Ip.out (by rw [Hxy.out]; exact Hy.out)⟩, (KeepsOthers.setCell _ _ _).same D _ HKD.out rfl⟩⟩
          · have hv1 : (xv != yv) = true := by simpa using hv
            have Hv := Lib.hid hv
            clear hv
            gi_wp2
            exact ⟨(KeepsOthers.setCell _ _ _).from _, rfl, fun h => Hv.out (by have h2 := prefix_at h; rw [Hy.out] at h2; cases h2; exact Hxv.out.symm.trans Hyv.out)⟩
        · have hge : ((n : Nat) : Int) ≤ ((pre.length : Nat) : Int) := by omega
          gi_wp2
          exact ⟨(KeepsOthers.setCell _ _ _).from _, rfl, fun h => by have h2 := h.length_le; rw [List.length_append, Hn.out] at h2; simp at h2; omega⟩
      case donea =>
        rintro D2 ys W2 hD2 rfl ⟨⟨i0, i1, i2, iC, iI, iW, iB, ip⟩, hKD⟩ hK2
        rw [← Hxs.out] at iI
        rw [Hn.out] at iI
        have c1 := i1.cell
        have cI := iI.cell
        have c2 := i2.cell
        have f2 := i2.frozen
        have HK1 := Lib.hid hKD
        have HK2 := Lib.hid hK2
        have hne : ¬ D2 = D := by intro e; subst e; rw [Hsz2.out] at hD2; omega
        clear iW hKD hK2 ip
        gi_wp2
        have hK2' : (W2.setCell ⟨w.heap.size + 1 + 1, 0, none⟩ (.bool true)).heap[D2]? = some (.deferred (some [])) := (KeepsOthers.setCell _ _ _).same D2 _ HK2.out rfl
        have hK1' : ((W2.setCell ⟨w.heap.size + 1 + 1, 0, none⟩ (.bool true)).putObj D2 (.deferred none)).heap[D]? = some (.deferred (some [])) := (World.putObj_heap_other (fun e => hne e.symm)).trans ((KeepsOthers.setCell _ _ _).same D _ HK1.out rfl)
        have hc2 : (((W2.setCell ⟨w.heap.size + 1 + 1, 0, none⟩ (.bool true)).putObj D2 (.deferred none)).putObj D (.deferred none)).cell? ⟨w.heap.size + 1 + 1, 0, none⟩ = some (.bool true) :=
          cell_kept (cell_kept (i2.set (.bool true)).cell (grownBy_putObj' _ D2 (.deferred none)) (fun r e => by cases e; exact ⟨_, hK2', rfl⟩)) (grownBy_putObj' _ D (.deferred none)) (fun r e => by cases e; exact ⟨_, hK1', rfl⟩)
        refine ⟨by simp, .inl ⟨_, _, rfl, run_takeDeferred hK2', ⟨by simp, .inl ⟨_, _, rfl, run_takeDeferred hK1', ?_⟩⟩⟩⟩
        have hD3 : w.heap.size ≤ D ∧ w.heap.size ≤ D2 := by simp at hD; rw [Hsz2.out] at hD2; omega
        have hb3 := below_put (below_put (iB.setCell (p := ⟨w.heap.size + 1 + 1, 0, none⟩) (by simp; omega) (.bool true)) hD3.2 (.deferred none)) hD3.1 (.deferred none)
        exact ⟨_, by simp [results, Try.results33, go_sem, hc2], rfl, hb3⟩
      case stopa =>
        rintro D2 c pre W2 _ hSp ⟨rfl, hbad⟩ _
        exact absurd (Hxs.out ▸ hSp) hbad
    · have hnl1 : (((n : Nat) : Int) != lv) = true := by simpa using hnl
      clear hnl
      have hDlt : D < W.heap.size := (Array.getElem?_eq_some_iff.1 HK.out).1
      have jC := box_other (v := .int .i64 0) (B' := w.heap.size + 1 + 1 + 1 + 1) iC (by omega)
      have hj : InvE a lv A n cap xs w [] (W.setCell ⟨w.heap.size + 1 + 1 + 1 + 1, 0, none⟩ (.int .i64 0)) := ⟨box_other i0 (by omega), box_other i1 (by omega), box_other i2 (by omega), jC, iI.set _, IW.out.set (fun g e => by have := HA.out g e; omega) _, iB.setCell (p := ⟨w.heap.size + 1 + 1 + 1 + 1, 0, none⟩) (by simp; omega) _, List.nil_prefix⟩
      have hjD : (W.setCell ⟨w.heap.size + 1 + 1 + 1 + 1, 0, none⟩ (.int .i64 0)).heap[D]? = some (.deferred (some [])) := (KeepsOthers.setCell _ _ _).same D _ HK.out rfl
      have hsz2 : (W.setCell ⟨w.heap.size + 1 + 1 + 1 + 1, 0, none⟩ (.int .i64 0)).heap.size = W.heap.size := by simp
      have Hj := Lib.hid hj
      have HjD := Lib.hid hjD
      have Hsz2 := Lib.hid hsz2
      have hws : w.heap.size ≤ W.heap.size := iB.size
      clear hj hjD hsz2
      gi_wp2
      refine wpIn_rangeFunc_ownG rfl (by omega) (gf := 47) (lb := #[.pointer (some ⟨w.heap.size + 1 + 1 + 1, 0, none⟩)]) rfl trivial (enters_of Try.func47 (by kernel_rfl) rfl)
        (each_stops Fence.wide 9 trivial rfl (by omega) (w.heap.size + 1 + 1 + 1) a _ (by rw [Hsz2.out]; exact iC.lt) jC.cell) KpB.t (fun W l o o' _ h hc _ => KpB.b W l o o' h hc) (Below.refl _ _) (fun _ => rfl)
        (fun pre W2 => InvE a lv A n cap xs w pre W2 ∧ W2.heap[D]? = some (.deferred (some [])))
        (fun c pre _ => c = .ret ∧ ¬ pre <+: xs)
        (OwnFrom.and (InvE.own a lv A n cap xs w (W.setCell ⟨w.heap.size + 1 + 1 + 1 + 1, 0, none⟩ (.int .i64 0)).heap.size (by rw [Hsz2.out]; exact hws)) (ownFrom_block (by rw [Hsz2.out]; exact hDlt))) (fun _ => ownFrom_pure _ _) ⟨Hj.out, HjD.out⟩
        (fun x => { tmps := #[Value.int IntKind.u8 a, Value.bool false, Value.int IntKind.i64 lv, Value.slice A n cap, undef, undef, Value.pointer (some { block := w.heap.size, off := 0 }), Value.pointer (some { block := w.heap.size + 1, off := 0 }), Value.pointer (some { block := w.heap.size + 1 + 1, off := 0 }), Value.func (Fn.func 47) #[] #[Value.pointer (some { block := w.heap.size + 1 + 1 + 1, off := 0 })], Value.pointer (some { block := w.heap.size + 1 + 1 + 1 + 1, off := 0 }), undef, Value.int IntKind.u8 ((2 : Int) ^ x.val), Value.int IntKind.u8 a, Value.func (Fn.func 47) #[] #[Value.pointer (some { block := w.heap.size + 1 + 1 + 1, off := 0 })], Value.bool false, undef, undef, Value.func (Fn.func 47) #[] #[Value.pointer (some { block := w.heap.size + 1 + 1 + 1, off := 0 })], Value.bool false, Value.func (Fn.func 47) #[] #[Value.pointer (some { block := w.heap.size + 1 + 1 + 1, off := 0 })], undef, undef, undef, undef, undef, undef, undef, undef, undef, undef, undef, undef, undef, undef, undef, undef, undef, undef, Value.int IntKind.i64 ((n : Nat) : Int), Value.int IntKind.i64 lv, Value.bool true, Value.bool true, Value.int IntKind.i64 ((n : Nat) : Int), Value.slice A n cap, Value.int IntKind.i64 ((n : Nat) : Int), Value.bool false, Value.bool false, Value.func (Fn.func 47) #[] #[Value.pointer (some { block := w.heap.size + 1 + 1 + 1, off := 0 })], Value.int IntKind.u8 ((2 : Int) ^ x.val), undef, undef, undef, undef, undef, undef, undef, undef, undef, undef, undef, undef, undef, undef, undef, undef, undef, undef], defers := [] }) ?assignb ?bodyb ?doneb ?stopb
      case assignb =>
        intro l x W K hK
        simp only [enc6]
        gi_wp2
        exact hK
      case bodyb =>
        rintro l pre x W ⟨⟨i0, i1, i2, iC, iI, iW, iB, ip⟩, hKD⟩ _
        have HKD := Lib.hid hKD
        clear hKD
        have c0 := i0.cell
        have c1 := i1.cell
        have c2 := i2.cell
        have cI := iI.cell
        have f2 := i2.frozen
        have fI := iI.frozen
        have hpl := ip.length_le
        rw [Hn.out] at hpl
        have Ip := Lib.hid ip
        have IW := Lib.hid iW
        clear ip iW
        generalize hxv : (2 : Int) ^ x.val = xv at *
        have Hxv := Lib.hid hxv
        clear hxv
        by_cases hlt : pre.length < n
        · obtain ⟨y, hy⟩ : ∃ y, xs[pre.length]? = some y := ⟨_, List.getElem?_eq_getElem (by rw [Hn.out]; exact hlt)⟩
          obtain ⟨gg, hAe, hcy⟩ := IW.out pre.length y hy
          dsimp only at hcy
          have Hy := Lib.hid hy
          have hggl := HA.out gg hAe
          clear hy
          subst hAe
          generalize hyv : (2 : Int) ^ y.val = yv at *
          have Hyv := Lib.hid hyv
          clear hyv
          by_cases hv : xv = yv
          · have hv1 : (xv != yv) = false := by simp [hv]
            have hxy : x = y := by
              have h := Hxv.out.trans (hv.trans Hyv.out.symm)
              exact pow_inj x y h
            have Hxy := Lib.hid hxy
            clear hxy hv
            gi_wp2
            exact ⟨(KeepsOthers.setCell _ _ _).from _, kpB_of iC (box_other iC (by omega)), ⟨⟨box_other i0 (by omega), box_other i1 (by omega), box_other i2 (by omega), box_other iC (by omega), by rw [List.length_append]; exact iI.set _, IW.out.set (fun g e => by cases e; omega) _, iB.setCell (p := ⟨w.heap.size + 1 + 1 + 1 + 1, 0, none⟩) (by simp; omega) _, prefix_snoc Ip.out (by rw [Hxy.out]; exact Hy.out)⟩, (KeepsOthers.setCell _ _ _).same D _ HKD.out rfl⟩⟩
          · have hv1 : (xv != yv) = true := by simpa using hv
            have Hv := Lib.hid hv
            clear hv
            gi_wp2
            exact ⟨(KeepsOthers.setCell _ _ _).from _, rfl, fun h => Hv.out (by have h2 := prefix_at h; rw [Hy.out] at h2; cases h2; exact Hxv.out.symm.trans Hyv.out)⟩
        · have hge : ((n : Nat) : Int) ≤ ((pre.length : Nat) : Int) := by omega
          gi_wp2
          exact ⟨(KeepsOthers.setCell _ _ _).from _, rfl, fun h => by have h2 := h.length_le; rw [List.length_append, Hn.out] at h2; simp at h2; omega⟩
      case doneb =>
        rintro D2 ys W2 hD2 rfl ⟨⟨i0, i1, i2, iC, iI, iW, iB, ip⟩, hKD⟩ hK2
        rw [← Hxs.out] at iI
        rw [Hn.out] at iI
        have c1 := i1.cell
        have cI := iI.cell
        have c2 := i2.cell
        have f2 := i2.frozen
        have HK1 := Lib.hid hKD
        have HK2 := Lib.hid hK2
        have hne : ¬ D2 = D := by intro e; subst e; rw [Hsz2.out] at hD2; omega
        clear iW hKD hK2 ip
        gi_wp2
        have hK2' : (W2.setCell ⟨w.heap.size + 1 + 1, 0, none⟩ (.bool true)).heap[D2]? = some (.deferred (some [])) := (KeepsOthers.setCell _ _ _).same D2 _ HK2.out rfl
        have hK1' : ((W2.setCell ⟨w.heap.size + 1 + 1, 0, none⟩ (.bool true)).putObj D2 (.deferred none)).heap[D]? = some (.deferred (some [])) := (World.putObj_heap_other (fun e => hne e.symm)).trans ((KeepsOthers.setCell _ _ _).same D _ HK1.out rfl)
        have hc2 : (((W2.setCell ⟨w.heap.size + 1 + 1, 0, none⟩ (.bool true)).putObj D2 (.deferred none)).putObj D (.deferred none)).cell? ⟨w.heap.size + 1 + 1, 0, none⟩ = some (.bool true) :=
          cell_kept (cell_kept (i2.set (.bool true)).cell (grownBy_putObj' _ D2 (.deferred none)) (fun r e => by cases e; exact ⟨_, hK2', rfl⟩)) (grownBy_putObj' _ D (.deferred none)) (fun r e => by cases e; exact ⟨_, hK1', rfl⟩)
        refine ⟨by simp, .inl ⟨_, _, rfl, run_takeDeferred hK2', ⟨by simp, .inl ⟨_, _, rfl, run_takeDeferred hK1', ?_⟩⟩⟩⟩
        have hD3 : w.heap.size ≤ D ∧ w.heap.size ≤ D2 := by simp at hD; rw [Hsz2.out] at hD2; omega
        have hb3 := below_put (below_put (iB.setCell (p := ⟨w.heap.size + 1 + 1, 0, none⟩) (by simp; omega) (.bool true)) hD3.2 (.deferred none)) hD3.1 (.deferred none)
        exact ⟨_, by simp [results, Try.results33, go_sem, hc2], rfl, hb3⟩
      case stopb =>
        rintro D2 c pre W2 _ hSp ⟨rfl, hbad⟩ _
        exact absurd (Hxs.out ▸ hSp) hbad
  case stop =>
    rintro D c pre W hD hSp (⟨rfl, hbad⟩ | ⟨rfl, ⟨i0, i1, i2, iC, iI, iW, iB, ip⟩, hlen⟩) hK
    · exact absurd (Hxs.out ▸ hSp) hbad
    rw [hlen] at iI
    clear hlen
    have c0 := i0.cell
    have c1 := i1.cell
    have cI := iI.cell
    have fI := iI.frozen
    have IW := Lib.hid iW
    have HK := Lib.hid hK
    clear iW hK ip
    have hDlt : D < W.heap.size := (Array.getElem?_eq_some_iff.1 HK.out).1
    have jC := box_other (v := .int .i64 0) (B' := w.heap.size + 1 + 1 + 1 + 1) iC (by omega)
    have hj : InvE a lv A n cap xs w [] (W.setCell ⟨w.heap.size + 1 + 1 + 1 + 1, 0, none⟩ (.int .i64 0)) := ⟨box_other i0 (by omega), box_other i1 (by omega), box_other i2 (by omega), jC, iI.set _, IW.out.set (fun g e => by have := HA.out g e; omega) _, iB.setCell (p := ⟨w.heap.size + 1 + 1 + 1 + 1, 0, none⟩) (by simp; omega) _, List.nil_prefix⟩
    have hjD : (W.setCell ⟨w.heap.size + 1 + 1 + 1 + 1, 0, none⟩ (.int .i64 0)).heap[D]? = some (.deferred (some [])) := (KeepsOthers.setCell _ _ _).same D _ HK.out rfl
    have hsz2 : (W.setCell ⟨w.heap.size + 1 + 1 + 1 + 1, 0, none⟩ (.int .i64 0)).heap.size = W.heap.size := by simp
    have Hj := Lib.hid hj
    have HjD := Lib.hid hjD
    have Hsz2 := Lib.hid hsz2
    have hws : w.heap.size ≤ W.heap.size := iB.size
    clear hj hjD hsz2
    gi_wp2
    refine wpIn_rangeFunc_ownG rfl (by omega) (gf := 47) (lb := #[.pointer (some ⟨w.heap.size + 1 + 1 + 1, 0, none⟩)]) rfl trivial (enters_of Try.func47 (by kernel_rfl) rfl)
      (each_stops Fence.wide 9 trivial rfl (by omega) (w.heap.size + 1 + 1 + 1) a _ (by rw [Hsz2.out]; exact iC.lt) jC.cell) KpB.t (fun W l o o' _ h hc _ => KpB.b W l o o' h hc) (Below.refl _ _) (fun _ => rfl)
      (fun pre W2 => InvE a lv A n cap xs w pre W2 ∧ W2.heap[D]? = some (.deferred (some [])))
      (fun c pre _ => c = .ret ∧ ¬ pre <+: xs)
      (OwnFrom.and (InvE.own a lv A n cap xs w (W.setCell ⟨w.heap.size + 1 + 1 + 1 + 1, 0, none⟩ (.int .i64 0)).heap.size (by rw [Hsz2.out]; exact hws)) (ownFrom_block (by rw [Hsz2.out]; exact hDlt))) (fun _ => ownFrom_pure _ _) ⟨Hj.out, HjD.out⟩
      (fun x => { tmps := #[Value.int IntKind.u8 a, Value.bool false, Value.int IntKind.i64 lv, Value.slice A n cap, undef, undef, Value.pointer (some { block := w.heap.size, off := 0 }), Value.pointer (some { block := w.heap.size + 1, off := 0 }), Value.pointer (some { block := w.heap.size + 1 + 1, off := 0 }), Value.func (Fn.func 47) #[] #[Value.pointer (some { block := w.heap.size + 1 + 1 + 1, off := 0 })], Value.pointer (some { block := w.heap.size + 1 + 1 + 1 + 1, off := 0 }), undef, Value.int IntKind.u8 ((2 : Int) ^ x.val), Value.int IntKind.u8 a, Value.func (Fn.func 47) #[] #[Value.pointer (some { block := w.heap.size + 1 + 1 + 1, off := 0 })], Value.bool false, undef, undef, Value.func (Fn.func 47) #[] #[Value.pointer (some { block := w.heap.size + 1 + 1 + 1, off := 0 })], Value.bool false, Value.func (Fn.func 47) #[] #[Value.pointer (some { block := w.heap.size + 1 + 1 + 1, off := 0 })], undef, undef, undef, undef, undef, undef, undef, undef, undef, undef, undef, undef, undef, undef, undef, undef, undef, undef, Value.int IntKind.i64 lv, Value.int IntKind.i64 lv, Value.bool false, Value.bool false, undef, undef, undef, undef, Value.bool false, Value.func (Fn.func 47) #[] #[Value.pointer (some { block := w.heap.size + 1 + 1 + 1, off := 0 })], Value.int IntKind.u8 ((2 : Int) ^ x.val), undef, undef, undef, undef, undef, undef, undef, undef, undef, undef, undef, undef, undef, undef, undef, undef, undef, undef], defers := [] }) ?assignc ?bodyc ?donec ?stopc
    case assignc =>
      intro l x W K hK
      simp only [enc6]
      gi_wp2
      exact hK
    case bodyc =>
      rintro l pre x W ⟨⟨i0, i1, i2, iC, iI, iW, iB, ip⟩, hKD⟩ _
      have HKD := Lib.hid hKD
      clear hKD
      have c0 := i0.cell
      have c1 := i1.cell
      have c2 := i2.cell
      have cI := iI.cell
      have f2 := i2.frozen
      have fI := iI.frozen
      have hpl := ip.length_le
      rw [Hn.out] at hpl
      have Ip := Lib.hid ip
      have IW := Lib.hid iW
      clear ip iW
      generalize hxv : (2 : Int) ^ x.val = xv at *
      have Hxv := Lib.hid hxv
      clear hxv
      by_cases hlt : pre.length < n
      · obtain ⟨y, hy⟩ : ∃ y, xs[pre.length]? = some y := ⟨_, List.getElem?_eq_getElem (by rw [Hn.out]; exact hlt)⟩
        obtain ⟨gg, hAe, hcy⟩ := IW.out pre.length y hy
        dsimp only at hcy
        have Hy := Lib.hid hy
        have hggl := HA.out gg hAe
        clear hy
        subst hAe
        generalize hyv : (2 : Int) ^ y.val = yv at *
        have Hyv := Lib.hid hyv
        clear hyv
        by_cases hv : xv = yv
        · have hv1 : (xv != yv) = false := by simp [hv]
          have hxy : x = y := by
            have h := Hxv.out.trans (hv.trans Hyv.out.symm)
            exact pow_inj x y h
          have Hxy := Lib.hid hxy
          clear hxy hv
          gi_wp2
          exact ⟨(KeepsOthers.setCell _ _ _).from _, kpB_of iC (box_other iC (by omega)), ⟨⟨box_other i0 (by omega), box_other i1 (by omega), box_other i2 (by omega), box_other iC (by omega), by rw [List.length_append]; exact iI.set _, IW.out.set (fun g e => by cases e; omega) _, iB.setCell (p := ⟨w.heap.size + 1 + 1 + 1 + 1, 0, none⟩) (by simp; omega) _, prefix_snoc Ip.out (by rw [Hxy.out]; exact Hy.out)⟩, (KeepsOthers.setCell _ _ _).same D _ HKD.out rfl⟩⟩
        · have hv1 : (xv != yv) = true := by simpa using hv
          have Hv := Lib.hid hv
          clear hv
          gi_wp2
          exact ⟨(KeepsOthers.setCell _ _ _).from _, rfl, fun h => Hv.out (by have h2 := prefix_at h; rw [Hy.out] at h2; cases h2; exact Hxv.out.symm.trans Hyv.out)⟩
      · have hge : ((n : Nat) : Int) ≤ ((pre.length : Nat) : Int) := by omega
        gi_wp2
        exact ⟨(KeepsOthers.setCell _ _ _).from _, rfl, fun h => by have h2 := h.length_le; rw [List.length_append, Hn.out] at h2; simp at h2; omega⟩
    case donec =>
      rintro D2 ys W2 hD2 rfl ⟨⟨i0, i1, i2, iC, iI, iW, iB, ip⟩, hKD⟩ hK2
      rw [← Hxs.out] at iI
      rw [Hn.out] at iI
      have c1 := i1.cell
      have cI := iI.cell
      have c2 := i2.cell
      have f2 := i2.frozen
      have HK1 := Lib.hid hKD
      have HK2 := Lib.hid hK2
      have hne : ¬ D2 = D := by intro e; subst e; rw [Hsz2.out] at hD2; omega
      clear iW hKD hK2 ip
      gi_wp2
      have hK2' : (W2.setCell ⟨w.heap.size + 1 + 1, 0, none⟩ (.bool true)).heap[D2]? = some (.deferred (some [])) := (KeepsOthers.setCell _ _ _).same D2 _ HK2.out rfl
      have hK1' : ((W2.setCell ⟨w.heap.size + 1 + 1, 0, none⟩ (.bool true)).putObj D2 (.deferred none)).heap[D]? = some (.deferred (some [])) := (World.putObj_heap_other (fun e => hne e.symm)).trans ((KeepsOthers.setCell _ _ _).same D _ HK1.out rfl)
      have hc2 : (((W2.setCell ⟨w.heap.size + 1 + 1, 0, none⟩ (.bool true)).putObj D2 (.deferred none)).putObj D (.deferred none)).cell? ⟨w.heap.size + 1 + 1, 0, none⟩ = some (.bool true) :=
        cell_kept (cell_kept (i2.set (.bool true)).cell (grownBy_putObj' _ D2 (.deferred none)) (fun r e => by cases e; exact ⟨_, hK2', rfl⟩)) (grownBy_putObj' _ D (.deferred none)) (fun r e => by cases e; exact ⟨_, hK1', rfl⟩)
      refine ⟨by simp, .inl ⟨_, _, rfl, run_takeDeferred hK2', ⟨by simp, .inl ⟨_, _, rfl, run_takeDeferred hK1', ?_⟩⟩⟩⟩
      have hD3 : w.heap.size ≤ D ∧ w.heap.size ≤ D2 := by simp at hD; rw [Hsz2.out] at hD2; omega
      have hb3 := below_put (below_put (iB.setCell (p := ⟨w.heap.size + 1 + 1, 0, none⟩) (by simp; omega) (.bool true)) hD3.2 (.deferred none)) hD3.1 (.deferred none)
      exact ⟨_, by simp [results, Try.results33, go_sem, hc2], rfl, hb3⟩
    case stopc =>
      rintro D2 c pre W2 _ hSp ⟨rfl, hbad⟩ _
      exact absurd (Hxs.out ▸ hSp) hbad

def InvW (m : Nat) (lv : Int) (A : Option Addr) (n cap : Nat) (xs : List (Fin 64)) (w : World) (pre : List (Fin 64)) (W : World) : Prop :=
  Boxed W (w.heap.size) 3 (.int .i64 lv) ∧ Boxed W (w.heap.size + 1) 33 (.slice A n cap) ∧ Boxed W (w.heap.size + 1 + 1) 4 (.bool false) ∧ Boxed W (w.heap.size + 1 + 1 + 1 + 1) 22 (.int .u8 (m : Int)) ∧ Boxed W (w.heap.size + 1 + 1 + 1 + 1 + 1) 3 (.int .i64 (pre.length : Nat)) ∧ WantOk (fun k : Fin 64 => (k.val : Int)) A xs W ∧ Below w.heap.size w W ∧ pre <+: xs
theorem InvW.own (m : Nat) (lv : Int) (A : Option Addr) (n cap : Nat) (xs : List (Fin 64)) (w : World) (B : Nat) (hB : w.heap.size ≤ B) : OwnFrom B (InvW m lv A n cap xs w) :=
  OwnFrom.and (Own.from (Go.boxed_own _ _ (fun _ => _)) _) (OwnFrom.and (Own.from (Go.boxed_own _ _ (fun _ => _)) _) (OwnFrom.and (Own.from (Go.boxed_own _ _ (fun _ => _)) _) (OwnFrom.and (Own.from (Go.boxed_own _ _ (fun _ => _)) _) (OwnFrom.and (Own.from (Go.boxed_own _ _ (fun pre : List (Fin 64) => .int .i64 (pre.length : Nat))) _) (OwnFrom.and (Own.from (WantOk.own _ _ _) _) (OwnFrom.and (ownFrom_below (Nat.le_refl _) hB) (ownFrom_pure _ _)))))))
set_option maxRecDepth 100000 in
theorem walk_W (m : Nat) (hm : m < 64) (a lv : Int) (A : Option Addr) (n cap : Nat) (xs : List (Fin 64)) (hxs : xs = subs m 64) (hn : xs.length = n) (h0 : 0 ≤ a) (h1 : a ≤ 255) (ham : a % 64 = (m : Int)) (w : World) (hA : ∀ gg, A = some ⟨gg, 0, none⟩ → gg < w.heap.size) (hw : WantOk (fun k : Fin 64 => (k.val : Int)) A xs w) :
    CallsIn Fence.wide 10 Try.prog 33 #[.int .u8 a, .bool true, .int .i64 lv, .slice A n cap] w fun e w' => e = .returned (.bool true) ∧ Below w.heap.size w w' := by
  have hn64 : n ≤ 64 := by rw [← hn, hxs]; exact subs_len m 64
  have Hxs := Lib.hid hxs
  have Hn := Lib.hid hn
  have HA := Lib.hid hA
  have Hw := Lib.hid hw
  clear hxs hn hA hw
  refine callsIn_of_wp_marks Try.func33 rfl trivial ?_ rfl
  simp only [Try.ntmps33, List.size_toArray, List.length_cons, List.length_nil, Nat.reduceAdd, Nat.reduceSub, Array.replicate_succ, Array.replicate_zero, List.push_toArray, List.append_toArray, List.nil_append, List.cons_append]
  have n47 := notNil47
  have n45 := notNil45
  gi_wp2_with (first | (refine ⟨trivial, ?_⟩; gi_at_call 37; refine (callsIn_wide.2 (each_any _ _)).mono ?_; rintro e w' ⟨rfl, rfl⟩) | (refine ⟨trivial, ?_⟩; gi_at_call 36; refine (callsIn_wide.2 (within_nat _ m h0 h1 ham _)).mono ?_; rintro e w' ⟨rfl, rfl⟩))
  have b0 := Boxed.new (w) 3 (.int .i64 lv)
  have b1 := Boxed.new ((w).alloc (.cells #[.int .i64 lv] 3)) 33 (.slice A n cap)
  simp only [World.size_alloc] at b1
  replace b0 := b0.alloc (.cells #[.slice A n cap] 33)
  have b2 := Boxed.new (((w).alloc (.cells #[.int .i64 lv] 3)).alloc (.cells #[.slice A n cap] 33)) 4 (.bool false)
  simp only [World.size_alloc] at b2
  replace b0 := b0.alloc (.cells #[.bool false] 4)
  replace b1 := b1.alloc (.cells #[.bool false] 4)
  have bE := Boxed.new ((((w).alloc (.cells #[.int .i64 lv] 3)).alloc (.cells #[.slice A n cap] 33)).alloc (.cells #[.bool false] 4)) 22 (.int .u8 a)
  simp only [World.size_alloc] at bE
  replace b0 := b0.alloc (.cells #[.int .u8 a] 22)
  replace b1 := b1.alloc (.cells #[.int .u8 a] 22)
  replace b2 := b2.alloc (.cells #[.int .u8 a] 22)
  have bC := Boxed.new (((((w).alloc (.cells #[.int .i64 lv] 3)).alloc (.cells #[.slice A n cap] 33)).alloc (.cells #[.bool false] 4)).alloc (.cells #[.int .u8 a] 22)) 22 (.int .u8 (m : Int))
  simp only [World.size_alloc] at bC
  replace b0 := b0.alloc (.cells #[.int .u8 (m : Int)] 22)
  replace b1 := b1.alloc (.cells #[.int .u8 (m : Int)] 22)
  replace b2 := b2.alloc (.cells #[.int .u8 (m : Int)] 22)
  replace bE := bE.alloc (.cells #[.int .u8 (m : Int)] 22)
  have bI := Boxed.new ((((((w).alloc (.cells #[.int .i64 lv] 3)).alloc (.cells #[.slice A n cap] 33)).alloc (.cells #[.bool false] 4)).alloc (.cells #[.int .u8 a] 22)).alloc (.cells #[.int .u8 (m : Int)] 22)) 3 (.int .i64 0)
  simp only [World.size_alloc] at bI
  replace b0 := b0.alloc (.cells #[.int .i64 0] 3)
  replace b1 := b1.alloc (.cells #[.int .i64 0] 3)
  replace b2 := b2.alloc (.cells #[.int .i64 0] 3)
  replace bE := bE.alloc (.cells #[.int .i64 0] 3)
  replace bC := bC.alloc (.cells #[.int .i64 0] 3)
  have hB0 : Below w.heap.size w ((((((w.alloc (Obj.cells #[Value.int IntKind.i64 lv] 3)).alloc (Obj.cells #[Value.slice A n cap] 33)).alloc (Obj.cells #[Value.bool false] 4)).alloc (Obj.cells #[Value.int IntKind.u8 a] 22)).alloc (Obj.cells #[Value.int IntKind.u8 (m : Int)] 22)).alloc (Obj.cells #[Value.int IntKind.i64 0] 3)) := ((((((Below.refl _ w).alloc (Nat.le_refl _) _).alloc (by simp; try omega) _).alloc (by simp; try omega) _).alloc (by simp; try omega) _).alloc (by simp; try omega) _).alloc (by simp; try omega) _
  have hW0 : WantOk (fun k : Fin 64 => (k.val : Int)) A xs ((((((w.alloc (Obj.cells #[Value.int IntKind.i64 lv] 3)).alloc (Obj.cells #[Value.slice A n cap] 33)).alloc (Obj.cells #[Value.bool false] 4)).alloc (Obj.cells #[Value.int IntKind.u8 a] 22)).alloc (Obj.cells #[Value.int IntKind.u8 (m : Int)] 22)).alloc (Obj.cells #[Value.int IntKind.i64 0] 3)) := Hw.out.below hB0
  have hi0 : InvW m lv A n cap xs w [] ((((((w.alloc (Obj.cells #[Value.int IntKind.i64 lv] 3)).alloc (Obj.cells #[Value.slice A n cap] 33)).alloc (Obj.cells #[Value.bool false] 4)).alloc (Obj.cells #[Value.int IntKind.u8 a] 22)).alloc (Obj.cells #[Value.int IntKind.u8 (m : Int)] 22)).alloc (Obj.cells #[Value.int IntKind.i64 0] 3)) := ⟨b0, b1, b2, bC, bI, hW0, hB0, List.nil_prefix⟩
  have Hi0 := Lib.hid hi0
  clear hi0 hW0
  refine wpIn_rangeFunc_ownG rfl (by omega) (gf := 45) (lb := #[.pointer (some ⟨w.heap.size + 1 + 1 + 1 + 1, 0, none⟩)]) rfl trivial (enters_of Try.func45 (by kernel_rfl) rfl)
    (within_stops Fence.wide 9 trivial trivial rfl (by omega) (w.heap.size + 1 + 1 + 1 + 1) m hm _ (by simp) bC.cell) KpB.t (fun W l o o' _ h hc _ => KpB.b W l o o' h hc) (Below.refl _ _) (fun _ => rfl)
    (InvW m lv A n cap xs w)
    (fun c pre W => (c = .ret ∧ ¬ pre <+: xs) ∨ (c = .exit 0 ∧ InvW m lv A n cap xs w pre W ∧ ((pre.length : Nat) : Int) = lv))
    (InvW.own m lv A n cap xs w ((((((w.alloc (Obj.cells #[Value.int IntKind.i64 lv] 3)).alloc (Obj.cells #[Value.slice A n cap] 33)).alloc (Obj.cells #[Value.bool false] 4)).alloc (Obj.cells #[Value.int IntKind.u8 a] 22)).alloc (Obj.cells #[Value.int IntKind.u8 (m : Int)] 22)).alloc (Obj.cells #[Value.int IntKind.i64 0] 3)).heap.size (by simp; omega)) ?ownx Hi0.out
    (fun x => { tmps := #[Value.int IntKind.u8 a, Value.bool true, Value.int IntKind.i64 lv, Value.slice A n cap, undef, undef, Value.pointer (some { block := w.heap.size, off := 0 }), Value.pointer (some { block := w.heap.size + 1, off := 0 }), Value.pointer (some { block := w.heap.size + 1 + 1, off := 0 }), Value.func (Fn.func 45) #[] #[Value.pointer (some { block := w.heap.size + 1 + 1 + 1 + 1, off := 0 })], Value.pointer (some { block := w.heap.size + 1 + 1 + 1 + 1 + 1, off := 0 }), Value.int IntKind.u8 ((x.val : Int)), undef, Value.int IntKind.u8 a, Value.func (Fn.func 47) #[] #[Value.pointer (some { block := w.heap.size + 1 + 1 + 1, off := 0 })], Value.bool true, Value.int IntKind.u8 a, Value.func (Fn.func 45) #[] #[Value.pointer (some { block := w.heap.size + 1 + 1 + 1 + 1, off := 0 })], Value.func (Fn.func 45) #[] #[Value.pointer (some { block := w.heap.size + 1 + 1 + 1 + 1, off := 0 })], Value.bool false, Value.func (Fn.func 45) #[] #[Value.pointer (some { block := w.heap.size + 1 + 1 + 1 + 1, off := 0 })], Value.int IntKind.u8 ((x.val : Int)), undef, undef, undef, undef, undef, undef, undef, undef, undef, undef, undef, undef, undef, undef, undef, undef, undef, undef, undef, undef, undef, undef, undef, undef, undef, undef, undef, undef, undef, undef, undef, undef, undef, undef, undef, undef, undef, undef, undef, undef, undef, undef, undef, undef, undef, undef], defers := [] }) ?assign ?body ?done ?stop
  case ownx =>
    intro c s X Y row hs hg hr
    rcases hs with hs | ⟨h1, h2, h3⟩
    · exact .inl hs
    · exact .inr ⟨h1, InvW.own m lv A n cap xs w ((((((w.alloc (Obj.cells #[Value.int IntKind.i64 lv] 3)).alloc (Obj.cells #[Value.slice A n cap] 33)).alloc (Obj.cells #[Value.bool false] 4)).alloc (Obj.cells #[Value.int IntKind.u8 a] 22)).alloc (Obj.cells #[Value.int IntKind.u8 (m : Int)] 22)).alloc (Obj.cells #[Value.int IntKind.i64 0] 3)).heap.size (by simp; omega) s X Y row h2 hg hr, h3⟩
  case assign =>
    intro l x W K hK
    simp only [enc64]
    gi_wp2
    exact hK
  case body =>
    rintro l pre x W ⟨i0, i1, i2, iC, iI, iW, iB, ip⟩ _
    have c0 := i0.cell
    have c1 := i1.cell
    have c2 := i2.cell
    have cI := iI.cell
    have f2 := i2.frozen
    have fI := iI.frozen
    have hpl := ip.length_le
    rw [Hn.out] at hpl
    have Ip := Lib.hid ip
    have IW := Lib.hid iW
    clear ip iW
    generalize hxv : (x.val : Int) = xv at *
    have Hxv := Lib.hid hxv
    clear hxv
    by_cases hlt : pre.length < n
    · obtain ⟨y, hy⟩ : ∃ y, xs[pre.length]? = some y := ⟨_, List.getElem?_eq_getElem (by rw [Hn.out]; exact hlt)⟩
      obtain ⟨gg, hAe, hcy⟩ := IW.out pre.length y hy
      dsimp only at hcy
      have Hy := Lib.hid hy
      have hggl := HA.out gg hAe
      clear hy
      subst hAe
      generalize hyv : (y.val : Int) = yv at *
      have Hyv := Lib.hid hyv
      clear hyv
      by_cases hv : xv = yv
      · have hv1 : (xv != yv) = false := by simp [hv]
        have hxy : x = y := by
          have h := Hxv.out.trans (hv.trans Hyv.out.symm)
          exact Fin.ext (by omega)
        have Hxy := Lib.hid hxy
        clear hxy hv
        by_cases hl : ((pre.length : Nat) : Int) + 1 = lv
        · have hl1 : (((pre.length : Nat) : Int) + 1 == lv) = true := by simpa using hl
          have Hl := Lib.hid hl
          clear hl
          gi_wp2
          exact ⟨(KeepsOthers.setCell _ _ _).from _, .inr ⟨rfl, ⟨box_other i0 (by omega), box_other i1 (by omega), box_other i2 (by omega), box_other iC (by omega), by rw [List.length_append]; exact iI.set _, IW.out.set (fun g e => by cases e; omega) _, iB.setCell (p := ⟨w.heap.size + 1 + 1 + 1 + 1 + 1, 0, none⟩) (by simp; omega) _, prefix_snoc Ip.out (by rw [Hxy.out]; exact Hy.out)⟩, by rw [List.length_append]; exact Hl.out⟩⟩
        · have hl1 : (((pre.length : Nat) : Int) + 1 == lv) = false := by simpa using hl
          clear hl
          gi_wp2
          exact ⟨(KeepsOthers.setCell _ _ _).from _, kpB_of iC (box_other iC (by omega)), ⟨box_other i0 (by omega), box_other i1 (by omega), box_other i2 (by omega), box_other iC (by omega), by rw [List.length_append]; exact iI.set _, IW.out.set (fun g e => by cases e; omega) _, iB.setCell (p := ⟨w.heap.size + 1 + 1 + 1 + 1 + 1, 0, none⟩) (by simp; omega) _, prefix_snoc Ip.out (by rw [Hxy.out]; exact Hy.out)⟩⟩
      · have hv1 : (xv != yv) = true := by simpa using hv
        have Hv := Lib.hid hv
        clear hv
        gi_wp2
        exact ⟨(KeepsOthers.setCell _ _ _).from _, .inl ⟨rfl, fun h => Hv.out (by have h2 := prefix_at h; rw [Hy.out] at h2; cases h2; exact Hxv.out.symm.trans Hyv.out)⟩⟩
    · have hge : ((n : Nat) : Int) ≤ ((pre.length : Nat) : Int) := by omega
      gi_wp2
      exact ⟨(KeepsOthers.setCell _ _ _).from _, .inl ⟨rfl, fun h => by have h2 := h.length_le; rw [List.length_append, Hn.out] at h2; simp at h2; omega⟩⟩
  case done =>
    rintro D ys W hD rfl ⟨i0, i1, i2, iC, iI, iW, iB, ip⟩ hK
    rw [← Hxs.out] at iI
    rw [Hn.out] at iI
    have c0 := i0.cell
    have c1 := i1.cell
    have cI := iI.cell
    have fI := iI.frozen
    have IW := Lib.hid iW
    have HK := Lib.hid hK
    clear iW hK ip
    by_cases hnl : ((n : Nat) : Int) = lv
    · have hnl1 : (((n : Nat) : Int) != lv) = false := by simp [hnl]
      clear hnl
      have hDlt : D < W.heap.size := (Array.getElem?_eq_some_iff.1 HK.out).1
      have jC := box_other (v := .int .i64 0) (B' := w.heap.size + 1 + 1 + 1 + 1 + 1) iC (by omega)
      have hj : InvW m lv A n cap xs w [] (W.setCell ⟨w.heap.size + 1 + 1 + 1 + 1 + 1, 0, none⟩ (.int .i64 0)) := ⟨box_other i0 (by omega), box_other i1 (by omega), box_other i2 (by omega), jC, iI.set _, IW.out.set (fun g e => by have := HA.out g e; omega) _, iB.setCell (p := ⟨w.heap.size + 1 + 1 + 1 + 1 + 1, 0, none⟩) (by simp; omega) _, List.nil_prefix⟩
      have hjD : (W.setCell ⟨w.heap.size + 1 + 1 + 1 + 1 + 1, 0, none⟩ (.int .i64 0)).heap[D]? = some (.deferred (some [])) := (KeepsOthers.setCell _ _ _).same D _ HK.out rfl
      have hsz2 : (W.setCell ⟨w.heap.size + 1 + 1 + 1 + 1 + 1, 0, none⟩ (.int .i64 0)).heap.size = W.heap.size := by simp
      have Hj := Lib.hid hj
      have HjD := Lib.hid hjD
      have Hsz2 := Lib.hid hsz2
      have hws : w.heap.size ≤ W.heap.size := iB.size
      clear hj hjD hsz2
      gi_wp2
      refine wpIn_rangeFunc_ownG rfl (by omega) (gf := 45) (lb := #[.pointer (some ⟨w.heap.size + 1 + 1 + 1 + 1, 0, none⟩)]) rfl trivial (enters_of Try.func45 (by kernel_rfl) rfl)
        (within_stops Fence.wide 9 trivial trivial rfl (by omega) (w.heap.size + 1 + 1 + 1 + 1) m hm _ (by rw [Hsz2.out]; exact iC.lt) jC.cell) KpB.t (fun W l o o' _ h hc _ => KpB.b W l o o' h hc) (Below.refl _ _) (fun _ => rfl)
        (fun pre W2 => InvW m lv A n cap xs w pre W2 ∧ W2.heap[D]? = some (.deferred (some [])))
        (fun c pre _ => c = .ret ∧ ¬ pre <+: xs)
        (OwnFrom.and (InvW.own m lv A n cap xs w (W.setCell ⟨w.heap.size + 1 + 1 + 1 + 1 + 1, 0, none⟩ (.int .i64 0)).heap.size (by rw [Hsz2.out]; exact hws)) (ownFrom_block (by rw [Hsz2.out]; exact hDlt))) (fun _ => ownFrom_pure _ _) ⟨Hj.out, HjD.out⟩
        (fun x => { tmps := #[Value.int IntKind.u8 a, Value.bool true, Value.int IntKind.i64 lv, Value.slice A n cap, undef, undef, Value.pointer (some { block := w.heap.size, off := 0 }), Value.pointer (some { block := w.heap.size + 1, off := 0 }), Value.pointer (some { block := w.heap.size + 1 + 1, off := 0 }), Value.func (Fn.func 45) #[] #[Value.pointer (some { block := w.heap.size + 1 + 1 + 1 + 1, off := 0 })], Value.pointer (some { block := w.heap.size + 1 + 1 + 1 + 1 + 1, off := 0 }), undef, Value.int IntKind.u8 ((x.val : Int)), Value.int IntKind.u8 a, Value.func (Fn.func 47) #[] #[Value.pointer (some { block := w.heap.size + 1 + 1 + 1, off := 0 })], Value.bool true, Value.int IntKind.u8 a, Value.func (Fn.func 45) #[] #[Value.pointer (some { block := w.heap.size + 1 + 1 + 1 + 1, off := 0 })], Value.func (Fn.func 45) #[] #[Value.pointer (some { block := w.heap.size + 1 + 1 + 1 + 1, off := 0 })], Value.bool false, Value.func (Fn.func 45) #[] #[Value.pointer (some { block := w.heap.size + 1 + 1 + 1 + 1, off := 0 })], undef, undef, undef, undef, undef, undef, undef, undef, undef, undef, undef, undef, undef, undef, undef, undef, undef, undef, Value.int IntKind.i64 ((n : Nat) : Int), Value.int IntKind.i64 lv, Value.bool false, Value.bool false, undef, undef, undef, undef, Value.bool false, Value.func (Fn.func 45) #[] #[Value.pointer (some { block := w.heap.size + 1 + 1 + 1 + 1, off := 0 })], Value.int IntKind.u8 ((x.val : Int)), undef, undef, undef, undef, undef, undef, undef, undef, undef, undef, undef, undef, undef, undef, undef, undef, undef, undef], defers := [] }) ?assigna ?bodya ?donea ?stopa
      case assigna =>
        intro l x W K hK
        simp only [enc64]
        gi_wp2
        exact hK
      case bodya =>
        rintro l pre x W ⟨⟨i0, i1, i2, iC, iI, iW, iB, ip⟩, hKD⟩ _
        have HKD := Lib.hid hKD
        clear hKD
        have c0 := i0.cell
        have c1 := i1.cell
        have c2 := i2.cell
        have cI := iI.cell
        have f2 := i2.frozen
        have fI := iI.frozen
        have hpl := ip.length_le
        rw [Hn.out] at hpl
        have Ip := Lib.hid ip
        have IW := Lib.hid iW
        clear ip iW
        generalize hxv : (x.val : Int) = xv at *
        have Hxv := Lib.hid hxv
        clear hxv
        by_cases hlt : pre.length < n
        · obtain ⟨y, hy⟩ : ∃ y, xs[pre.length]? = some y := ⟨_, List.getElem?_eq_getElem (by rw [Hn.out]; exact hlt)⟩
          obtain ⟨gg, hAe, hcy⟩ := IW.out pre.length y hy
          dsimp only at hcy
          have Hy := Lib.hid hy
          have hggl := HA.out gg hAe
          clear hy
          subst hAe
          generalize hyv : (y.val : Int) = yv at *
          have Hyv := Lib.hid hyv
          clear hyv
          by_cases hv : xv = yv
          · have hv1 : (xv != yv) = false := by simp [hv]
            have hxy : x = y := by
              have h := Hxv.out.trans (hv.trans Hyv.out.symm)
              exact Fin.ext (by omega)
            have Hxy := Lib.hid hxy
            clear hxy hv
            gi_wp2
            exact ⟨(KeepsOthers.setCell _ _ _).from _, kpB_of iC (box_other iC (by omega)), ⟨⟨box_other i0 (by omega), box_other i1 (by omega), box_other i2 (by omega), box_other iC (by omega), by rw [List.length_append]; exact iI.set _, IW.out.set (fun g e => by cases e; omega) _, iB.setCell (p := ⟨w.heap.size + 1 + 1 + 1 + 1 + 1, 0, none⟩) (by simp; omega) _, prefix_snoc Ip.out (by rw [Hxy.out]; exact Hy.out)⟩, (KeepsOthers.setCell _ _ _).same D _ HKD.out rfl⟩⟩
          · have hv1 : (xv != yv) = true := by simpa using hv
            have Hv := Lib.hid hv
            clear hv
            gi_wp2
            exact ⟨(KeepsOthers.setCell _ _ _).from _, rfl, fun h => Hv.out (by have h2 := prefix_at h; rw [Hy.out] at h2; cases h2; exact Hxv.out.symm.trans Hyv.out)⟩
        · have hge : ((n : Nat) : Int) ≤ ((pre.length : Nat) : Int) := by omega
          gi_wp2
          exact ⟨(KeepsOthers.setCell _ _ _).from _, rfl, fun h => by have h2 := h.length_le; rw [List.length_append, Hn.out] at h2; simp at h2; omega⟩
      case donea =>
        rintro D2 ys W2 hD2 rfl ⟨⟨i0, i1, i2, iC, iI, iW, iB, ip⟩, hKD⟩ hK2
        rw [← Hxs.out] at iI
        rw [Hn.out] at iI
        have c1 := i1.cell
        have cI := iI.cell
        have c2 := i2.cell
        have f2 := i2.frozen
        have HK1 := Lib.hid hKD
        have HK2 := Lib.hid hK2
        have hne : ¬ D2 = D := by intro e; subst e; rw [Hsz2.out] at hD2; omega
        clear iW hKD hK2 ip
        gi_wp2
        have hK2' : (W2.setCell ⟨w.heap.size + 1 + 1, 0, none⟩ (.bool true)).heap[D2]? = some (.deferred (some [])) := (KeepsOthers.setCell _ _ _).same D2 _ HK2.out rfl
        have hK1' : ((W2.setCell ⟨w.heap.size + 1 + 1, 0, none⟩ (.bool true)).putObj D2 (.deferred none)).heap[D]? = some (.deferred (some [])) := (World.putObj_heap_other (fun e => hne e.symm)).trans ((KeepsOthers.setCell _ _ _).same D _ HK1.out rfl)
        have hc2 : (((W2.setCell ⟨w.heap.size + 1 + 1, 0, none⟩ (.bool true)).putObj D2 (.deferred none)).putObj D (.deferred none)).cell? ⟨w.heap.size + 1 + 1, 0, none⟩ = some (.bool true) :=
          cell_kept (cell_kept (i2.set (.bool true)).cell (grownBy_putObj' _ D2 (.deferred none)) (fun r e => by cases e; exact ⟨_, hK2', rfl⟩)) (grownBy_putObj' _ D (.deferred none)) (fun r e => by cases e; exact ⟨_, hK1', rfl⟩)
        refine ⟨by simp, .inl ⟨_, _, rfl, run_takeDeferred hK2', ⟨by simp, .inl ⟨_, _, rfl, run_takeDeferred hK1', ?_⟩⟩⟩⟩
        have hD3 : w.heap.size ≤ D ∧ w.heap.size ≤ D2 := by simp at hD; rw [Hsz2.out] at hD2; omega
        have hb3 := below_put (below_put (iB.setCell (p := ⟨w.heap.size + 1 + 1, 0, none⟩) (by simp; omega) (.bool true)) hD3.2 (.deferred none)) hD3.1 (.deferred none)
        exact ⟨_, by simp [results, Try.results33, go_sem, hc2], rfl, hb3⟩
      case stopa =>
        rintro D2 c pre W2 _ hSp ⟨rfl, hbad⟩ _
        exact absurd (Hxs.out ▸ hSp) hbad
    · have hnl1 : (((n : Nat) : Int) != lv) = true := by simpa using hnl
      clear hnl
      have hDlt : D < W.heap.size := (Array.getElem?_eq_some_iff.1 HK.out).1
      have jC := box_other (v := .int .i64 0) (B' := w.heap.size + 1 + 1 + 1 + 1 + 1) iC (by omega)
      have hj : InvW m lv A n cap xs w [] (W.setCell ⟨w.heap.size + 1 + 1 + 1 + 1 + 1, 0, none⟩ (.int .i64 0)) := ⟨box_other i0 (by omega), box_other i1 (by omega), box_other i2 (by omega), jC, iI.set _, IW.out.set (fun g e => by have := HA.out g e; omega) _, iB.setCell (p := ⟨w.heap.size + 1 + 1 + 1 + 1 + 1, 0, none⟩) (by simp; omega) _, List.nil_prefix⟩
      have hjD : (W.setCell ⟨w.heap.size + 1 + 1 + 1 + 1 + 1, 0, none⟩ (.int .i64 0)).heap[D]? = some (.deferred (some [])) := (KeepsOthers.setCell _ _ _).same D _ HK.out rfl
      have hsz2 : (W.setCell ⟨w.heap.size + 1 + 1 + 1 + 1 + 1, 0, none⟩ (.int .i64 0)).heap.size = W.heap.size := by simp
      have Hj := Lib.hid hj
      have HjD := Lib.hid hjD
      have Hsz2 := Lib.hid hsz2
      have hws : w.heap.size ≤ W.heap.size := iB.size
      clear hj hjD hsz2
      gi_wp2
      refine wpIn_rangeFunc_ownG rfl (by omega) (gf := 45) (lb := #[.pointer (some ⟨w.heap.size + 1 + 1 + 1 + 1, 0, none⟩)]) rfl trivial (enters_of Try.func45 (by kernel_rfl) rfl)
        (within_stops Fence.wide 9 trivial trivial rfl (by omega) (w.heap.size + 1 + 1 + 1 + 1) m hm _ (by rw [Hsz2.out]; exact iC.lt) jC.cell) KpB.t (fun W l o o' _ h hc _ => KpB.b W l o o' h hc) (Below.refl _ _) (fun _ => rfl)
        (fun pre W2 => InvW m lv A n cap xs w pre W2 ∧ W2.heap[D]? = some (.deferred (some [])))
        (fun c pre _ => c = .ret ∧ ¬ pre <+: xs)
        (OwnFrom.and (InvW.own m lv A n cap xs w (W.setCell ⟨w.heap.size + 1 + 1 + 1 + 1 + 1, 0, none⟩ (.int .i64 0)).heap.size (by rw [Hsz2.out]; exact hws)) (ownFrom_block (by rw [Hsz2.out]; exact hDlt))) (fun _ => ownFrom_pure _ _) ⟨Hj.out, HjD.out⟩
        (fun x => { tmps := #[Value.int IntKind.u8 a, Value.bool true, Value.int IntKind.i64 lv, Value.slice A n cap, undef, undef, Value.pointer (some { block := w.heap.size, off := 0 }), Value.pointer (some { block := w.heap.size + 1, off := 0 }), Value.pointer (some { block := w.heap.size + 1 + 1, off := 0 }), Value.func (Fn.func 45) #[] #[Value.pointer (some { block := w.heap.size + 1 + 1 + 1 + 1, off := 0 })], Value.pointer (some { block := w.heap.size + 1 + 1 + 1 + 1 + 1, off := 0 }), undef, Value.int IntKind.u8 ((x.val : Int)), Value.int IntKind.u8 a, Value.func (Fn.func 47) #[] #[Value.pointer (some { block := w.heap.size + 1 + 1 + 1, off := 0 })], Value.bool true, Value.int IntKind.u8 a, Value.func (Fn.func 45) #[] #[Value.pointer (some { block := w.heap.size + 1 + 1 + 1 + 1, off := 0 })], Value.func (Fn.func 45) #[] #[Value.pointer (some { block := w.heap.size + 1 + 1 + 1 + 1, off := 0 })], Value.bool false, Value.func (Fn.func 45) #[] #[Value.pointer (some { block := w.heap.size + 1 + 1 + 1 + 1, off := 0 })], undef, undef, undef, undef, undef, undef, undef, undef, undef, undef, undef, undef, undef, undef, undef, undef, undef, undef, Value.int IntKind.i64 ((n : Nat) : Int), Value.int IntKind.i64 lv, Value.bool true, Value.bool true, Value.int IntKind.i64 ((n : Nat) : Int), Value.slice A n cap, Value.int IntKind.i64 ((n : Nat) : Int), Value.bool false, Value.bool false, Value.func (Fn.func 45) #[] #[Value.pointer (some { block := w.heap.size + 1 + 1 + 1 + 1, off := 0 })], Value.int IntKind.u8 ((x.val : Int)), undef, undef, undef, undef, undef, undef, undef, undef, undef, undef, undef, undef, undef, undef, undef, undef, undef, undef], defers := [] }) ?assignb ?bodyb ?doneb ?stopb
      case assignb =>
        intro l x W K hK
        simp only [enc64]
        gi_wp2
        exact hK
      case bodyb =>
        rintro l pre x W ⟨⟨i0, i1, i2, iC, iI, iW, iB, ip⟩, hKD⟩ _
        have HKD := Lib.hid hKD
        clear hKD
        have c0 := i0.cell
        have c1 := i1.cell
        have c2 := i2.cell
        have cI := iI.cell
        have f2 := i2.frozen
        have fI := iI.frozen
        have hpl := ip.length_le
        rw [Hn.out] at hpl
        have Ip := Lib.hid ip
        have IW := Lib.hid iW
        clear ip iW
        generalize hxv : (x.val : Int) = xv at *
        have Hxv := Lib.hid hxv
        clear hxv
        by_cases hlt : pre.length < n
        · obtain ⟨y, hy⟩ : ∃ y, xs[pre.length]? = some y := ⟨_, List.getElem?_eq_getElem (by rw [Hn.out]; exact hlt)⟩
          obtain ⟨gg, hAe, hcy⟩ := IW.out pre.length y hy
          dsimp only at hcy
          have Hy := Lib.hid hy
          have hggl := HA.out gg hAe
          clear hy
          subst hAe
          generalize hyv : (y.val : Int) = yv at *
          have Hyv := Lib.hid hyv
          clear hyv
          by_cases hv : xv = yv
          · have hv1 : (xv != yv) = false := by simp [hv]
            have hxy : x = y := by
              have h := Hxv.out.trans (hv.trans Hyv.out.symm)
              exact Fin.ext (by omega)
            have Hxy := Lib.hid hxy
            clear hxy hv
            gi_wp2
            exact ⟨(KeepsOthers.setCell _ _ _).from _, kpB_of iC (box_other iC (by omega)), ⟨⟨box_other i0 (by omega), box_other i1 (by omega), box_other i2 (by omega), box_other iC (by omega), by rw [List.length_append]; exact iI.set _, IW.out.set (fun g e => by cases e; omega) _, iB.setCell (p := ⟨w.heap.size + 1 + 1 + 1 + 1 + 1, 0, none⟩) (by simp; omega) _, prefix_snoc Ip.out (by rw [Hxy.out]; exact Hy.out)⟩, (KeepsOthers.setCell _ _ _).same D _ HKD.out rfl⟩⟩
          · have hv1 : (xv != yv) = true := by simpa using hv
            have Hv := Lib.hid hv
            clear hv
            gi_wp2
            exact ⟨(KeepsOthers.setCell _ _ _).from _, rfl, fun h => Hv.out (by have h2 := prefix_at h; rw [Hy.out] at h2; cases h2; exact Hxv.out.symm.trans Hyv.out)⟩
        · have hge : ((n : Nat) : Int) ≤ ((pre.length : Nat) : Int) := by omega
          gi_wp2
          exact ⟨(KeepsOthers.setCell _ _ _).from _, rfl, fun h => by have h2 := h.length_le; rw [List.length_append, Hn.out] at h2; simp at h2; omega⟩
      case doneb =>
        rintro D2 ys W2 hD2 rfl ⟨⟨i0, i1, i2, iC, iI, iW, iB, ip⟩, hKD⟩ hK2
        rw [← Hxs.out] at iI
        rw [Hn.out] at iI
        have c1 := i1.cell
        have cI := iI.cell
        have c2 := i2.cell
        have f2 := i2.frozen
        have HK1 := Lib.hid hKD
        have HK2 := Lib.hid hK2
        have hne : ¬ D2 = D := by intro e; subst e; rw [Hsz2.out] at hD2; omega
        clear iW hKD hK2 ip
        gi_wp2
        have hK2' : (W2.setCell ⟨w.heap.size + 1 + 1, 0, none⟩ (.bool true)).heap[D2]? = some (.deferred (some [])) := (KeepsOthers.setCell _ _ _).same D2 _ HK2.out rfl
        have hK1' : ((W2.setCell ⟨w.heap.size + 1 + 1, 0, none⟩ (.bool true)).putObj D2 (.deferred none)).heap[D]? = some (.deferred (some [])) := (World.putObj_heap_other (fun e => hne e.symm)).trans ((KeepsOthers.setCell _ _ _).same D _ HK1.out rfl)
        have hc2 : (((W2.setCell ⟨w.heap.size + 1 + 1, 0, none⟩ (.bool true)).putObj D2 (.deferred none)).putObj D (.deferred none)).cell? ⟨w.heap.size + 1 + 1, 0, none⟩ = some (.bool true) :=
          cell_kept (cell_kept (i2.set (.bool true)).cell (grownBy_putObj' _ D2 (.deferred none)) (fun r e => by cases e; exact ⟨_, hK2', rfl⟩)) (grownBy_putObj' _ D (.deferred none)) (fun r e => by cases e; exact ⟨_, hK1', rfl⟩)
        refine ⟨by simp, .inl ⟨_, _, rfl, run_takeDeferred hK2', ⟨by simp, .inl ⟨_, _, rfl, run_takeDeferred hK1', ?_⟩⟩⟩⟩
        have hD3 : w.heap.size ≤ D ∧ w.heap.size ≤ D2 := by simp at hD; rw [Hsz2.out] at hD2; omega
        have hb3 := below_put (below_put (iB.setCell (p := ⟨w.heap.size + 1 + 1, 0, none⟩) (by simp; omega) (.bool true)) hD3.2 (.deferred none)) hD3.1 (.deferred none)
        exact ⟨_, by simp [results, Try.results33, go_sem, hc2], rfl, hb3⟩
      case stopb =>
        rintro D2 c pre W2 _ hSp ⟨rfl, hbad⟩ _
        exact absurd (Hxs.out ▸ hSp) hbad
  case stop =>
    rintro D c pre W hD hSp (⟨rfl, hbad⟩ | ⟨rfl, ⟨i0, i1, i2, iC, iI, iW, iB, ip⟩, hlen⟩) hK
    · exact absurd (Hxs.out ▸ hSp) hbad
    rw [hlen] at iI
    clear hlen
    have c0 := i0.cell
    have c1 := i1.cell
    have cI := iI.cell
    have fI := iI.frozen
    have IW := Lib.hid iW
    have HK := Lib.hid hK
    clear iW hK ip
    have hDlt : D < W.heap.size := (Array.getElem?_eq_some_iff.1 HK.out).1
    have jC := box_other (v := .int .i64 0) (B' := w.heap.size + 1 + 1 + 1 + 1 + 1) iC (by omega)
    have hj : InvW m lv A n cap xs w [] (W.setCell ⟨w.heap.size + 1 + 1 + 1 + 1 + 1, 0, none⟩ (.int .i64 0)) := ⟨box_other i0 (by omega), box_other i1 (by omega), box_other i2 (by omega), jC, iI.set _, IW.out.set (fun g e => by have := HA.out g e; omega) _, iB.setCell (p := ⟨w.heap.size + 1 + 1 + 1 + 1 + 1, 0, none⟩) (by simp; omega) _, List.nil_prefix⟩
    have hjD : (W.setCell ⟨w.heap.size + 1 + 1 + 1 + 1 + 1, 0, none⟩ (.int .i64 0)).heap[D]? = some (.deferred (some [])) := (KeepsOthers.setCell _ _ _).same D _ HK.out rfl
    have hsz2 : (W.setCell ⟨w.heap.size + 1 + 1 + 1 + 1 + 1, 0, none⟩ (.int .i64 0)).heap.size = W.heap.size := by simp
    have Hj := Lib.hid hj
    have HjD := Lib.hid hjD
    have Hsz2 := Lib.hid hsz2
    have hws : w.heap.size ≤ W.heap.size := iB.size
    clear hj hjD hsz2
    gi_wp2
    refine wpIn_rangeFunc_ownG rfl (by omega) (gf := 45) (lb := #[.pointer (some ⟨w.heap.size + 1 + 1 + 1 + 1, 0, none⟩)]) rfl trivial (enters_of Try.func45 (by kernel_rfl) rfl)
      (within_stops Fence.wide 9 trivial trivial rfl (by omega) (w.heap.size + 1 + 1 + 1 + 1) m hm _ (by rw [Hsz2.out]; exact iC.lt) jC.cell) KpB.t (fun W l o o' _ h hc _ => KpB.b W l o o' h hc) (Below.refl _ _) (fun _ => rfl)
      (fun pre W2 => InvW m lv A n cap xs w pre W2 ∧ W2.heap[D]? = some (.deferred (some [])))
      (fun c pre _ => c = .ret ∧ ¬ pre <+: xs)
      (OwnFrom.and (InvW.own m lv A n cap xs w (W.setCell ⟨w.heap.size + 1 + 1 + 1 + 1 + 1, 0, none⟩ (.int .i64 0)).heap.size (by rw [Hsz2.out]; exact hws)) (ownFrom_block (by rw [Hsz2.out]; exact hDlt))) (fun _ => ownFrom_pure _ _) ⟨Hj.out, HjD.out⟩
      (fun x => { tmps := #[Value.int IntKind.u8 a, Value.bool true, Value.int IntKind.i64 lv, Value.slice A n cap, undef, undef, Value.pointer (some { block := w.heap.size, off := 0 }), Value.pointer (some { block := w.heap.size + 1, off := 0 }), Value.pointer (some { block := w.heap.size + 1 + 1, off := 0 }), Value.func (Fn.func 45) #[] #[Value.pointer (some { block := w.heap.size + 1 + 1 + 1 + 1, off := 0 })], Value.pointer (some { block := w.heap.size + 1 + 1 + 1 + 1 + 1, off := 0 }), undef, Value.int IntKind.u8 ((x.val : Int)), Value.int IntKind.u8 a, Value.func (Fn.func 47) #[] #[Value.pointer (some { block := w.heap.size + 1 + 1 + 1, off := 0 })], Value.bool true, Value.int IntKind.u8 a, Value.func (Fn.func 45) #[] #[Value.pointer (some { block := w.heap.size + 1 + 1 + 1 + 1, off := 0 })], Value.func (Fn.func 45) #[] #[Value.pointer (some { block := w.heap.size + 1 + 1 + 1 + 1, off := 0 })], Value.bool false, Value.func (Fn.func 45) #[] #[Value.pointer (some { block := w.heap.size + 1 + 1 + 1 + 1, off := 0 })], undef, undef, undef, undef, undef, undef, undef, undef, undef, undef, undef, undef, undef, undef, undef, undef, undef, undef, Value.int IntKind.i64 lv, Value.int IntKind.i64 lv, Value.bool false, Value.bool false, undef, undef, undef, undef, Value.bool false, Value.func (Fn.func 45) #[] #[Value.pointer (some { block := w.heap.size + 1 + 1 + 1 + 1, off := 0 })], Value.int IntKind.u8 ((x.val : Int)), undef, undef, undef, undef, undef, undef, undef, undef, undef, undef, undef, undef, undef, undef, undef, undef, undef, undef], defers := [] }) ?assignc ?bodyc ?donec ?stopc
    case assignc =>
      intro l x W K hK
      simp only [enc64]
      gi_wp2
      exact hK
    case bodyc =>
      rintro l pre x W ⟨⟨i0, i1, i2, iC, iI, iW, iB, ip⟩, hKD⟩ _
      have HKD := Lib.hid hKD
      clear hKD
      have c0 := i0.cell
      have c1 := i1.cell
      have c2 := i2.cell
      have cI := iI.cell
      have f2 := i2.frozen
      have fI := iI.frozen
      have hpl := ip.length_le
      rw [Hn.out] at hpl
      have Ip := Lib.hid ip
      have IW := Lib.hid iW
      clear ip iW
      generalize hxv : (x.val : Int) = xv at *
      have Hxv := Lib.hid hxv
      clear hxv
      by_cases hlt : pre.length < n
      · obtain ⟨y, hy⟩ : ∃ y, xs[pre.length]? = some y := ⟨_, List.getElem?_eq_getElem (by rw [Hn.out]; exact hlt)⟩
        obtain ⟨gg, hAe, hcy⟩ := IW.out pre.length y hy
        dsimp only at hcy
        have Hy := Lib.hid hy
        have hggl := HA.out gg hAe
        clear hy
        subst hAe
        generalize hyv : (y.val : Int) = yv at *
        have Hyv := Lib.hid hyv
        clear hyv
        by_cases hv : xv = yv
        · have hv1 : (xv != yv) = false := by simp [hv]
          have hxy : x = y := by
            have h := Hxv.out.trans (hv.trans Hyv.out.symm)
            exact Fin.ext (by omega)
          have Hxy := Lib.hid hxy
          clear hxy hv
          gi_wp2
          exact ⟨(KeepsOthers.setCell _ _ _).from _, kpB_of iC (box_other iC (by omega)), ⟨⟨box_other i0 (by omega), box_other i1 (by omega), box_other i2 (by omega), box_other iC (by omega), by rw [List.length_append]; exact iI.set _, IW.out.set (fun g e => by cases e; omega) _, iB.setCell (p := ⟨w.heap.size + 1 + 1 + 1 + 1 + 1, 0, none⟩) (by simp; omega) _, prefix_snoc Ip.out (by rw [Hxy.out]; exact Hy.out)⟩, (KeepsOthers.setCell _ _ _).same D _ HKD.out rfl⟩⟩
        · have hv1 : (xv != yv) = true := by simpa using hv
          have Hv := Lib.hid hv
          clear hv
          gi_wp2
          exact ⟨(KeepsOthers.setCell _ _ _).from _, rfl, fun h => Hv.out (by have h2 := prefix_at h; rw [Hy.out] at h2; cases h2; exact Hxv.out.symm.trans Hyv.out)⟩
      · have hge : ((n : Nat) : Int) ≤ ((pre.length : Nat) : Int) := by omega
        gi_wp2
        exact ⟨(KeepsOthers.setCell _ _ _).from _, rfl, fun h => by have h2 := h.length_le; rw [List.length_append, Hn.out] at h2; simp at h2; omega⟩
    case donec =>
      rintro D2 ys W2 hD2 rfl ⟨⟨i0, i1, i2, iC, iI, iW, iB, ip⟩, hKD⟩ hK2
      rw [← Hxs.out] at iI
      rw [Hn.out] at iI
      have c1 := i1.cell
      have cI := iI.cell
      have c2 := i2.cell
      have f2 := i2.frozen
      have HK1 := Lib.hid hKD
      have HK2 := Lib.hid hK2
      have hne : ¬ D2 = D := by intro e; subst e; rw [Hsz2.out] at hD2; omega
      clear iW hKD hK2 ip
      gi_wp2
      have hK2' : (W2.setCell ⟨w.heap.size + 1 + 1, 0, none⟩ (.bool true)).heap[D2]? = some (.deferred (some [])) := (KeepsOthers.setCell _ _ _).same D2 _ HK2.out rfl
      have hK1' : ((W2.setCell ⟨w.heap.size + 1 + 1, 0, none⟩ (.bool true)).putObj D2 (.deferred none)).heap[D]? = some (.deferred (some [])) := (World.putObj_heap_other (fun e => hne e.symm)).trans ((KeepsOthers.setCell _ _ _).same D _ HK1.out rfl)
      have hc2 : (((W2.setCell ⟨w.heap.size + 1 + 1, 0, none⟩ (.bool true)).putObj D2 (.deferred none)).putObj D (.deferred none)).cell? ⟨w.heap.size + 1 + 1, 0, none⟩ = some (.bool true) :=
        cell_kept (cell_kept (i2.set (.bool true)).cell (grownBy_putObj' _ D2 (.deferred none)) (fun r e => by cases e; exact ⟨_, hK2', rfl⟩)) (grownBy_putObj' _ D (.deferred none)) (fun r e => by cases e; exact ⟨_, hK1', rfl⟩)
      refine ⟨by simp, .inl ⟨_, _, rfl, run_takeDeferred hK2', ⟨by simp, .inl ⟨_, _, rfl, run_takeDeferred hK1', ?_⟩⟩⟩⟩
      have hD3 : w.heap.size ≤ D ∧ w.heap.size ≤ D2 := by simp at hD; rw [Hsz2.out] at hD2; omega
      have hb3 := below_put (below_put (iB.setCell (p := ⟨w.heap.size + 1 + 1, 0, none⟩) (by simp; omega) (.bool true)) hD3.2 (.deferred none)) hD3.1 (.deferred none)
      exact ⟨_, by simp [results, Try.results33, go_sem, hc2], rfl, hb3⟩
    case stopc =>
      rintro D2 c pre W2 _ hSp ⟨rfl, hbad⟩ _
      exact absurd (Hxs.out ▸ hSp) hbad
end Go.Proofs.Ytbdbhacniejagaa
