/- The contracts of value.May and of word.Text, word.Row. -/
import Derived.Test.YtmiipfdndgjndaaDoorI
import Derived.Outline
namespace Go.Proofs.YtmiipfdndgjndaaDoor
open Go.RowKit Go.Lib
set_option maxHeartbeats 1000000
def Left (w : World) (B : Nat) (p d : Int) : Prop := w.heap[B]? = some (.cells #[.int .i64 p, .int .i64 d] 120 (0, 0))
theorem Left.c0 {w : World} {B : Nat} {p d : Int} (h : Left w B p d) : w.cell? ⟨B, 0, none⟩ = some (.int .i64 p) := blk_cell h 0
theorem Left.c1 {w : World} {B : Nat} {p d : Int} (h : Left w B p d) : w.cell? ⟨B, 1, none⟩ = some (.int .i64 d) := blk_cell h 1
theorem Left.f {w : World} {B : Nat} {p d : Int} (h : Left w B p d) (k : Nat) : w.frozen? ⟨B, k, none⟩ = false := by simp [World.frozen?, show w.heap[B]? = _ from h]
theorem Left.lt {w : World} {B : Nat} {p d : Int} (h : Left w B p d) : B < w.heap.size := (Array.getElem?_eq_some_iff.1 h).1
theorem Left.alloc {w : World} {B : Nat} {p d : Int} (h : Left w B p d) (o : Obj) : Left (w.alloc o) B p d := (Below.heap_alloc w o B h.lt).trans h
theorem Left.set0 {w : World} {B : Nat} {p d : Int} (h : Left w B p d) (q : Int) : Left (w.setCell ⟨B, 0, none⟩ (.int .i64 q)) B q d := by
  unfold Left at h ⊢
  simp [World.setCell, Array.getElem?_modify, h]
theorem Left.set1 {w : World} {B : Nat} {p d : Int} (h : Left w B p d) (q : Int) : Left (w.setCell ⟨B, 1, none⟩ (.int .i64 q)) B p q := by
  unfold Left at h ⊢
  simp [World.setCell, Array.getElem?_modify, h]
theorem Left.at {w : World} {B : Nat} {p p' d d' : Int} (h : Left w B p d) (e : p = p') (e2 : d = d') : Left w B p' d' := e ▸ e2 ▸ h
theorem child_at {w wX : World} {S : Nat → Prop} {A : Option Addr} {l : List V} (hin : LIn w S A l 0) (hX : ∀ b, S b → wX.heap[b]? = w.heap[b]?) (k : Nat) (v : V) (hk : l[k]? = some v) :
    ∃ (b o : Nat) (k' n' : Int) (s' : ByteArray) (A' : Option Addr) (m' c' : Nat) (r' : Int), A = some ⟨b, o, none⟩ ∧ VIn wX S v [.int .u8 k', .int .i64 n', .string s', .slice A' m' c', .int .i64 r'] ∧
      wX.cell? ⟨b, o + k * 5, none⟩ = some (.int .u8 k') ∧ wX.cell? ⟨b, o + k * 5 + 1, none⟩ = some (.int .i64 n') ∧ wX.cell? ⟨b, o + k * 5 + 2, none⟩ = some (.string s') ∧ wX.cell? ⟨b, o + k * 5 + 3, none⟩ = some (.slice A' m' c') ∧ wX.cell? ⟨b, o + k * 5 + 4, none⟩ = some (.int .i64 r') ∧ S b := by
  obtain ⟨b, o, cs, h1, h2, h3, h4⟩ := hin.get k v hk
  obtain ⟨k', n', s', A', c', r', e1, e2⟩ := h4.forms
  subst e2
  have hX' : ∀ b, S b → S b ∧ wX.heap[b]? = w.heap[b]? := fun b hb => ⟨hb, hX b hb⟩
  have hc : ∀ j u, ([.int .u8 k', .int .i64 n', .string s', .slice A' v.lst.length c', .int .i64 r'] : List Value)[j]? = some u → wX.cell? ⟨b, o + k * 5 + j, none⟩ = some u := by
    intro j u hu
    have := h3 j u hu
    rw [Nat.zero_add] at this
    exact (World.cell?_of_block (hX _ h2)).trans this
  exact ⟨b, o, k', n', s', A', v.lst.length, c', r', h1, VIn.mono hX' v h4, hc 0 _ rfl, hc 1 _ rfl, hc 2 _ rfl, hc 3 _ rfl, hc 4 _ rfl, h2⟩
theorem But.setNew {B : Nat} {a b : World} (h : But B a b) {p : Addr} (hp : a.heap.size ≤ p.block) (v : Value) : But B a (b.setCell p v) :=
  ⟨h.os, h.tape, h.output, by simpa [World.setCell] using h.size, fun i hi hn => (Below.heap_setCell b p v i (by omega)).trans (h.block i hi hn)⟩
theorem Left.far {w : World} {B : Nat} {p d : Int} (h : Left w B p d) {a : Addr} (ha : B ≠ a.block) (v : Value) : Left (w.setCell a v) B p d := (Below.heap_setCell w a v B ha).trans h
def listEnd (nn rr : Int) (st : ByteArray) : Option Nat → Option Nat
  | none => none
  | some p' => if nn = 0 ∧ st.toList = [] ∧ rr = 0 then some p' else none
def TakePost (v : V) (p d : Nat) (B : Nat) (w : World) (e : Ending) (w' : World) : Prop :=
  e = .returned (.bool (takeV v p d).isSome) ∧ (∀ p', takeV v p d = some p' → Left w' B p' d) ∧ But B w w'
theorem take_none {v : V} {p d B : Nat} {w w' : World} (h : takeV v p d = none) (hbut : But B w w') : TakePost v p d B w (.returned (.bool false)) w' :=
  ⟨by rw [h]; rfl, fun p' hp' => by (rw [h] at hp'; cases hp'), hbut⟩
theorem take_end {v : V} {p d q B : Nat} {w w' : World} {b : Bool} {c : Prop} [Decidable c] (h : takeV v p d = if c then some q else none) (hb : b = decide c) (hl : Left w' B (q : Int) (d : Int)) (hbut : But B w w') : TakePost v p d B w (.returned (.bool b)) w' := by
  subst hb
  refine ⟨?_, ?_, hbut⟩
  · rw [h]; by_cases hc : c <;> simp [hc]
  · intro p' hp'
    rw [h] at hp'
    split at hp'
    · injection hp' with hp'
      subst hp'
      exact hl
    · cases hp'
theorem take_leaf {v : V} {p d B : Nat} {w w' : World} {b : Bool} {c : Prop} [Decidable c] (h : takeV v p d = if c then some (p - 1) else none) (hb : b = decide c) (hl : Left w' B ((p : Int) - 1) d) (hp : p ≠ 0) (hbut : But B w w') : TakePost v p d B w (.returned (.bool b)) w' := by
  subst hb
  refine ⟨?_, ?_, hbut⟩
  · rw [h]; by_cases hc : c <;> simp [hc]
  · intro p' hp'
    rw [h] at hp'
    split at hp'
    · injection hp' with hp'
      subst hp'
      rw [show (((p - 1 : Nat)) : Int) = (p : Int) - 1 by omega]
      exact hl
    · cases hp'
theorem size_nil (s : ByteArray) : s.size = 0 ↔ s.toList = [] := by
  rw [ByteArray.toList_eq, ← size_list]
  exact List.length_eq_zero_iff
theorem take_listEnd (nn rr : Int) (st : ByteArray) (l : List V) (p d : Nat) (hp0 : ¬ p = 0) (hd0 : ¬ d = 0) (hpl : ¬ p - 1 < l.length) : takeV (.mk 3 nn st l rr) p d = listEnd nn rr st (takeL l (p - 1) (d - 1)) := by
  rw [takeV, if_neg hp0, if_neg (by decide), if_neg (by decide), if_neg (by decide), if_neg (by decide), if_pos rfl, if_neg (by omega)]
  cases takeL l (p - 1) (d - 1) with
  | none => rfl
  | some q =>
    show (if _ then _ else _) = (if _ then _ else _)
    simp only [size_nil]
def TakeOk (v : V) : Prop := ∀ (B p d : Nat) (cs : List Value) (S : Nat → Prop) (w : World), Left w B p d → VIn w S v cs → (∀ b, S b → b < w.heap.size ∧ b ≠ B) → p ≤ 512 → d ≤ 16 →
  Calls Tryd.prog 90 #[.pointer (some ⟨B, 0, none⟩), .agg cs.toArray] w (TakePost v p d B w)
set_option maxRecDepth 100000 in
theorem take_list (nn : Int) (st : ByteArray) (l : List V) (rr : Int) (ih : ∀ v ∈ l, TakeOk v) : TakeOk (.mk 3 nn st l rr) := by
  intro B p d cs S w hleft hv hS hp hd
  obtain ⟨A, vc, rfl, hlc, hvc, hss, hin⟩ := hv
  have c0 := hleft.c0
  have c1 := hleft.c1
  have f0 := hleft.f 0
  have f1 := hleft.f 1
  have hlt := hleft.lt
  by_cases hp0 : p = 0
  · subst hp0
    go_enter Tryd.func90, Tryd.ntmps90
    go_wp2_with fail
    go_ret
    exact ⟨by simp [takeV], fun p' h => by simp [takeV] at h, (But.refl B w).alloc _⟩
  have hpb : ((p : Int) == 0) = false := by simp; omega
  by_cases hd0 : d = 0
  · subst hd0
    have ht : takeV (.mk 3 nn st l rr) p 0 = if False then some (p - 1) else none := by simp [takeV, hp0]
    have HT := Lib.hid ht
    clear ht
    go_enter Tryd.func90, Tryd.ntmps90
    go_wp2_with fail
    go_quiet (fail)
    go_wp2
    go_ret
    exact take_leaf (c := False) HT.out (by simp) (((((hleft.set0 _).alloc _).alloc _) : Left (((w.setCell ⟨B, 0, none⟩ (.int .i64 ((p : Int) - 1))).alloc (.cells #[.int .u8 3, .int .i64 nn, .string st, .slice A l.length vc, .int .i64 rr] 26)).alloc (.cells #[.int .u8 3, .int .i64 nn, .string st, .slice A l.length vc, .int .i64 rr] 26)) B ((p : Int) - 1) ((0 : Nat) : Int))) hp0 (((((But.refl B w).setCell 0 _).alloc _).alloc _).drewN _)
  have hdb : ((d : Int) == 0) = false := by simp; omega
  by_cases hpl : p - 1 < l.length
  · have ht : takeV (.mk 3 nn st l rr) p d = if False then some (p - 1) else none := by simp [takeV, hp0, hpl]
    have HT := Lib.hid ht
    clear ht
    have g : decide ((p : Int) - 1 < (l.length : Int)) = true := by simp; omega
    go_enter Tryd.func90, Tryd.ntmps90
    go_wp2_with fail
    go_quiet (fail)
    go_wp2
    go_ret
    exact take_leaf (c := False) HT.out (by simp) (((((hleft.set0 _).alloc _).alloc _) : Left (((w.setCell ⟨B, 0, none⟩ (.int .i64 ((p : Int) - 1))).alloc (.cells #[.int .u8 3, .int .i64 nn, .string st, .slice A l.length vc, .int .i64 rr] 26)).alloc (.cells #[.int .u8 3, .int .i64 nn, .string st, .slice A l.length vc, .int .i64 rr] 26)) B ((p : Int) - 1) (d : Int))) hp0 (((((But.refl B w).setCell 0 _).alloc _).alloc _).drewN _)
  have g : decide ((p : Int) - 1 < (l.length : Int)) = false := by simp; omega
  have HI := Lib.hid ih
  clear ih
  obtain ⟨R, hR⟩ : ∃ R, takeL l (p - 1) (d - 1) = R := ⟨_, rfl⟩
  have HR := Lib.hid hR
  have hfin : takeV (.mk 3 nn st l rr) p d = listEnd nn rr st R := hR ▸ take_listEnd nn rr st l p d hp0 hd0 hpl
  have HF := Lib.hid hfin
  clear hR hfin
  go_enter Tryd.func90, Tryd.ntmps90
  go_wp2_with fail
  go_quiet (fail)
  go_wp2
  have hL0 : Left (((((w.setCell ⟨B, 0, none⟩ (.int .i64 ((p : Int) - 1))).alloc (.cells #[.int .u8 3, .int .i64 nn, .string st, .slice A l.length vc, .int .i64 rr] 26)).alloc (.cells #[.int .u8 3, .int .i64 nn, .string st, .slice A l.length vc, .int .i64 rr] 26)).drewN nq).setCell ⟨B, 1, none⟩ (.int .i64 ((d : Int) - 1))) B ((p - 1 : Nat) : Int) ((d - 1 : Nat) : Int) := Left.at (Left.set1 (show Left ((((w.setCell ⟨B, 0, none⟩ (.int .i64 ((p : Int) - 1))).alloc (.cells #[.int .u8 3, .int .i64 nn, .string st, .slice A l.length vc, .int .i64 rr] 26)).alloc (.cells #[.int .u8 3, .int .i64 nn, .string st, .slice A l.length vc, .int .i64 rr] 26)).drewN nq) B ((p : Int) - 1) (d : Int) from (((hleft.set0 _).alloc _).alloc _)) ((d : Int) - 1)) (by omega) (by omega)
  have hB0 : But B w (((((w.setCell ⟨B, 0, none⟩ (.int .i64 ((p : Int) - 1))).alloc (.cells #[.int .u8 3, .int .i64 nn, .string st, .slice A l.length vc, .int .i64 rr] 26)).alloc (.cells #[.int .u8 3, .int .i64 nn, .string st, .slice A l.length vc, .int .i64 rr] 26)).drewN nq).setCell ⟨B, 1, none⟩ (.int .i64 ((d : Int) - 1))) := (((((But.refl B w).setCell 0 _).alloc _).alloc _).drewN nq).setCell 1 (.int .i64 ((d : Int) - 1))
  have h5 : (((((w.setCell ⟨B, 0, none⟩ (.int .i64 ((p : Int) - 1))).alloc (.cells #[.int .u8 3, .int .i64 nn, .string st, .slice A l.length vc, .int .i64 rr] 26)).alloc (.cells #[.int .u8 3, .int .i64 nn, .string st, .slice A l.length vc, .int .i64 rr] 26)).drewN nq).setCell ⟨B, 1, none⟩ (.int .i64 ((d : Int) - 1))).heap[w.heap.size + 1]? = some (.cells #[.int .u8 3, .int .i64 nn, .string st, .slice A l.length vc, .int .i64 rr] 26 (0, 0)) := by
    refine (Below.heap_setCell _ _ _ _ (by simp; omega)).trans ?_
    have := heap_alloc_new ((w.setCell ⟨B, 0, none⟩ (.int .i64 ((p : Int) - 1))).alloc (.cells #[.int .u8 3, .int .i64 nn, .string st, .slice A l.length vc, .int .i64 rr] 26)) (.cells #[.int .u8 3, .int .i64 nn, .string st, .slice A l.length vc, .int .i64 rr] 26)
    simpa [World.setCell] using this
  have hz : (((((w.setCell ⟨B, 0, none⟩ (.int .i64 ((p : Int) - 1))).alloc (.cells #[.int .u8 3, .int .i64 nn, .string st, .slice A l.length vc, .int .i64 rr] 26)).alloc (.cells #[.int .u8 3, .int .i64 nn, .string st, .slice A l.length vc, .int .i64 rr] 26)).drewN nq).setCell ⟨B, 1, none⟩ (.int .i64 ((d : Int) - 1))).heap.size = w.heap.size + 2 := by simp [World.setCell]
  generalize (((((w.setCell ⟨B, 0, none⟩ (.int .i64 ((p : Int) - 1))).alloc (.cells #[.int .u8 3, .int .i64 nn, .string st, .slice A l.length vc, .int .i64 rr] 26)).alloc (.cells #[.int .u8 3, .int .i64 nn, .string st, .slice A l.length vc, .int .i64 rr] 26)).drewN nq).setCell ⟨B, 1, none⟩ (.int .i64 ((d : Int) - 1))) = wl at hL0 hB0 h5 hz ⊢
  have HL0 := Lib.hid hL0
  have HB0 := Lib.hid hB0
  have H5 := Lib.hid h5
  have Hz := Lib.hid hz
  clear hL0 hB0 h5 hz
  go_loopw [68] (fun i wr => ∃ k q : Nat, k ≤ l.length ∧ i = .int .i64 k ∧ Left wr B (q : Int) ((d - 1 : Nat) : Int) ∧ But B wl wr ∧ takeL (l.drop k) q (d - 1) = R ∧ q ≤ 512) (fun i _ => l.length - (Go.RowKit.intOf i).toNat)
  case atStart => exact ⟨0, p - 1, by omega, rfl, HL0.out, But.refl _ _, HR.out, by omega⟩
  case round =>
    obtain ⟨k, q, hk, rfl, hl, hbt, hq, hq5⟩ := hrel
    have hsz := hbt.size
    have hwz := Hz.out
    have hB1 := HB0.out.trans hbt
    by_cases hklt : k < l.length
    · obtain ⟨v, hv⟩ : ∃ v, l[k]? = some v := ⟨l[k], List.getElem?_eq_getElem hklt⟩
      have hmem : v ∈ l := List.mem_of_getElem? hv
      have hdrop : l.drop k = v :: l.drop (k + 1) := by
        rw [List.drop_eq_getElem_cons hklt]
        congr 1
        rw [List.getElem?_eq_getElem hklt] at hv
        injection hv
      rw [hdrop, takeL] at hq
      obtain ⟨b3, o3, k', n', s', A', m', c', r', rfl, hvin, d0, d1, d2, d3, d4, hSb⟩ := child_at hin (fun b hb => hB1.block b (hS b hb).1 (hS b hb).2) k v hv
      have hcall := HI.out v hmem B q (d - 1) _ S (wr.alloc (.cells #[.int .u8 k', .int .i64 n', .string s', .slice A' m' c', .int .i64 r'] 26)) (hl.alloc _) (VIn.mono (fun b hb => ⟨hb, Below.heap_alloc wr _ b (by have := (hS b hb).1; omega)⟩) v hvin) (fun b hb => ⟨by have := (hS b hb).1; simp; omega, (hS b hb).2⟩) hq5 (by omega)
      have HC := Lib.hid hcall
      have Hl := Lib.hid hl
      have Hbt := Lib.hid hbt
      have HB1 := Lib.hid hB1
      have hpost := HF.out
      have Hv := Lib.hid hv
      have HD := Lib.hid hdrop
      clear hcall hl hbt hB1 hv hdrop
      cases hT : takeV v q (d - 1) with
      | none =>
        rw [hT] at hq
        dsimp only at hq
        subst hq
        have HT := Lib.hid hT
        clear hT
        go_wp2_with fail
        refine HC.out.mono ?_
        rintro e w2 ⟨he, _, hb2⟩
        rw [HT.out] at he
        subst he
        go_wp2
        go_ret
        exact take_none HF.out ((HB1.out.alloc _).trans hb2)
      | some q2 =>
        rw [hT] at hq
        dsimp only at hq
        have HT := Lib.hid hT
        have Hq := Lib.hid hq
        clear hT hq
        have hq2 := take_le _ _ _ _ HT.out
        go_wp2_with fail
        refine HC.out.mono ?_
        rintro e w2 ⟨he, hl2, hb2⟩
        rw [HT.out] at he
        subst he
        have hl3 := hl2 q2 HT.out
        clear hl2
        go_wp2
        exact ⟨⟨k + 1, q2, by omega, rfl, hl3, (Hbt.out.alloc _).trans hb2, Hq.out, by omega⟩, by simp [Go.RowKit.intOf]; omega⟩
    · obtain rfl : k = l.length := by omega
      rw [List.drop_length, takeL] at hq
      subst hq
      have hb5 : wr.heap[w.heap.size + 1]? = some (.cells #[.int .u8 3, .int .i64 nn, .string st, .slice A l.length vc, .int .i64 rr] 26 (0, 0)) := (hbt.block _ (by omega) (by omega)).trans H5.out
      have e1 := blk_cell hb5 1
      have e2 := blk_cell hb5 2
      have e3 := blk_cell hb5 3
      have e4 := blk_cell hb5 4
      have e6 : wr.frozen? ⟨w.heap.size + 1, 3, none⟩ = false := by simp [World.frozen?, hb5]
      have l1 := hl.c1
      have lf1 := hl.f 1
      have hne : ¬ B = w.heap.size + 1 := by omega
      have hne2 : ¬ w.heap.size + 1 = B := by omega
      have Hl := Lib.hid hl
      have Hbt := Lib.hid hbt
      have HB1 := Lib.hid hB1
      have Hwz := Lib.hid hwz
      clear hl hbt hB1 hb5 hwz
      go_wp2_with fail
      all_goals
        go_ret
        refine take_end (q := q) (c := nn = 0 ∧ st.toList = [] ∧ rr = 0) HF.out ?_ ?_ ((HB1.out.setCell 1 _).setNew (by simp) _)
        · rw [Bool.eq_iff_iff]
          simp [*]
        · exact Left.at (Left.far (Hl.out.set1 _) (by simpa using hne) _) rfl (by omega)
set_option maxRecDepth 100000 in
theorem takeOk_of (kk nn : Int) (st : ByteArray) (l : List V) (rr : Int) (ih : ∀ v ∈ l, TakeOk v) : TakeOk (.mk kk nn st l rr) := by
  intro B p d cs S w hleft hv hS hp hd
  obtain ⟨A, vc, rfl, hlc, hvc, hss, hin⟩ := hv
  have c0 := hleft.c0
  have c1 := hleft.c1
  have f0 := hleft.f 0
  have f1 := hleft.f 1
  have hlt := hleft.lt
  by_cases hp0 : p = 0
  · subst hp0
    go_enter Tryd.func90, Tryd.ntmps90
    go_wp2_with fail
    go_ret
    exact ⟨by simp [takeV], fun p' h => by simp [takeV] at h, (But.refl B w).alloc _⟩
  have hpb : ((p : Int) == 0) = false := by simp; omega
  by_cases k0 : kk = 0
  · subst k0
    go_enter Tryd.func90, Tryd.ntmps90
    go_wp2_with fail
    all_goals
      go_ret
      refine take_leaf (c := nn = 0 ∧ st.toList = [] ∧ rr = 0 ∧ l.length = 0) (by simp only [← size_nil]; simp [takeV, hp0]) ?_ (((hleft.set0 _).alloc _).alloc _) hp0 ((((But.refl B w).setCell 0 _).alloc _).alloc _)
      rw [Bool.eq_iff_iff]
      simp [*]
  have b0 : (kk == 0) = false := by simpa using k0
  by_cases k1 : kk = 1
  · subst k1
    go_enter Tryd.func90, Tryd.ntmps90
    go_wp2_with fail
    all_goals
      go_ret
      refine take_leaf (c := st.toList = [] ∧ rr = 0 ∧ l.length = 0) (by simp only [← size_nil]; simp [takeV, hp0]) ?_ (((hleft.set0 _).alloc _).alloc _) hp0 ((((But.refl B w).setCell 0 _).alloc _).alloc _)
      rw [Bool.eq_iff_iff]
      simp [*]
  have b1 : (kk == 1) = false := by simpa using k1
  by_cases k2 : kk = 2
  · subst k2
    by_cases h256 : st.size ≤ 256
    · have g : decide ((256 : Int) < (st.size : Int)) = false := by simp; omega
      go_enter Tryd.func90, Tryd.ntmps90
      go_wp2_with fail
      all_goals
        go_ret
        refine take_leaf (c := nn = 0 ∧ rr = 0 ∧ l.length = 0) (by simp [takeV, hp0, h256]) ?_ (((hleft.set0 _).alloc _).alloc _) hp0 ((((But.refl B w).setCell 0 _).alloc _).alloc _)
        rw [Bool.eq_iff_iff]
        simp [*]
    · have g : decide ((256 : Int) < (st.size : Int)) = true := by simp; omega
      go_enter Tryd.func90, Tryd.ntmps90
      go_wp2_with fail
      go_ret
      exact take_leaf (c := False) (by simp [takeV, hp0, h256]) (by simp) (((hleft.set0 _).alloc _).alloc _) hp0 ((((But.refl B w).setCell 0 _).alloc _).alloc _)
  have b2 : (kk == 2) = false := by simpa using k2
  by_cases k4 : kk = 4
  · subst k4
    by_cases h1 : 1 ≤ rr
    · have g : decide (rr < 1) = false := by simp; omega
      go_enter Tryd.func90, Tryd.ntmps90
      go_wp2_with fail
      all_goals
        go_ret
        refine take_leaf (c := nn = 0 ∧ st.toList = [] ∧ l.length = 0) (by simp only [← size_nil]; simp [takeV, hp0, h1]) ?_ (((hleft.set0 _).alloc _).alloc _) hp0 ((((But.refl B w).setCell 0 _).alloc _).alloc _)
        rw [Bool.eq_iff_iff]
        simp [*]
    · have g : decide (rr < 1) = true := by simp; omega
      have ht : takeV (.mk 4 nn st l rr) p d = if False then some (p - 1) else none := by simp [takeV, hp0, h1]
      have HT := Lib.hid ht
      clear ht
      go_enter Tryd.func90, Tryd.ntmps90
      go_wp2_with fail
      go_ret
      exact take_leaf (c := False) HT.out (by simp) (((hleft.set0 _).alloc _).alloc _) hp0 ((((But.refl B w).setCell 0 _).alloc _).alloc _)
  have b4 : (kk == 4) = false := by simpa using k4
  by_cases k3 : kk = 3
  · subst k3
    exact take_list nn st l rr ih B p d _ S w hleft ⟨A, vc, rfl, hlc, hvc, hss, hin⟩ hS hp hd
  have b3 : (kk == 3) = false := by simpa using k3
  go_enter Tryd.func90, Tryd.ntmps90
  go_wp2_with fail
  go_ret
  exact take_leaf (c := False) (by simp [takeV, hp0, k0, k1, k2, k3, k4]) (by simp) (((hleft.set0 _).alloc _).alloc _) hp0 ((((But.refl B w).setCell 0 _).alloc _).alloc _)
theorem take_any (v : V) : TakeOk v := V.induct takeOk_of v
end Go.Proofs.YtmiipfdndgjndaaDoor
