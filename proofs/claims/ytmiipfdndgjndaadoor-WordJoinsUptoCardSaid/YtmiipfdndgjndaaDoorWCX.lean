/- The contracts of SameTokens (of the same tokens) and of the law's tokens. -/
import Derived.Test.YtmiipfdndgjndaaDoorNJ
import Derived.Test.YtmiipfdndgjndaaDoorSM
import Derived.Test.YtmiipfdndgjndaaDoorWQ
import Derived.Test.YtmiipfdndgjndaaDoorCU
import Derived.Deep.QuietTactic
import Derived.BigQuiet
import Derived.Test.YtmiipfdndgjndaaDoorONX
namespace Go.Proofs.YtmiipfdndgjndaaDoor
open Go.RowKit Go.Lib
set_option maxHeartbeats 1000000
theorem tokCs_get : ∀ (l : List T) (k : Nat) (t : T) (j : Nat) (u : Value), l[k]? = some t → (tokC t)[j]? = some u → (tokCs l)[k * 5 + j]? = some u := by
  intro l
  induction l with
  | nil => intro k t j u h _; simp at h
  | cons x l ih =>
    intro k t j u h hu
    have h5 : (tokC x).length = 5 := by cases x; rfl
    have he : tokCs (x :: l) = tokC x ++ tokCs l := by simp [tokCs]
    rw [he]
    cases k with
    | zero =>
      simp at h
      subst h
      rw [Nat.zero_mul, Nat.zero_add, List.getElem?_append_left (by have := (List.getElem?_eq_some_iff.1 hu).1; omega)]
      exact hu
    | succ k =>
      rw [List.getElem?_append_right (by omega), h5, show (k + 1) * 5 + j - 5 = k * 5 + j by omega]
      exact ih k t j u (by simpa using h) hu
theorem tokin_own {w : World} {base : Nat} {A : Option Addr} {cap : Nat} {l : List T} (h : w.ownsRow base 56 5 (.slice A l.length cap) l.length (tokCs l)) : TokIn w (fun b => base ≤ b ∧ b < w.heap.size ∧ (Value.slice A l.length cap).ownBlock = some b) A l := by
  intro k t ht
  have hcells := @World.ownsRow.cells _ _ _ _ _ _ _ h
  have hlt := h.lt
  rcases h.2 with ⟨h1, h2⟩ | ⟨g, cap', cur, h1, hb, hgg, hn, _⟩
  · have := List.length_eq_zero_iff.1 h2
    subst this
    simp at ht
  · injection h1 with h1 _ _
    subst h1
    refine ⟨g, 0, rfl, ⟨hb, (hlt g rfl).2, rfl⟩, fun j u hu => ?_⟩
    have := hcells (g := g) rfl (k * 5 + j) u (tokCs_get l k t j u ht hu)
    rw [add_zero_block] at this
    rw [show 0 + k * 5 + j = k * 5 + j by omega]
    exact this
theorem TokIn.weaken {w : World} {S S' : Nat → Prop} {A : Option Addr} {l : List T} (h : TokIn w S A l) (hS : ∀ b, S b → S' b) : TokIn w S' A l := by
  intro k t ht
  obtain ⟨b, o, h1, h2, h3⟩ := h k t ht
  exact ⟨b, o, h1, hS b h2, h3⟩
theorem TokIn.keep {w w' : World} {S S' : Nat → Prop} {A : Option Addr} {l : List T} (h : TokIn w S A l) (hS : ∀ b, S b → S' b ∧ w'.heap[b]? = w.heap[b]?) : TokIn w' S' A l := by
  intro k t ht
  obtain ⟨b, o, h1, h2, h3⟩ := h k t ht
  exact ⟨b, o, h1, (hS b h2).1, fun j u hu => (World.cell?_of_block (hS b h2).2).trans (h3 j u hu)⟩
set_option maxRecDepth 100000 in
theorem sameTok_true (l : List T) (A1 A2 : Option Addr) (c1 c2 : Nat) (S1 S2 : Nat → Prop) (w : World) (hl : l.length ≤ 140737488351232) (h1 : TokIn w S1 A1 l) (h2 : TokIn w S2 A2 l) (hS1 : ∀ b, S1 b → b < w.heap.size) (hS2 : ∀ b, S2 b → b < w.heap.size) :
    Calls Tryd.prog 52 #[.slice A1 l.length c1, .slice A2 l.length c2, .bool true] w fun e w' => e = .returned (.bool true) ∧ Below w.heap.size w w' := by
  have H1 := Lib.hid h1
  have H2 := Lib.hid h2
  clear h1 h2
  go_enter Tryd.func52, Tryd.ntmps52
  go_wp2_with fail
  go_loopw [7] (fun i wr => ∃ k : Nat, i = .int .i64 k ∧ k ≤ l.length ∧ Below w.heap.size w wr) (fun i _ => l.length - (Go.RowKit.intOf i).toNat)
  case atStart => exact ⟨0, rfl, by omega, Below.refl _ _⟩
  case round =>
    obtain ⟨k, rfl, hk, hb⟩ := hrel
    have hsz := hb.size
    have HB := Lib.hid hb
    clear hb
    by_cases hlt : k < l.length
    · have hkI : decide ((k : Int) < (l.length : Int)) = true := by simp; omega
      obtain ⟨t, ht⟩ : ∃ t, l[k]? = some t := ⟨l[k], List.getElem?_eq_getElem hlt⟩
      obtain ⟨b1, o1, rfl, hb1, d0, d1, d2, d3, d4⟩ := tok_facts H1.out hS1 HB.out k t ht
      obtain ⟨b2, o2, rfl, hb2, e0, e1, e2, e3, e4⟩ := tok_facts H2.out hS2 HB.out k t ht
      have af : ∀ (o : Obj) (j : Nat), (wr.alloc o).cell? ⟨b2, j, none⟩ = wr.cell? ⟨b2, j, none⟩ := fun o j => World.cell?_of_block (Below.heap_alloc wr o b2 (by omega))
      obtain ⟨tk, tp, tn, ts, tr⟩ := t
      have a0 : ∀ o : Obj, (wr.alloc o).cell? ⟨b2, o2 + k * 5, none⟩ = some (.int .u8 tk) := fun o => (af o _).trans e0
      have a1 : ∀ o : Obj, (wr.alloc o).cell? ⟨b2, o2 + k * 5 + 1, none⟩ = some (.int .i64 tp) := fun o => (af o _).trans e1
      have a2 : ∀ o : Obj, (wr.alloc o).cell? ⟨b2, o2 + k * 5 + 2, none⟩ = some (.int .i64 tn) := fun o => (af o _).trans e2
      have a3 : ∀ o : Obj, (wr.alloc o).cell? ⟨b2, o2 + k * 5 + 3, none⟩ = some (.string ts) := fun o => (af o _).trans e3
      have a4 : ∀ o : Obj, (wr.alloc o).cell? ⟨b2, o2 + k * 5 + 4, none⟩ = some (.int .i64 tr) := fun o => (af o _).trans e4
      dsimp only at d0 d1 d2 d3 d4
      clear af ht e0 e1 e2 e3 e4
      go_wp2_with fail
      go_quiet (fail)
      go_wp2_with fail
      exact ⟨⟨k + 1, by simp, by omega, below_drewN (HB.out.alloc HB.out.size _) _⟩, by simp [Go.RowKit.intOf]; omega⟩
    · have hkI : decide ((k : Int) < (l.length : Int)) = false := by simp; omega
      go_wp2
      go_ret
      exact ⟨rfl, HB.out⟩
end Go.Proofs.YtmiipfdndgjndaaDoor
/- The contract of the reference's Cut. -/
namespace Go.Proofs.YtmiipfdndgjndaaDoor
open Go.RowKit Go.Lib
set_option maxHeartbeats 2000000
theorem sign_not (c : Int) (h : letterI c = true ∨ digitI c = true ∨ c = 34 ∨ c = 35 ∨ c = 45) : signI c = false := by
  cases hx : signI c with
  | false => rfl
  | true =>
    exfalso
    unfold signI signs at hx
    simp only [List.any_cons, List.any_nil, Bool.or_false, Bool.or_eq_true, beq_iff_eq] at hx
    have h' : (97 ≤ c ∧ c ≤ 122) ∨ (48 ≤ c ∧ c ≤ 57) ∨ c = 34 ∨ c = 35 ∨ c = 45 := by
      rcases h with h | h | h
      · left; unfold letterI at h; simpa using h
      · right; left; exact (digitI_iff c).1 h
      · right; right; exact h
    omega
theorem oneR_inv {s : ByteArray} {k : Nat} {t : T} {k' : Nat} (h : oneR s k = .ok (t, k')) (ht : (t.kind != 5) = true) (hk : k' < s.size) : letterI (bAt s k') = false ∧ digitI (bAt s k') = false := by
  unfold oneR at h
  cases hx : tokF s k with
  | error q => rw [hx] at h; cases h
  | ok r =>
    obtain ⟨t1, k1⟩ := r
    rw [hx] at h
    dsimp only at h
    by_cases h5 : t1.kind = 5
    · rw [if_pos h5] at h
      injection h with h
      injection h with h _
      subst h
      simp [h5] at ht
    · rw [if_neg h5, endChk_of] at h
      by_cases hb : k1 < s.size ∧ (letterI (bAt s k1) || digitI (bAt s k1)) = true
      · rw [if_pos hb] at h; cases h
      · rw [if_neg hb] at h
        injection h with h
        injection h with _ h
        subst h
        cases hl : letterI (bAt s k1) with
        | true => exact absurd ⟨hk, by rw [hl]; rfl⟩ hb
        | false =>
          cases hd : digitI (bAt s k1) with
          | true => exact absurd ⟨hk, by rw [hl, hd]; rfl⟩ hb
          | false => exact ⟨rfl, rfl⟩
theorem oneR_lt {s : ByteArray} {k : Nat} (hk : k < s.size) {t : T} {k' : Nat} (h : oneR s k = .ok (t, k')) : k < k' ∧ k' ≤ s.size := by
  unfold oneR at h
  cases hx : tokF s k with
  | error q => rw [hx] at h; cases h
  | ok r =>
    obtain ⟨t1, k1⟩ := r
    have h1 := tokF_lt s k hk t1 k1 hx
    rw [hx] at h
    dsimp only at h
    by_cases h5 : t1.kind = 5
    · rw [if_pos h5] at h
      injection h with h
      injection h with _ h
      subst h
      exact ⟨h1.1, h1.2.1⟩
    · rw [if_neg h5, endChk_of] at h
      by_cases hb : k1 < s.size ∧ (letterI (bAt s k1) || digitI (bAt s k1)) = true
      · rw [if_pos hb] at h; cases h
      · rw [if_neg hb] at h
        injection h with h
        injection h with _ h
        subst h
        exact ⟨h1.1, h1.2.1⟩
theorem cut_bad (s : ByteArray) (f k : Nat) (acc : List T) (hk : k < s.size) (hc : bAt s k = 34 ∨ bAt s k = 35 ∨ bAt s k = 45) : cutL s (f + 1) true k acc = .error k := by
  rw [cutL, if_pos hk, if_neg (by omega), if_pos ⟨rfl, sign_not _ (.inr (.inr hc))⟩]
theorem cut_step (s : ByteArray) (f : Nat) (tight : Bool) (k : Nat) (acc : List T) (hk : k < s.size) (h32 : ¬ bAt s k = 32) (hno : ¬ (tight = true ∧ (bAt s k = 34 ∨ bAt s k = 35 ∨ bAt s k = 45)))
    (hinv : tight = true → letterI (bAt s k) = false ∧ digitI (bAt s k) = false) (hf : s.size < k + (f + 1)) :
    cutL s (f + 1) tight k acc = (match oneR s k with | .error q => .error q | .ok (t, k') => cutL s f (t.kind != 5) k' (acc ++ [t])) := by
  rw [cutL, if_pos hk, if_neg h32]
  by_cases ht : tight = true ∧ signI (bAt s k) = false
  · rw [if_pos ht]
    obtain ⟨hl, hd⟩ := hinv ht.1
    have h34 : ¬ bAt s k = 34 := fun h => hno ⟨ht.1, .inl h⟩
    have h35 : ¬ bAt s k = 35 := fun h => hno ⟨ht.1, .inr (.inl h)⟩
    have h45 : ¬ bAt s k = 45 := fun h => hno ⟨ht.1, .inr (.inr h)⟩
    have he : tokF s k = .error k := by
      unfold tokF
      rw [if_neg (by rw [hl]; simp), if_neg (by rw [hd]; simp; exact h45), if_neg h35, if_neg h34, if_neg (by rw [ht.2]; simp)]
    unfold oneR
    rw [he]
  · rw [if_neg ht]
    unfold oneR
    cases hx : tokF s k with
    | error q => rfl
    | ok r =>
      obtain ⟨t, k'⟩ := r
      have hlt := tokF_lt s k hk t k' hx
      dsimp only
      by_cases h5 : t.kind = 5
      · rw [if_pos h5]
      · rw [if_neg h5, endChk_of]
        by_cases hb : k' < s.size ∧ (letterI (bAt s k') || digitI (bAt s k')) = true
        · rw [if_pos hb]
          obtain ⟨g, rfl⟩ : ∃ g, f = g + 1 := ⟨f - 1, by omega⟩
          have hld : letterI (bAt s k') = true ∨ digitI (bAt s k') = true := by simpa using hb.2
          have h32' : ¬ bAt s k' = 32 := by
            intro h
            rw [h] at hld
            rcases hld with h | h <;> cases h
          rw [cutL, if_pos hb.1, if_neg h32', if_pos ⟨by simpa using h5, sign_not _ (by rcases hld with h | h; exact .inl h; exact .inr (.inl h))⟩]
        · rw [if_neg hb]
set_option maxRecDepth 100000 in
theorem refCut_long (s : ByteArray) (w : World) (hlong : 1048576 < s.size) : Calls Tryd.prog 21 #[.string s] w (CutPost ([], 0, 4) w) := by
  have t0 : decide ((1048576 : Int) < (s.size : Int)) = true := by simp; omega
  go_enter Tryd.func21, Tryd.ntmps21
  go_wp2
  go_ret3
  exact ⟨⟨_, _, rfl, World.ownsRow_nil _ _ _ _⟩, Below.refl _ _⟩
set_option maxRecDepth 100000 in
theorem refCut_any (s : ByteArray) (w : World) (hs : ¬ 1048576 < s.size) : Calls Tryd.prog 21 #[.string s] w (CutPost (cutF s) w) := by
  have t0 : decide ((1048576 : Int) < (s.size : Int)) = false := by simp; omega
  obtain ⟨i0, hi, hz0, hz1, hz2⟩ := info_parts info56
  obtain ⟨R, hR⟩ : ∃ R, cutL s (s.size + 1) false 0 [] = R := ⟨_, rfl⟩
  have hcf : cutF s = cutRes R := by
    unfold cutF
    rw [if_neg hs, hR]
    cases R <;> rfl
  rw [hcf]
  have HR := Lib.hid hR
  clear hR hcf
  go_enter Tryd.func21, Tryd.ntmps21
  go_wp2_with fail
  go_loopw [5, 6, 7] (fun sv av tv wr => ∃ (k f : Nat) (tg : Bool) (acc : List T), av = .int .i64 k ∧ tv = .bool tg ∧ k ≤ s.size ∧ s.size < k + f ∧ cutL s f tg k acc = R ∧ (tg = true → k < s.size → letterI (bAt s k) = false ∧ digitI (bAt s k) = false) ∧ acc.length ≤ k ∧ wr.ownsRow w.heap.size 56 5 sv acc.length (tokCs acc) ∧ Below w.heap.size w wr) (fun _ av _ _ => s.size - (Go.RowKit.intOf av).toNat)
  case atStart => exact ⟨0, s.size + 1, false, [], rfl, rfl, by omega, by omega, HR.out, (fun h => by cases h), by simp, World.ownsRow_nil _ _ _ _, Below.refl _ _⟩
  case round =>
    clear HR
    obtain ⟨k, f, tg, acc, rfl, rfl, hk, hf, hq, hinv, hal, hown, hbw⟩ := hrel
    obtain ⟨f, rfl⟩ : ∃ g, f = g + 1 := ⟨f - 1, by omega⟩
    obtain ⟨ad, cap, rfl⟩ := own_slice hown
    have hsz := hbw.size
    have HO := Lib.hid hown
    have HBW := Lib.hid hbw
    clear hown hbw
    by_cases hlt : k < s.size
    · have hkI : decide ((k : Int) < (s.size : Int)) = true := by simp; omega
      have g0 : (0 : Int) ≤ (k : Int) := by omega
      have g1 : (k : Int) < (s.size : Int) := by omega
      have hbe := bAt_eq s k hlt
      by_cases h32 : bAt s k = 32
      · rw [cutL, if_pos hlt, if_pos h32] at hq
        rw [h32] at hbe
        have Hq := Lib.hid hq
        clear hq hinv h32
        go_wp2_with fail
        exact ⟨⟨k + 1, f, false, acc, by simp, rfl, by omega, by omega, Hq.out, (fun h => by cases h), by omega, HO.out, HBW.out⟩, by simp [Go.RowKit.intOf]; omega⟩
      · have u32 : (bAt s k == 32) = false := by simpa using h32
        by_cases hbad : tg = true ∧ (bAt s k = 34 ∨ bAt s k = 35 ∨ bAt s k = 45)
        · obtain ⟨rfl, hc⟩ := hbad
          rw [cut_bad s f k acc hlt hc] at hq
          subst hq
          have FIN : Hid (∀ W, Below w.heap.size w W → CutPost (cutRes (.error k)) w (.returned (.tuple #[.slice none 0 0, .int .i64 (k : Int), .int .i64 30])) W) := Lib.hid (fun W h => ⟨⟨_, _, rfl, World.ownsRow_nil _ _ _ _⟩, h⟩)
          clear hinv h32
          generalize bAt s k = c at hbe u32 hc
          rcases hc with rfl | rfl | rfl
          all_goals
            go_wp2_with fail
            go_ret3
            exact FIN.out _ HBW.out
        · rw [cut_step s f tg k acc hlt h32 hbad (fun h => hinv h hlt) hf] at hq
          have hone := fun W => one_any s k W (by omega) hlt
          have hr1 : ∀ t k', oneR s k = .ok (t, k') → (k < k' ∧ k' ≤ s.size) ∧ ((t.kind != 5) = true → k' < s.size → letterI (bAt s k') = false ∧ digitI (bAt s k') = false) := fun t k' h => ⟨oneR_lt hlt h, fun h1 h2 => oneR_inv h h1 h2⟩
          have u34 : tg = false ∨ (tg = true ∧ (bAt s k == 34) = false ∧ (bAt s k == 35) = false ∧ (bAt s k == 45) = false) := by
            cases tg with
            | false => exact .inl rfl
            | true =>
              refine .inr ⟨rfl, ?_, ?_, ?_⟩
              · cases hx : (bAt s k == 34) with
                | false => rfl
                | true => exact absurd ⟨rfl, .inl (by simpa using hx)⟩ hbad
              · cases hx : (bAt s k == 35) with
                | false => rfl
                | true => exact absurd ⟨rfl, .inr (.inl (by simpa using hx))⟩ hbad
              · cases hx : (bAt s k == 45) with
                | false => rfl
                | true => exact absurd ⟨rfl, .inr (.inr (by simpa using hx))⟩ hbad
          clear hinv h32 hbad
          generalize bAt s k = c at hbe u32 u34
          generalize oneR s k = r at hq hone hr1
          cases r with
          | error q =>
            dsimp only at hq
            subst hq
            have FIN : Hid (∀ W, Below w.heap.size w W → CutPost (cutRes (.error q)) w (.returned (.tuple #[.slice none 0 0, .int .i64 (q : Int), .int .i64 30])) W) := Lib.hid (fun W h => ⟨⟨_, _, rfl, World.ownsRow_nil _ _ _ _⟩, h⟩)
            have HON := Lib.hid hone
            clear hone hr1
            rcases u34 with rfl | ⟨rfl, u1, u2, u3⟩
            all_goals
              go_wp2_with fail
              refine (HON.out _).mono ?_
              rintro e w2 ⟨⟨xa, xb, xc, xd, xf, rfl⟩, hb2⟩
              have HB2 := Lib.hid (below_next HBW.out hb2)
              clear hb2
              go_wp2_with fail
              go_ret3
              exact FIN.out _ (HB2.out.alloc HB2.out.size _)
          | ok rr =>
            obtain ⟨t, k'⟩ := rr
            obtain ⟨⟨hk1, hk2⟩, hiv⟩ := hr1 t k' rfl
            dsimp only at hq
            have htc : tokCs (acc ++ [t]) = tokCs acc ++ tokC t := tokCs_snoc acc t
            obtain ⟨tk, tp, tn, ts, tr⟩ := t
            unfold OnePost tokV at hone
            dsimp only at hone hiv
            have HON := Lib.hid hone
            have Hq := Lib.hid hq
            have HIV := Lib.hid hiv
            have HTC := Lib.hid htc
            clear hone hr1 hq hiv htc
            rcases u34 with rfl | ⟨rfl, u1, u2, u3⟩
            all_goals
              go_wp2_with fail
              refine (HON.out _).mono ?_
              rintro e w2 ⟨rfl, hb2⟩
              have hs2 := hb2.size
              have HO2 := Lib.hid (own_of_block HO.out (fun g hg => hb2.block g (HO.out.lt g hg).2))
              have HB2 := Lib.hid (below_next HBW.out hb2)
              clear hb2
              go_wp2_with (at_builtin; refine wpList_append_lies _ rfl _ _ 40 rfl w.heap.size 56 i0 (.agg #[.int .u8 0, .int .i64 0, .int .i64 0, .string ⟨#[]⟩, .int .i64 0]) 5 48 Tryd.underlying40 hi hz0 hz1 hz2 rfl (by decide) _ acc.length (tokCs acc) rfl (by exact (HO2.out.alloc _).alloc _) _ 1 1 _ rfl rfl (cells_at _ _ (by simp) _ _) (by simp [Value.oneCell']) (by decide) (by unfold maxLen; omega) (by omega) (by (try simp) <;> omega) _ rfl ?_; intro g cap3 w3 hown3 hgrow3 hat3 hlt3; have hx3 := (hgrow3.block w2.heap.size (by simp; omega) (fun e => by have := (HO2.out.lt _ e.symm).2; omega)).trans ((Below.heap_alloc _ _ _ (by simp)).trans (heap_alloc_new w2 (.cells #[.int .u8 tk, .int .i64 tp, .int .i64 tn, .string ts, .int .i64 tr] 56))); have cx3 : w3.cell? ⟨w2.heap.size, 0, none⟩ = some (.int .u8 tk) := blk_cell hx3 0; have hb3 : Below w.heap.size w w3 := ((HB2.out.alloc HB2.out.size _).alloc (by simp; omega) _).trans ⟨hgrow3.os, hgrow3.tape, hgrow3.output, hgrow3.size, fun i hi => hgrow3.block i (by simp; omega) (fun e => by have := (HO2.out.lt _ e.symm).1; omega)⟩; have HO3 := Lib.hid hown3; have HB3 := Lib.hid hb3; clear hown3 hgrow3 hat3 hlt3 hx3 hb3)
              refine ⟨⟨k', f, _, acc ++ [⟨tk, tp, tn, ts, tr⟩], rfl, rfl, hk2, by omega, Hq.out, HIV.out, by simp; omega, ?_, HB3.out⟩, by simp [Go.RowKit.intOf]; omega⟩
              rw [HTC.out, List.length_append]
              exact HO3.out
    · have hkI : decide ((k : Int) < (s.size : Int)) = false := by simp; omega
      rw [cutL, if_neg hlt] at hq
      subst hq
      go_wp2
      go_ret3
      exact ⟨⟨ad, cap, rfl, HO.out⟩, HBW.out⟩
theorem refCut_whole (s : ByteArray) (w : World) : Calls Tryd.prog 21 #[.string s] w (CutPost (cutF s) w) := by
  by_cases hs : 1048576 < s.size
  · have h := refCut_long s w hs
    unfold cutF
    rw [if_pos hs]
    exact h
  · exact refCut_any s w hs
theorem cut_whole (s : ByteArray) (w : World) (hE : ErrVar w) : Calls Tryd.prog 20 #[.string s] w (CutPost (cutF s) w) := by
  by_cases hs : 1048576 < s.size
  · have h := cut_long s w hs
    unfold cutF
    rw [if_pos hs]
    exact h
  · exact cut_any s w hs hE
end Go.Proofs.YtmiipfdndgjndaaDoor
/- The law's tokens, and the walk of WordCuts. -/
namespace Go.Proofs.YtmiipfdndgjndaaDoor
open Go.RowKit Go.Lib
set_option maxHeartbeats 1000000
set_option maxRecDepth 100000 in
theorem tokens_any (l : List T) (A1 A2 A3 : Option Addr) (c1 c2 c3 base mid : Nat) (w : World) (hl : l.length ≤ 140737488351232)
    (h1 : w.ownsRow base 56 5 (.slice A1 l.length c1) l.length (tokCs l)) (h2 : w.ownsRow mid 56 5 (.slice A2 l.length c2) l.length (tokCs l)) (h3 : w.ownsRow mid 56 5 (.slice A3 l.length c3) l.length (tokCs l))
    (hg : ∀ g, (Value.slice A1 l.length c1).ownBlock = some g → g < mid) (hbm : base ≤ mid) (hmw : mid ≤ w.heap.size) :
    Calls Tryd.prog 22 #[.slice A1 l.length c1, .slice A2 l.length c2, .slice A3 l.length c3] w fun e w' => e = .returned (.bool true) ∧ Below base w w' := by
  have T1 := Lib.hid (tokin_own h1)
  have T2 := Lib.hid (tokin_own h2)
  have T3 := Lib.hid (tokin_own h3)
  have hgl : ∃ g : Nat, base ≤ g ∧ (g < mid ∨ w.heap.size ≤ g) ∧ (l ≠ [] → A1 = some ⟨g, 0, none⟩ ∧ ∃ cs : Array Value, w.heap[g]? = some (.cells cs 56 (0, 0)) ∧ l.length * 5 ≤ cs.size) := by
    rcases h1.2 with ⟨e1, e2⟩ | ⟨g, cap, cur, e1, hb, hgg, hn, _, hcs, _⟩
    · exact ⟨w.heap.size, by omega, .inr (Nat.le_refl _), fun h => absurd (List.length_eq_zero_iff.1 e2) h⟩
    · injection e1 with e1 _ e3
      subst e1
      refine ⟨g, hb, .inl (hg g rfl), fun _ => ⟨rfl, cur, hgg, ?_⟩⟩
      rw [hcs]
      exact Nat.mul_le_mul_right 5 hn
  obtain ⟨g, hg0, hg1, hg2⟩ := hgl
  have HG := Lib.hid hg2
  have S1C := Lib.hid (sameTok_true l A1 A3 c1 c3 _ _ w hl T1.out T3.out (fun b h => h.2.1) (fun b h => h.2.1))
  clear h1 h2 h3 hg hg2
  go_enter Tryd.func22, Tryd.ntmps22
  go_wp2_with fail
  refine S1C.out.mono ?_
  rintro e w1 ⟨rfl, hb1⟩
  have hs1 := hb1.size
  have HB1 := Lib.hid hb1
  clear hb1 S1C
  go_wp2_with fail
  go_loopw [7] (fun i wr => ∃ k : Nat, i = .int .i64 k ∧ k ≤ l.length ∧ But g w1 wr ∧ (l ≠ [] → ∃ cs : Array Value, wr.heap[g]? = some (.cells cs 56 (0, 0)) ∧ l.length * 5 ≤ cs.size)) (fun i _ => l.length - (Go.RowKit.intOf i).toNat)
  case atStart =>
    refine ⟨0, rfl, by omega, But.refl _ _, fun h => ?_⟩
    obtain ⟨_, cs, h3, h4⟩ := HG.out h
    exact ⟨cs, (HB1.out.block g (Array.getElem?_eq_some_iff.1 h3).1).trans h3, h4⟩
  case round =>
    obtain ⟨k, rfl, hk, hbt, hcs⟩ := hrel
    have hsr := hbt.size
    have HBT := Lib.hid hbt
    clear hbt
    by_cases hlt : k < l.length
    · have hne : l ≠ [] := fun e => by rw [e] at hlt; simp at hlt
      obtain ⟨cs, hcs, hbig⟩ := hcs hne
      obtain rfl := (HG.out hne).1
      have hkI : decide ((k : Int) < (l.length : Int)) = true := by simp; omega
      have hat : ∀ j, j < 5 → wr.cell? ⟨g, k * 5 + j, none⟩ = some (cs[k * 5 + j]?.getD undef) := by
        intro j hj
        rw [blk_cell hcs, Array.getElem?_eq_getElem (by omega)]
        rfl
      have d0 : wr.cell? ⟨g, k * 5, none⟩ = some (cs[k * 5 + 0]?.getD undef) := hat 0 (by omega)
      have d1 : wr.cell? ⟨g, k * 5 + 1, none⟩ = some (cs[k * 5 + 1]?.getD undef) := hat 1 (by omega)
      have d2 : wr.cell? ⟨g, k * 5 + 2, none⟩ = some (cs[k * 5 + 2]?.getD undef) := hat 2 (by omega)
      have d3 : wr.cell? ⟨g, k * 5 + 3, none⟩ = some (cs[k * 5 + 3]?.getD undef) := hat 3 (by omega)
      have d4 : wr.cell? ⟨g, k * 5 + 4, none⟩ = some (cs[k * 5 + 4]?.getD undef) := hat 4 (by omega)
      generalize cs[k * 5 + 0]?.getD undef = y0 at d0
      generalize cs[k * 5 + 1]?.getD undef = y1 at d1
      generalize cs[k * 5 + 2]?.getD undef = y2 at d2
      generalize cs[k * 5 + 3]?.getD undef = y3 at d3
      generalize cs[k * 5 + 4]?.getD undef = y4 at d4
      have f0 : wr.frozen? ⟨g, k * 5, none⟩ = false := blk_free hcs _
      have f1 : wr.frozen? ⟨g, k * 5 + 1, none⟩ = false := blk_free hcs _
      have f2 : wr.frozen? ⟨g, k * 5 + 2, none⟩ = false := blk_free hcs _
      have f3 : wr.frozen? ⟨g, k * 5 + 3, none⟩ = false := blk_free hcs _
      have f4 : wr.frozen? ⟨g, k * 5 + 4, none⟩ = false := blk_free hcs _
      have HCS := Lib.hid hcs
      clear hat hcs hne
      go_wp2_with fail
      refine ⟨⟨k + 1, by simp, by omega, HBT.out.set5k _ _ _ _ _ _ _ _ _ _, fun _ => ?_⟩, by simp [Go.RowKit.intOf]; omega⟩
      obtain ⟨cs', h1, h2⟩ := set_keeps5 HCS.out (k * 5) (k * 5 + 1) (k * 5 + 2) (k * 5 + 3) (k * 5 + 4) (.int .u8 99) (.int .i64 0) (.int .i64 0) (.string ⟨#[]⟩) (.int .i64 0)
      exact ⟨cs', h1, by omega⟩
    · have hkI : decide ((k : Int) < (l.length : Int)) = false := by simp; omega
      obtain rfl : k = l.length := by omega
      have hfar : ∀ b, mid ≤ b → b < w.heap.size → wr.heap[b]? = w.heap[b]? := fun b h1 h2 => (HBT.out.block b (by omega) (by omega)).trans (HB1.out.block b h2)
      have ALC := Lib.hid (sameTok_true l A2 A3 c2 c3 _ _ wr hl (T2.out.keep (fun b h => ⟨h, hfar b h.1 h.2.1⟩)) (T3.out.keep (fun b h => ⟨h, hfar b h.1 h.2.1⟩)) (fun b h => by have := h.2.1; omega) (fun b h => by have := h.2.1; omega))
      clear hcs hfar
      go_wp2_with fail
      refine ALC.out.mono ?_
      rintro e w2 ⟨rfl, hb2⟩
      go_wp2
      go_ret
      exact ⟨rfl, ((HB1.out.mono (by omega)).trans (below_of_but HBT.out hg0 (by omega))).trans (hb2.mono (by omega))⟩
theorem cutL_len (s : ByteArray) : ∀ (f : Nat) (tg : Bool) (k : Nat) (acc l : List T), cutL s f tg k acc = .ok l → k ≤ s.size → l.length ≤ acc.length + (s.size - k) := by
  intro f
  induction f with
  | zero =>
    intro tg k acc l h _
    injection h with h
    subst h
    omega
  | succ f ih =>
    intro tg k acc l h hk
    rw [cutL] at h
    by_cases hlt : k < s.size
    · rw [if_pos hlt] at h
      by_cases h32 : bAt s k = 32
      · rw [if_pos h32] at h
        have := ih _ _ _ _ h (by omega)
        omega
      · rw [if_neg h32] at h
        by_cases ht : tg = true ∧ signI (bAt s k) = false
        · rw [if_pos ht] at h; cases h
        · rw [if_neg ht] at h
          cases hx : tokF s k with
          | error q => rw [hx] at h; cases h
          | ok r =>
            obtain ⟨t, k'⟩ := r
            have hl := tokF_lt s k hlt t k' hx
            rw [hx] at h
            have := ih _ _ _ _ h hl.2.1
            rw [List.length_append] at this
            simp only [List.length_cons, List.length_nil] at this
            omega
    · rw [if_neg hlt] at h
      injection h with h
      subst h
      omega
theorem cutF_len (s : ByteArray) : (cutF s).1.length ≤ 1048576 := by
  unfold cutF
  by_cases hs : 1048576 < s.size
  · rw [if_pos hs]; simp
  · rw [if_neg hs]
    cases hx : cutL s (s.size + 1) false 0 [] with
    | error q => simp
    | ok l =>
      have := cutL_len s _ _ _ _ _ hx (Nat.zero_le _)
      simp at this
      show l.length ≤ 1048576
      omega
set_option maxRecDepth 100000 in
theorem cuts_any (s : ByteArray) (w : World) (htab : Tab w.heap.size w) (hE : ErrVar w) :
    Calls Tryd.prog 5 #[.string s] w fun e w' => e = .returned (.bool true) ∧ Below w.heap.size w w' := by
  have A1 := Lib.hid (fun W (X : Below w.heap.size w W) => cut_whole s W (err_at hE X))
  have A3 := Lib.hid (fun W => refCut_whole s W)
  have AW := Lib.hid (fun (W : World) (X : Below w.heap.size w W) => awake_any W (tab_at htab X) (err_at hE X))
  obtain ⟨⟨l, pl, er⟩, hr⟩ : ∃ r, cutF s = r := ⟨_, rfl⟩
  have hl : l.length ≤ 140737488351232 := by
    have := cutF_len s
    rw [hr] at this
    exact Nat.le_trans this (by decide)
  rw [hr] at A1 A3
  clear hr
  go_enter Tryd.func5, Tryd.ntmps5
  go_wp2_with fail
  refine (A1.out _ (Below.refl _ _)).mono ?_
  rintro e w1 ⟨⟨B1, c1, rfl, ho1⟩, hb1⟩
  dsimp only at ho1 ⊢
  have HO1 := Lib.hid ho1
  have X1 := Lib.hid hb1
  have hs1 := hb1.size
  clear ho1 hb1
  go_wp2_with fail
  refine (A1.out _ X1.out).mono ?_
  rintro e w2 ⟨⟨B2, c2, rfl, ho2⟩, hb2⟩
  dsimp only at ho2 ⊢
  have HO2 := Lib.hid ho2
  have HB2 := Lib.hid hb2
  have X2 := Lib.hid (below_next X1.out hb2)
  have hs2 := hb2.size
  clear ho2 hb2
  go_wp2_with fail
  refine (A3.out _).mono ?_
  rintro e w3 ⟨⟨B3, c3, rfl, ho3⟩, hb3⟩
  dsimp only at ho3 ⊢
  have HO3 := Lib.hid ho3
  have HB3 := Lib.hid hb3
  have X3 := Lib.hid (below_next X2.out hb3)
  have hs3 := hb3.size
  clear ho3 hb3
  have P1 := Lib.hid (own_of_block HO1.out (fun g hg => (HB3.out.block g (by have := (HO1.out.lt g hg).2; omega)).trans (HB2.out.block g (HO1.out.lt g hg).2)))
  have P2 := Lib.hid (own_of_block HO2.out (fun g hg => HB3.out.block g (HO2.out.lt g hg).2))
  have TOK := Lib.hid (tokens_any l B1 B2 B3 c1 c2 c3 w.heap.size w1.heap.size w3 hl P1.out P2.out (own_weaken HO3.out hs2) (fun g hg => (HO1.out.lt g hg).2) hs1 (by omega))
  go_wp2_with fail
  refine TOK.out.mono ?_
  rintro e w4 ⟨rfl, hb4⟩
  have X4 := Lib.hid (X3.out.trans hb4)
  clear hb4
  go_wp2_with fail
  refine (AW.out _ X4.out).mono ?_
  rintro e w5 ⟨rfl, hb⟩
  have X5 := Lib.hid (below_next X4.out hb)
  clear hb
  go_wp2
  go_ret
  exact ⟨rfl, X5.out⟩
end Go.Proofs.YtmiipfdndgjndaaDoor
