/- The contracts of the program's list, value, Read. -/
import Derived.Test.YtmiipfdndgjndaaDoorM
import Derived.Test.YtmiipfdndgjndaaDoorE
import Derived.Test.YtmiipfdndgjndaaDoorX5
namespace Go.Proofs.YtmiipfdndgjndaaDoor
open Go.RowKit Go.Lib
set_option maxHeartbeats 1000000
theorem info26 : (Tryd.prog.info? 26).map (fun i => (i.zero, i.size, i.bytes)) = some (some (.agg #[.int .u8 0, .int .i64 0, .string ⟨#[]⟩, .slice none 0 0, .int .i64 0]), 5, 64) := by kernel_rfl
/-- Values one behind the other, five cells each. -/
def EIn (W : World) (S : Nat → Prop) : List V → List Value → Prop
  | [], xs => xs = []
  | v :: l, xs => ∃ cs rest, xs = cs ++ rest ∧ VIn W S v cs ∧ EIn W S l rest
theorem EIn.mono {W W' : World} {S S' : Nat → Prop} (h : ∀ b, S b → S' b ∧ W'.heap[b]? = W.heap[b]?) : ∀ {l : List V} {xs : List Value}, EIn W S l xs → EIn W' S' l xs := by
  intro l
  induction l with
  | nil => intro xs h; exact h
  | cons v l ih =>
    intro xs ⟨cs, rest, e, hv, hr⟩
    exact ⟨cs, rest, e, VIn.mono h v hv, ih hr⟩
theorem EIn.snoc {W : World} {S : Nat → Prop} {v : V} {cs : List Value} (hv : VIn W S v cs) : ∀ {l : List V} {xs : List Value}, EIn W S l xs → EIn W S (l ++ [v]) (xs ++ cs) := by
  intro l
  induction l with
  | nil =>
    intro xs h
    have h' : xs = [] := h
    subst h'
    exact ⟨cs, [], by simp, hv, rfl⟩
  | cons x l ih =>
    intro xs ⟨cs', rest, e, hx, hr⟩
    exact ⟨cs', rest ++ cs, by rw [e, List.append_assoc], hx, ih hr⟩
theorem LIn.of_cells {W : World} {S S' : Nat → Prop} {g : Nat} (hS : ∀ b, S b → S' b) (hg : S' g) : ∀ (l : List V) (i : Nat) (xs : List Value), EIn W S l xs → (∀ j u, xs[j]? = some u → W.cell? ⟨g, i * 5 + j, none⟩ = some u) → LIn W S' (some ⟨g, 0, none⟩) l i := by
  intro l
  induction l with
  | nil => intro i xs _ _; trivial
  | cons v l ih =>
    intro i xs ⟨cs, rest, e, hv, hr⟩ hc
    subst e
    have h5 := hv.len
    refine ⟨⟨g, 0, cs, rfl, hg, ?_, VIn.mono (fun b hb => ⟨hS b hb, rfl⟩) v hv⟩, ih (i + 1) rest hr ?_⟩
    · intro j u hu
      have := hc j u (by rw [List.getElem?_append_left]; exact hu; exact (List.getElem?_eq_some_iff.1 hu).1)
      rw [Nat.zero_add]
      exact this
    · intro j u hu
      have := hc (5 + j) u (by rw [List.getElem?_append_right (by omega), h5, show 5 + j - 5 = j by omega]; exact hu)
      rw [show (i + 1) * 5 + j = i * 5 + (5 + j) by omega]
      exact this
theorem add_zero_block (g j : Nat) : (⟨g, 0, none⟩ : Addr).add j = ⟨g, j, none⟩ := by unfold Addr.add; split <;> simp_all
/-- A row of the call's own that holds values reads as a list. -/
theorem own_list {W : World} {base m : Nat} {sv : Value} {xs : List Value} {S S' : Nat → Prop} {acc : List V} (ho : W.ownsRow base 26 5 sv m xs) (he : EIn W S acc xs) (hm : acc.length = m) (hS : ∀ b, S b → S' b) (hg : ∀ g, NewB base W g → S' g) :
    ∃ (A : Option Addr) (cap : Nat), sv = .slice A m cap ∧ m ≤ cap ∧ LIn W S' A acc 0 := by
  have hcells := @World.ownsRow.cells _ _ _ _ _ _ _ ho
  rcases ho.2 with ⟨rfl, rfl⟩ | ⟨g, cap, cur, rfl, hb, hgg, hn, _⟩
  · have : acc = [] := List.length_eq_zero_iff.1 hm
    subst this
    exact ⟨none, 0, rfl, Nat.le_refl _, trivial⟩
  · refine ⟨_, cap, rfl, hn, ?_⟩
    refine LIn.of_cells hS (hg g (NewB.of hb hgg)) acc 0 xs he (fun j u hu => ?_)
    have := hcells (g := g) rfl j u hu
    rw [add_zero_block] at this
    rw [show 0 * 5 + j = j by omega]
    exact this
theorem elem_step {B base m g : Nat} {w2 w3 wr wx : World} {sv : Value} {v : V} {acc : List V} {xs cs : List Value} {o : Obj} (hB : B < base) (hbr : base ≤ wr.heap.size) (hbx : But B wr wx) (hsx : wx.heap.size = wr.heap.size)
    (ho : wr.ownsRow base 26 5 sv m xs) (he : EIn wr (fun b => NewB base wr b ∧ sv.ownBlock ≠ some b) acc xs) (hb2 : But B wx w2) (hv : VIn w2 (NewB wx.heap.size w2) v cs)
    (hg : (w2.alloc o).grownBy w3 sv.ownBlock) (hat : sv.ownBlock = some g ∨ g = w2.heap.size + 1) : EIn w3 (fun b => NewB base w3 b ∧ (some g : Option Nat) ≠ some b) (acc ++ [v]) (xs ++ cs) := by
  have hs2 := hb2.size
  have hs3 := hg.size
  simp only [World.size_alloc] at hs3
  have hown := ho.lt
  refine EIn.snoc (VIn.mono (fun b hb => ?_) v hv) (EIn.mono (fun b hb => ?_) he)
  · have h1 := hb.1
    have h2 := hb.2.1
    have hne : some b ≠ sv.ownBlock := fun e => by have := (hown b e.symm).2; omega
    have heq := (hg.block b (by simp; omega) hne).trans (Below.heap_alloc w2 o b h2)
    refine ⟨⟨hb.keep (by omega) heq, fun e => ?_⟩, heq⟩
    injection e with e
    subst e
    rcases hat with hat | hat
    · exact hne hat.symm
    · omega
  · obtain ⟨hn, h3⟩ := hb
    have h1 := hn.1
    have h2 := hn.2.1
    have heq : w3.heap[b]? = wr.heap[b]? := by
      rw [hg.block b (by simp; omega) (fun e => h3 e.symm), Below.heap_alloc w2 o b (by omega), hb2.block b (by omega) (by omega), hbx.block b h2 (by omega)]
    refine ⟨⟨hn.keep h1 heq, fun e => ?_⟩, heq⟩
    injection e with e
    subst e
    rcases hat with hat | hat
    · exact h3 hat
    · omega
theorem Rd.size_set {W : World} (p : Addr) (v : Value) : (W.setCell p v).heap.size = W.heap.size := by simp [World.setCell]
theorem valF_lt (s : ByteArray) (d p k : Nat) (v : V) (k' p' : Nat) (h : valF s d p k = .ok (v, k', p')) (hp : p < 512) (hk : k ≤ s.size) : k < k' ∧ k' ≤ s.size ∧ p < p' ∧ p' ≤ 512 := by
  obtain ⟨_, h2, h3, h4, h5, _⟩ := valF_ok s d p k v k' p' h hp hk
  exact ⟨h3, h2, h4, h5⟩
def ValueOk (s : ByteArray) (d : Nat) : Prop := ∀ (B p k : Nat) (w : World), Rd w B s k p → k ≤ s.size → p < 512 → Calls Tryd.prog 40 #[.pointer (some ⟨B, 0, none⟩), .int .i64 (16 - (d : Int))] w (ValPost B s (valF s d p k) w)
theorem listF_out (s : ByteArray) (rv : Nat → Nat → Except Nat (V × Nat × Nat)) (f p k : Nat) (l : List V) (h : ¬ k < s.size) : listF s rv f p k l = .error s.size := by
  cases f with
  | zero => rfl
  | succ f => rw [listF, if_neg h]
set_option maxRecDepth 100000 in
theorem list_any (s : ByteArray) (d : Nat) (hd : d < 16) (hS : s.size ≤ 140737488351232) (hval : ValueOk s d) (B p k : Nat) (w : World) (h : Rd w B s k p) (hk : k ≤ s.size) (hp : p ≤ 512) :
    Calls Tryd.prog 66 #[.pointer (some ⟨B, 0, none⟩), .int .i64 (16 - (d : Int))] w (ListPost B s (listF s (valF s d) (s.size + 1) p k []) w) := by
  obtain ⟨R, hR⟩ : ∃ R, listF s (valF s d) (s.size + 1) p k [] = R := ⟨_, rfl⟩
  rw [hR]
  obtain ⟨i0, hi, hz0, hz1, hz2⟩ := info_parts info26
  have hlt := h.lt
  have HR := Lib.hid hR
  have HV := Lib.hid hval
  clear hR hval
  obtain ⟨dd, hdd⟩ : ∃ dd : Int, 16 - (d : Int) = dd := ⟨_, rfl⟩
  unfold ValueOk at HV
  rw [hdd] at HV ⊢
  have hdd0 : 0 ≤ dd := by omega
  have hdd1 : dd ≤ 16 := by omega
  clear hdd
  go_enter Tryd.func66, Tryd.ntmps66
  go_wp2_with fail
  go_loopw [5] (fun v wr => ∃ (k' f p' m : Nat) (acc : List V) (xs : List Value), Rd wr B s (k' : Int) (p' : Int) ∧ But B w wr ∧ wr.ownsRow w.heap.size 26 5 v m xs ∧ EIn wr (fun b => NewB w.heap.size wr b ∧ v.ownBlock ≠ some b) acc xs ∧ acc.length = m ∧ s.size < k' + f ∧ listF s (valF s d) f p' k' acc = R ∧ k' ≤ s.size ∧ p' ≤ 512 ∧ m ≤ p') (fun _ wr => s.size + 1 - atOf B wr)
  case atStart => exact ⟨k, s.size + 1, p, 0, [], [], h, But.refl B w, World.ownsRow_nil _ _ _ _, rfl, rfl, by omega, HR.out, hk, hp, by omega⟩
  case round =>
    obtain ⟨k', f, p', m, acc, xs, hrd, hbt, hown, hE, hacc, hf, hq, hks, hp5, hmp⟩ := hrel
    obtain ⟨f, rfl⟩ : ∃ g, f = g + 1 := ⟨f - 1, by omega⟩
    obtain ⟨ad, cap, rfl⟩ := own_slice hown
    have hsz := hbt.size
    have hat0 := atOf_rd hrd
    have c1 := hrd.c1
    have c2 := hrd.c2
    have f1 := hrd.f 1
    by_cases hk' : k' < s.size
    · rw [listF, if_pos hk'] at hq
      have hnx := next_ok B s k' p' wr hrd hk'
      by_cases c93 : bAt s k' = 93
      · rw [if_pos c93] at hq
        subst hq
        rw [c93] at hnx
        have HN := Lib.hid hnx
        have Hrd := Lib.hid hrd
        have Hbt := Lib.hid hbt
        obtain ⟨A, cap', e, hmc, hL⟩ := own_list (S' := NewB w.heap.size wr) hown hE hacc (fun b hb => hb.1) (fun g h => h)
        injection e with e1 _ e3
        subst e1
        subst e3
        have HL := Lib.hid hL
        have HA := Lib.hid hacc
        clear hnx hrd hbt hown hE hL hacc c93 hat0
        go_wp2_with fail
        refine HN.out.mono ?_
        rintro e w' ⟨rfl, q1, rfl⟩
        go_wp2_with fail
        go_ret
        refine ⟨⟨⟨ad, cap, by rw [HA.out]; rfl, by have := HA.out; omega, by have := HA.out; omega, LIn.keepNew HL.out (fun b hb _ => ⟨hb, (Below.heap_setCell (wr.drewN q1) _ _ b (by show b ≠ B; omega))⟩)⟩, Rd.at (Rd.set1 (show Rd _ B s (k' : Int) (p' : Int) from Hrd.out) _) (by omega)⟩, (Hbt.out.setCell 1 _).same rfl rfl rfl rfl⟩
      · rw [if_neg c93] at hq
        have t93 : (bAt s k' == 93) = false := by simpa using c93
        by_cases h512 : 512 ≤ p'
        · rw [if_pos h512] at hq
          subst hq
          have t512 : decide ((512 : Int) ≤ (p' : Int)) = true := by simp; omega
          generalize bAt s k' = c at hnx t93
          have HN := Lib.hid hnx
          have Hrd := Lib.hid hrd
          have Hbt := Lib.hid hbt
          clear hnx hrd hbt hown hE hacc c93 hat0
          go_wp2_with fail
          refine HN.out.mono ?_
          rintro e w' ⟨rfl, q1, rfl⟩
          go_wp2_with fail
          refine (wrong_any B s k' p' _ (by exact Hrd.out)).mono ?_
          rintro e w' ⟨rfl, rfl⟩
          go_wp2
          exact ⟨rfl, rfl, Hbt.out.same rfl rfl rfl rfl⟩
        · rw [if_neg h512] at hq
          have t512 : decide ((512 : Int) ≤ (p' : Int)) = false := by simp; omega
          by_cases hm0 : m = 0
          · subst hm0
            have hacc0 : acc = [] := List.length_eq_zero_iff.1 hacc
            subst hacc0
            rw [if_neg (by simp), if_pos rfl] at hq
            generalize bAt s k' = c at hnx t93
            obtain ⟨r, hr⟩ : ∃ r, valF s d p' k' = r := ⟨_, rfl⟩
            have hcall := fun W (hW : Rd W B s ((k' : Nat) : Int) (p' : Int)) => HV.out B p' k' W hW (by omega) (by omega)
            rw [hr] at hcall hq
            have hvlt : ∀ v k2 p2, r = .ok (v, k2, p2) → k' < k2 ∧ k2 ≤ s.size ∧ p' < p2 ∧ p2 ≤ 512 := fun v k2 p2 e => valF_lt s d p' k' v k2 p2 (hr.trans e) (by omega) (by omega)
            have HC := Lib.hid hcall
            have HVL := Lib.hid hvlt
            clear hcall hr hvlt
            cases r with
            | error q =>
              dsimp only at hq
              subst hq
              have HN := Lib.hid hnx
              have Hrd := Lib.hid hrd
              have Hbt := Lib.hid hbt
              clear hnx hrd hbt hown hE hacc hat0
              go_wp2_with fail
              refine HN.out.mono ?_
              rintro e w' ⟨rfl, q1, rfl⟩
              go_wp2_with fail
              refine (HC.out _ (by exact Hrd.out)).mono ?_
              rintro e w2 ⟨rfl, hb2⟩
              go_wp2
              exact ⟨rfl, rfl, ((Hbt.out).drewN q1).trans hb2⟩
            | ok rr =>
              obtain ⟨v, k2, p2⟩ := rr
              dsimp only at hq
              obtain ⟨hk2, hk2s, hp2, hp25⟩ := HVL.out v k2 p2 rfl
              have HN := Lib.hid hnx
              have Hrd := Lib.hid hrd
              have Hbt := Lib.hid hbt
              have HO := Lib.hid hown
              have HE := Lib.hid hE
              have HA := Lib.hid hacc
              have Hq := Lib.hid hq
              have Hat := Lib.hid hat0
              clear hnx hrd hbt hown hE hacc hq hat0
              go_wp2_with fail
              refine HN.out.mono ?_
              rintro e w' ⟨rfl, q1, rfl⟩
              go_wp2_with fail
              refine (HC.out _ (by exact Hrd.out)).mono ?_
              rintro e w2 ⟨⟨⟨cs, rfl, hv⟩, hrd2⟩, hb2⟩
              obtain ⟨xk, xn, xs0, xA, xc, xr, -, rfl⟩ := hv.forms
              have hsx := (show (wr.drewN q1).heap.size = wr.heap.size from rfl)
              have hsz2 : wr.heap.size ≤ w2.heap.size := Nat.le_trans (Nat.le_of_eq hsx.symm) hb2.size
              have HSX := Lib.hid hsx
              clear hsx
              have HBX := Lib.hid ((But.refl B wr).drewN q1)
              have how : w2.ownsRow w.heap.size 26 5 (.slice ad 0 cap) 0 xs := own_but HO.out (by omega) (HBX.out.trans hb2)
              have hbw : But B w w2 := ((Hbt.out).drewN q1).trans hb2
              have HOW := Lib.hid how
              have HBW := Lib.hid hbw
              have Hv := Lib.hid hv
              have Hrd2 := Lib.hid hrd2
              have Hb2 := Lib.hid hb2
              clear how hbw hv hrd2 hb2
              go_wp2_with (at_builtin; refine wpList_append_lies _ rfl _ _ 23 rfl w.heap.size 26 i0 (.agg #[.int .u8 0, .int .i64 0, .string ⟨#[]⟩, .slice none 0 0, .int .i64 0]) 5 64 Tryd.underlying23 hi hz0 hz1 hz2 rfl (by decide) _ 0 xs rfl (by exact HOW.out.alloc _) _ 1 1 _ rfl rfl (cells_at _ _ (by simp) _ _) (by simp [Value.oneCell']) (by decide) (by unfold maxLen; omega) (by omega) (by simp; omega) _ rfl ?_; intro g cap3 w3 hown3 hgrow3 hat3 hlt3; have hE3 := elem_step (by omega) (by omega) HBX.out HSX.out HO.out HE.out Hb2.out Hv.out hgrow3 (hat3.elim (fun h => .inl h) (fun h => .inr (h.trans (by simp)))); have hrd3 : Rd w3 B s (k2 : Int) (p2 : Int) := (hgrow3.block B (by have := Hrd2.out.lt; simp; omega) (fun e => by have := (HO.out.lt B e.symm).1; omega)).trans (Rd.alloc Hrd2.out _); have hbt3 : But B w w3 := but_grown (HOW.out.alloc _) (HBW.out.alloc _) (by simp) hgrow3; have HO3 := Lib.hid hown3; have HE3 := Lib.hid hE3; have HR3 := Lib.hid hrd3; have HB3 := Lib.hid hbt3; clear hown3 hgrow3 hat3 hlt3 hE3 hrd3 hbt3)
              refine ⟨⟨k2, f, p2, 1, [] ++ [v], _, HR3.out, HB3.out, HO3.out, HE3.out, by simp, by omega, Hq.out, hk2s, hp25, by omega⟩, ?_⟩
              rw [atOf_rd HR3.out, Hat.out]
              omega
          · by_cases h32 : bAt s k' = 32
            · rw [if_neg (by rw [h32]; simp), if_neg (fun e => hm0 (by rw [← hacc, e]; rfl))] at hq
              rw [h32] at hnx t93
              clear h32 c93
              have hmpos : (0 : Int) < (m : Int) := by omega
              obtain ⟨r, hr⟩ : ∃ r, valF s d p' (k' + 1) = r := ⟨_, rfl⟩
              have hcall := fun W (hW : Rd W B s (((k' + 1) : Nat) : Int) (p' : Int)) => HV.out B p' (k' + 1) W hW (by omega) (by omega)
              rw [hr] at hcall hq
              have hvlt : ∀ v k2 p2, r = .ok (v, k2, p2) → (k' + 1) < k2 ∧ k2 ≤ s.size ∧ p' < p2 ∧ p2 ≤ 512 := fun v k2 p2 e => valF_lt s d p' (k' + 1) v k2 p2 (hr.trans e) (by omega) (by omega)
              have HC := Lib.hid hcall
              have HVL := Lib.hid hvlt
              clear hcall hr hvlt
              cases r with
              | error q =>
                dsimp only at hq
                subst hq
                have HN := Lib.hid hnx
                have Hrd := Lib.hid hrd
                have Hbt := Lib.hid hbt
                clear hnx hrd hbt hown hE hacc hat0
                go_wp2_with fail
                refine HN.out.mono ?_
                rintro e w' ⟨rfl, q1, rfl⟩
                go_wp2_with fail
                refine (HC.out _ (by exact Rd.at (Rd.set1 (show Rd (wr.drewN q1) B s (k' : Int) (p' : Int) from Hrd.out) ((k' : Int) + 1)) (by omega : (k' : Int) + 1 = ((k' + 1 : Nat) : Int)))).mono ?_
                rintro e w2 ⟨rfl, hb2⟩
                go_wp2
                exact ⟨rfl, rfl, (((Hbt.out).drewN q1).setCell 1 (.int .i64 ((k' : Int) + 1))).trans hb2⟩
              | ok rr =>
                obtain ⟨v, k2, p2⟩ := rr
                dsimp only at hq
                obtain ⟨hk2, hk2s, hp2, hp25⟩ := HVL.out v k2 p2 rfl
                have HN := Lib.hid hnx
                have Hrd := Lib.hid hrd
                have Hbt := Lib.hid hbt
                have HO := Lib.hid hown
                have HE := Lib.hid hE
                have HA := Lib.hid hacc
                have Hq := Lib.hid hq
                have Hat := Lib.hid hat0
                clear hnx hrd hbt hown hE hacc hq hat0
                go_wp2_with fail
                refine HN.out.mono ?_
                rintro e w' ⟨rfl, q1, rfl⟩
                go_wp2_with fail
                refine (HC.out _ (by exact Rd.at (Rd.set1 (show Rd (wr.drewN q1) B s (k' : Int) (p' : Int) from Hrd.out) ((k' : Int) + 1)) (by omega : (k' : Int) + 1 = ((k' + 1 : Nat) : Int)))).mono ?_
                rintro e w2 ⟨⟨⟨cs, rfl, hv⟩, hrd2⟩, hb2⟩
                obtain ⟨xk, xn, xs0, xA, xc, xr, -, rfl⟩ := hv.forms
                have hsx := (show ((wr.drewN q1).setCell ⟨B, 1, none⟩ (.int .i64 ((k' : Int) + 1))).heap.size = wr.heap.size by simp [World.setCell])
                have hsz2 : wr.heap.size ≤ w2.heap.size := Nat.le_trans (Nat.le_of_eq hsx.symm) hb2.size
                have HSX := Lib.hid hsx
                clear hsx
                have HBX := Lib.hid (((But.refl B wr).drewN q1).setCell 1 (.int .i64 ((k' : Int) + 1)))
                have how : w2.ownsRow w.heap.size 26 5 (.slice ad m cap) m xs := own_but HO.out (by omega) (HBX.out.trans hb2)
                have hbw : But B w w2 := (((Hbt.out).drewN q1).setCell 1 (.int .i64 ((k' : Int) + 1))).trans hb2
                have HOW := Lib.hid how
                have HBW := Lib.hid hbw
                have Hv := Lib.hid hv
                have Hrd2 := Lib.hid hrd2
                have Hb2 := Lib.hid hb2
                clear how hbw hv hrd2 hb2
                go_wp2_with (at_builtin; refine wpList_append_lies _ rfl _ _ 23 rfl w.heap.size 26 i0 (.agg #[.int .u8 0, .int .i64 0, .string ⟨#[]⟩, .slice none 0 0, .int .i64 0]) 5 64 Tryd.underlying23 hi hz0 hz1 hz2 rfl (by decide) _ m xs rfl (by exact HOW.out.alloc _) _ 1 1 _ rfl rfl (cells_at _ _ (by simp) _ _) (by simp [Value.oneCell']) (by decide) (by unfold maxLen; omega) (by omega) (by simp; omega) _ rfl ?_; intro g cap3 w3 hown3 hgrow3 hat3 hlt3; have hE3 := elem_step (by omega) (by omega) HBX.out HSX.out HO.out HE.out Hb2.out Hv.out hgrow3 (hat3.elim (fun h => .inl h) (fun h => .inr (h.trans (by simp)))); have hrd3 : Rd w3 B s (k2 : Int) (p2 : Int) := (hgrow3.block B (by have := Hrd2.out.lt; simp; omega) (fun e => by have := (HO.out.lt B e.symm).1; omega)).trans (Rd.alloc Hrd2.out _); have hbt3 : But B w w3 := but_grown (HOW.out.alloc _) (HBW.out.alloc _) (by simp) hgrow3; have HO3 := Lib.hid hown3; have HE3 := Lib.hid hE3; have HR3 := Lib.hid hrd3; have HB3 := Lib.hid hbt3; clear hown3 hgrow3 hat3 hlt3 hE3 hrd3 hbt3)
                refine ⟨⟨k2, f, p2, m + 1, acc ++ [v], _, HR3.out, HB3.out, HO3.out, HE3.out, by simp [HA.out], by omega, Hq.out, hk2s, hp25, by omega⟩, ?_⟩
                rw [atOf_rd HR3.out, Hat.out]
                omega
            · have hne : acc ≠ [] := fun e => hm0 (by rw [← hacc, e]; rfl)
              rw [if_pos ⟨hne, h32⟩] at hq
              subst hq
              have t32 : (bAt s k' != 32) = true := by simpa using h32
              have hmpos : (0 : Int) < (m : Int) := by omega
              generalize bAt s k' = c at hnx t93 t32
              have HN := Lib.hid hnx
              have Hrd := Lib.hid hrd
              have Hbt := Lib.hid hbt
              clear hnx hrd hbt hown hE hacc c93 h32 hat0
              go_wp2_with fail
              refine HN.out.mono ?_
              rintro e w' ⟨rfl, q1, rfl⟩
              go_wp2_with fail
              refine (wrong_any B s k' p' _ (by exact Hrd.out)).mono ?_
              rintro e w' ⟨rfl, rfl⟩
              go_wp2
              exact ⟨rfl, rfl, Hbt.out.same rfl rfl rfl rfl⟩
    · rw [listF_out s _ _ _ _ _ hk'] at hq
      subst hq
      have HN := Lib.hid (next_none B s k' p' wr hrd hk')
      have Hbt := Lib.hid hbt
      clear hrd hbt hown hE hacc hat0
      go_wp2_with fail
      refine HN.out.mono ?_
      rintro e w' ⟨rfl, q1, rfl⟩
      go_wp2
      exact ⟨rfl, rfl, Hbt.out.same rfl rfl rfl rfl⟩
theorem ValueOk.of (s : ByteArray) (d : Nat) (hd : d ≤ 16) (hS : s.size ≤ 140737488351232) (rv : Option (Nat → Nat → Except Nat (V × Nat × Nat)))
    (hrv : (rv = none ∧ d = 0) ∨ (∃ g, rv = some g ∧ 0 < d ∧ ∀ (B p k : Nat) (W : World), Rd W B s k p → k ≤ s.size → p ≤ 512 → Calls Tryd.prog 66 #[.pointer (some ⟨B, 0, none⟩), .int .i64 (16 - (d : Int) + 1)] W (ListPost B s (listF s g (s.size + 1) p k []) W)))
    (B p k : Nat) (w : World) (h : Rd w B s k p) (_hks : k ≤ s.size) (hp : p < 512) : Calls Tryd.prog 40 #[.pointer (some ⟨B, 0, none⟩), .int .i64 (16 - (d : Int))] w (ValPost B s (headF s rv p k) w) := by
  rw [headF.eq_def]
  by_cases hk : k < s.size
  · rw [if_pos hk]
    by_cases h95 : bAt s k = 95
    · rw [if_pos h95]
      exact val_none B s k p _ w hS h hk hp h95
    rw [if_neg h95]
    by_cases h45 : bAt s k = 45
    · rw [if_pos h45]
      have := val_neg B s k p (16 - (d : Int)) w hS h hk hp h45 (behindF s mostN (k + 1)) (fun W hW => num_neg B s k _ W hS hW hk h45)
      cases hr : behindF s mostN (k + 1) with
      | error q => rw [hr] at this; exact this
      | ok r => rw [hr] at this; exact this
    rw [if_neg h45]
    by_cases hdg : digitI (bAt s k) = true
    · rw [if_pos hdg]
      have := val_pos B s k p (16 - (d : Int)) w hS h hk hp hdg (numLoop s mostP (s.size + 1) false 0 k) (fun W hW => num_pos B s k _ true W hS hW hk h45)
      cases hr : numLoop s mostP (s.size + 1) false 0 k with
      | error q => rw [hr] at this; exact this
      | ok r => rw [hr] at this; exact this
    rw [if_neg hdg]
    by_cases h35 : bAt s k = 35
    · rw [if_pos h35]
      have := val_ref B s k p (16 - (d : Int)) w hS h hk hp h35
      cases hr : behindF s mostP (k + 1) with
      | error q => rw [hr] at this; exact this
      | ok r => rw [hr] at this; exact this
    rw [if_neg h35]
    by_cases h34 : bAt s k = 34
    · rw [if_pos h34]
      have := val_text B s k p (16 - (d : Int)) w hS h hk hp h34
      cases hr : quotedF s (fun n => decide ((256 : Int) ≤ (n : Int))) k with
      | error q => rw [hr] at this; exact this
      | ok r => rw [hr] at this; exact this
    rw [if_neg h34]
    have hdg' : digitI (bAt s k) = false := by simpa using hdg
    by_cases h91 : bAt s k = 91
    · rw [if_pos h91]
      rcases hrv with ⟨rfl, rfl⟩ | ⟨g, rfl, hd0, hl⟩
      · exact val_wrong B s k p _ w hS h hk hp h95 h45 hdg' h35 h34 (fun hh => by have := hh.2; omega)
      · have := val_list B s k p (16 - (d : Int)) w hS h hk hp h91 (by omega) (by omega) (listF s g (s.size + 1) (p + 1) (k + 1) []) (fun W hW => hl B (p + 1) (k + 1) W (Rd.parts hW (by omega)) (by omega) (by omega))
        dsimp only
        cases hr : listF s g (s.size + 1) (p + 1) (k + 1) [] with
        | error q => rw [hr] at this; exact this
        | ok r => rw [hr] at this; exact this
    · rw [if_neg h91]
      exact val_wrong B s k p _ w hS h hk hp h95 h45 hdg' h35 h34 (fun hh => h91 hh.1)
  · rw [if_neg hk]
    exact val_end B s k p _ w hS h hk hp trivial
theorem value_ok (s : ByteArray) (hS : s.size ≤ 140737488351232) : ∀ d, d ≤ 16 → ValueOk s d := by
  intro d
  induction d with
  | zero => intro hd B p k w h hk hp; exact ValueOk.of s 0 hd hS none (.inl ⟨rfl, rfl⟩) B p k w h hk hp
  | succ d ih =>
    intro hd B p k w h hk hp
    refine ValueOk.of s (d + 1) hd hS (some (valF s d)) (.inr ⟨valF s d, rfl, by omega, ?_⟩) B p k w h hk hp
    intro B p k W hW hk hp
    rw [show (16 - ((d + 1 : Nat) : Int) + 1) = 16 - (d : Int) by omega]
    exact list_any s d (by omega) hS (ih (by omega)) B p k W hW hk hp
end Go.Proofs.YtmiipfdndgjndaaDoor
