/- The contract of the program's digits: printed by gen_digits.py. -/
import Derived.Test.YtmiipfdndgjndaaDoorL
import Derived.Test.YtmiipfdndgjndaaDoorShelf
import Derived.Test.YtmiipfdndgjndaaDoorX8
import Derived.Deep.RegionHeldLaw
import Derived.Deep.Cut
import Derived.WalkSpells
import Derived.Outline
namespace Go.Proofs.YtmiipfdndgjndaaDoor
open Go.RowKit Go.Lib
set_option maxHeartbeats 1000000
theorem rangeGlobal : Tryd.prog.globalNamed "strconv.ErrRange" = some 2 := by kernel_rfl
/-- The library's variable ErrRange holds some error. -/
def ErrVar (w : World) : Prop := ∃ tp pp, w.var? Tryd.prog "strconv.ErrRange" = some #[.iface tp pp]
theorem ErrVar.keep {w w' : World} (h : ErrVar w) (hb : w'.heap[2]? = w.heap[2]?) : ErrVar w' := by
  obtain ⟨tp, pp, hv⟩ := h
  refine ⟨tp, pp, ?_⟩
  unfold World.var? at hv ⊢
  rw [rangeGlobal] at hv ⊢
  simp only [Option.bind_some] at hv ⊢
  rw [hb]
  exact hv
theorem ErrVar.lt {w : World} (h : ErrVar w) : 2 < w.heap.size := by
  obtain ⟨tp, pp, hv⟩ := h
  unfold World.var? at hv
  rw [rangeGlobal] at hv
  simp only [Option.bind_some] at hv
  rcases Nat.lt_or_ge 2 w.heap.size with h | h
  · exact h
  · rw [Array.getElem?_eq_none h] at hv
    cases hv
theorem ErrVar.but {B : Nat} {w w' : World} (h : ErrVar w) (hb : But B w w') (hB : B ≠ 2) : ErrVar w' := h.keep (hb.block 2 h.lt (Ne.symm hB))
theorem ErrVar.below {w w' : World} (h : ErrVar w) (hb : Below w.heap.size w w') : ErrVar w' := h.keep (hb.block 2 h.lt)
theorem But.of_below {B : Nat} {w w' : World} (h : Below w.heap.size w w') : But B w w' := (But.refl B w).below h
theorem but_via {B : Nat} {w wr X w9 : World} (k : Below X.heap.size X w9) (h : But B w wr) (e1 : X.os = wr.os) (e2 : X.tape = wr.tape) (e3 : X.output = wr.output) (e4 : X.heap = wr.heap) : But B w w9 := (h.same e1 e2 e3 e4).below k
def DigPost (B : Nat) (s : ByteArray) (p : Int) (k2 : Nat) (r : Option Int) (w : World) (e : Ending) (w' : World) : Prop :=
  (match r with | some n => e = .returned (.tuple #[.int .i64 n, .bool true]) | none => ∃ m : Int, e = .returned (.tuple #[.int .i64 m, .bool false])) ∧ Rd w' B s (k2 : Int) p ∧ But B w w'
theorem wstep {B k : Nat} {s : ByteArray} {p : Int} {W W' : World} (h : Rd W' B s ((k + 1 : Nat) : Int) p) (h0 : atOf B W = k) (hk : k < s.size) : s.size + 1 - atOf B W' < s.size + 1 - atOf B W := measure_step h h0 hk
theorem whileF_step (s : ByteArray) (l : Bool) (f k : Nat) (h : k < s.size ∧ (digitI (bAt s k) || (l && letterI (bAt s k))) = true) : whileF s l (f + 1) k = whileF s l f (k + 1) := by rw [whileF, if_pos h]
theorem whileF_stay (s : ByteArray) (l : Bool) (f k : Nat) (h : ¬ (k < s.size ∧ (digitI (bAt s k) || (l && letterI (bAt s k))) = true)) : whileF s l (f + 1) k = k := by rw [whileF, if_neg h]
theorem bytesWorld_below' (w : World) (_t : TypeId) (_l : List UInt8) (w' : World) (h : w' = w ∨ ∃ t', w' = Lib.bytesWorld w 5 t') : Below w.heap.size w w' := by
  rcases h with rfl | ⟨t', rfl⟩
  · exact Below.refl _ _
  · exact Lib.bytesWorld_below _ _ _
theorem size_nil' (s : ByteArray) : s.size = 0 ↔ s.toList = [] := by
  rw [ByteArray.toList_eq, ← size_list]
  exact List.length_eq_zero_iff
theorem extract_size_le (s : ByteArray) (a b : Nat) : (s.extract a b).size ≤ s.size := by
  rw [← size_list, Lib.extract_data, List.length_take, List.length_drop, size_list]
  omega
set_option maxRecDepth 100000 in
theorem digits_pos (B : Nat) (s : ByteArray) (k : Nat) (p : Int) (w : World) (hS : s.size ≤ 140737488351232) (h : Rd w B s k p) (hk0 : k ≤ s.size) (hB2 : B ≠ 2) (hE : ErrVar w) :
    Calls Tryd.prog 74 #[.pointer (some ⟨B, 0, none⟩), .bool false] w (DigPost B s p (whileF s false (s.size + 1) k) (decF s false k (whileF s false (s.size + 1) k)) w) := by
  have hsp := dec_spec s false k (whileF s false (s.size + 1) k) _ rfl (seg_alldig s k hk0) (seg_length s k _ (whileF_spec s false (s.size + 1) k (by omega) hk0).1 (whileF_spec s false (s.size + 1) k (by omega) hk0).2.1) (whileF_spec s false (s.size + 1) k (by omega) hk0).1
  obtain ⟨k2, hk2⟩ : ∃ k2, whileF s false (s.size + 1) k = k2 := ⟨_, rfl⟩
  rw [hk2] at hsp ⊢
  have Hk2 := Lib.hid hk2
  have Hsp := Lib.hid hsp
  have hE2 := hE.lt
  have c1 := h.c1
  have Hrd1 := Lib.hid h
  have Hbt1 := Lib.hid (But.refl B w)
  clear hk2 hsp
  go_enter Tryd.func74, Tryd.ntmps74
  go_wp2_with fail
  go_loopw [] (fun wr => ∃ (k' f : Nat), Rd wr B s (k' : Int) p ∧ But B w wr ∧ s.size < k' + f ∧ whileF s false f k' = k2 ∧ k' ≤ s.size ∧ k ≤ k') (fun wr => s.size + 1 - atOf B wr)
  case atStart => exact ⟨k, s.size + 1, by exact Hrd1.out, by exact Hbt1.out, by omega, Hk2.out, by omega, Nat.le_refl _⟩
  case round =>
    obtain ⟨k', f, hrd, hbt, hf, hq, hks, hkk⟩ := hrel
    obtain ⟨f, rfl⟩ : ∃ g, f = g + 1 := ⟨f - 1, by omega⟩
    have c0 := hrd.c0
    have c1 := hrd.c1
    have f1 := hrd.f 1
    have hat0 := atOf_rd hrd
    by_cases hdk : k' < s.size ∧ (digitI (bAt s k') || (false && letterI (bAt s k'))) = true
    · rw [whileF_step s false f k' hdk] at hq
      obtain ⟨hk, hdg⟩ := hdk
      simp only [Bool.false_and, Bool.or_false] at hdg
      have hkI : decide ((k' : Int) < (s.size : Int)) = true := by simp; omega
      have g0 : (0 : Int) ≤ (k' : Int) := by omega
      have g1 : (k' : Int) < (s.size : Int) := by omega
      have hbe := bAt_eq s k' hk
      have hdc := fun W => digit_any (bAt s k') W
      rw [hdg] at hdc
      generalize bAt s k' = c at hbe hdc
      have HD := Lib.hid hdc
      have Hq := Lib.hid hq
      have Hat := Lib.hid hat0
      clear hdc hq hat0 hdg
      go_wp2_with fail
      go_quiet ((go_at_call 73; refine (HD.out _).mono ?_; rintro e w' ⟨rfl, rfl⟩; exact ⟨rfl, _, rfl⟩))
      go_wp2_with fail
      refine ⟨⟨k' + 1, f, Rd.at (Rd.set1 (show Rd _ B s (k' : Int) p from hrd) _) (by omega), (hbt.setCell 1 _).same rfl rfl rfl rfl, by omega, Hq.out, by omega, by omega⟩, ?_⟩
      exact measure_step (s := s) (p := p) (by exact Rd.at (Rd.set1 (show Rd _ B s (k' : Int) p from hrd) _) (by omega)) Hat.out hk
    · rw [whileF_stay s false f k' hdk] at hq
      subst hq
      have hX := trivial
      have Hrd := Lib.hid hrd
      have Hbt := Lib.hid hbt
      have g0 : (0 : Int) ≤ ((k : Nat) : Int) := by omega
      have g1 : ((k : Nat) : Int) ≤ (k' : Int) := by omega
      have g2 : (k' : Int) ≤ (s.size : Int) := by omega
      by_cases hk : k' < s.size
      · have hkI : decide ((k' : Int) < (s.size : Int)) = true := by simp; omega
        have g3 : (0 : Int) ≤ (k' : Int) := by omega
        have g4 : (k' : Int) < (s.size : Int) := by omega
        have hbe := bAt_eq s k' hk
        have hdc := fun W => digit_any (bAt s k') W
        have hdg : digitI (bAt s k') = false := by
          cases h : digitI (bAt s k') with
          | false => rfl
          | true => exact absurd ⟨hk, by simp [h]⟩ hdk
        rw [hdg] at hdc
        generalize bAt s k' = c at hbe hdc
        have HD := Lib.hid hdc
        clear hdc hat0 hdg hrd hbt hdk
        go_wp2_with fail
        go_quiet ((go_at_call 73; refine (HD.out _).mono ?_; rintro e w' ⟨rfl, rfl⟩; exact ⟨rfl, _, rfl⟩))
        go_wp2_with fail
        clear hbe hkI g3 g4
        go_quiet (fail)
        go_upto_region 8 with fail
        obtain ⟨tx, htx⟩ : ∃ tx, s.extract k k' = tx := ⟨_, rfl⟩
        have hlx : tx.data.toList = (s.extract k k').data.toList := by rw [htx]
        rw [htx]
        have Htx := Lib.hid htx
        have Hlx := Lib.hid hlx
        clear htx hlx
        by_cases hz : tx.size = 0
        · have hnil : tx.toList = [] := (size_nil' tx).1 hz
          have hnf : noForm false (s.extract k k').data.toList := .inl (by rw [← Hlx.out, ← ByteArray.toList_eq]; exact hnil)
          have hd0 := Hsp.out.1 hnf
          clear hnf hz
          have HD0 := Lib.hid hd0
          clear hd0
          go_wp2_with fail
          go_ret2
          rw [HD0.out]
          exact ⟨⟨_, rfl⟩, Hrd.out, Hbt.out.same rfl rfl rfl rfl⟩
        have hnn : ¬ tx.toList = [] := fun e => hz ((size_nil' tx).2 e)
        have hnn2 : tx.toList.isEmpty = false := by cases hh : tx.toList with | nil => exact absurd hh hnn | cons a b => rfl
        have hz0 : 0 < tx.size := by omega
        have hzI : (0 : Int) < (tx.size : Int) := by omega
        have hcons : tx.data.toList = u8 (bAt tx 0) :: tx.data.toList.drop 1 := by
          have := rest_at (s := tx) (k := 0) hz0
          rw [List.drop_zero] at this
          exact this
        have hb0 := bAt_eq tx 0 hz0
        have hlen1 : tx.data.toList.length = tx.size := size_list tx
        by_cases h48 : bAt tx 0 = 48
        · have hu48 : u8 (bAt tx 0) = 48 := by rw [h48]; rfl
          rw [h48] at hb0
          by_cases h1 : 1 < tx.size
          · have hnf : noForm false (s.extract k k').data.toList := .inr ⟨_, by rw [← Hlx.out, hcons, hu48], .inl (fun e => by rw [hcons, e] at hlen1; simp at hlen1; omega)⟩
            have t1 : decide ((1 : Int) < (tx.size : Int)) = true := by simp; omega
            have HD0 := Lib.hid (Hsp.out.1 hnf)
            clear hnf hcons hlen1 h48 hu48
            go_wp2_with fail
            go_ret2
            rw [HD0.out]
            exact ⟨⟨_, rfl⟩, Hrd.out, Hbt.out.same rfl rfl rfl rfl⟩
          · have t1 : decide ((1 : Int) < (tx.size : Int)) = false := by simp; omega
            have hr0 : tx.data.toList.drop 1 = [] := List.drop_eq_nil_of_le (by omega)
            have hnf : ¬ noForm false (s.extract k k').data.toList := by
              rw [← Hlx.out, hcons, hr0]
              rintro (e | ⟨r, e, e'⟩)
              · cases e
              · injection e with _ e
                rcases e' with e' | e'
                · exact e' e.symm
                · cases e'
            have hpi : parseIntB 64 (s.extract k k').data.toList = _ := Hsp.out.2 hnf
            clear hnf hcons hlen1 h48 hu48 hr0
            go_wp2_with fail
            have hc0 := Hrd.out.c0
            have hc1 := Hrd.out.c1
            cases hdec : decF s false k k' with
            | some v =>
              rw [hdec] at hpi
              have HPI := Lib.hid hpi
              have HDC := Lib.hid hdec
              clear hdec hpi
              go_region_held_law (fun w' => w'.cell? ⟨B, 0, none⟩ = some (.string s) ∧ w'.cell? ⟨B, 1, none⟩ = some (.int .i64 (k' : Int))) (first | assumption | exact ⟨hc0, hc1⟩ | go_keep)
                ((go_simp; go_at_call 89; refine (Tryd.strconv_ParseInt_10_at64_ok (s.extract k k') (by have := extract_size_le s k k'; omega) v HPI.out _).mono ?_; rintro e w9 ⟨rfl, hw9⟩; have hb9 := bytesWorld_below' _ 5 [] _ hw9; have hrd9 : Rd w9 B s (k' : Int) p := (hb9.block B (show B < wr.heap.size from Hrd.out.lt)).trans Hrd.out; have hbt9 : But B w w9 := but_via hb9 Hbt.out rfl rfl rfl rfl; have hk9 := And.intro hrd9.c0 hrd9.c1; have Hr9 := Lib.hid hrd9; have Hb9 := Lib.hid hbt9; clear hw9 hb9 hrd9 hbt9; dsimp only))
              go_wp2_with fail
              go_quiet (fail)
              go_wp2_with fail
              go_ret2
              rw [HDC.out]
              exact ⟨rfl, Hr9.out, Hb9.out.same rfl rfl rfl rfl⟩
            | none =>
              rw [hdec] at hpi
              have HPI := Lib.hid hpi
              have HDC := Lib.hid hdec
              clear hdec hpi
              obtain ⟨tp, pp, hvar⟩ := hE
              have HVR := Lib.hid (show ∀ W : World, W.heap[2]? = w.heap[2]? → W.var? Tryd.prog "strconv.ErrRange" = some #[.iface tp pp] from fun W hW => by
                unfold World.var? at hvar ⊢
                rw [rangeGlobal] at hvar ⊢
                simp only [Option.bind_some] at hvar ⊢
                rw [hW]
                exact hvar)
              have h2w := Hbt.out.block 2 hE2 (Ne.symm hB2)
              clear hvar
              go_region_held_law (fun w' => w'.cell? ⟨B, 0, none⟩ = some (.string s) ∧ w'.cell? ⟨B, 1, none⟩ = some (.int .i64 (k' : Int))) (first | assumption | exact ⟨hc0, hc1⟩ | go_keep)
                ((go_simp; go_at_call 89; refine (Tryd.strconv_ParseInt_10_at64_range_var (s.extract k k') (by have := extract_size_le s k k'; omega) HPI.out tp pp _ (by exact HVR.out _ h2w)).mono ?_; rintro e w9 ⟨N9, rfl, -, -, hb9⟩; have hrd9 : Rd w9 B s (k' : Int) p := (hb9.block B (show B < wr.heap.size from Hrd.out.lt)).trans Hrd.out; have hbt9 : But B w w9 := but_via hb9 Hbt.out rfl rfl rfl rfl; have hk9 := And.intro hrd9.c0 hrd9.c1; have Hr9 := Lib.hid hrd9; have Hb9 := Lib.hid hbt9; clear hb9 hrd9 hbt9; dsimp only))
              go_wp2_with fail
              go_quiet (fail)
              go_wp2_with fail
              go_ret2
              rw [HDC.out]
              exact ⟨⟨_, rfl⟩, Hr9.out, Hb9.out.same rfl rfl rfl rfl⟩
        · have t48 : (bAt tx 0 == 48) = false := by simpa using h48
          have hnf : ¬ noForm false (s.extract k k').data.toList := by
            rw [← Hlx.out, hcons]
            rintro (e | ⟨r, e, e'⟩)
            · cases e
            · injection e with e _
              exact h48 (by have h2 := bAt_range tx 0; rw [← u8_toNat _ h2.1 h2.2, e]; rfl)
          have hpi : parseIntB 64 (s.extract k k').data.toList = _ := Hsp.out.2 hnf
          clear hnf hcons hlen1 h48
          generalize bAt tx 0 = c0 at hb0 t48
          go_wp2_with fail
          have hc0 := Hrd.out.c0
          have hc1 := Hrd.out.c1
          cases hdec : decF s false k k' with
          | some v =>
            rw [hdec] at hpi
            have HPI := Lib.hid hpi
            have HDC := Lib.hid hdec
            clear hdec hpi
            go_region_held_law (fun w' => w'.cell? ⟨B, 0, none⟩ = some (.string s) ∧ w'.cell? ⟨B, 1, none⟩ = some (.int .i64 (k' : Int))) (first | assumption | exact ⟨hc0, hc1⟩ | go_keep)
              ((go_simp; go_at_call 89; refine (Tryd.strconv_ParseInt_10_at64_ok (s.extract k k') (by have := extract_size_le s k k'; omega) v HPI.out _).mono ?_; rintro e w9 ⟨rfl, hw9⟩; have hb9 := bytesWorld_below' _ 5 [] _ hw9; have hrd9 : Rd w9 B s (k' : Int) p := (hb9.block B (show B < wr.heap.size from Hrd.out.lt)).trans Hrd.out; have hbt9 : But B w w9 := but_via hb9 Hbt.out rfl rfl rfl rfl; have hk9 := And.intro hrd9.c0 hrd9.c1; have Hr9 := Lib.hid hrd9; have Hb9 := Lib.hid hbt9; clear hw9 hb9 hrd9 hbt9; dsimp only))
            go_wp2_with fail
            go_quiet (fail)
            go_wp2_with fail
            go_ret2
            rw [HDC.out]
            exact ⟨rfl, Hr9.out, Hb9.out.same rfl rfl rfl rfl⟩
          | none =>
            rw [hdec] at hpi
            have HPI := Lib.hid hpi
            have HDC := Lib.hid hdec
            clear hdec hpi
            obtain ⟨tp, pp, hvar⟩ := hE
            have HVR := Lib.hid (show ∀ W : World, W.heap[2]? = w.heap[2]? → W.var? Tryd.prog "strconv.ErrRange" = some #[.iface tp pp] from fun W hW => by
              unfold World.var? at hvar ⊢
              rw [rangeGlobal] at hvar ⊢
              simp only [Option.bind_some] at hvar ⊢
              rw [hW]
              exact hvar)
            have h2w := Hbt.out.block 2 hE2 (Ne.symm hB2)
            clear hvar
            go_region_held_law (fun w' => w'.cell? ⟨B, 0, none⟩ = some (.string s) ∧ w'.cell? ⟨B, 1, none⟩ = some (.int .i64 (k' : Int))) (first | assumption | exact ⟨hc0, hc1⟩ | go_keep)
              ((go_simp; go_at_call 89; refine (Tryd.strconv_ParseInt_10_at64_range_var (s.extract k k') (by have := extract_size_le s k k'; omega) HPI.out tp pp _ (by exact HVR.out _ h2w)).mono ?_; rintro e w9 ⟨N9, rfl, -, -, hb9⟩; have hrd9 : Rd w9 B s (k' : Int) p := (hb9.block B (show B < wr.heap.size from Hrd.out.lt)).trans Hrd.out; have hbt9 : But B w w9 := but_via hb9 Hbt.out rfl rfl rfl rfl; have hk9 := And.intro hrd9.c0 hrd9.c1; have Hr9 := Lib.hid hrd9; have Hb9 := Lib.hid hbt9; clear hb9 hrd9 hbt9; dsimp only))
            go_wp2_with fail
            go_quiet (fail)
            go_wp2_with fail
            go_ret2
            rw [HDC.out]
            exact ⟨⟨_, rfl⟩, Hr9.out, Hb9.out.same rfl rfl rfl rfl⟩
      · have hkI : decide ((k' : Int) < (s.size : Int)) = false := by simp; omega
        clear hat0 hrd hbt hdk
        go_wp2_with fail
        go_quiet (fail)
        go_wp2_with fail
        clear hkI
        go_quiet (fail)
        go_upto_region 8 with fail
        obtain ⟨tx, htx⟩ : ∃ tx, s.extract k k' = tx := ⟨_, rfl⟩
        have hlx : tx.data.toList = (s.extract k k').data.toList := by rw [htx]
        rw [htx]
        have Htx := Lib.hid htx
        have Hlx := Lib.hid hlx
        clear htx hlx
        by_cases hz : tx.size = 0
        · have hnil : tx.toList = [] := (size_nil' tx).1 hz
          have hnf : noForm false (s.extract k k').data.toList := .inl (by rw [← Hlx.out, ← ByteArray.toList_eq]; exact hnil)
          have hd0 := Hsp.out.1 hnf
          clear hnf hz
          have HD0 := Lib.hid hd0
          clear hd0
          go_wp2_with fail
          go_ret2
          rw [HD0.out]
          exact ⟨⟨_, rfl⟩, Hrd.out, Hbt.out.same rfl rfl rfl rfl⟩
        have hnn : ¬ tx.toList = [] := fun e => hz ((size_nil' tx).2 e)
        have hnn2 : tx.toList.isEmpty = false := by cases hh : tx.toList with | nil => exact absurd hh hnn | cons a b => rfl
        have hz0 : 0 < tx.size := by omega
        have hzI : (0 : Int) < (tx.size : Int) := by omega
        have hcons : tx.data.toList = u8 (bAt tx 0) :: tx.data.toList.drop 1 := by
          have := rest_at (s := tx) (k := 0) hz0
          rw [List.drop_zero] at this
          exact this
        have hb0 := bAt_eq tx 0 hz0
        have hlen1 : tx.data.toList.length = tx.size := size_list tx
        by_cases h48 : bAt tx 0 = 48
        · have hu48 : u8 (bAt tx 0) = 48 := by rw [h48]; rfl
          rw [h48] at hb0
          by_cases h1 : 1 < tx.size
          · have hnf : noForm false (s.extract k k').data.toList := .inr ⟨_, by rw [← Hlx.out, hcons, hu48], .inl (fun e => by rw [hcons, e] at hlen1; simp at hlen1; omega)⟩
            have t1 : decide ((1 : Int) < (tx.size : Int)) = true := by simp; omega
            have HD0 := Lib.hid (Hsp.out.1 hnf)
            clear hnf hcons hlen1 h48 hu48
            go_wp2_with fail
            go_ret2
            rw [HD0.out]
            exact ⟨⟨_, rfl⟩, Hrd.out, Hbt.out.same rfl rfl rfl rfl⟩
          · have t1 : decide ((1 : Int) < (tx.size : Int)) = false := by simp; omega
            have hr0 : tx.data.toList.drop 1 = [] := List.drop_eq_nil_of_le (by omega)
            have hnf : ¬ noForm false (s.extract k k').data.toList := by
              rw [← Hlx.out, hcons, hr0]
              rintro (e | ⟨r, e, e'⟩)
              · cases e
              · injection e with _ e
                rcases e' with e' | e'
                · exact e' e.symm
                · cases e'
            have hpi : parseIntB 64 (s.extract k k').data.toList = _ := Hsp.out.2 hnf
            clear hnf hcons hlen1 h48 hu48 hr0
            go_wp2_with fail
            have hc0 := Hrd.out.c0
            have hc1 := Hrd.out.c1
            cases hdec : decF s false k k' with
            | some v =>
              rw [hdec] at hpi
              have HPI := Lib.hid hpi
              have HDC := Lib.hid hdec
              clear hdec hpi
              go_region_held_law (fun w' => w'.cell? ⟨B, 0, none⟩ = some (.string s) ∧ w'.cell? ⟨B, 1, none⟩ = some (.int .i64 (k' : Int))) (first | assumption | exact ⟨hc0, hc1⟩ | go_keep)
                ((go_simp; go_at_call 89; refine (Tryd.strconv_ParseInt_10_at64_ok (s.extract k k') (by have := extract_size_le s k k'; omega) v HPI.out _).mono ?_; rintro e w9 ⟨rfl, hw9⟩; have hb9 := bytesWorld_below' _ 5 [] _ hw9; have hrd9 : Rd w9 B s (k' : Int) p := (hb9.block B (show B < wr.heap.size from Hrd.out.lt)).trans Hrd.out; have hbt9 : But B w w9 := but_via hb9 Hbt.out rfl rfl rfl rfl; have hk9 := And.intro hrd9.c0 hrd9.c1; have Hr9 := Lib.hid hrd9; have Hb9 := Lib.hid hbt9; clear hw9 hb9 hrd9 hbt9; dsimp only))
              go_wp2_with fail
              go_quiet (fail)
              go_wp2_with fail
              go_ret2
              rw [HDC.out]
              exact ⟨rfl, Hr9.out, Hb9.out.same rfl rfl rfl rfl⟩
            | none =>
              rw [hdec] at hpi
              have HPI := Lib.hid hpi
              have HDC := Lib.hid hdec
              clear hdec hpi
              obtain ⟨tp, pp, hvar⟩ := hE
              have HVR := Lib.hid (show ∀ W : World, W.heap[2]? = w.heap[2]? → W.var? Tryd.prog "strconv.ErrRange" = some #[.iface tp pp] from fun W hW => by
                unfold World.var? at hvar ⊢
                rw [rangeGlobal] at hvar ⊢
                simp only [Option.bind_some] at hvar ⊢
                rw [hW]
                exact hvar)
              have h2w := Hbt.out.block 2 hE2 (Ne.symm hB2)
              clear hvar
              go_region_held_law (fun w' => w'.cell? ⟨B, 0, none⟩ = some (.string s) ∧ w'.cell? ⟨B, 1, none⟩ = some (.int .i64 (k' : Int))) (first | assumption | exact ⟨hc0, hc1⟩ | go_keep)
                ((go_simp; go_at_call 89; refine (Tryd.strconv_ParseInt_10_at64_range_var (s.extract k k') (by have := extract_size_le s k k'; omega) HPI.out tp pp _ (by exact HVR.out _ h2w)).mono ?_; rintro e w9 ⟨N9, rfl, -, -, hb9⟩; have hrd9 : Rd w9 B s (k' : Int) p := (hb9.block B (show B < wr.heap.size from Hrd.out.lt)).trans Hrd.out; have hbt9 : But B w w9 := but_via hb9 Hbt.out rfl rfl rfl rfl; have hk9 := And.intro hrd9.c0 hrd9.c1; have Hr9 := Lib.hid hrd9; have Hb9 := Lib.hid hbt9; clear hb9 hrd9 hbt9; dsimp only))
              go_wp2_with fail
              go_quiet (fail)
              go_wp2_with fail
              go_ret2
              rw [HDC.out]
              exact ⟨⟨_, rfl⟩, Hr9.out, Hb9.out.same rfl rfl rfl rfl⟩
        · have t48 : (bAt tx 0 == 48) = false := by simpa using h48
          have hnf : ¬ noForm false (s.extract k k').data.toList := by
            rw [← Hlx.out, hcons]
            rintro (e | ⟨r, e, e'⟩)
            · cases e
            · injection e with e _
              exact h48 (by have h2 := bAt_range tx 0; rw [← u8_toNat _ h2.1 h2.2, e]; rfl)
          have hpi : parseIntB 64 (s.extract k k').data.toList = _ := Hsp.out.2 hnf
          clear hnf hcons hlen1 h48
          generalize bAt tx 0 = c0 at hb0 t48
          go_wp2_with fail
          have hc0 := Hrd.out.c0
          have hc1 := Hrd.out.c1
          cases hdec : decF s false k k' with
          | some v =>
            rw [hdec] at hpi
            have HPI := Lib.hid hpi
            have HDC := Lib.hid hdec
            clear hdec hpi
            go_region_held_law (fun w' => w'.cell? ⟨B, 0, none⟩ = some (.string s) ∧ w'.cell? ⟨B, 1, none⟩ = some (.int .i64 (k' : Int))) (first | assumption | exact ⟨hc0, hc1⟩ | go_keep)
              ((go_simp; go_at_call 89; refine (Tryd.strconv_ParseInt_10_at64_ok (s.extract k k') (by have := extract_size_le s k k'; omega) v HPI.out _).mono ?_; rintro e w9 ⟨rfl, hw9⟩; have hb9 := bytesWorld_below' _ 5 [] _ hw9; have hrd9 : Rd w9 B s (k' : Int) p := (hb9.block B (show B < wr.heap.size from Hrd.out.lt)).trans Hrd.out; have hbt9 : But B w w9 := but_via hb9 Hbt.out rfl rfl rfl rfl; have hk9 := And.intro hrd9.c0 hrd9.c1; have Hr9 := Lib.hid hrd9; have Hb9 := Lib.hid hbt9; clear hw9 hb9 hrd9 hbt9; dsimp only))
            go_wp2_with fail
            go_quiet (fail)
            go_wp2_with fail
            go_ret2
            rw [HDC.out]
            exact ⟨rfl, Hr9.out, Hb9.out.same rfl rfl rfl rfl⟩
          | none =>
            rw [hdec] at hpi
            have HPI := Lib.hid hpi
            have HDC := Lib.hid hdec
            clear hdec hpi
            obtain ⟨tp, pp, hvar⟩ := hE
            have HVR := Lib.hid (show ∀ W : World, W.heap[2]? = w.heap[2]? → W.var? Tryd.prog "strconv.ErrRange" = some #[.iface tp pp] from fun W hW => by
              unfold World.var? at hvar ⊢
              rw [rangeGlobal] at hvar ⊢
              simp only [Option.bind_some] at hvar ⊢
              rw [hW]
              exact hvar)
            have h2w := Hbt.out.block 2 hE2 (Ne.symm hB2)
            clear hvar
            go_region_held_law (fun w' => w'.cell? ⟨B, 0, none⟩ = some (.string s) ∧ w'.cell? ⟨B, 1, none⟩ = some (.int .i64 (k' : Int))) (first | assumption | exact ⟨hc0, hc1⟩ | go_keep)
              ((go_simp; go_at_call 89; refine (Tryd.strconv_ParseInt_10_at64_range_var (s.extract k k') (by have := extract_size_le s k k'; omega) HPI.out tp pp _ (by exact HVR.out _ h2w)).mono ?_; rintro e w9 ⟨N9, rfl, -, -, hb9⟩; have hrd9 : Rd w9 B s (k' : Int) p := (hb9.block B (show B < wr.heap.size from Hrd.out.lt)).trans Hrd.out; have hbt9 : But B w w9 := but_via hb9 Hbt.out rfl rfl rfl rfl; have hk9 := And.intro hrd9.c0 hrd9.c1; have Hr9 := Lib.hid hrd9; have Hb9 := Lib.hid hbt9; clear hb9 hrd9 hbt9; dsimp only))
            go_wp2_with fail
            go_quiet (fail)
            go_wp2_with fail
            go_ret2
            rw [HDC.out]
            exact ⟨⟨_, rfl⟩, Hr9.out, Hb9.out.same rfl rfl rfl rfl⟩
end Go.Proofs.YtmiipfdndgjndaaDoor
