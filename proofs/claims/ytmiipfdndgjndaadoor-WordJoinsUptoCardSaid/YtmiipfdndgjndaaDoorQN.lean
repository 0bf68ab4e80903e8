/- The contract of the program's digits behind a minus: printed by gen_digits.py. -/
import Derived.Test.YtmiipfdndgjndaaDoorQ
namespace Go.Proofs.YtmiipfdndgjndaaDoor
open Go.RowKit Go.Lib
set_option maxHeartbeats 1000000
theorem extract_cons (s : ByteArray) (k k' : Nat) (hk : k < s.size) (hkk : k + 1 ≤ k') (h45 : bAt s k = 45) : (s.extract k k').data.toList = (if true then [45] else []) ++ (s.extract (k + 1) k').data.toList := by
  rw [Lib.extract_data, Lib.extract_data, rest_at hk, show k' - k = k' - (k + 1) + 1 by omega, List.take_succ_cons, h45]
  rfl
set_option maxRecDepth 100000 in
theorem digits_neg (B : Nat) (s : ByteArray) (k : Nat) (p : Int) (w : World) (hS : s.size ≤ 140737488351232) (h : Rd w B s k p) (hkl : k < s.size) (h45 : bAt s k = 45) (hB2 : B ≠ 2) (hE : ErrVar w) :
    Calls Tryd.prog 74 #[.pointer (some ⟨B, 0, none⟩), .bool true] w (DigPost B s p (whileF s false (s.size + 1) (k + 1)) (decF s true (k + 1) (whileF s false (s.size + 1) (k + 1))) w) := by
  have hk0 : k + 1 ≤ s.size := hkl
  have hsp := dec_spec s true (k + 1) (whileF s false (s.size + 1) (k + 1)) _ rfl (seg_alldig s (k + 1) hk0) (seg_length s (k + 1) _ (whileF_spec s false (s.size + 1) (k + 1) (by omega) hk0).1 (whileF_spec s false (s.size + 1) (k + 1) (by omega) hk0).2.1) (whileF_spec s false (s.size + 1) (k + 1) (by omega) hk0).1
  obtain ⟨k2, hk2⟩ : ∃ k2, whileF s false (s.size + 1) (k + 1) = k2 := ⟨_, rfl⟩
  rw [hk2] at hsp ⊢
  have Hk2 := Lib.hid hk2
  have Hsp := Lib.hid hsp
  have hE2 := hE.lt
  have c1 := h.c1
  have f1 := h.f 1
  have hrd1 : Rd (w.setCell ⟨B, 1, none⟩ (.int .i64 ((k : Int) + 1))) B s ((k + 1 : Nat) : Int) p := Rd.at (Rd.set1 h _) (by omega)
  have rc1 := hrd1.c1
  have hcast : ((k + 1 : Nat) : Int) = (k : Int) + 1 := by omega
  rw [hcast] at rc1
  have Hcast := Lib.hid hcast
  have Hrd1 := Lib.hid hrd1
  have Hbt1 := Lib.hid ((But.refl B w).setCell 1 (.int .i64 ((k : Int) + 1)))
  have H45 := Lib.hid h45
  clear hk2 hsp hrd1 hcast h45
  go_enter Tryd.func74, Tryd.ntmps74
  go_wp2_with fail
  rw [← Hcast.out]
  go_loopw [] (fun wr => ∃ (k' f : Nat), Rd wr B s (k' : Int) p ∧ But B w wr ∧ s.size < k' + f ∧ whileF s false f k' = k2 ∧ k' ≤ s.size ∧ (k + 1) ≤ k') (fun wr => s.size + 1 - atOf B wr)
  case atStart => exact ⟨k + 1, s.size + 1, by exact Hrd1.out, by exact Hbt1.out, by omega, Hk2.out, by omega, Nat.le_refl _⟩
  case round =>
    obtain ⟨k', f, hrd, hbt, hf, hq, hks, hkk⟩ := hrel
    obtain ⟨f, rfl⟩ : ∃ g, f = g + 1 := ⟨f - 1, by omega⟩
    have c0 := hrd.c0
    have c1 := hrd.c1
    have f1 := hrd.f 1
    have hat0 := atOf_rd hrd
    by_cases hdk : k' < s.size ∧ (digitI (bAt s k') || (false && letterI (bAt s k'))) = true
    · rw [whileF_step s false f k' hdk] at hq
      obtain ⟨hk, hdg⟩ := hdk
      simp only [Bool.false_and, Bool.or_false] at hdg
      have hkI : decide ((k' : Int) < (s.size : Int)) = true := by simp; omega
      have g0 : (0 : Int) ≤ (k' : Int) := by omega
      have g1 : (k' : Int) < (s.size : Int) := by omega
      have hbe := bAt_eq s k' hk
      have hdc := fun W => digit_any (bAt s k') W
      rw [hdg] at hdc
      generalize bAt s k' = c at hbe hdc
      have HD := Lib.hid hdc
      have Hq := Lib.hid hq
      have Hat := Lib.hid hat0
      clear hdc hq hat0 hdg
      go_wp2_with fail
      go_quiet ((go_at_call 73; refine (HD.out _).mono ?_; rintro e w' ⟨rfl, rfl⟩; exact ⟨rfl, _, rfl⟩))
      go_wp2_with fail
      refine ⟨⟨k' + 1, f, Rd.at (Rd.set1 (show Rd _ B s (k' : Int) p from hrd) _) (by omega), (hbt.setCell 1 _).same rfl rfl rfl rfl, by omega, Hq.out, by omega, by omega⟩, ?_⟩
      exact measure_step (s := s) (p := p) (by exact Rd.at (Rd.set1 (show Rd _ B s (k' : Int) p from hrd) _) (by omega)) Hat.out hk
    · rw [whileF_stay s false f k' hdk] at hq
      subst hq
      have hX := extract_cons s k k' hkl hkk H45.out
      have HFR := Lib.hid hX
      clear hX
      have g5 : (0 : Int) ≤ (k : Int) := by omega
      have g6 : (k : Int) ≤ (k' : Int) := by omega
      have Hrd := Lib.hid hrd
      have Hbt := Lib.hid hbt
      have g0 : (0 : Int) ≤ (((k + 1) : Nat) : Int) := by omega
      have g1 : (((k + 1) : Nat) : Int) ≤ (k' : Int) := by omega
      have g2 : (k' : Int) ≤ (s.size : Int) := by omega
      by_cases hk : k' < s.size
      · have hkI : decide ((k' : Int) < (s.size : Int)) = true := by simp; omega
        have g3 : (0 : Int) ≤ (k' : Int) := by omega
        have g4 : (k' : Int) < (s.size : Int) := by omega
        have hbe := bAt_eq s k' hk
        have hdc := fun W => digit_any (bAt s k') W
        have hdg : digitI (bAt s k') = false := by
          cases h : digitI (bAt s k') with
          | false => rfl
          | true => exact absurd ⟨hk, by simp [h]⟩ hdk
        rw [hdg] at hdc
        generalize bAt s k' = c at hbe hdc
        have HD := Lib.hid hdc
        clear hdc hat0 hdg hrd hbt hdk
        go_wp2_with fail
        go_quiet ((go_at_call 73; refine (HD.out _).mono ?_; rintro e w' ⟨rfl, rfl⟩; exact ⟨rfl, _, rfl⟩))
        go_wp2_with fail
        clear hbe hkI g3 g4
        go_quiet (fail)
        go_upto_region 8 with fail
        obtain ⟨tx, htx⟩ : ∃ tx, s.extract (k + 1) k' = tx := ⟨_, rfl⟩
        have hlx : tx.data.toList = (s.extract (k + 1) k').data.toList := by rw [htx]
        rw [htx]
        have Htx := Lib.hid htx
        have Hlx := Lib.hid hlx
        clear htx hlx
        by_cases hz : tx.size = 0
        · have hnil : tx.toList = [] := (size_nil' tx).1 hz
          have hnf : noForm true (s.extract (k + 1) k').data.toList := .inl (by rw [← Hlx.out, ← ByteArray.toList_eq]; exact hnil)
          have hd0 := Hsp.out.1 hnf
          clear hnf hz
          have HD0 := Lib.hid hd0
          clear hd0
          go_wp2_with fail
          go_ret2
          rw [HD0.out]
          exact ⟨⟨_, rfl⟩, Hrd.out, Hbt.out.same rfl rfl rfl rfl⟩
        have hnn : ¬ tx.toList = [] := fun e => hz ((size_nil' tx).2 e)
        have hnn2 : tx.toList.isEmpty = false := by cases hh : tx.toList with | nil => exact absurd hh hnn | cons a b => rfl
        have hz0 : 0 < tx.size := by omega
        have hzI : (0 : Int) < (tx.size : Int) := by omega
        have hcons : tx.data.toList = u8 (bAt tx 0) :: tx.data.toList.drop 1 := by
          have := rest_at (s := tx) (k := 0) hz0
          rw [List.drop_zero] at this
          exact this
        have hb0 := bAt_eq tx 0 hz0
        have hlen1 : tx.data.toList.length = tx.size := size_list tx
        by_cases h48 : bAt tx 0 = 48
        · have hu48 : u8 (bAt tx 0) = 48 := by rw [h48]; rfl
          rw [h48] at hb0
          by_cases h1 : 1 < tx.size
          · have hnf : noForm true (s.extract (k + 1) k').data.toList := .inr ⟨_, by rw [← Hlx.out, hcons, hu48], .inl (fun e => by rw [hcons, e] at hlen1; simp at hlen1; omega)⟩
            have t1 : decide ((1 : Int) < (tx.size : Int)) = true := by simp; omega
            have HD0 := Lib.hid (Hsp.out.1 hnf)
            clear hnf hcons hlen1 h48 hu48
            go_wp2_with fail
            go_ret2
            rw [HD0.out]
            exact ⟨⟨_, rfl⟩, Hrd.out, Hbt.out.same rfl rfl rfl rfl⟩
          · have t1 : decide ((1 : Int) < (tx.size : Int)) = false := by simp; omega
            have hr0 : tx.data.toList.drop 1 = [] := List.drop_eq_nil_of_le (by omega)
            have hnf : noForm true (s.extract (k + 1) k').data.toList := .inr ⟨_, by rw [← Hlx.out, hcons, hu48], .inr rfl⟩
            have HD0 := Lib.hid (Hsp.out.1 hnf)
            clear hnf hcons hlen1 h48 hu48 hr0
            go_wp2_with fail
            go_ret2
            rw [HD0.out]
            exact ⟨⟨_, rfl⟩, Hrd.out, Hbt.out.same rfl rfl rfl rfl⟩
        · have t48 : (bAt tx 0 == 48) = false := by simpa using h48
          have hnf : ¬ noForm true (s.extract (k + 1) k').data.toList := by
            rw [← Hlx.out, hcons]
            rintro (e | ⟨r, e, e'⟩)
            · cases e
            · injection e with e _
              exact h48 (by have h2 := bAt_range tx 0; rw [← u8_toNat _ h2.1 h2.2, e]; rfl)
          have hpi : parseIntB 64 (s.extract k k').data.toList = _ := (congrArg (parseIntB 64) HFR.out).trans (Hsp.out.2 hnf)
          clear hnf hcons hlen1 h48
          generalize bAt tx 0 = c0 at hb0 t48
          go_wp2_with fail
          have hc0 := Hrd.out.c0
          have hc1 := Hrd.out.c1
          cases hdec : decF s true (k + 1) k' with
          | some v =>
            rw [hdec] at hpi
            have HPI := Lib.hid hpi
            have HDC := Lib.hid hdec
            clear hdec hpi
            go_region_held_law (fun w' => w'.cell? ⟨B, 0, none⟩ = some (.string s) ∧ w'.cell? ⟨B, 1, none⟩ = some (.int .i64 (k' : Int))) (first | assumption | exact ⟨hc0, hc1⟩ | go_keep)
              ((go_simp; go_at_call 89; refine (Tryd.strconv_ParseInt_10_at64_ok (s.extract k k') (by have := extract_size_le s k k'; omega) v HPI.out _).mono ?_; rintro e w9 ⟨rfl, hw9⟩; have hb9 := bytesWorld_below' _ 5 [] _ hw9; have hrd9 : Rd w9 B s (k' : Int) p := (hb9.block B (show B < wr.heap.size from Hrd.out.lt)).trans Hrd.out; have hbt9 : But B w w9 := but_via hb9 Hbt.out rfl rfl rfl rfl; have hk9 := And.intro hrd9.c0 hrd9.c1; have Hr9 := Lib.hid hrd9; have Hb9 := Lib.hid hbt9; clear hw9 hb9 hrd9 hbt9; dsimp only))
            go_wp2_with fail
            go_quiet (fail)
            go_wp2_with fail
            go_ret2
            rw [HDC.out]
            exact ⟨rfl, Hr9.out, Hb9.out.same rfl rfl rfl rfl⟩
          | none =>
            rw [hdec] at hpi
            have HPI := Lib.hid hpi
            have HDC := Lib.hid hdec
            clear hdec hpi
            obtain ⟨tp, pp, hvar⟩ := hE
            have HVR := Lib.hid (show ∀ W : World, W.heap[2]? = w.heap[2]? → W.var? Tryd.prog "strconv.ErrRange" = some #[.iface tp pp] from fun W hW => by
              unfold World.var? at hvar ⊢
              rw [rangeGlobal] at hvar ⊢
              simp only [Option.bind_some] at hvar ⊢
              rw [hW]
              exact hvar)
            have h2w := Hbt.out.block 2 hE2 (Ne.symm hB2)
            clear hvar
            go_region_held_law (fun w' => w'.cell? ⟨B, 0, none⟩ = some (.string s) ∧ w'.cell? ⟨B, 1, none⟩ = some (.int .i64 (k' : Int))) (first | assumption | exact ⟨hc0, hc1⟩ | go_keep)
              ((go_simp; go_at_call 89; refine (Tryd.strconv_ParseInt_10_at64_range_var (s.extract k k') (by have := extract_size_le s k k'; omega) HPI.out tp pp _ (by exact HVR.out _ h2w)).mono ?_; rintro e w9 ⟨N9, rfl, -, -, hb9⟩; have hrd9 : Rd w9 B s (k' : Int) p := (hb9.block B (show B < wr.heap.size from Hrd.out.lt)).trans Hrd.out; have hbt9 : But B w w9 := but_via hb9 Hbt.out rfl rfl rfl rfl; have hk9 := And.intro hrd9.c0 hrd9.c1; have Hr9 := Lib.hid hrd9; have Hb9 := Lib.hid hbt9; clear hb9 hrd9 hbt9; dsimp only))
            go_wp2_with fail
            go_quiet (fail)
            go_wp2_with fail
            go_ret2
            rw [HDC.out]
            exact ⟨⟨_, rfl⟩, Hr9.out, Hb9.out.same rfl rfl rfl rfl⟩
      · have hkI : decide ((k' : Int) < (s.size : Int)) = false := by simp; omega
        clear hat0 hrd hbt hdk
        go_wp2_with fail
        go_quiet (fail)
        go_wp2_with fail
        clear hkI
        go_quiet (fail)
        go_upto_region 8 with fail
        obtain ⟨tx, htx⟩ : ∃ tx, s.extract (k + 1) k' = tx := ⟨_, rfl⟩
        have hlx : tx.data.toList = (s.extract (k + 1) k').data.toList := by rw [htx]
        rw [htx]
        have Htx := Lib.hid htx
        have Hlx := Lib.hid hlx
        clear htx hlx
        by_cases hz : tx.size = 0
        · have hnil : tx.toList = [] := (size_nil' tx).1 hz
          have hnf : noForm true (s.extract (k + 1) k').data.toList := .inl (by rw [← Hlx.out, ← ByteArray.toList_eq]; exact hnil)
          have hd0 := Hsp.out.1 hnf
          clear hnf hz
          have HD0 := Lib.hid hd0
          clear hd0
          go_wp2_with fail
          go_ret2
          rw [HD0.out]
          exact ⟨⟨_, rfl⟩, Hrd.out, Hbt.out.same rfl rfl rfl rfl⟩
        have hnn : ¬ tx.toList = [] := fun e => hz ((size_nil' tx).2 e)
        have hnn2 : tx.toList.isEmpty = false := by cases hh : tx.toList with | nil => exact absurd hh hnn | cons a b => rfl
        have hz0 : 0 < tx.size := by omega
        have hzI : (0 : Int) < (tx.size : Int) := by omega
        have hcons : tx.data.toList = u8 (bAt tx 0) :: tx.data.toList.drop 1 := by
          have := rest_at (s := tx) (k := 0) hz0
          rw [List.drop_zero] at this
          exact this
        have hb0 := bAt_eq tx 0 hz0
        have hlen1 : tx.data.toList.length = tx.size := size_list tx
        by_cases h48 : bAt tx 0 = 48
        · have hu48 : u8 (bAt tx 0) = 48 := by rw [h48]; rfl
          rw [h48] at hb0
          by_cases h1 : 1 < tx.size
          · have hnf : noForm true (s.extract (k + 1) k').data.toList := .inr ⟨_, by rw [← Hlx.out, hcons, hu48], .inl (fun e => by rw [hcons, e] at hlen1; simp at hlen1; omega)⟩
            have t1 : decide ((1 : Int) < (tx.size : Int)) = true := by simp; omega
            have HD0 := Lib.hid (Hsp.out.1 hnf)
            clear hnf hcons hlen1 h48 hu48
            go_wp2_with fail
            go_ret2
            rw [HD0.out]
            exact ⟨⟨_, rfl⟩, Hrd.out, Hbt.out.same rfl rfl rfl rfl⟩
          · have t1 : decide ((1 : Int) < (tx.size : Int)) = false := by simp; omega
            have hr0 : tx.data.toList.drop 1 = [] := List.drop_eq_nil_of_le (by omega)
            have hnf : noForm true (s.extract (k + 1) k').data.toList := .inr ⟨_, by rw [← Hlx.out, hcons, hu48], .inr rfl⟩
            have HD0 := Lib.hid (Hsp.out.1 hnf)
            clear hnf hcons hlen1 h48 hu48 hr0
            go_wp2_with fail
            go_ret2
            rw [HD0.out]
            exact ⟨⟨_, rfl⟩, Hrd.out, Hbt.out.same rfl rfl rfl rfl⟩
        · have t48 : (bAt tx 0 == 48) = false := by simpa using h48
          have hnf : ¬ noForm true (s.extract (k + 1) k').data.toList := by
            rw [← Hlx.out, hcons]
            rintro (e | ⟨r, e, e'⟩)
            · cases e
            · injection e with e _
              exact h48 (by have h2 := bAt_range tx 0; rw [← u8_toNat _ h2.1 h2.2, e]; rfl)
          have hpi : parseIntB 64 (s.extract k k').data.toList = _ := (congrArg (parseIntB 64) HFR.out).trans (Hsp.out.2 hnf)
          clear hnf hcons hlen1 h48
          generalize bAt tx 0 = c0 at hb0 t48
          go_wp2_with fail
          have hc0 := Hrd.out.c0
          have hc1 := Hrd.out.c1
          cases hdec : decF s true (k + 1) k' with
          | some v =>
            rw [hdec] at hpi
            have HPI := Lib.hid hpi
            have HDC := Lib.hid hdec
            clear hdec hpi
            go_region_held_law (fun w' => w'.cell? ⟨B, 0, none⟩ = some (.string s) ∧ w'.cell? ⟨B, 1, none⟩ = some (.int .i64 (k' : Int))) (first | assumption | exact ⟨hc0, hc1⟩ | go_keep)
              ((go_simp; go_at_call 89; refine (Tryd.strconv_ParseInt_10_at64_ok (s.extract k k') (by have := extract_size_le s k k'; omega) v HPI.out _).mono ?_; rintro e w9 ⟨rfl, hw9⟩; have hb9 := bytesWorld_below' _ 5 [] _ hw9; have hrd9 : Rd w9 B s (k' : Int) p := (hb9.block B (show B < wr.heap.size from Hrd.out.lt)).trans Hrd.out; have hbt9 : But B w w9 := but_via hb9 Hbt.out rfl rfl rfl rfl; have hk9 := And.intro hrd9.c0 hrd9.c1; have Hr9 := Lib.hid hrd9; have Hb9 := Lib.hid hbt9; clear hw9 hb9 hrd9 hbt9; dsimp only))
            go_wp2_with fail
            go_quiet (fail)
            go_wp2_with fail
            go_ret2
            rw [HDC.out]
            exact ⟨rfl, Hr9.out, Hb9.out.same rfl rfl rfl rfl⟩
          | none =>
            rw [hdec] at hpi
            have HPI := Lib.hid hpi
            have HDC := Lib.hid hdec
            clear hdec hpi
            obtain ⟨tp, pp, hvar⟩ := hE
            have HVR := Lib.hid (show ∀ W : World, W.heap[2]? = w.heap[2]? → W.var? Tryd.prog "strconv.ErrRange" = some #[.iface tp pp] from fun W hW => by
              unfold World.var? at hvar ⊢
              rw [rangeGlobal] at hvar ⊢
              simp only [Option.bind_some] at hvar ⊢
              rw [hW]
              exact hvar)
            have h2w := Hbt.out.block 2 hE2 (Ne.symm hB2)
            clear hvar
            go_region_held_law (fun w' => w'.cell? ⟨B, 0, none⟩ = some (.string s) ∧ w'.cell? ⟨B, 1, none⟩ = some (.int .i64 (k' : Int))) (first | assumption | exact ⟨hc0, hc1⟩ | go_keep)
              ((go_simp; go_at_call 89; refine (Tryd.strconv_ParseInt_10_at64_range_var (s.extract k k') (by have := extract_size_le s k k'; omega) HPI.out tp pp _ (by exact HVR.out _ h2w)).mono ?_; rintro e w9 ⟨N9, rfl, -, -, hb9⟩; have hrd9 : Rd w9 B s (k' : Int) p := (hb9.block B (show B < wr.heap.size from Hrd.out.lt)).trans Hrd.out; have hbt9 : But B w w9 := but_via hb9 Hbt.out rfl rfl rfl rfl; have hk9 := And.intro hrd9.c0 hrd9.c1; have Hr9 := Lib.hid hrd9; have Hb9 := Lib.hid hbt9; clear hb9 hrd9 hbt9; dsimp only))
            go_wp2_with fail
            go_quiet (fail)
            go_wp2_with fail
            go_ret2
            rw [HDC.out]
            exact ⟨⟨_, rfl⟩, Hr9.out, Hb9.out.same rfl rfl rfl rfl⟩
end Go.Proofs.YtmiipfdndgjndaaDoor
