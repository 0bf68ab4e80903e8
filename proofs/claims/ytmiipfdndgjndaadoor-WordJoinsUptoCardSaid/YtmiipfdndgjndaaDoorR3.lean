/- The contract of the program's token: names: printed by gen_token.py. -/
import Derived.Test.YtmiipfdndgjndaaDoorR2
import Derived.Deep.Cut
namespace Go.Proofs.YtmiipfdndgjndaaDoor
open Go.RowKit Go.Lib
set_option maxHeartbeats 1000000
def nameTok (s : ByteArray) (k k2 : Nat) : Except Nat (T × Nat) := if k2 - k ≤ 32 then .ok (⟨1, k, 0, s.extract k k2, 0⟩, k2) else .error k
set_option maxRecDepth 100000 in
theorem tok_name (B : Nat) (s : ByteArray) (k : Nat) (p : Int) (w : World) (hS : s.size ≤ 140737488351232) (h : Rd w B s k p) (hk : k < s.size) (hc : letterI (bAt s k) = true) :
    Calls Tryd.prog 50 #[.pointer (some ⟨B, 0, none⟩), .int .u8 (bAt s k)] w (TokPost B s p (nameTok s k (whileF s true (s.size + 1) k)) w) := by
  obtain ⟨z0, z1, hrd1, hbt1, hsz1⟩ := tok_start B s k p w h
  have hlt := h.lt
  have c0 := h.c0
  have c1 := h.c1
  have f1 := h.f 1
  have Z0 := Lib.hid z0
  have Z1 := Lib.hid z1
  have Hrd1 := Lib.hid hrd1
  have Hbt1 := Lib.hid hbt1
  have Hsz1 := Lib.hid hsz1
  clear z0 z1 hrd1 hbt1 hsz1
  obtain ⟨k2, hk2⟩ : ∃ k2, whileF s true (s.size + 1) k = k2 := ⟨_, rfl⟩
  rw [hk2]
  have Hk2 := Lib.hid hk2
  have a1 := letter_any (bAt s k)
  rw [hc] at a1
  clear hk2 hc
  generalize bAt s k = c00 at a1 ⊢
  have A1 := Lib.hid a1
  clear a1
  go_enter Tryd.func50, Tryd.ntmps50
  go_wp2_with fail
  refine (A1.out _).mono ?_
  rintro e w' ⟨rfl, rfl⟩
  go_wp2_with fail
  generalize ((w.alloc (.cells #[.int .u8 0, .int .i64 0, .int .i64 0, .string ⟨#[]⟩, .int .i64 0] 56)).alloc (.cells #[.int .u8 0, .int .i64 (k : Int), .int .i64 0, .string ⟨#[]⟩, .int .i64 0] 56)) = w1 at *
  go_loopw [] (fun wr => ∃ (k' f : Nat), Rd wr B s (k' : Int) p ∧ But B w1 wr ∧ s.size < k' + f ∧ whileF s true f k' = k2 ∧ k' ≤ s.size ∧ k ≤ k') (fun wr => s.size + 1 - atOf B wr)
  case atStart => exact ⟨k, s.size + 1, by exact Hrd1.out, But.refl _ _, by omega, Hk2.out, by omega, Nat.le_refl _⟩
  case round =>
    obtain ⟨k', f, hrd, hbt, hf, hq, hks, hkk⟩ := hrel
    obtain ⟨f, rfl⟩ : ∃ g, f = g + 1 := ⟨f - 1, by omega⟩
    have c0 := hrd.c0
    have c1 := hrd.c1
    have f1 := hrd.f 1
    have hat0 := atOf_rd hrd
    by_cases hdk : k' < s.size ∧ (digitI (bAt s k') || (true && letterI (bAt s k'))) = true
    · rw [whileF_step s true f k' hdk] at hq
      obtain ⟨hk, hdg⟩ := hdk
      have hkI : decide ((k' : Int) < (s.size : Int)) = true := by simp; omega
      have g0 : (0 : Int) ≤ (k' : Int) := by omega
      have g1 : (k' : Int) < (s.size : Int) := by omega
      have hbe := bAt_eq s k' hk
      have hlc := fun W => letter_any (bAt s k') W
      have hdc := fun W => digit_any (bAt s k') W
      have hor : letterI (bAt s k') = true ∨ (letterI (bAt s k') = false ∧ digitI (bAt s k') = true) := by
        cases h1 : letterI (bAt s k') with
        | true => exact .inl rfl
        | false => rw [h1] at hdg; exact .inr ⟨rfl, by simpa using hdg⟩
      have Hq := Lib.hid hq
      have Hat := Lib.hid hat0
      clear hq hat0 hdg
      rcases hor with h1 | ⟨h1, h2⟩
      · rw [h1] at hlc
        generalize bAt s k' = c at hbe hlc hdc h1
        have HL := Lib.hid hlc
        have HD := Lib.hid hdc
        clear hlc hdc h1
        go_wp2_with fail
        go_quiet (first | ((go_at_call 72; refine (HL.out _).mono ?_; rintro e w' ⟨rfl, rfl⟩; exact ⟨rfl, _, rfl⟩)) | ((go_at_call 73; refine (HD.out _).mono ?_; rintro e w' ⟨rfl, rfl⟩; exact ⟨rfl, _, rfl⟩)))
        go_wp2_with fail
        refine ⟨⟨k' + 1, f, Rd.at (Rd.set1 (show Rd _ B s (k' : Int) p from hrd) _) (by omega), (hbt.setCell 1 _).same rfl rfl rfl rfl, by omega, Hq.out, by omega, by omega⟩, ?_⟩
        exact measure_step (s := s) (p := p) (by exact Rd.at (Rd.set1 (show Rd _ B s (k' : Int) p from hrd) _) (by omega)) Hat.out hk
      · rw [h1] at hlc
        rw [h2] at hdc
        generalize bAt s k' = c at hbe hlc hdc h1 h2
        have HL := Lib.hid hlc
        have HD := Lib.hid hdc
        clear hlc hdc h1 h2
        go_wp2_with fail
        go_quiet (first | ((go_at_call 72; refine (HL.out _).mono ?_; rintro e w' ⟨rfl, rfl⟩; exact ⟨rfl, _, rfl⟩)) | ((go_at_call 73; refine (HD.out _).mono ?_; rintro e w' ⟨rfl, rfl⟩; exact ⟨rfl, _, rfl⟩)))
        go_wp2_with fail
        refine ⟨⟨k' + 1, f, Rd.at (Rd.set1 (show Rd _ B s (k' : Int) p from hrd) _) (by omega), (hbt.setCell 1 _).same rfl rfl rfl rfl, by omega, Hq.out, by omega, by omega⟩, ?_⟩
        exact measure_step (s := s) (p := p) (by exact Rd.at (Rd.set1 (show Rd _ B s (k' : Int) p from hrd) _) (by omega)) Hat.out hk
    · rw [whileF_stay s true f k' hdk] at hq
      subst hq
      have g0 : (0 : Int) ≤ (k : Int) := by omega
      have g1 : (k : Int) ≤ (k' : Int) := by omega
      have g2 : (k' : Int) ≤ (s.size : Int) := by omega
      by_cases hk : k' < s.size
      · have hkI : decide ((k' : Int) < (s.size : Int)) = true := by simp; omega
        have g3 : (0 : Int) ≤ (k' : Int) := by omega
        have g4 : (k' : Int) < (s.size : Int) := by omega
        have hbe := bAt_eq s k' hk
        have hlc := fun W => letter_any (bAt s k') W
        have hdc := fun W => digit_any (bAt s k') W
        have h1 : letterI (bAt s k') = false := by
          cases h : letterI (bAt s k') with
          | false => rfl
          | true => exact absurd ⟨hk, by simp [h]⟩ hdk
        have h2 : digitI (bAt s k') = false := by
          cases h : digitI (bAt s k') with
          | false => rfl
          | true => exact absurd ⟨hk, by simp [h]⟩ hdk
        rw [h1] at hlc
        rw [h2] at hdc
        generalize bAt s k' = c at hbe hlc hdc h1 h2
        have HL := Lib.hid hlc
        have HD := Lib.hid hdc
        clear hlc hdc h1 h2 hat0 hdk
        go_wp2_with fail
        go_quiet (first | ((go_at_call 72; refine (HL.out _).mono ?_; rintro e w' ⟨rfl, rfl⟩; exact ⟨rfl, _, rfl⟩)) | ((go_at_call 73; refine (HD.out _).mono ?_; rintro e w' ⟨rfl, rfl⟩; exact ⟨rfl, _, rfl⟩)))
        go_wp2_with fail
        clear hbe hkI g3 g4
        have z0 := (hbt.block w.heap.size (by rw [Hsz1.out]; omega) (by omega)).trans Z0.out
        have z1 := (hbt.block (w.heap.size + 1) (by rw [Hsz1.out]; omega) (by omega)).trans Z1.out
        have hsz2 := hbt.size
        rw [Hsz1.out] at hsz2
        have y0 := blk_cell z1 0
        have y1 := blk_cell z1 1
        have y2 := blk_cell z1 2
        have y3 := blk_cell z1 3
        have y4 := blk_cell z1 4
        have xx0 := blk_cell z0 0
        have xxf0 := blk_unfrozen z0 0
        have xx1 := blk_cell z0 1
        have xxf1 := blk_unfrozen z0 1
        have xx2 := blk_cell z0 2
        have xxf2 := blk_unfrozen z0 2
        have xx3 := blk_cell z0 3
        have xxf3 := blk_unfrozen z0 3
        have xx4 := blk_cell z0 4
        have xxf4 := blk_unfrozen z0 4
        have yf0 := blk_unfrozen z1 0
        have yf2 := blk_unfrozen z1 2
        have yf3 := blk_unfrozen z1 3
        have yf4 := blk_unfrozen z1 4
        have Z0b := Lib.hid z0
        have Z1b := Lib.hid z1
        have q0 := hrd.c0
        have q1 := hrd.c1
        have Hrd := Lib.hid hrd
        have Hbt := Lib.hid hbt
        clear z0 z1 hrd hbt c0 c1 f1
        have hne1 : ¬ B = w.heap.size + 1 := by omega
        have hne2 : ¬ w.heap.size + 1 = B := by omega
        go_region_held_law (fun w' => w'.cell? ⟨B, 0, none⟩ = some (.string s) ∧ w'.cell? ⟨B, 1, none⟩ = some (.int .i64 (k' : Int))) (first | exact ⟨q0, q1⟩ | go_keep) ((fail))
        go_upto_region 8 with fail
        have hsx := seg_length s k k' hkk hks
        rw [size_list] at hsx
        generalize htx : s.extract k k' = tx at *
        have Htx := Lib.hid htx
        clear htx
        have Hsx := Lib.hid hsx
        clear hsx
        have hrdW : Rd (wr.drewN (nq + 1)) B s (k' : Int) p := Hrd.out
        have hbtW : But B w (wr.drewN (nq + 1)) := (Hbt1.out.trans Hbt.out).drewN (nq + 1)
        have z0W : (wr.drewN (nq + 1)).heap[w.heap.size]? = _ := Z0b.out
        have z1W : (wr.drewN (nq + 1)).heap[w.heap.size + 1]? = _ := Z1b.out
        generalize wr.drewN (nq + 1) = W at *
        have yw0 := blk_cell z1W 0
        have yw1 := blk_cell z1W 1
        have yw2 := blk_cell z1W 2
        have yw3 := blk_cell z1W 3
        have yw4 := blk_cell z1W 4
        have xw0 := blk_cell z0W 0
        have xwf0 := blk_unfrozen z0W 0
        have xw1 := blk_cell z0W 1
        have xwf1 := blk_unfrozen z0W 1
        have xw2 := blk_cell z0W 2
        have xwf2 := blk_unfrozen z0W 2
        have xw3 := blk_cell z0W 3
        have xwf3 := blk_unfrozen z0W 3
        have xw4 := blk_cell z0W 4
        have xwf4 := blk_unfrozen z0W 4
        have ywf0 := blk_unfrozen z1W 0
        have ywf2 := blk_unfrozen z1W 2
        have ywf3 := blk_unfrozen z1W 3
        have ywf4 := blk_unfrozen z1W 4
        have hrdF : Rd ((W.setCell ⟨w.heap.size + 1, 0, none⟩ (.int .u8 1)).setCell ⟨w.heap.size + 1, 3, none⟩ (.string tx)) B s (k' : Int) p := (hrdW.far (q := ⟨w.heap.size + 1, 0, none⟩) (by show B ≠ w.heap.size + 1; omega) (.int .u8 1)).far (q := ⟨w.heap.size + 1, 3, none⟩) (by show B ≠ w.heap.size + 1; omega) (.string tx)
        have hbtF : But B w ((W.setCell ⟨w.heap.size + 1, 0, none⟩ (.int .u8 1)).setCell ⟨w.heap.size + 1, 3, none⟩ (.string tx)) := (hbtW.setNew (p := ⟨w.heap.size + 1, 0, none⟩) (by simp) (.int .u8 1)).setNew (p := ⟨w.heap.size + 1, 3, none⟩) (by simp) (.string tx)
        have hh0 := (Below.heap_setCell _ ⟨w.heap.size + 1, 3, none⟩ (.string tx) w.heap.size (by show w.heap.size ≠ w.heap.size + 1; omega)).trans ((Below.heap_setCell W ⟨w.heap.size + 1, 0, none⟩ (.int .u8 1) w.heap.size (by show w.heap.size ≠ w.heap.size + 1; omega)).trans z0W)
        have HrdF := Lib.hid hrdF
        have HbtF := Lib.hid hbtF
        have Hh0 := Lib.hid hh0
        clear hrdW hbtW z0W z1W hrdF hbtF hh0
        by_cases h32 : k' - k ≤ 32
        · have t32 : decide ((32 : Int) < (tx.size : Int)) = false := by have := Hsx.out; simp; omega
          have hnt : nameTok s k k' = .ok (⟨1, k, 0, s.extract k k', 0⟩, k') := by unfold nameTok; rw [if_pos h32]
          rw [Htx.out] at hnt
          have HNT := Lib.hid hnt
          clear hnt
          go_wp2_with fail
          rw [HNT.out]
          have h6 := set5 Hh0.out (.int .u8 1) (.int .i64 (k : Int)) (.int .i64 0) (.string tx) (.int .i64 0)
          have e0 := blk_cell h6 0
          have e1 := blk_cell h6 1
          have e2 := blk_cell h6 2
          have e3 := blk_cell h6 3
          have e4 := blk_cell h6 4
          refine bodyPost_ret (v := .agg #[.int .u8 1, .int .i64 (k : Int), .int .i64 0, .string tx, .int .i64 0]) (by simp [results, Tryd.results50, go_sem, e0, e1, e2, e3, e4]) rfl ⟨⟨rfl, ?_⟩, ?_⟩
          · exact Rd.set5 HrdF.out (by omega) _ _ _ _ _
          · exact But.set5 HbtF.out (Nat.le_refl _) _ _ _ _ _
        · have t32 : decide ((32 : Int) < (tx.size : Int)) = true := by have := Hsx.out; simp; omega
          have hnt : nameTok s k k' = .error k := by unfold nameTok; rw [if_neg h32]
          have HNT := Lib.hid hnt
          clear hnt
          go_wp2_with fail
          rw [HNT.out]
          exact ⟨rfl, rfl, HbtF.out⟩
      · have hkI : decide ((k' : Int) < (s.size : Int)) = false := by simp; omega
        clear hat0 hdk
        go_wp2_with fail
        go_quiet (fail)
        go_wp2_with fail
        clear hkI
        have z0 := (hbt.block w.heap.size (by rw [Hsz1.out]; omega) (by omega)).trans Z0.out
        have z1 := (hbt.block (w.heap.size + 1) (by rw [Hsz1.out]; omega) (by omega)).trans Z1.out
        have hsz2 := hbt.size
        rw [Hsz1.out] at hsz2
        have y0 := blk_cell z1 0
        have y1 := blk_cell z1 1
        have y2 := blk_cell z1 2
        have y3 := blk_cell z1 3
        have y4 := blk_cell z1 4
        have xx0 := blk_cell z0 0
        have xxf0 := blk_unfrozen z0 0
        have xx1 := blk_cell z0 1
        have xxf1 := blk_unfrozen z0 1
        have xx2 := blk_cell z0 2
        have xxf2 := blk_unfrozen z0 2
        have xx3 := blk_cell z0 3
        have xxf3 := blk_unfrozen z0 3
        have xx4 := blk_cell z0 4
        have xxf4 := blk_unfrozen z0 4
        have yf0 := blk_unfrozen z1 0
        have yf2 := blk_unfrozen z1 2
        have yf3 := blk_unfrozen z1 3
        have yf4 := blk_unfrozen z1 4
        have Z0b := Lib.hid z0
        have Z1b := Lib.hid z1
        have q0 := hrd.c0
        have q1 := hrd.c1
        have Hrd := Lib.hid hrd
        have Hbt := Lib.hid hbt
        clear z0 z1 hrd hbt c0 c1 f1
        have hne1 : ¬ B = w.heap.size + 1 := by omega
        have hne2 : ¬ w.heap.size + 1 = B := by omega
        go_region_held_law (fun w' => w'.cell? ⟨B, 0, none⟩ = some (.string s) ∧ w'.cell? ⟨B, 1, none⟩ = some (.int .i64 (k' : Int))) (first | exact ⟨q0, q1⟩ | go_keep) ((fail))
        go_upto_region 8 with fail
        have hsx := seg_length s k k' hkk hks
        rw [size_list] at hsx
        generalize htx : s.extract k k' = tx at *
        have Htx := Lib.hid htx
        clear htx
        have Hsx := Lib.hid hsx
        clear hsx
        have hrdW : Rd (wr.drewN (nq + 1)) B s (k' : Int) p := Hrd.out
        have hbtW : But B w (wr.drewN (nq + 1)) := (Hbt1.out.trans Hbt.out).drewN (nq + 1)
        have z0W : (wr.drewN (nq + 1)).heap[w.heap.size]? = _ := Z0b.out
        have z1W : (wr.drewN (nq + 1)).heap[w.heap.size + 1]? = _ := Z1b.out
        generalize wr.drewN (nq + 1) = W at *
        have yw0 := blk_cell z1W 0
        have yw1 := blk_cell z1W 1
        have yw2 := blk_cell z1W 2
        have yw3 := blk_cell z1W 3
        have yw4 := blk_cell z1W 4
        have xw0 := blk_cell z0W 0
        have xwf0 := blk_unfrozen z0W 0
        have xw1 := blk_cell z0W 1
        have xwf1 := blk_unfrozen z0W 1
        have xw2 := blk_cell z0W 2
        have xwf2 := blk_unfrozen z0W 2
        have xw3 := blk_cell z0W 3
        have xwf3 := blk_unfrozen z0W 3
        have xw4 := blk_cell z0W 4
        have xwf4 := blk_unfrozen z0W 4
        have ywf0 := blk_unfrozen z1W 0
        have ywf2 := blk_unfrozen z1W 2
        have ywf3 := blk_unfrozen z1W 3
        have ywf4 := blk_unfrozen z1W 4
        have hrdF : Rd ((W.setCell ⟨w.heap.size + 1, 0, none⟩ (.int .u8 1)).setCell ⟨w.heap.size + 1, 3, none⟩ (.string tx)) B s (k' : Int) p := (hrdW.far (q := ⟨w.heap.size + 1, 0, none⟩) (by show B ≠ w.heap.size + 1; omega) (.int .u8 1)).far (q := ⟨w.heap.size + 1, 3, none⟩) (by show B ≠ w.heap.size + 1; omega) (.string tx)
        have hbtF : But B w ((W.setCell ⟨w.heap.size + 1, 0, none⟩ (.int .u8 1)).setCell ⟨w.heap.size + 1, 3, none⟩ (.string tx)) := (hbtW.setNew (p := ⟨w.heap.size + 1, 0, none⟩) (by simp) (.int .u8 1)).setNew (p := ⟨w.heap.size + 1, 3, none⟩) (by simp) (.string tx)
        have hh0 := (Below.heap_setCell _ ⟨w.heap.size + 1, 3, none⟩ (.string tx) w.heap.size (by show w.heap.size ≠ w.heap.size + 1; omega)).trans ((Below.heap_setCell W ⟨w.heap.size + 1, 0, none⟩ (.int .u8 1) w.heap.size (by show w.heap.size ≠ w.heap.size + 1; omega)).trans z0W)
        have HrdF := Lib.hid hrdF
        have HbtF := Lib.hid hbtF
        have Hh0 := Lib.hid hh0
        clear hrdW hbtW z0W z1W hrdF hbtF hh0
        by_cases h32 : k' - k ≤ 32
        · have t32 : decide ((32 : Int) < (tx.size : Int)) = false := by have := Hsx.out; simp; omega
          have hnt : nameTok s k k' = .ok (⟨1, k, 0, s.extract k k', 0⟩, k') := by unfold nameTok; rw [if_pos h32]
          rw [Htx.out] at hnt
          have HNT := Lib.hid hnt
          clear hnt
          go_wp2_with fail
          rw [HNT.out]
          have h6 := set5 Hh0.out (.int .u8 1) (.int .i64 (k : Int)) (.int .i64 0) (.string tx) (.int .i64 0)
          have e0 := blk_cell h6 0
          have e1 := blk_cell h6 1
          have e2 := blk_cell h6 2
          have e3 := blk_cell h6 3
          have e4 := blk_cell h6 4
          refine bodyPost_ret (v := .agg #[.int .u8 1, .int .i64 (k : Int), .int .i64 0, .string tx, .int .i64 0]) (by simp [results, Tryd.results50, go_sem, e0, e1, e2, e3, e4]) rfl ⟨⟨rfl, ?_⟩, ?_⟩
          · exact Rd.set5 HrdF.out (by omega) _ _ _ _ _
          · exact But.set5 HbtF.out (Nat.le_refl _) _ _ _ _ _
        · have t32 : decide ((32 : Int) < (tx.size : Int)) = true := by have := Hsx.out; simp; omega
          have hnt : nameTok s k k' = .error k := by unfold nameTok; rw [if_neg h32]
          have HNT := Lib.hid hnt
          clear hnt
          go_wp2_with fail
          rw [HNT.out]
          exact ⟨rfl, rfl, HbtF.out⟩
end Go.Proofs.YtmiipfdndgjndaaDoor
