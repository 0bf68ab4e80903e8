/- The contract of awake. -/
import Derived.Test.YtmiipfdndgjndaaDoorAW0
import Derived.Test.YtmiipfdndgjndaaDoorNJ
import Derived.Test.YtmiipfdndgjndaaDoorP
namespace Go.Proofs.YtmiipfdndgjndaaDoor
open Go.RowKit Go.Lib
set_option maxHeartbeats 1000000
theorem aw_may : mayV vText = true := by decide +kernel
theorem row_cells {W : World} {b : Nat} {cs : Array Value} {t : TypeId} (h : W.heap[b]? = some (.cells cs t (0, 0))) (i : Nat) (c : List Value) (hc : ∀ j u, c[j]? = some u → cs[0 + i * 5 + j]? = some u) :
    ∀ j u, c[j]? = some u → W.cell? ⟨b, 0 + i * 5 + j, none⟩ = some u := fun j u hu => (blk_cell h _).trans (hc j u hu)
theorem aw_vin {W : World} {b : Nat} (h : W.heap[b]? = some (.cells #[.int .u8 1, .int .i64 1, .string ⟨#[]⟩, .slice none 0 0, .int .i64 0, .int .u8 3, .int .i64 0, .string ⟨#[]⟩, .slice none 0 0, .int .i64 0, .int .u8 4, .int .i64 0, .string ⟨#[]⟩, .slice none 0 0, .int .i64 2] 26 (0, 0))) :
    VIn W (fun x => x = b) vText [.int .u8 3, .int .i64 0, .string ⟨#[]⟩, .slice (some ⟨b, 0, none⟩) 3 3, .int .i64 0] := by
  refine ⟨some ⟨b, 0, none⟩, 3, rfl, by decide, by decide, by decide, ?_, ?_, ?_, trivial⟩
  · refine ⟨b, 0, [.int .u8 1, .int .i64 1, .string ⟨#[]⟩, .slice none 0 0, .int .i64 0], rfl, rfl, row_cells h 0 _ ?_, none, 0, rfl, by decide, by decide, by decide, trivial⟩
    intro j u hu
    rcases j with _ | _ | _ | _ | _ | j <;> simp_all
  · refine ⟨b, 0, [.int .u8 3, .int .i64 0, .string ⟨#[]⟩, .slice none 0 0, .int .i64 0], rfl, rfl, row_cells h 1 _ ?_, none, 0, rfl, by decide, by decide, by decide, trivial⟩
    intro j u hu
    rcases j with _ | _ | _ | _ | _ | j <;> simp_all
  · refine ⟨b, 0, [.int .u8 4, .int .i64 0, .string ⟨#[]⟩, .slice none 0 0, .int .i64 2], rfl, rfl, row_cells h 2 _ ?_, none, 0, rfl, by decide, by decide, by decide, trivial⟩
    intro j u hu
    rcases j with _ | _ | _ | _ | _ | j <;> simp_all
theorem aw_tokin {W : World} {b : Nat} (h : W.heap[b]? = some (.cells #[.int .u8 1, .int .i64 0, .int .i64 0, .string ⟨#[97]⟩, .int .i64 0, .int .u8 5, .int .i64 0, .int .i64 0, .string ⟨#[91]⟩, .int .i64 0] 56 (0, 0))) :
    TokIn W (fun x => x = b) (some ⟨b, 0, none⟩) lJoin := by
  intro k t ht
  refine ⟨b, 0, rfl, rfl, row_cells h k _ ?_⟩
  intro j u hu
  rcases k with _ | _ | k
  · obtain rfl : (⟨1, 0, 0, ⟨#[97]⟩, 0⟩ : T) = t := by simpa [lJoin] using ht
    rcases j with _ | _ | _ | _ | _ | j <;> simp_all [tokC]
  · obtain rfl : (⟨5, 0, 0, ⟨#[91]⟩, 0⟩ : T) = t := by simpa [lJoin] using ht
    rcases j with _ | _ | _ | _ | _ | j <;> simp_all [tokC]
  · simp [lJoin] at ht
theorem aw_fits : vText.fits := by
  simp [vText, V.fits, fitsL]
theorem aw_text_any (w : World) (b : Nat) (hb : b < w.heap.size) (h : w.heap[b]? = some (.cells #[.int .u8 1, .int .i64 1, .string ⟨#[]⟩, .slice none 0 0, .int .i64 0, .int .u8 3, .int .i64 0, .string ⟨#[]⟩, .slice none 0 0, .int .i64 0, .int .u8 4, .int .i64 0, .string ⟨#[]⟩, .slice none 0 0, .int .i64 2] 26 (0, 0))) (htab : Tab w.heap.size w) :
    Calls Tryd.prog 24 #[.agg #[.int .u8 3, .int .i64 0, .string ⟨#[]⟩, .slice (some ⟨b, 0, none⟩) 3 3, .int .i64 0]] w fun e w' => e = .returned (.tuple #[.string ⟨#[91, 49, 32, 91, 93, 32, 35, 50, 93]⟩, .int .i64 0]) ∧ Below w.heap.size w w' := by
  refine (Text_any vText _ _ w (aw_vin h) (fun x hx => by subst hx; exact hb) aw_fits (fun _ => by rw [aw_text]; decide) htab).mono ?_
  rintro e w' ⟨rfl, hb⟩
  refine ⟨?_, hb⟩
  rw [if_pos aw_may, aw_text]
theorem aw_read_any (w : World) :
    Calls Tryd.prog 12 #[.string ⟨#[91, 49, 32, 50]⟩] w fun e w' => (∃ (k n : Int) (s : ByteArray) (A : Option Addr) (m c : Nat) (r : Int), e = .returned (.tuple #[.agg #[.int .u8 k, .int .i64 n, .string s, .slice A m c, .int .i64 r], .int .i64 4, .int .i64 30])) ∧ Below w.heap.size w w' := by
  refine (Read_any ⟨#[91, 49, 32, 50]⟩ w (by decide)).mono ?_
  rintro e w' ⟨⟨cs, rfl, hv⟩, hb⟩
  have h1 := aw_read.1
  have h2 := aw_read.2
  unfold sRead at h1 h2
  rw [h1, h2]
  generalize (readF ⟨#[91, 49, 32, 50]⟩).1 = v at hv
  obtain ⟨k, n, s, A, c, r, h, rfl⟩ := hv.forms
  exact ⟨⟨k, n, s, A, v.lst.length, c, r, rfl⟩, hb⟩
theorem aw_unq_any (w : World) :
    Calls Tryd.prog 16 #[.string ⟨#[34, 97, 34]⟩] w fun e w' => e = .returned (.tuple #[.string ⟨#[97]⟩, .int .i64 0, .int .i64 0]) ∧ Below w.heap.size w w' := by
  refine (unquote_any ⟨#[34, 97, 34]⟩ w (by decide)).mono ?_
  rintro e w' ⟨rfl, hb⟩
  refine ⟨?_, hb⟩
  obtain ⟨h1, h2, h3⟩ := aw_unq
  unfold sUnq at h1 h2 h3
  rw [h1, h2, h3]
  rfl
theorem aw_cut_any (w : World) (hE : ErrVar w) :
    Calls Tryd.prog 20 #[.string ⟨#[120, 32, 61, 32, 35, 51]⟩] w fun e w' => (∃ (A : Option Addr) (c : Nat), e = .returned (.tuple #[.slice A 3 c, .int .i64 0, .int .i64 0])) ∧ Below w.heap.size w w' := by
  refine (cut_any ⟨#[120, 32, 61, 32, 35, 51]⟩ w (by decide) hE).mono ?_
  rintro e w' ⟨⟨A, c, rfl, -⟩, hb⟩
  refine ⟨⟨A, c, ?_⟩, hb⟩
  obtain ⟨h1, h2, h3⟩ := aw_cut
  unfold sCut at h1 h2 h3
  rw [h1, h2, h3]
  rfl
theorem aw_join_any (w : World) (b : Nat) (hb : b < w.heap.size) (h : w.heap[b]? = some (.cells #[.int .u8 1, .int .i64 0, .int .i64 0, .string ⟨#[97]⟩, .int .i64 0, .int .u8 5, .int .i64 0, .int .i64 0, .string ⟨#[91]⟩, .int .i64 0] 56 (0, 0))) (htab : Tab w.heap.size w) :
    Calls Tryd.prog 28 #[.slice (some ⟨b, 0, none⟩) 2 2] w fun e w' => e = .returned (.tuple #[.string ⟨#[97, 32, 91]⟩, .int .i64 0]) ∧ Below w.heap.size w w' := by
  refine (Join_any lJoin (some ⟨b, 0, none⟩) 2 _ w (aw_tokin h) (fun x hx => by subst hx; exact hb) (by intro t ht; simp [lJoin] at ht; rcases ht with rfl | rfl <;> (unfold T.fits; decide)) (by decide) htab).mono ?_
  rintro e w' ⟨rfl, hb⟩
  refine ⟨?_, hb⟩
  rw [aw_join.1, aw_join.2]
theorem aw_quote_any (w : World) :
    Calls Tryd.prog 18 #[.string ⟨#[10]⟩] w fun e w' => e = .returned (.string ⟨#[34, 92, 110, 34]⟩) ∧ Below w.heap.size w w' := by
  have := aw_quote
  refine (Quote_any ⟨#[10]⟩ w (by rw [show (⟨#[10]⟩ : ByteArray).data.toList = [10] from rfl, aw_quote]; decide)).mono ?_
  rintro e w' ⟨rfl, hb⟩
  refine ⟨?_, hb.below⟩
  rw [show (⟨#[10]⟩ : ByteArray).data.toList = [10] from rfl, aw_quote]
theorem Tab.step {w w' : World} (h : Tab w.heap.size w) (hb : Below w.heap.size w w') : Tab w'.heap.size w' := tab_mono (h.on hb) hb.size
set_option maxRecDepth 100000 in
theorem awake_any (w : World) (htab : Tab w.heap.size w) (hE : ErrVar w) : Calls Tryd.prog 15 #[] w fun e w' => e = .returned (.bool true) ∧ Below w.heap.size w w' := by
  have Htab := Lib.hid htab
  have HE := Lib.hid hE
  clear htab hE
  go_enter Tryd.func15, Tryd.ntmps15
  go_wp2_with fail
  have B1 := Lib.hid (((Below.refl w.heap.size w).alloc (Nat.le_refl _) (.cells #[.int .u8 1, .int .i64 1, .string ⟨#[]⟩, .slice none 0 0, .int .i64 0, .int .u8 3, .int .i64 0, .string ⟨#[]⟩, .slice none 0 0, .int .i64 0, .int .u8 4, .int .i64 0, .string ⟨#[]⟩, .slice none 0 0, .int .i64 2] 26)).alloc (by simp) (.cells #[.int .u8 3, .int .i64 0, .string ⟨#[]⟩, .slice (some ⟨w.heap.size, 0, none⟩) 3 3, .int .i64 0] 26))
  refine (aw_text_any _ w.heap.size (by simp; omega) ((Below.heap_alloc _ _ _ (by simp)).trans (heap_alloc_new w _)) (Htab.out.step B1.out)).mono ?_
  rintro e w2 ⟨rfl, hb⟩
  have B2 := Lib.hid (B1.out.trans (hb.mono (by simp; omega)))
  have s2 := B2.out.size
  clear hb B1
  go_wp2_with fail
  refine (aw_read_any _).mono ?_
  rintro e w3 ⟨⟨k, n, s, A, m, c, r, rfl⟩, hb⟩
  have B3 := Lib.hid (B2.out.trans (hb.mono s2))
  have s3 := B3.out.size
  clear hb B2 s2
  go_wp2_with fail
  have B4 := Lib.hid (B3.out.alloc s3 (.cells #[.int .u8 k, .int .i64 n, .string s, .slice A m c, .int .i64 r] 26))
  refine (aw_unq_any _).mono ?_
  rintro e w4 ⟨rfl, hb⟩
  have B5 := Lib.hid (B4.out.trans (hb.mono (by simp; omega)))
  have s5 := B5.out.size
  clear hb B3 B4 s3
  go_wp2_with fail
  refine (aw_cut_any _ (HE.out.below B5.out)).mono ?_
  rintro e w5 ⟨⟨A2, c2, rfl⟩, hb⟩
  have B6 := Lib.hid (B5.out.trans (hb.mono s5))
  have s6 := B6.out.size
  clear hb B5 s5
  go_wp2_with fail
  have B7 := Lib.hid (B6.out.alloc s6 (.cells #[.int .u8 1, .int .i64 0, .int .i64 0, .string ⟨#[97]⟩, .int .i64 0, .int .u8 5, .int .i64 0, .int .i64 0, .string ⟨#[91]⟩, .int .i64 0] 56))
  refine (aw_join_any _ w5.heap.size (by simp) (heap_alloc_new w5 _) (Htab.out.step B7.out)).mono ?_
  rintro e w6 ⟨rfl, hb⟩
  have B8 := Lib.hid (B7.out.trans (hb.mono (by simp; omega)))
  have s8 := B8.out.size
  clear hb B7 B6 s6
  go_wp2_with fail
  refine (aw_quote_any _).mono ?_
  rintro e w7 ⟨rfl, hb⟩
  have B9 := Lib.hid (B8.out.trans (hb.mono s8))
  clear hb B8 s8
  go_wp2
  go_ret
  exact ⟨rfl, B9.out⟩
theorem names_any (w : World) (htab : Tab w.heap.size w) (hE : ErrVar w) : Calls Tryd.prog 8 #[] w fun e w' => e = .returned (.bool true) ∧ Below w.heap.size w w' := by
  have Htab := Lib.hid htab
  have HE := Lib.hid hE
  clear htab hE
  go_enter Tryd.func8, Tryd.ntmps8
  go_wp2_with fail
  refine (awake_any w Htab.out HE.out).mono ?_
  rintro e w2 ⟨rfl, hb⟩
  go_wp2
  go_ret
  exact ⟨rfl, hb⟩
end Go.Proofs.YtmiipfdndgjndaaDoor
