/- A value that an argument reads as, in memory. -/
import Derived.Test.YtmiipfdndgjndaaDoorLKX
import Derived.Test.YtmiipfdndgjndaaDoorRows
import Derived.ProofKit
import Derived.ChangeArms
import Derived.Lib.ItoaLen
namespace Go.Proofs.YtmiipfdndgjndaaDoor
open Go.RowKit Go.Lib
theorem cells26 : Tryd.prog.cellsOf 26 = 5 := by kernel_rfl
theorem cells22 : Tryd.prog.cellsOf 22 = 1 := by kernel_rfl
theorem cells2' : Tryd.prog.cellsOf 2 = 1 := by kernel_rfl
theorem cells9' : Tryd.prog.cellsOf 9 = 1 := by kernel_rfl
theorem cells23 : Tryd.prog.cellsOf 23 = 1 := by kernel_rfl
theorem cells24 : Tryd.prog.cellsOf 24 = 1 := by kernel_rfl
section
variable {H : Type} {enc : TypeId × Value → H} {W : World} {base : Nat} {sp : Nat → Bool} {held : Bool}
theorem five_cells {cs : List Value} (h : cs.length = 5) : ∃ a b c d e, cs = [a, b, c, d, e] := by
  match cs, h with
  | [a, b, c, d, e], _ => exact ⟨a, b, c, d, e, rfl⟩
theorem bulkAll_le {d : DataW H} {l : List (DataW H)} (h : d ∈ l) : Rows.uptoBulk d ≤ Rows.uptoBulkAll l := by
  induction l with
  | nil => cases h
  | cons x l ih =>
    rw [Rows.uptoBulkAll]
    rcases List.mem_cons.mp h with rfl | h
    · omega
    · have := ih h; omega
theorem bulk_pos (d : DataW H) : 1 ≤ Rows.uptoBulk d := by
  cases d with
  | lit v => cases v <;> simp [Rows.uptoBulk]
  | _ => simp [Rows.uptoBulk]
theorem bulkAll_len (l : List (DataW H)) : l.length ≤ Rows.uptoBulkAll l := by
  induction l with
  | nil => simp
  | cons x l ih => rw [Rows.uptoBulkAll, List.length_cons]; have := bulk_pos x; omega
theorem spot_none {a : Addr} {v : Value} (h : W.cell? a = some v) : a.spot = none := by
  unfold World.cell? at h
  split at h
  · split at h
    · cases h
    · rename_i hn
      cases hs : a.spot with
      | none => rfl
      | some x => rw [hs] at hn; exact absurd rfl hn
  · cases h
theorem cell_lt {a : Addr} {v : Value} (h : W.cell? a = some v) : a.block < W.heap.size := by
  rcases Nat.lt_or_ge a.block W.heap.size with h2 | h2
  · exact h2
  · unfold World.cell? at h
    rw [Array.getElem?_eq_none h2] at h
    cases h
theorem row_at {ad : Addr} {cs : List Value} {i : Nat} (h : W.cells? base (ad.add (i * 5)) 5 = some cs) (hn : ad.spot = none) : ∀ j u, cs[j]? = some u → W.cell? ⟨ad.block, ad.off + i * 5 + j, none⟩ = some u := by
  unfold World.cells? at h
  split at h
  · intro j u hu
    have hl : cs.length = 5 := by simpa using mapM_some_length h
    have hj : j < 5 := by
      rcases Nat.lt_or_ge j cs.length with h2 | h2
      · omega
      · rw [List.getElem?_eq_none h2] at hu
        cases hu
    have h2 := mapM_some_get h j j (by simp [hj])
    rw [hu, add_add5] at h2
    have : ad.add (i * 5 + j) = ⟨ad.block, ad.off + i * 5 + j, none⟩ := by
      unfold Addr.add
      split
      · rename_i h0
        cases ad
        simp_all
      · simp
    rw [this] at h2
    exact h2
  · cases h
theorem quoteI_le4 (c : Int) : (quoteI c).length ≤ 4 := by
  unfold quoteI
  repeat' split
  all_goals simp
theorem quoteL_le4 (l : List UInt8) : (quoteL l).length ≤ 4 * l.length + 2 := by
  have h : (quoteM l).length ≤ 4 * l.length := by
    induction l with
    | nil => simp [quoteM]
    | cons c l ih =>
      have := quoteI_le4 (c.toNat : Int)
      simp only [quoteM, List.flatMap_cons, List.length_append, List.length_cons] at ih ⊢
      omega
  simp [quoteL]
  omega
theorem text_bound (k n : Int) (s : ByteArray) (l : List V) (r : Int) (c : Nat) (hn : -9223372036854775808 ≤ n ∧ n ≤ 9223372036854775807) (hr : -9223372036854775808 ≤ r ∧ r ≤ 9223372036854775807) (hc : (rowL true l).length ≤ c) :
    (textL (.mk k n s l r)).length + 1 ≤ 30 + 4 * s.size + c := by
  have h1 := itoa_length_le n hn.1 hn.2
  have h2 := itoa_length_le r hr.1 hr.2
  have h3 := quoteL_le4 s.data.toList
  rw [size_list] at h3
  rw [textL]
  repeat' split
  all_goals (try simp only [List.length_cons, List.length_append, List.length_nil])
  all_goals omega
theorem vin_of_trod : ∀ (fuel : Nat) (cs : List Value) (x : DataW H × List MemPlace), DataW.trod enc Tryd.prog W base sp held fuel 26 cs = some x → Rows.uptoBulk x.1 ≤ 1048576 →
    ∃ v, VIn W (fun b => b < W.heap.size) v cs ∧ v.fits ∧ v.kindOk ∧ (textL v).length + 1 ≤ 22 * Rows.uptoBulk x.1 := by
  intro fuel
  induction fuel with
  | zero => intro cs x h; simp [DataW.trod] at h
  | succ m ih =>
    intro cs x h hbulk
    obtain ⟨xs, n, hn, rfl, hl, hlen, hf⟩ := DataW.trod_struct Tryd.underlying26 h
    obtain rfl : m = n := by omega
    rw [cells26] at hl
    obtain ⟨a, b, c, d, e, rfl⟩ := five_cells hl
    have f0 : DataW.trod enc Tryd.prog W base sp held m 22 (([a, b, c, d, e].drop 0).take (Tryd.prog.cellsOf 22)) = xs[0]? := hf 0 { name := "Kind", type := 22, offset := 0, embedded := false, tag := "", pkgPath := "", byteOffset := 0 } rfl
    have f1 : DataW.trod enc Tryd.prog W base sp held m 2 (([a, b, c, d, e].drop 1).take (Tryd.prog.cellsOf 2)) = xs[1]? := hf 1 { name := "N", type := 2, offset := 1, embedded := false, tag := "", pkgPath := "", byteOffset := 8 } rfl
    have f2 : DataW.trod enc Tryd.prog W base sp held m 9 (([a, b, c, d, e].drop 2).take (Tryd.prog.cellsOf 9)) = xs[2]? := hf 2 { name := "S", type := 9, offset := 2, embedded := false, tag := "", pkgPath := "", byteOffset := 16 } rfl
    have f3 : DataW.trod enc Tryd.prog W base sp held m 23 (([a, b, c, d, e].drop 3).take (Tryd.prog.cellsOf 23)) = xs[3]? := hf 3 { name := "L", type := 23, offset := 3, embedded := false, tag := "", pkgPath := "", byteOffset := 32 } rfl
    have f4 : DataW.trod enc Tryd.prog W base sp held m 24 (([a, b, c, d, e].drop 4).take (Tryd.prog.cellsOf 24)) = xs[4]? := hf 4 { name := "R", type := 24, offset := 4, embedded := false, tag := "", pkgPath := "", byteOffset := 56 } rfl
    rw [cells22] at f0
    rw [cells2'] at f1
    rw [cells9'] at f2
    rw [cells23] at f3
    rw [cells24] at f4
    simp only [List.drop_succ_cons, List.drop_zero, List.take_succ_cons, List.take_zero] at f0 f1 f2 f3 f4
    match xs, hlen with
    | [y0, y1, y2, y3, y4], _ =>
      simp only [List.getElem?_cons_zero, List.getElem?_cons_succ] at f0 f1 f2 f3 f4
      obtain ⟨k, e0, rfl, hkw⟩ := DataW.trod_int Tryd.underlying22 f0
      obtain ⟨z, e1, rfl, hz⟩ := DataW.trod_int Tryd.underlying2 f1
      obtain ⟨s, e2, rfl, hs⟩ := DataW.trod_string Tryd.underlying9 f2
      obtain ⟨r, e4, rfl, hr⟩ := DataW.trod_int Tryd.underlying24 f4
      simp only [List.cons.injEq, and_true] at e0 e1 e2 e4
      subst e0 e1 e2 e4
      simp only [List.map_cons, List.map_nil, Rows.uptoBulk, Rows.uptoBulkAll] at hbulk
      have hsz : s.size ≤ 1048576 := by
        have := size_list s
        omega
      have hk2 : 0 ≤ k := by
        have := hkw
        simp [Lit.wf, IntKind.min, IntKind.signed] at this
        exact this.1
      have hz2 : -9223372036854775808 ≤ z ∧ z ≤ 9223372036854775807 := by simpa [Lit.wf, IntKind.min, IntKind.signed, IntKind.bits] using hz
      have hr2 : -9223372036854775808 ≤ r ∧ r ≤ 9223372036854775807 := by simpa [Lit.wf, IntKind.min, IntKind.signed, IntKind.bits] using hr
      rcases DataW.trod_slice Tryd.underlying23 f3 with ⟨e3, rfl⟩ | ⟨ad, len, cap, elems, rest, n2, rfl, e3, rfl, hb, hlc, hcm, hel, hget, -, -⟩
      · simp only [List.cons.injEq, and_true] at e3
        subst e3
        exact ⟨.mk k z s [] r, ⟨none, 0, rfl, by simp, by simp, by omega, trivial⟩, ⟨hz2.1, hz2.2, hr2.1, hr2.2, trivial⟩, ⟨hk2, trivial⟩, by
          have h1 := text_bound k z s [] r 0 hz2 hr2 (by simp [rowL])
          have h2 := size_list s
          simp only [List.map_cons, List.map_nil, Rows.uptoBulk, Rows.uptoBulkAll]
          omega⟩
      · simp only [List.cons.injEq, and_true] at e3
        subst e3
        rw [Rows.uptoBulk] at hbulk
        have hlen2 : len ≤ 1048576 := by
          have := bulkAll_len (elems.map (·.1))
          rw [List.length_map, hel] at this
          omega
        by_cases h0 : len = 0
        · subst h0
          exact ⟨.mk k z s [] r, ⟨some ad, cap, rfl, by simp, by simp, by omega, trivial⟩, ⟨hz2.1, hz2.2, hr2.1, hr2.2, trivial⟩, ⟨hk2, trivial⟩, by
            have h1 := text_bound k z s [] r 0 hz2 hr2 (by simp [rowL])
            have h2 := size_list s
            simp only [List.map_cons, List.map_nil, Rows.uptoBulk, Rows.uptoBulkAll]
            omega⟩
        · rw [cells26] at hget
          have hel' : ∀ i, i < len → ∃ cs y, W.cells? base (ad.add (i * 5)) 5 = some cs ∧ DataW.trod enc Tryd.prog W base sp held n2 26 cs = some y ∧ elems[i]? = some y := by
            intro i hi
            have h1 := hget i hi
            obtain ⟨y, hy⟩ : ∃ y, elems[i]? = some y := ⟨elems[i], List.getElem?_eq_getElem (by omega)⟩
            rw [hy] at h1
            obtain ⟨cs, h2, h3⟩ := Option.bind_eq_some_iff.mp h1
            exact ⟨cs, y, h2, h3, hy⟩
          obtain ⟨cs0, y00, g0, g1, _⟩ := hel' 0 (by omega)
          have hc0 : ∃ v, W.cell? ad = some v := by
            unfold World.cells? at g0
            split at g0
            · cases hc : W.cell? ad with
              | some v => exact ⟨v, rfl⟩
              | none =>
                have : W.cell? ((ad.add (0 * 5)).add 0) = none := by simpa [Addr.add] using hc
                simp [List.range, List.range.loop, this] at g0
            · cases g0
          obtain ⟨v0, hc0⟩ := hc0
          have hspot := spot_none hc0
          have hlt : ad.block < W.heap.size := cell_lt hc0
          have build : ∀ j i, i + j = len → ∃ l : List V, l.length = j ∧ LIn W (fun b => b < W.heap.size) (some ⟨ad.block, ad.off, none⟩) l i ∧ fitsL l ∧ kindOkL l ∧ ∀ bb, (rowL bb l).length ≤ 22 * Rows.uptoBulkAll ((elems.drop i).map (·.1)) := by
            intro j
            induction j with
            | zero => intro i _; exact ⟨[], rfl, trivial, trivial, trivial, fun bb => by simp [rowL]⟩
            | succ j ihj =>
              intro i hij
              obtain ⟨l, e1, e2, e3, e5, e4⟩ := ihj (i + 1) (by omega)
              obtain ⟨cs, y, h2, h3, h4⟩ := hel' i (by omega)
              have hb2 : Rows.uptoBulk y.1 ≤ 1048576 := by
                have := bulkAll_le (List.mem_map_of_mem (f := (·.1)) (List.mem_of_getElem? h4))
                omega
              obtain ⟨v, hv, hfv, hkv, htv⟩ := ih cs y (DataW.trod_succ n2 26 cs y h3) hb2
              exact ⟨v :: l, by simp [e1], ⟨⟨ad.block, ad.off, cs, rfl, hlt, row_at h2 hspot, hv⟩, e2⟩, ⟨hfv, e3⟩, ⟨hkv, e5⟩, fun bb => by
                obtain ⟨g1, g2⟩ := List.getElem?_eq_some_iff.mp h4
                rw [List.drop_eq_getElem_cons g1, g2, List.map_cons, Rows.uptoBulkAll, rowL]
                have := e4 false
                simp only [List.length_append]
                split <;> simp only [List.length_cons, List.length_nil] <;> omega⟩
          obtain ⟨l, e1, e2, e3, e5, e4⟩ := build len 0 (by omega)
          have had : ad = ⟨ad.block, ad.off, none⟩ := by cases ad; simp_all
          exact ⟨.mk k z s l r, ⟨some ⟨ad.block, ad.off, none⟩, cap, by rw [e1, ← had], by omega, by omega, by omega, e2⟩, ⟨hz2.1, hz2.2, hr2.1, hr2.2, e3⟩, ⟨hk2, e5⟩, by
            have h1 := text_bound k z s l r _ hz2 hr2 (e4 true)
            have h2 := size_list s
            simp only [List.drop_zero] at h1
            simp only [List.map_cons, List.map_nil, Rows.uptoBulk, Rows.uptoBulkAll]
            omega⟩
end
end Go.Proofs.YtmiipfdndgjndaaDoor
