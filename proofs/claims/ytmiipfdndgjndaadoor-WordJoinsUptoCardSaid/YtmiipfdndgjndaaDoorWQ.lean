/- The walk of WordQuotes. -/
import Derived.Test.YtmiipfdndgjndaaDoorRQ
import Derived.Test.YtmiipfdndgjndaaDoorAW
namespace Go.Proofs.YtmiipfdndgjndaaDoor
open Go.RowKit Go.Lib
set_option maxHeartbeats 1000000
theorem tab_at {w wi : World} (h : Tab w.heap.size w) (hb : Below w.heap.size w wi) : Tab wi.heap.size wi := tab_mono (h.on hb) hb.size
theorem err_at {w wi : World} (h : ErrVar w) (hb : Below w.heap.size w wi) : ErrVar wi := h.below hb
theorem below_next {w wi wj : World} (h : Below w.heap.size w wi) (hb : Below wi.heap.size wi wj) : Below w.heap.size w wj := h.trans (hb.mono h.size)
set_option maxRecDepth 100000 in
theorem quotes_any (s : ByteArray) (w : World) (hs : s.size ≤ 1099511627776) (htab : Tab w.heap.size w) (hE : ErrVar w) :
    Calls Tryd.prog 4 #[.string s] w fun e w' => e = .returned (.bool true) ∧ Below w.heap.size w w' := by
  have h3 := quote_len s hs
  have A1 := Lib.hid (unquote_any s w (by omega))
  have A2 := Lib.hid (fun W => refUnquote_any s W (by omega))
  have A3 := Lib.hid (fun W => Quote_any s W (by omega))
  have A4 := Lib.hid (fun W => refQuote_any s W (by omega))
  have AW := Lib.hid (fun (W : World) (X : Below w.heap.size w W) => awake_any W (tab_at htab X) (err_at hE X))
  obtain ⟨u, hu⟩ : ∃ u : ByteArray, u = ⟨(unquoteF s).1.toArray⟩ := ⟨_, rfl⟩
  obtain ⟨pl, hpl⟩ : ∃ pl : Int, pl = ((unquoteF s).2.1 : Int) := ⟨_, rfl⟩
  obtain ⟨er, her⟩ : ∃ er : Int, er = (unquoteF s).2.2 := ⟨_, rfl⟩
  obtain ⟨qq, hqq⟩ : ∃ qq : ByteArray, qq = ⟨(quoteL s.data.toList).toArray⟩ := ⟨_, rfl⟩
  rw [← hu, ← hpl, ← her] at A1 A2
  rw [← hqq] at A3 A4
  clear hu hpl her hqq h3
  go_enter Tryd.func4, Tryd.ntmps4
  go_wp2_with fail
  refine A1.out.mono ?_
  rintro e w1 ⟨rfl, hb⟩
  have X1 := Lib.hid hb
  clear hb
  go_wp2_with fail
  refine (A2.out _).mono ?_
  rintro e w2 ⟨rfl, hb⟩
  have X2 := Lib.hid (below_next X1.out hb)
  clear hb
  go_wp2_with fail
  refine (A3.out _).mono ?_
  rintro e w3 ⟨rfl, hb⟩
  have X3 := Lib.hid (below_next X2.out hb.below)
  clear hb
  go_wp2_with fail
  refine (A4.out _).mono ?_
  rintro e w4 ⟨rfl, hb⟩
  have X4 := Lib.hid (below_next X3.out hb)
  clear hb
  go_wp2_with fail
  refine (AW.out _ X4.out).mono ?_
  rintro e w5 ⟨rfl, hb⟩
  have X5 := Lib.hid (below_next X4.out hb)
  clear hb
  go_wp2
  go_ret
  exact ⟨rfl, X5.out⟩
end Go.Proofs.YtmiipfdndgjndaaDoor
