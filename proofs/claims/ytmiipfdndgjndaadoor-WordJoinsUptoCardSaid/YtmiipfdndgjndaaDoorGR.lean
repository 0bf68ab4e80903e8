/- The contract of the law's great. -/
import Derived.Test.YtmiipfdndgjndaaDoorI
namespace Go.Proofs.YtmiipfdndgjndaaDoor
open Go.RowKit Go.Lib
set_option maxHeartbeats 1000000
mutual
/-- What is left of a budget behind a value. -/
def greatV : V → Int → Int
  | .mk _ _ s l _, n => if n < 0 then -1 else greatL l (n - 1 - (s.size : Int) / 64)
def greatL : List V → Int → Int
  | [], n => n
  | v :: l, n => if 0 ≤ n then greatL l (greatV v n) else n
end
mutual
theorem greatV_le : (v : V) → ∀ n, n ≤ 1099511627776 → greatV v n ≤ 1099511627776
  | .mk k z s l r => by
    intro n hn
    rw [greatV]
    split
    · omega
    · exact greatL_le l _ (by omega)
theorem greatL_le : (l : List V) → ∀ n, n ≤ 1099511627776 → greatL l n ≤ 1099511627776
  | [] => by intro n hn; rw [greatL]; exact hn
  | v :: l => by
    intro n hn
    rw [greatL]
    split
    · exact greatL_le l _ (greatV_le v n hn)
    · exact hn
end
def GreatOk (v : V) : Prop := ∀ (n : Int) (cs : List Value) (S : Nat → Prop) (w : World), VIn w S v cs → (∀ b, S b → b < w.heap.size) → n ≤ 1099511627776 →
  Calls Tryd.prog 23 #[.agg cs.toArray, .int .i64 n] w fun e w' => e = .returned (.int .i64 (greatV v n)) ∧ Below w.heap.size w w'
set_option maxRecDepth 100000 in
theorem greatOk_of (kk nn : Int) (st : ByteArray) (l : List V) (rr : Int) (ih : ∀ v ∈ l, GreatOk v) : GreatOk (.mk kk nn st l rr) := by
  intro n cs S w hv hS hn
  obtain ⟨A, vc, rfl, hlc, hvc, hss, hin⟩ := hv
  have hb0 : Below w.heap.size w (w.alloc (.cells #[.int .u8 kk, .int .i64 nn, .string st, .slice A l.length vc, .int .i64 rr] 26)) := (Below.refl _ w).alloc (Nat.le_refl _) _
  have Hb0 := Lib.hid hb0
  rw [greatV]
  by_cases h0 : n < 0
  · have t0 : decide (n < 0) = true := by simpa using h0
    rw [if_pos h0]
    clear hb0 hin
    go_enter Tryd.func23, Tryd.ntmps23
    go_wp2
    go_ret
    exact ⟨rfl, Hb0.out⟩
  · have t0 : decide (n < 0) = false := by simpa using h0
    rw [if_neg h0]
    have Hin := Lib.hid hin
    have hblk : (w.alloc (.cells #[.int .u8 kk, .int .i64 nn, .string st, .slice A l.length vc, .int .i64 rr] 26)).heap[w.heap.size]? = some (.cells #[.int .u8 kk, .int .i64 nn, .string st, .slice A l.length vc, .int .i64 rr] 26 (0, 0)) := heap_alloc_new w _
    have Hblk := Lib.hid hblk
    have hq : (st.size : Int).tdiv 64 = (st.size : Int) / 64 := by
      rw [Int.tdiv_eq_ediv_of_nonneg (by omega)]
    have hq2 : st.size / 64 ≤ 2199023255552 := by omega
    clear hb0 hin hblk
    obtain ⟨R, hR⟩ : ∃ R, greatL l (n - 1 - (st.size : Int) / 64) = R := ⟨_, rfl⟩
    have HR := Lib.hid hR
    rw [hR]
    clear hR
    clear hq hq2
    go_enter Tryd.func23, Tryd.ntmps23
    go_wp2_with fail
    go_loopw [1, 5] (fun q i wr => ∃ (k : Nat) (m : Int), i = .int .i64 k ∧ q = .int .i64 m ∧ k ≤ l.length ∧ m ≤ 1099511627776 ∧ greatL (l.drop k) m = R ∧ Below (w.heap.size + 1) (w.alloc (.cells #[.int .u8 kk, .int .i64 nn, .string st, .slice A l.length vc, .int .i64 rr] 26)) wr) (fun _ i _ => l.length - (Go.RowKit.intOf i).toNat)
    case atStart => exact ⟨0, _, rfl, rfl, by omega, by omega, by simpa using HR.out, Below.refl _ _⟩
    case round =>
      obtain ⟨k, m, rfl, rfl, hk, hm, hgl, hb⟩ := hrel
      have hblk2 := (hb.block w.heap.size (by omega)).trans Hblk.out
      have c3 : wr.cell? ⟨w.heap.size, 3, none⟩ = some (.slice A l.length vc) := blk_cell hblk2 3
      have hs2 := hb.size
      simp only [World.size_alloc] at hs2
      have HP := Lib.hid (Hb0.out.trans (hb.mono (by omega)))
      have HGL := Lib.hid hgl
      have HB := Lib.hid hb
      clear hgl hb hblk2
      have fin : ∀ W' e, e = Ending.returned (.int .i64 R) → W' = wr → e = Ending.returned (.int .i64 R) ∧ Below w.heap.size w W' := fun W' e h1 h2 => ⟨h1, by rw [h2]; exact HP.out⟩
      by_cases hlt : k < l.length
      · have hkI : decide ((k : Int) < (l.length : Int)) = true := by simp; omega
        by_cases hm0 : 0 ≤ m
        · have tm : decide (0 ≤ m) = true := by simpa using hm0
          obtain ⟨v, hv⟩ : ∃ v, l[k]? = some v := ⟨l[k], List.getElem?_eq_getElem hlt⟩
          have hmem : v ∈ l := List.mem_of_getElem? hv
          obtain ⟨b3, o3, k', n', s', A', m', c', r', rfl, hvin, d0, d1, d2, d3, d4⟩ := child_facts Hin.out hS HP.out k v hv
          have HC := Lib.hid (ih v hmem m _ S wr hvin (fun b hb => by have := hS b hb; omega) hm)
          have hle := greatV_le v m hm
          have hdr : l.drop k = v :: l.drop (k + 1) := by
            obtain ⟨h1, rfl⟩ := List.getElem?_eq_some_iff.mp hv
            exact List.drop_eq_getElem_cons h1
          have hgl2 := HGL.out
          rw [hdr, greatL, if_pos hm0] at hgl2
          have HGL2 := Lib.hid hgl2
          clear hgl2 hvin hv hdr
          go_wp2_with fail
          refine HC.out.mono ?_
          rintro e w2 ⟨rfl, hb2⟩
          go_wp2_with fail
          exact ⟨⟨k + 1, _, by simp, rfl, by omega, hle, HGL2.out, HB.out.trans (hb2.mono (by omega))⟩, by simp [Go.RowKit.intOf]; omega⟩
        · have tm : decide (0 ≤ m) = false := by simpa using hm0
          have hR2 : m = R := by
            have h := HGL.out
            obtain ⟨v, hv⟩ : ∃ v, l[k]? = some v := ⟨l[k], List.getElem?_eq_getElem hlt⟩
            have hdr : l.drop k = v :: l.drop (k + 1) := by
              obtain ⟨h1, rfl⟩ := List.getElem?_eq_some_iff.mp hv
              exact List.drop_eq_getElem_cons h1
            rw [hdr, greatL, if_neg hm0] at h
            exact h
          subst hR2
          clear hm0
          go_wp2
          go_ret
          exact ⟨rfl, HP.out⟩
      · have hkI : decide ((k : Int) < (l.length : Int)) = false := by simp; omega
        have hR2 : m = R := by
          have h := HGL.out
          rw [show k = l.length by omega, List.drop_length, greatL] at h
          exact h
        subst hR2
        go_wp2
        go_ret
        exact ⟨rfl, HP.out⟩
theorem great_any (v : V) : GreatOk v := V.induct greatOk_of v
end Go.Proofs.YtmiipfdndgjndaaDoor
