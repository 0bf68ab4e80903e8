/- The contracts of the law's own lent and kept: a list in memory with two marks behind it. -/
import Derived.Test.YtbdbhacniejagaaH
namespace Go.Proofs.Ytbdbhacniejagaa
open Go.RowKit Go.Shelf
set_option maxHeartbeats 1000000
theorem info22 : (Try.prog.info? 22).map (fun i => (i.zero, i.size, i.bytes)) = some (some (.int .u8 0), 1, 1) := by kernel_rfl
def u8s (xs : List Int) : List Value := xs.map (Value.int .u8)
theorem two_new (w : World) (x y : Value) (t : TypeId) : ∀ j u, [x, y][j]? = some u → (w.alloc (.cells #[x, y] t)).cell? ((⟨w.heap.size, 0, none⟩ : Addr).add j) = some u := by
  intro j u h
  have hj : (⟨w.heap.size, 0, none⟩ : Addr).add j = ⟨w.heap.size, j, none⟩ := by unfold Addr.add; split <;> simp_all
  rw [hj]
  exact cell_new _ _ _ _ _ (by simpa using h)
theorem own_form {w : World} {base : Nat} {e : TypeId} {size : Nat} {v : Value} {k m : Nat} {xs : List Value} (h : w.ownsRow base e size v (k + (m + 1)) xs) :
    ∃ g cap, v = .slice (some ⟨g, 0, none⟩) (k + (m + 1)) cap ∧ k + (m + 1) ≤ cap := by
  rcases h.2 with ⟨_, h0⟩ | ⟨g, cap, cur, h, _, _, hc, _⟩
  · omega
  · exact ⟨g, cap, h, hc⟩
theorem lent_some (ad : Addr) (n c : Nat) (xs : List Int) (hn : xs.length = n) (hr : n ≤ 140737488351232) (w : World) (hcells : ∀ (j : Nat) (u : Value), (u8s xs)[j]? = some u → w.cell? (ad.add j) = some u) :
    Calls Try.prog 14 #[.slice (some ad) n c] w fun e w' => ∃ g cap, e = .returned (.slice (some ⟨g, 0, none⟩) n cap) ∧ n + 2 ≤ cap ∧ w'.ownsRow w.heap.size 22 1 (.slice (some ⟨g, 0, none⟩) (n + 2) cap) (n + 2) (u8s (xs ++ [77, 78])) ∧ Below w.heap.size w w' := by
  obtain ⟨i0, hi, hz0, hz1, hz2⟩ := info_parts info22
  have Hc := Lib.hid hcells
  clear hcells
  have hl : (u8s xs).length = n * 1 := by simp [u8s, hn]
  have Hl := Lib.hid hl
  have h1c : ∀ u ∈ u8s xs, u.oneCell' = true := by intro u hu; simp only [u8s, List.mem_map] at hu; obtain ⟨x, _, rfl⟩ := hu; rfl
  have H1c := Lib.hid h1c
  clear hl h1c
  go_enter Try.func14, Try.ntmps14
  go_wp2_with (first
    | (at_builtin; refine wpList_append_own _ rfl (.const (.slice none 0 0)) (.tmp 3) 33 rfl w.heap.size 22 i0 (.int .u8 0) 1 1 Try.underlying33 hi hz0 hz1 hz2 rfl (by decide) (.slice none 0 0) 0 [] rfl (World.ownsRow_nil _ _ _ _) ad n c (u8s xs) rfl Hl.out Hc.out H1c.out (by unfold maxLen; omega) (by omega) (by omega) ?_; intro v' w1 hown hgrow hnil; simp only [Nat.zero_add, List.nil_append] at hown; have hsz : w.heap.size ≤ w1.heap.size := hgrow.size; have hb1 : Below w.heap.size w w1 := (Below.refl _ _).grown hgrow (Nat.le_refl _) (fun k e => by cases e); clear hnil hgrow)
    | (at_builtin; refine wpList_append_own _ rfl (.tmp 4) (.tmp 5) 33 rfl w.heap.size 22 i0 (.int .u8 0) 1 1 Try.underlying33 hi hz0 hz1 hz2 rfl (by decide) v' n (u8s xs) rfl (hown.alloc _) ⟨w1.heap.size, 0, none⟩ 2 2 [.int .u8 77, .int .u8 78] rfl rfl (two_new _ _ _ _) (by simp [Value.oneCell']) (by unfold maxLen; omega) (by omega) (by simp; omega) ?_; intro v2 w2 hown2 hgrow2 _; obtain ⟨g, cap, hv2, hcap⟩ := own_form hown2; subst hv2))
  go_ret
  refine ⟨g, cap, rfl, hcap, by simpa [u8s] using hown2, (hb1.alloc hsz _).grown hgrow2 (by simp; omega) (fun k e => (hown.lt k e).1)⟩
theorem lent_nil (n c : Nat) (hn : n = 0) (w : World) :
    Calls Try.prog 14 #[.slice none n c] w fun e w' => ∃ g cap, e = .returned (.slice (some ⟨g, 0, none⟩) n cap) ∧ n + 2 ≤ cap ∧ w'.ownsRow w.heap.size 22 1 (.slice (some ⟨g, 0, none⟩) (n + 2) cap) (n + 2) (u8s ([] ++ [77, 78])) ∧ Below w.heap.size w w' := by
  subst hn
  obtain ⟨i0, hi, hz0, hz1, hz2⟩ := info_parts info22
  go_enter Try.func14, Try.ntmps14
  go_wp2_with (first
    | (at_builtin; refine wpList_append_own _ rfl (.tmp 4) (.tmp 5) 33 rfl w.heap.size 22 i0 (.int .u8 0) 1 1 Try.underlying33 hi hz0 hz1 hz2 rfl (by decide) (.slice none 0 0) 0 [] rfl (World.ownsRow_nil _ _ _ _) ⟨w.heap.size, 0, none⟩ 2 2 [.int .u8 77, .int .u8 78] rfl rfl (two_new _ _ _ _) (by simp [Value.oneCell']) (by unfold maxLen; omega) (by omega) (by simp) ?_; intro v2 w2 hown2 hgrow2 _; obtain ⟨g, cap, hv2, hcap⟩ := own_form hown2; subst hv2))
  go_ret
  refine ⟨g, cap, rfl, hcap, by simpa [u8s] using hown2, ((Below.refl _ _).alloc (Nat.le_refl _) _).grown hgrow2 (by simp) (fun k e => by cases e)⟩
/-- The list in memory of the call's own, two marks behind it. -/
theorem lent_any (a : Option Addr) (n c : Nat) (xs : List Int) (hn : xs.length = n) (hr : n ≤ 140737488351232) (w : World) (h : ReadsU8 w a xs) :
    Calls Try.prog 14 #[.slice a n c] w fun e w' => ∃ g cap, e = .returned (.slice (some ⟨g, 0, none⟩) n cap) ∧ n + 2 ≤ cap ∧ w'.ownsRow w.heap.size 22 1 (.slice (some ⟨g, 0, none⟩) (n + 2) cap) (n + 2) (u8s (xs ++ [77, 78])) ∧ Below w.heap.size w w' := by
  cases a with
  | none =>
    have h0 : xs = [] := by
      rcases Nat.eq_zero_or_pos xs.length with h0 | h0
      · exact List.length_eq_zero_iff.1 h0
      · obtain ⟨b, o, hb, _⟩ := h.2 0 h0
        cases hb
    subst h0
    exact lent_nil n c (by simpa using hn.symm) w
  | some ad =>
    refine lent_some ad n c xs hn hr w ?_
    intro j u hu
    obtain ⟨hj, hju⟩ := List.getElem?_eq_some_iff.1 hu
    simp only [u8s, List.length_map] at hj
    obtain ⟨b, o, hb, hc, _⟩ := h.2 j hj
    obtain rfl : ad = ⟨b, o, none⟩ := by simpa using hb
    have he : (⟨b, o, none⟩ : Addr).add j = ⟨b, o + j, none⟩ := by unfold Addr.add; split <;> simp_all
    rw [he, hc]
    simp only [u8s, List.getElem_map] at hju
    rw [List.getElem?_eq_getElem hj]
    simp [hju]
end Go.Proofs.Ytbdbhacniejagaa
