/- Values as they lie in memory. -/
import Derived.Test.YtmiipfdndgjndaaDoorH
import Derived.Test.YtmiipfdndgjndaaDoorX3
import Derived.Deep.Slices
namespace Go.Proofs.YtmiipfdndgjndaaDoor
open Go.RowKit Go.Lib
theorem add_add5 (a : Addr) (i j : Nat) : (a.add i).add j = a.add (i + j) := by
  unfold Addr.add
  by_cases hi : i = 0 <;> by_cases hj : j = 0 <;> simp [hi, hj, Nat.add_assoc]
theorem block_add (a : Addr) (n : Nat) : (a.add n).block = a.block := by unfold Addr.add; split <;> rfl
mutual
/-- In the world W the cells cs are a value v; its lists lie in blocks of S. -/
def VIn (W : World) (S : Nat → Prop) : V → List Value → Prop
  | .mk k n s l r, cs => ∃ (A : Option Addr) (cap : Nat), cs = [.int .u8 k, .int .i64 n, .string s, .slice A l.length cap, .int .i64 r] ∧ l.length ≤ cap ∧ l.length ≤ 140737488351232 ∧ s.size ≤ 140737488351232 ∧ LIn W S A l 0
def LIn (W : World) (S : Nat → Prop) (A : Option Addr) : List V → Nat → Prop
  | [], _ => True
  | v :: l, i => (∃ (b o : Nat) (cs : List Value), A = some ⟨b, o, none⟩ ∧ S b ∧ (∀ j u, cs[j]? = some u → W.cell? ⟨b, o + i * 5 + j, none⟩ = some u) ∧ VIn W S v cs) ∧ LIn W S A l (i + 1)
end
mutual
theorem VIn.mono {W W' : World} {S S' : Nat → Prop} (h : ∀ b, S b → S' b ∧ W'.heap[b]? = W.heap[b]?) : (v : V) → ∀ {cs : List Value}, VIn W S v cs → VIn W' S' v cs
  | .mk k n s l r => by
    intro hv
    obtain ⟨A, cap, h1, h2, h3, h4, h5⟩ := hv
    exact ⟨A, cap, h1, h2, h3, h4, LIn.mono h l h5⟩
theorem LIn.mono {W W' : World} {S S' : Nat → Prop} (h : ∀ b, S b → S' b ∧ W'.heap[b]? = W.heap[b]?) {A : Option Addr} : (l : List V) → ∀ {i : Nat}, LIn W S A l i → LIn W' S' A l i
  | [] => by intro _; trivial
  | v :: l => by
    intro hl
    obtain ⟨⟨b, o, cs, h1, h2, h3, h4⟩, h5⟩ := hl
    refine ⟨⟨b, o, cs, h1, (h _ h2).1, fun j u hu => ?_, VIn.mono h v h4⟩, LIn.mono h l h5⟩
    exact (World.cell?_of_block (h _ h2).2).trans (h3 j u hu)
end
theorem LIn.get {W : World} {S : Nat → Prop} {A : Option Addr} : ∀ {l : List V} {i : Nat} (j : Nat) (v : V), LIn W S A l i → l[j]? = some v →
    ∃ (b o : Nat) (cs : List Value), A = some ⟨b, o, none⟩ ∧ S b ∧ (∀ m u, cs[m]? = some u → W.cell? ⟨b, o + (i + j) * 5 + m, none⟩ = some u) ∧ VIn W S v cs := by
  intro l
  induction l with
  | nil => intro i j v _ h; simp at h
  | cons x l ih =>
    intro i j v hl h
    cases j with
    | zero =>
      simp at h
      subst h
      exact hl.1
    | succ j =>
      obtain ⟨b, o, cs, h1, h2, h3, h4⟩ := ih j v hl.2 (by simpa using h)
      refine ⟨b, o, cs, h1, h2, ?_, h4⟩
      rw [show i + (j + 1) = i + 1 + j by omega]
      exact h3
mutual
theorem V.induct {P : V → Prop} (h : ∀ k n s l r, (∀ v ∈ l, P v) → P (.mk k n s l r)) : (v : V) → P v
  | .mk k n s l r => h k n s l r (V.inductL h l)
theorem V.inductL {P : V → Prop} (h : ∀ k n s l r, (∀ v ∈ l, P v) → P (.mk k n s l r)) : (l : List V) → ∀ v ∈ l, P v
  | [] => by intro v hv; cases hv
  | x :: l => by
    intro v hv
    rcases List.mem_cons.1 hv with e | e
    · exact e ▸ V.induct h x
    · exact V.inductL h l v e
end
theorem fitsL_mem : ∀ {l : List V}, fitsL l → ∀ v ∈ l, v.fits := by
  intro l
  induction l with
  | nil => intro _ v hv; cases hv
  | cons x l ih =>
    intro h v hv
    rcases List.mem_cons.1 hv with e | e
    · subst e; exact h.1
    · exact ih h.2 v e
theorem VIn.forms {W : World} {S : Nat → Prop} {v : V} {cs : List Value} (h : VIn W S v cs) : ∃ k n s A cap r, v = .mk k n s v.lst r ∧ cs = [.int .u8 k, .int .i64 n, .string s, .slice A v.lst.length cap, .int .i64 r] := by
  obtain ⟨k, n, s, l, r⟩ := v
  obtain ⟨A, cap, h1, _⟩ := h
  exact ⟨k, n, s, A, cap, r, rfl, h1⟩
theorem VIn.len {W : World} {S : Nat → Prop} {v : V} {cs : List Value} (h : VIn W S v cs) : cs.length = 5 := by
  obtain ⟨k, n, s, A, cap, r, _, rfl⟩ := h.forms
  rfl
/-- A block of values that came behind base, none of it frozen. -/
def NewB (base : Nat) (W : World) (b : Nat) : Prop := base ≤ b ∧ b < W.heap.size ∧ ∃ cs, W.heap[b]? = some (.cells cs 26 (0, 0))
theorem NewB.of {base : Nat} {W : World} {b : Nat} {cs : Array Value} (hb : base ≤ b) (h : W.heap[b]? = some (.cells cs 26 (0, 0))) : NewB base W b := ⟨hb, (Array.getElem?_eq_some_iff.1 h).1, cs, h⟩
theorem NewB.keep {base base' : Nat} {W W' : World} {b : Nat} (h : NewB base W b) (hb : base' ≤ b) (e : W'.heap[b]? = W.heap[b]?) : NewB base' W' b := by
  obtain ⟨_, _, cs, h3⟩ := h
  exact NewB.of hb (e.trans h3)
theorem VIn.keepNew {W W' : World} {base base' : Nat} {v : V} {cs : List Value} (h : VIn W (NewB base W) v cs) (hb : ∀ b, base ≤ b → b < W.heap.size → base' ≤ b ∧ W'.heap[b]? = W.heap[b]?) : VIn W' (NewB base' W') v cs :=
  VIn.mono (fun b h => ⟨h.keep (hb b h.1 h.2.1).1 (hb b h.1 h.2.1).2, (hb b h.1 h.2.1).2⟩) v h
theorem LIn.keepNew {W W' : World} {base base' : Nat} {A : Option Addr} {l : List V} {i : Nat} (h : LIn W (NewB base W) A l i) (hb : ∀ b, base ≤ b → b < W.heap.size → base' ≤ b ∧ W'.heap[b]? = W.heap[b]?) : LIn W' (NewB base' W') A l i :=
  LIn.mono (fun b h => ⟨h.keep (hb b h.1 h.2.1).1 (hb b h.1 h.2.1).2, (hb b h.1 h.2.1).2⟩) l h
end Go.Proofs.YtmiipfdndgjndaaDoor
