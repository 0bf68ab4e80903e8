/- Contracts of the reference's reader: next, on. -/
import Derived.Test.YtmiipfdndgjndaaDoorD
namespace Go.Proofs.YtmiipfdndgjndaaDoor
open Go.RowKit Go.Lib
set_option maxHeartbeats 1000000
def Rr (W : World) (B : Nat) (s : ByteArray) (a : Int) (st : Bool) (r : Int) : Prop := W.heap[B]? = some (.cells #[.string s, .int .i64 a, .bool st, .int .i64 r] 81 (0, 0))
section
variable {W : World} {B : Nat} {s : ByteArray} {a r : Int} {st : Bool}
theorem Rr.c0 (h : Rr W B s a st r) : W.cell? ⟨B, 0, none⟩ = some (.string s) := by simp [World.cell?, show W.heap[B]? = _ from h]
theorem Rr.c1 (h : Rr W B s a st r) : W.cell? ⟨B, 1, none⟩ = some (.int .i64 a) := by simp [World.cell?, show W.heap[B]? = _ from h]
theorem Rr.c2 (h : Rr W B s a st r) : W.cell? ⟨B, 2, none⟩ = some (.bool st) := by simp [World.cell?, show W.heap[B]? = _ from h]
theorem Rr.c3 (h : Rr W B s a st r) : W.cell? ⟨B, 3, none⟩ = some (.int .i64 r) := by simp [World.cell?, show W.heap[B]? = _ from h]
theorem Rr.f (h : Rr W B s a st r) (k : Nat) : W.frozen? ⟨B, k, none⟩ = false := by simp [World.frozen?, show W.heap[B]? = _ from h]
theorem Rr.lt (h : Rr W B s a st r) : B < W.heap.size := (Array.getElem?_eq_some_iff.1 h).1
theorem Rr.at {a' : Int} (h : Rr W B s a st r) (e : a = a') : Rr W B s a' st r := e ▸ h
theorem Rr.drewN (h : Rr W B s a st r) (q : Nat) : Rr (W.drewN q) B s a st r := h
theorem Rr.alloc (h : Rr W B s a st r) (o : Obj) : Rr (W.alloc o) B s a st r := (Below.heap_alloc W o B h.lt).trans h
theorem Rr.set1 (h : Rr W B s a st r) (v : Int) : Rr (W.setCell ⟨B, 1, none⟩ (.int .i64 v)) B s v st r := by
  obtain ⟨hlt, hk⟩ := Array.getElem?_eq_some_iff.1 h
  show (W.heap.modify B _)[B]? = _
  rw [Array.getElem?_eq_getElem (by rw [Array.size_modify]; exact hlt), Array.getElem_modify_self, hk]
  rfl
theorem Rr.set2 (h : Rr W B s a st r) (v : Bool) : Rr (W.setCell ⟨B, 2, none⟩ (.bool v)) B s a v r := by
  obtain ⟨hlt, hk⟩ := Array.getElem?_eq_some_iff.1 h
  show (W.heap.modify B _)[B]? = _
  rw [Array.getElem?_eq_getElem (by rw [Array.size_modify]; exact hlt), Array.getElem_modify_self, hk]
  rfl
theorem Rr.set3 (h : Rr W B s a st r) (v : Int) : Rr (W.setCell ⟨B, 3, none⟩ (.int .i64 v)) B s a st v := by
  obtain ⟨hlt, hk⟩ := Array.getElem?_eq_some_iff.1 h
  show (W.heap.modify B _)[B]? = _
  rw [Array.getElem?_eq_getElem (by rw [Array.size_modify]; exact hlt), Array.getElem_modify_self, hk]
  rfl
end
/-- What comes, of a reader that is not stuck: 0 where none does. -/
theorem rnext_any (B : Nat) (s : ByteArray) (k : Nat) (r : Int) (w : World) (h : Rr w B s k false r) : Calls Tryd.prog 67 #[.pointer (some ⟨B, 0, none⟩)] w fun e w' => e = .returned (.int .u8 (bAt s k)) ∧ ∃ q, w.drewN q = w' := by
  have c0 := h.c0
  have c1 := h.c1
  have c2 := h.c2
  by_cases hk : k < s.size
  · have hlt : decide ((s.size : Int) ≤ (k : Int)) = false := by simp; omega
    go_enter Tryd.func67, Tryd.ntmps67
    go_wp2
    go_quiet (fail)
    go_wp2
    go_quiet (fail)
    go_wp2
    go_ret
    exact ⟨by rw [← bAt_eq s k hk]; rfl, _, (drew2 _ _ _).symm⟩
  · have hlt : decide ((s.size : Int) ≤ (k : Int)) = true := by simp; omega
    rw [bAt_out s k hk]
    go_enter Tryd.func67, Tryd.ntmps67
    go_wp2
    go_quiet (fail)
    go_wp2
    go_ret
    exact ⟨rfl, _, rfl⟩
theorem ron_yes (B : Nat) (s : ByteArray) (k : Nat) (r : Int) (w : World) (hS : s.size ≤ 140737488355328) (h : Rr w B s k false r) (hk : k < s.size) : Calls Tryd.prog 69 #[.pointer (some ⟨B, 0, none⟩), .bool true] w fun e w' => e = .returned (.bool true) ∧ ∃ q, (w.drewN q).setCell ⟨B, 1, none⟩ (.int .i64 ((k : Int) + 1)) = w' := by
  have c0 := h.c0
  have c1 := h.c1
  have c2 := h.c2
  have f1 := h.f 1
  have hlt : decide ((s.size : Int) ≤ (k : Int)) = false := by simp; omega
  go_enter Tryd.func69, Tryd.ntmps69
  go_wp2
  go_quiet (fail)
  go_wp2
  go_ret
  exact ⟨rfl, _, rfl⟩
theorem ron_end (B : Nat) (s : ByteArray) (k : Nat) (r : Int) (b : Bool) (w : World) (h : Rr w B s k false r) (hk : ¬ k < s.size) : Calls Tryd.prog 69 #[.pointer (some ⟨B, 0, none⟩), .bool b] w fun e w' => e = .returned (.bool false) ∧ ∃ q, (w.drewN q).setCell ⟨B, 2, none⟩ (.bool true) = w' := by
  have c0 := h.c0
  have c1 := h.c1
  have c2 := h.c2
  have f2 := h.f 2
  have hlt : decide ((s.size : Int) ≤ (k : Int)) = true := by simp; omega
  go_enter Tryd.func69, Tryd.ntmps69
  go_wp2
  go_quiet (fail)
  go_wp2
  go_ret
  exact ⟨rfl, _, rfl⟩
theorem ron_no (B : Nat) (s : ByteArray) (k : Nat) (r : Int) (w : World) (h : Rr w B s k false r) : Calls Tryd.prog 69 #[.pointer (some ⟨B, 0, none⟩), .bool false] w fun e w' => e = .returned (.bool false) ∧ ∃ q, (w.drewN q).setCell ⟨B, 2, none⟩ (.bool true) = w' := by
  by_cases hk : k < s.size
  · have c0 := h.c0
    have c1 := h.c1
    have c2 := h.c2
    have f2 := h.f 2
    have hlt : decide ((s.size : Int) ≤ (k : Int)) = false := by simp; omega
    go_enter Tryd.func69, Tryd.ntmps69
    go_wp2
    go_quiet (fail)
    go_wp2
    go_ret
    exact ⟨rfl, _, rfl⟩
  · exact ron_end B s k r false w h hk
end Go.Proofs.YtmiipfdndgjndaaDoor
