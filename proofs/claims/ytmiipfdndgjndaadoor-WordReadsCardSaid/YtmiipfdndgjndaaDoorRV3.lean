/- The contract of the reference's value: printed by gen_rvalue.py. -/
import Derived.Test.YtmiipfdndgjndaaDoorRV2
import Derived.Test.YtmiipfdndgjndaaDoorO
namespace Go.Proofs.YtmiipfdndgjndaaDoor
open Go.RowKit Go.Lib
set_option maxHeartbeats 4000000
/-- What is left of a list ahead of its next value. -/
def restF (s : ByteArray) (rv : Nat → Nat → Except Nat (V × Nat × Nat)) (f p k : Nat) (acc : List V) : Except Nat (List V × Nat × Nat) :=
  match (if 512 ≤ p then (.error k : Except Nat (V × Nat × Nat)) else rv p k) with
  | .error q => .error q
  | .ok (v, k2, p2) => listF s rv f p2 k2 (acc ++ [v])
theorem rest_start (s : ByteArray) (rv : Nat → Nat → Except Nat (V × Nat × Nat)) (hout : ∀ p k, ¬ k < s.size → rv p k = .error s.size) (f p k : Nat) (hk : k ≤ s.size) (h93 : ¬ bAt s k = 93) : listF s rv (f + 1) p k [] = restF s rv f p k [] := by
  rw [listF]
  unfold restF
  by_cases h : k < s.size
  · rw [if_pos h, if_neg h93]
    by_cases hp : 512 ≤ p
    · rw [if_pos hp, if_pos hp]
    · rw [if_neg hp, if_neg (by simp), if_pos rfl, if_neg hp]
      cases rv p k <;> rfl
  · rw [if_neg h]
    by_cases hp : 512 ≤ p
    · rw [if_pos hp, show k = s.size by omega]
    · rw [if_neg hp, hout p k h]
theorem rest_next (s : ByteArray) (rv : Nat → Nat → Except Nat (V × Nat × Nat)) (f p k : Nat) (acc : List V) (hne : acc ≠ []) (hk : k ≤ s.size) (h93 : ¬ bAt s k = 93) :
    listF s rv (f + 1) p k acc = if bAt s k = 32 ∧ p < 512 then restF s rv f p (k + 1) acc else .error k := by
  rw [listF]
  unfold restF
  by_cases h : k < s.size
  · rw [if_pos h, if_neg h93]
    by_cases hp : 512 ≤ p
    · rw [if_pos hp, if_neg (by omega)]
    · rw [if_neg hp]
      by_cases h32 : bAt s k = 32
      · rw [if_neg (by simp [h32]), if_neg hne, if_pos ⟨h32, by omega⟩, if_neg hp]
        cases rv p (k + 1) <;> rfl
      · rw [if_pos ⟨hne, h32⟩, if_neg (by simp [h32])]
  · rw [if_neg h, if_neg (by rw [bAt_out s k h]; simp), show k = s.size by omega]
def mOf (s : ByteArray) (B : Nat) (W : World) : Nat := match W.cell? ⟨B, 2, none⟩ with | some (.bool true) => 0 | _ => s.size + 1 - atOf B W
theorem mOf_live {W : World} {B : Nat} {s : ByteArray} {k : Nat} {r : Int} (h : Rr W B s k false r) : mOf s B W = s.size + 1 - k := by unfold mOf; rw [h.c2, ratOf h]
theorem mOf_stuck {W : World} {B : Nat} {s : ByteArray} {a r : Int} (h : Rr W B s a true r) : mOf s B W = 0 := by unfold mOf; rw [h.c2]
theorem set_three {W : World} {H : Nat} {x0 x1 x2 x3 x4 : Value} (h : W.heap[H]? = some (.cells #[x0, x1, x2, x3, x4] 26 (0, 0))) (y : Value) : (W.setCell ⟨H, 3, none⟩ y).heap[H]? = some (.cells #[x0, x1, x2, y, x4] 26 (0, 0)) := by
  simp [World.setCell, Array.getElem?_modify, h]
theorem RvPost.list_ok {B : Nat} {s : ByteArray} {w w' : World} {l : List V} {A : Option Addr} {cap k' p' : Nat} (hl : LIn w' (NewB w.heap.size w') A l 0) (h1 : l.length ≤ cap) (h2 : l.length ≤ 140737488351232) (hr : Rr w' B s (k' : Int) false (512 - (p' : Int))) (hb : But B w w') :
    RvPost B s (listRes (.ok (l, k', p'))) w (.returned (.agg #[.int .u8 3, .int .i64 0, .string ⟨#[]⟩, .slice A l.length cap, .int .i64 0])) w' :=
  ⟨⟨⟨_, rfl, A, cap, rfl, h1, h2, by decide, hl⟩, hr⟩, hb⟩
theorem RvPost.list_bad {B q : Nat} {s : ByteArray} {w w' : World} {A : Option Addr} {m cap : Nat} {rm : Int} (hr : Rr w' B s (q : Int) true rm) (hb : But B w w') :
    RvPost B s (listRes (.error q)) w (.returned (.agg #[.int .u8 3, .int .i64 0, .string ⟨#[]⟩, .slice A m cap, .int .i64 0])) w' :=
  ⟨⟨⟨_, _, _, _, _, _, _, rfl⟩, true, rm, hr, fun h => by cases h⟩, hb⟩
theorem Rr.but_grow {wr w2 w3 : World} {o : Obj} {base : Nat} {e : TypeId} {size : Nat} {v : Value} {n : Nat} {xs : List Value} {B : Nat} {s : ByteArray} {a r : Int} {st : Bool} (ho : wr.ownsRow base e size v n xs) (hg : (w2.alloc o).grownBy w3 v.ownBlock) (h : Rr w2 B s a st r) (hB : B < base) : Rr w3 B s a st r :=
  (hg.block B (by have := h.lt; simp; omega) (fun e => by have := (ho.lt B e.symm).1; omega)).trans (Rr.alloc h _)
set_option maxRecDepth 100000 in
theorem rval_list (B : Nat) (s : ByteArray) (k p : Nat) (dd : Int) (w : World) (hS : s.size ≤ 140737488351232) (h : Rr w B s k false (512 - (p : Int))) (hp : p < 512) (hk : k < s.size) (hc : bAt s k = 91) (hdd : 0 < dd) (hdd2 : dd ≤ 16)
    (rv : Nat → Nat → Except Nat (V × Nat × Nat)) (hout : ∀ p k, ¬ k < s.size → rv p k = .error s.size) (hlt : ∀ p k v k' p', rv p k = .ok (v, k', p') → p < 512 → k ≤ s.size → k < k' ∧ k' ≤ s.size ∧ p < p' ∧ p' ≤ 512)
    (hval : ∀ (p kv : Nat) (W : World), Rr W B s kv false (512 - (p : Int)) → kv ≤ s.size → p < 512 → Calls Tryd.prog 42 #[.pointer (some ⟨B, 0, none⟩), .int .i64 (dd - 1)] W (RvPost B s (rv p kv) W)) :
    Calls Tryd.prog 42 #[.pointer (some ⟨B, 0, none⟩), .int .i64 dd] w (RvPost B s (listRes (listF s rv (s.size + 1) (p + 1) (k + 1) [])) w) := by
  obtain ⟨i0, hi, hz0, hz1, hz2⟩ := info_parts info26
  obtain ⟨room, hroom⟩ : ∃ room : Int, room = 512 - (p : Int) := ⟨_, rfl⟩
  rw [← hroom] at h
  have hr : 1 ≤ room := by omega
  have hr2 : room ≤ 512 := by omega
  have hcall : ∀ (p kv : Nat) (W : World), Rr W B s kv false (512 - (p : Int)) → kv ≤ s.size → p ≤ 512 → Calls Tryd.prog 42 #[.pointer (some ⟨B, 0, none⟩), .int .i64 (dd - 1)] W (RvPost B s (if 512 ≤ p then .error kv else rv p kv) W) := by
    intro p kv W hW hkv hp
    by_cases h5 : 512 ≤ p
    · rw [if_pos h5]
      refine (rval_full B s kv _ (dd - 1) W hW (by omega)).mono ?_
      rintro e w' ⟨⟨xk, xn, xs0, xA, xm, xc, xr, rfl⟩, hr, hb⟩
      exact ⟨⟨⟨_, _, _, _, _, _, _, rfl⟩, true, _, hr, fun h => by cases h⟩, hb⟩
    · rw [if_neg h5]
      exact hval p kv W hW hkv (by omega)
  have HC := Lib.hid hcall
  have HLT := Lib.hid hlt
  have HRO := Lib.hid hroom
  clear hcall hlt hval hroom
  obtain ⟨R, hR⟩ : ∃ R, listF s rv (s.size + 1) (p + 1) (k + 1) [] = R := ⟨_, rfl⟩
  rw [hR]
  have hltB := h.lt
  have hA : Rr (w.alloc (.cells #[.int .u8 0, .int .i64 0, .string ⟨#[]⟩, .slice none 0 0, .int .i64 0] 26)) B s k false room := h.alloc _
  have c1 := hA.c1
  have c2 := hA.c2
  have c3 := hA.c3
  have f1 := hA.f 1
  have f2 := hA.f 2
  have f3 := hA.f 3
  have tr : decide (room < 1) = false := by simp; omega
  have hnx := fun W (hW : Rr W B s k false room) => rnext_any B s k room W hW
  rw [hc] at hnx
  have HN := Lib.hid hnx
  have HA := Lib.hid hA
  clear hnx hA
  have tdd : decide (0 < dd) = true := by simpa using hdd
  have HWR : Hid (IntKind.i64.wrap (dd - 1) = dd - 1) := Lib.hid (IntWalk.i64_in _ (by omega))
  have HBY := Lib.hid (fun (W : World) (hW : Rr W B s ((k + 1 : Nat) : Int) false (room - 1)) => rnext_any B s (k + 1) (room - 1) W hW)
  by_cases h93 : bAt s (k + 1) = 93
  · have hk1 : k + 1 < s.size := by
      by_cases hx : k + 1 < s.size
      · exact hx
      · rw [bAt_out s (k + 1) hx] at h93; omega
    rw [listF, if_pos hk1, if_pos h93] at hR
    subst hR
    rw [h93] at HBY
    clear h93 HC HLT
    go_enter Tryd.func42, Tryd.ntmps42
    go_wp2_with fail
    refine (HN.out _ (by exact HA.out)).mono ?_
    rintro e w' ⟨rfl, q1, rfl⟩
    go_wp2_with fail
    refine (ron_yes B s k _ _ (by omega) (by exact (Rr.set3 (show Rr ((w.alloc (.cells #[.int .u8 0, .int .i64 0, .string ⟨#[]⟩, .slice none 0 0, .int .i64 0] 26)).drewN q1) B s (k : Int) false room from HA.out) (room - 1))) hk).mono ?_
    rintro e w' ⟨rfl, q2, rfl⟩
    go_wp2_with fail
    have HR4 : Hid (Rr ((((((w.alloc (.cells #[.int .u8 0, .int .i64 0, .string ⟨#[]⟩, .slice none 0 0, .int .i64 0] 26)).drewN q1).setCell ⟨B, 3, none⟩ (.int .i64 (room - 1))).drewN q2).setCell ⟨B, 1, none⟩ (.int .i64 ((k : Int) + 1))).alloc (.cells #[.int .u8 3, .int .i64 0, .string ⟨#[]⟩, .slice none 0 0, .int .i64 0] 26)) B s ((k + 1 : Nat) : Int) false (room - 1)) := Lib.hid (Rr.alloc (Rr.at (Rr.set1 (show Rr ((((w.alloc (.cells #[.int .u8 0, .int .i64 0, .string ⟨#[]⟩, .slice none 0 0, .int .i64 0] 26)).drewN q1).setCell ⟨B, 3, none⟩ (.int .i64 (room - 1))).drewN q2) B s (k : Int) false (room - 1) from (Rr.set3 (show Rr ((w.alloc (.cells #[.int .u8 0, .int .i64 0, .string ⟨#[]⟩, .slice none 0 0, .int .i64 0] 26)).drewN q1) B s (k : Int) false room from HA.out) (room - 1))) ((k : Int) + 1)) (by omega : (k : Int) + 1 = ((k + 1 : Nat) : Int))) (.cells #[.int .u8 3, .int .i64 0, .string ⟨#[]⟩, .slice none 0 0, .int .i64 0] 26))
    have HA1 : Hid (((((((w.alloc (.cells #[.int .u8 0, .int .i64 0, .string ⟨#[]⟩, .slice none 0 0, .int .i64 0] 26)).drewN q1).setCell ⟨B, 3, none⟩ (.int .i64 (room - 1))).drewN q2).setCell ⟨B, 1, none⟩ (.int .i64 ((k : Int) + 1))).alloc (.cells #[.int .u8 3, .int .i64 0, .string ⟨#[]⟩, .slice none 0 0, .int .i64 0] 26)).heap[w.heap.size]? = some (.cells #[.int .u8 0, .int .i64 0, .string ⟨#[]⟩, .slice none 0 0, .int .i64 0] 26 (0, 0))) := Lib.hid (((((((But.refl B (w.alloc (.cells #[.int .u8 0, .int .i64 0, .string ⟨#[]⟩, .slice none 0 0, .int .i64 0] 26))).drewN q1).setCell 3 _).drewN q2).setCell 1 _).alloc (.cells #[.int .u8 3, .int .i64 0, .string ⟨#[]⟩, .slice none 0 0, .int .i64 0] 26)).block w.heap.size (by simp) (by omega) |>.trans (heap_alloc_new w (.cells #[.int .u8 0, .int .i64 0, .string ⟨#[]⟩, .slice none 0 0, .int .i64 0] 26)))
    have HA2 : Hid (((((((w.alloc (.cells #[.int .u8 0, .int .i64 0, .string ⟨#[]⟩, .slice none 0 0, .int .i64 0] 26)).drewN q1).setCell ⟨B, 3, none⟩ (.int .i64 (room - 1))).drewN q2).setCell ⟨B, 1, none⟩ (.int .i64 ((k : Int) + 1))).alloc (.cells #[.int .u8 3, .int .i64 0, .string ⟨#[]⟩, .slice none 0 0, .int .i64 0] 26)).heap[w.heap.size + 1]? = some (.cells #[.int .u8 3, .int .i64 0, .string ⟨#[]⟩, .slice none 0 0, .int .i64 0] 26 (0, 0))) := Lib.hid (by have h9 := heap_alloc_new (((((w.alloc (.cells #[.int .u8 0, .int .i64 0, .string ⟨#[]⟩, .slice none 0 0, .int .i64 0] 26)).drewN q1).setCell ⟨B, 3, none⟩ (.int .i64 (room - 1))).drewN q2).setCell ⟨B, 1, none⟩ (.int .i64 ((k : Int) + 1))) (.cells #[.int .u8 3, .int .i64 0, .string ⟨#[]⟩, .slice none 0 0, .int .i64 0] 26); rw [show (((((w.alloc (.cells #[.int .u8 0, .int .i64 0, .string ⟨#[]⟩, .slice none 0 0, .int .i64 0] 26)).drewN q1).setCell ⟨B, 3, none⟩ (.int .i64 (room - 1))).drewN q2).setCell ⟨B, 1, none⟩ (.int .i64 ((k : Int) + 1))).heap.size = w.heap.size + 1 by simp [World.setCell]] at h9; exact h9)
    have HBA : Hid (But B (w.alloc (.cells #[.int .u8 0, .int .i64 0, .string ⟨#[]⟩, .slice none 0 0, .int .i64 0] 26)) ((((((w.alloc (.cells #[.int .u8 0, .int .i64 0, .string ⟨#[]⟩, .slice none 0 0, .int .i64 0] 26)).drewN q1).setCell ⟨B, 3, none⟩ (.int .i64 (room - 1))).drewN q2).setCell ⟨B, 1, none⟩ (.int .i64 ((k : Int) + 1))).alloc (.cells #[.int .u8 3, .int .i64 0, .string ⟨#[]⟩, .slice none 0 0, .int .i64 0] 26))) := Lib.hid ((((((But.refl B (w.alloc (.cells #[.int .u8 0, .int .i64 0, .string ⟨#[]⟩, .slice none 0 0, .int .i64 0] 26))).drewN q1).setCell 3 _).drewN q2).setCell 1 _).alloc (.cells #[.int .u8 3, .int .i64 0, .string ⟨#[]⟩, .slice none 0 0, .int .i64 0] 26))
    have HSZ : Hid (((((((w.alloc (.cells #[.int .u8 0, .int .i64 0, .string ⟨#[]⟩, .slice none 0 0, .int .i64 0] 26)).drewN q1).setCell ⟨B, 3, none⟩ (.int .i64 (room - 1))).drewN q2).setCell ⟨B, 1, none⟩ (.int .i64 ((k : Int) + 1))).alloc (.cells #[.int .u8 3, .int .i64 0, .string ⟨#[]⟩, .slice none 0 0, .int .i64 0] 26)).heap.size = w.heap.size + 2) := Lib.hid (by simp [World.setCell])
    obtain ⟨w4, hw4⟩ : ∃ w4, w4 = ((((((w.alloc (.cells #[.int .u8 0, .int .i64 0, .string ⟨#[]⟩, .slice none 0 0, .int .i64 0] 26)).drewN q1).setCell ⟨B, 3, none⟩ (.int .i64 (room - 1))).drewN q2).setCell ⟨B, 1, none⟩ (.int .i64 ((k : Int) + 1))).alloc (.cells #[.int .u8 3, .int .i64 0, .string ⟨#[]⟩, .slice none 0 0, .int .i64 0] 26)) := ⟨_, rfl⟩
    rw [← hw4] at HR4 HA1 HA2 HBA HSZ
    rw [← hw4]
    clear hw4
    refine (HBY.out _ HR4.out).mono ?_
    rintro e w5x ⟨rfl, q3, hw5⟩
    obtain ⟨w5, hw5b⟩ : ∃ w5, w5 = w5x := ⟨_, rfl⟩
    rw [← hw5b] at hw5 ⊢
    have HR5 : Hid (Rr w5 B s ((k + 1 : Nat) : Int) false (room - 1)) := Lib.hid (by rw [← hw5]; exact HR4.out)
    have HB1 : Hid ((w5.setCell ⟨B, 1, none⟩ (.int .i64 ((k : Int) + 1 + 1))).heap[w.heap.size]? = some (.cells #[.int .u8 0, .int .i64 0, .string ⟨#[]⟩, .slice none 0 0, .int .i64 0] 26 (0, 0))) := Lib.hid ((Below.heap_setCell _ _ _ _ (by show w.heap.size ≠ B; omega)).trans (by rw [← hw5]; exact HA1.out))
    have HB2 : Hid ((w5.setCell ⟨B, 1, none⟩ (.int .i64 ((k : Int) + 1 + 1))).heap[w.heap.size + 1]? = some (.cells #[.int .u8 3, .int .i64 0, .string ⟨#[]⟩, .slice none 0 0, .int .i64 0] 26 (0, 0))) := Lib.hid ((Below.heap_setCell _ _ _ _ (by show w.heap.size + 1 ≠ B; omega)).trans (by rw [← hw5]; exact HA2.out))
    have HBT : Hid (But B (w.alloc (.cells #[.int .u8 0, .int .i64 0, .string ⟨#[]⟩, .slice none 0 0, .int .i64 0] 26)) w5) := Lib.hid (by rw [← hw5]; exact HBA.out.drewN q3)
    clear hw5 hw5b w5x HA1 HA2 HBA HR4
    have c1 := HR5.out.c1
    have f1 := HR5.out.f 1
    have z0 : (w5.setCell ⟨B, 1, none⟩ (.int .i64 ((k : Int) + 1 + 1))).cell? ⟨w.heap.size + 1, 0, none⟩ = some (.int .u8 3) := blk_cell HB2.out 0
    have z1 : (w5.setCell ⟨B, 1, none⟩ (.int .i64 ((k : Int) + 1 + 1))).cell? ⟨w.heap.size + 1, 1, none⟩ = some (.int .i64 0) := blk_cell HB2.out 1
    have z2 : (w5.setCell ⟨B, 1, none⟩ (.int .i64 ((k : Int) + 1 + 1))).cell? ⟨w.heap.size + 1, 2, none⟩ = some (.string ⟨#[]⟩) := blk_cell HB2.out 2
    have z3 : (w5.setCell ⟨B, 1, none⟩ (.int .i64 ((k : Int) + 1 + 1))).cell? ⟨w.heap.size + 1, 3, none⟩ = some (.slice none 0 0) := blk_cell HB2.out 3
    have z4 : (w5.setCell ⟨B, 1, none⟩ (.int .i64 ((k : Int) + 1 + 1))).cell? ⟨w.heap.size + 1, 4, none⟩ = some (.int .i64 0) := blk_cell HB2.out 4
    have y0 : (w5.setCell ⟨B, 1, none⟩ (.int .i64 ((k : Int) + 1 + 1))).cell? ⟨w.heap.size, 0, none⟩ = some (.int .u8 0) := blk_cell HB1.out 0
    have y1 : (w5.setCell ⟨B, 1, none⟩ (.int .i64 ((k : Int) + 1 + 1))).cell? ⟨w.heap.size, 1, none⟩ = some (.int .i64 0) := blk_cell HB1.out 1
    have y2 : (w5.setCell ⟨B, 1, none⟩ (.int .i64 ((k : Int) + 1 + 1))).cell? ⟨w.heap.size, 2, none⟩ = some (.string ⟨#[]⟩) := blk_cell HB1.out 2
    have y3 : (w5.setCell ⟨B, 1, none⟩ (.int .i64 ((k : Int) + 1 + 1))).cell? ⟨w.heap.size, 3, none⟩ = some (.slice none 0 0) := blk_cell HB1.out 3
    have y4 : (w5.setCell ⟨B, 1, none⟩ (.int .i64 ((k : Int) + 1 + 1))).cell? ⟨w.heap.size, 4, none⟩ = some (.int .i64 0) := blk_cell HB1.out 4
    have f0 : (w5.setCell ⟨B, 1, none⟩ (.int .i64 ((k : Int) + 1 + 1))).frozen? ⟨w.heap.size, 0, none⟩ = false := blk_free HB1.out 0
    have f1 : (w5.setCell ⟨B, 1, none⟩ (.int .i64 ((k : Int) + 1 + 1))).frozen? ⟨w.heap.size, 1, none⟩ = false := blk_free HB1.out 1
    have f2 : (w5.setCell ⟨B, 1, none⟩ (.int .i64 ((k : Int) + 1 + 1))).frozen? ⟨w.heap.size, 2, none⟩ = false := blk_free HB1.out 2
    have f3 : (w5.setCell ⟨B, 1, none⟩ (.int .i64 ((k : Int) + 1 + 1))).frozen? ⟨w.heap.size, 3, none⟩ = false := blk_free HB1.out 3
    have f4 : (w5.setCell ⟨B, 1, none⟩ (.int .i64 ((k : Int) + 1 + 1))).frozen? ⟨w.heap.size, 4, none⟩ = false := blk_free HB1.out 4
    go_wp2_with fail
    clear z0 y0 f0 z1 y1 f1 z2 y2 f2 z3 y3 f3 z4 y4 f4
    have h6 := set5 HB1.out (.int .u8 3) (.int .i64 0) (.string ⟨#[]⟩) (.slice none 0 0) (.int .i64 0)
    have e0 := blk_cell h6 0
    have e1 := blk_cell h6 1
    have e2 := blk_cell h6 2
    have e3 := blk_cell h6 3
    have e4 := blk_cell h6 4
    refine bodyPost_ret (v := .agg #[.int .u8 3, .int .i64 0, .string ⟨#[]⟩, .slice none 0 0, .int .i64 0]) (by simp [results, Tryd.results42, go_sem, e0, e1, e2, e3, e4]) rfl ?_
    refine RvPost.list_ok (l := []) (k' := k + 1 + 1) (p' := p + 1) trivial (by simp) (by simp) ?_ ?_
    · exact Rr.room (Rr.at (Rr.set5 (Rr.set1 HR5.out _) (by omega) _ _ _ _ _) (by omega)) (by have := HRO.out; omega)
    · exact But.set5 ((((But.refl B w).alloc _).trans HBT.out).setCell 1 _) (Nat.le_refl _) _ _ _ _ _
  · rw [rest_start s rv hout s.size (p + 1) (k + 1) (by omega) h93] at hR
    have h93b : (bAt s (k + 1) == 93) = false := by simpa using h93
    have HR := Lib.hid hR
    obtain ⟨cb, hcb⟩ : ∃ cb, cb = bAt s (k + 1) := ⟨_, rfl⟩
    rw [← hcb] at HBY h93b
    clear h93 hR hcb hout
    go_enter Tryd.func42, Tryd.ntmps42
    go_wp2_with fail
    refine (HN.out _ (by exact HA.out)).mono ?_
    rintro e w' ⟨rfl, q1, rfl⟩
    go_wp2_with fail
    refine (ron_yes B s k _ _ (by omega) (by exact (Rr.set3 (show Rr ((w.alloc (.cells #[.int .u8 0, .int .i64 0, .string ⟨#[]⟩, .slice none 0 0, .int .i64 0] 26)).drewN q1) B s (k : Int) false room from HA.out) (room - 1))) hk).mono ?_
    rintro e w' ⟨rfl, q2, rfl⟩
    go_wp2_with fail
    have HR4 : Hid (Rr ((((((w.alloc (.cells #[.int .u8 0, .int .i64 0, .string ⟨#[]⟩, .slice none 0 0, .int .i64 0] 26)).drewN q1).setCell ⟨B, 3, none⟩ (.int .i64 (room - 1))).drewN q2).setCell ⟨B, 1, none⟩ (.int .i64 ((k : Int) + 1))).alloc (.cells #[.int .u8 3, .int .i64 0, .string ⟨#[]⟩, .slice none 0 0, .int .i64 0] 26)) B s ((k + 1 : Nat) : Int) false (room - 1)) := Lib.hid (Rr.alloc (Rr.at (Rr.set1 (show Rr ((((w.alloc (.cells #[.int .u8 0, .int .i64 0, .string ⟨#[]⟩, .slice none 0 0, .int .i64 0] 26)).drewN q1).setCell ⟨B, 3, none⟩ (.int .i64 (room - 1))).drewN q2) B s (k : Int) false (room - 1) from (Rr.set3 (show Rr ((w.alloc (.cells #[.int .u8 0, .int .i64 0, .string ⟨#[]⟩, .slice none 0 0, .int .i64 0] 26)).drewN q1) B s (k : Int) false room from HA.out) (room - 1))) ((k : Int) + 1)) (by omega : (k : Int) + 1 = ((k + 1 : Nat) : Int))) (.cells #[.int .u8 3, .int .i64 0, .string ⟨#[]⟩, .slice none 0 0, .int .i64 0] 26))
    have HA1 : Hid (((((((w.alloc (.cells #[.int .u8 0, .int .i64 0, .string ⟨#[]⟩, .slice none 0 0, .int .i64 0] 26)).drewN q1).setCell ⟨B, 3, none⟩ (.int .i64 (room - 1))).drewN q2).setCell ⟨B, 1, none⟩ (.int .i64 ((k : Int) + 1))).alloc (.cells #[.int .u8 3, .int .i64 0, .string ⟨#[]⟩, .slice none 0 0, .int .i64 0] 26)).heap[w.heap.size]? = some (.cells #[.int .u8 0, .int .i64 0, .string ⟨#[]⟩, .slice none 0 0, .int .i64 0] 26 (0, 0))) := Lib.hid (((((((But.refl B (w.alloc (.cells #[.int .u8 0, .int .i64 0, .string ⟨#[]⟩, .slice none 0 0, .int .i64 0] 26))).drewN q1).setCell 3 _).drewN q2).setCell 1 _).alloc (.cells #[.int .u8 3, .int .i64 0, .string ⟨#[]⟩, .slice none 0 0, .int .i64 0] 26)).block w.heap.size (by simp) (by omega) |>.trans (heap_alloc_new w (.cells #[.int .u8 0, .int .i64 0, .string ⟨#[]⟩, .slice none 0 0, .int .i64 0] 26)))
    have HA2 : Hid (((((((w.alloc (.cells #[.int .u8 0, .int .i64 0, .string ⟨#[]⟩, .slice none 0 0, .int .i64 0] 26)).drewN q1).setCell ⟨B, 3, none⟩ (.int .i64 (room - 1))).drewN q2).setCell ⟨B, 1, none⟩ (.int .i64 ((k : Int) + 1))).alloc (.cells #[.int .u8 3, .int .i64 0, .string ⟨#[]⟩, .slice none 0 0, .int .i64 0] 26)).heap[w.heap.size + 1]? = some (.cells #[.int .u8 3, .int .i64 0, .string ⟨#[]⟩, .slice none 0 0, .int .i64 0] 26 (0, 0))) := Lib.hid (by have h9 := heap_alloc_new (((((w.alloc (.cells #[.int .u8 0, .int .i64 0, .string ⟨#[]⟩, .slice none 0 0, .int .i64 0] 26)).drewN q1).setCell ⟨B, 3, none⟩ (.int .i64 (room - 1))).drewN q2).setCell ⟨B, 1, none⟩ (.int .i64 ((k : Int) + 1))) (.cells #[.int .u8 3, .int .i64 0, .string ⟨#[]⟩, .slice none 0 0, .int .i64 0] 26); rw [show (((((w.alloc (.cells #[.int .u8 0, .int .i64 0, .string ⟨#[]⟩, .slice none 0 0, .int .i64 0] 26)).drewN q1).setCell ⟨B, 3, none⟩ (.int .i64 (room - 1))).drewN q2).setCell ⟨B, 1, none⟩ (.int .i64 ((k : Int) + 1))).heap.size = w.heap.size + 1 by simp [World.setCell]] at h9; exact h9)
    have HBA : Hid (But B (w.alloc (.cells #[.int .u8 0, .int .i64 0, .string ⟨#[]⟩, .slice none 0 0, .int .i64 0] 26)) ((((((w.alloc (.cells #[.int .u8 0, .int .i64 0, .string ⟨#[]⟩, .slice none 0 0, .int .i64 0] 26)).drewN q1).setCell ⟨B, 3, none⟩ (.int .i64 (room - 1))).drewN q2).setCell ⟨B, 1, none⟩ (.int .i64 ((k : Int) + 1))).alloc (.cells #[.int .u8 3, .int .i64 0, .string ⟨#[]⟩, .slice none 0 0, .int .i64 0] 26))) := Lib.hid ((((((But.refl B (w.alloc (.cells #[.int .u8 0, .int .i64 0, .string ⟨#[]⟩, .slice none 0 0, .int .i64 0] 26))).drewN q1).setCell 3 _).drewN q2).setCell 1 _).alloc (.cells #[.int .u8 3, .int .i64 0, .string ⟨#[]⟩, .slice none 0 0, .int .i64 0] 26))
    have HSZ : Hid (((((((w.alloc (.cells #[.int .u8 0, .int .i64 0, .string ⟨#[]⟩, .slice none 0 0, .int .i64 0] 26)).drewN q1).setCell ⟨B, 3, none⟩ (.int .i64 (room - 1))).drewN q2).setCell ⟨B, 1, none⟩ (.int .i64 ((k : Int) + 1))).alloc (.cells #[.int .u8 3, .int .i64 0, .string ⟨#[]⟩, .slice none 0 0, .int .i64 0] 26)).heap.size = w.heap.size + 2) := Lib.hid (by simp [World.setCell])
    refine (HBY.out _ HR4.out).mono ?_
    rintro e w' ⟨rfl, q3, rfl⟩
    go_wp2_with fail
    clear h93b tdd tr c1 c2 c3 f1 f2 f3
    go_loopw [5] (fun cv wr => ∃ c : Int, cv = .int .u8 c ∧ ((∃ (kv f p' m : Nat) (acc : List V) (xs : List Value) (A : Option Addr) (cap : Nat), wr.heap[w.heap.size + 1]? = some (.cells #[.int .u8 3, .int .i64 0, .string ⟨#[]⟩, .slice A m cap, .int .i64 0] 26 (0, 0)) ∧ Rr wr B s (kv : Int) false (512 - (p' : Int)) ∧ But B (w.alloc (.cells #[.int .u8 0, .int .i64 0, .string ⟨#[]⟩, .slice none 0 0, .int .i64 0] 26)) wr ∧ wr.ownsRow (w.heap.size + 2) 26 5 (.slice A m cap) m xs ∧ EIn wr (fun b => NewB (w.heap.size + 2) wr b ∧ (Value.slice A m cap).ownBlock ≠ some b) acc xs ∧ acc.length = m ∧ restF s rv f p' kv acc = R ∧ kv ≤ s.size ∧ p' ≤ 512 ∧ m ≤ p' ∧ s.size < kv + f ∧ w.heap.size + 2 ≤ wr.heap.size)
      ∨ (∃ (q : Nat) (rm : Int) (A : Option Addr) (m cap : Nat), R = .error q ∧ wr.heap[w.heap.size + 1]? = some (.cells #[.int .u8 3, .int .i64 0, .string ⟨#[]⟩, .slice A m cap, .int .i64 0] 26 (0, 0)) ∧ Rr wr B s (q : Int) true rm ∧ But B (w.alloc (.cells #[.int .u8 0, .int .i64 0, .string ⟨#[]⟩, .slice none 0 0, .int .i64 0] 26)) wr))) (fun _ wr => mOf s B wr)
    case atStart => exact ⟨_, rfl, .inl ⟨k + 1, s.size, p + 1, 0, [], [], none, 0, HA2.out, Rr.room HR4.out (by have := HRO.out; omega), HBA.out.drewN q3, World.ownsRow_nil _ _ _ _, rfl, rfl, HR.out, by omega, by omega, by omega, by omega, Nat.le_of_eq HSZ.out.symm⟩⟩
    case round =>
      clear HR HBY HN HA HRO HA1 HA2 HBA HSZ HR4
      obtain ⟨c, rfl, hrel⟩ := hrel
      rcases hrel with ⟨kv, f, p', m, acc, xs, A, cap, hH, hrd, hbt, hown, hE, hacc, hq, hkv, hp5, hmp, hf, hwz⟩ | ⟨q, rm, A, m, cap, hRq, hH, hrd, hbt⟩
      · obtain ⟨f, rfl⟩ : ∃ g, f = g + 1 := ⟨f - 1, by omega⟩
        obtain ⟨r1, hr1⟩ : ∃ r1 : Int, r1 = 512 - (p' : Int) := ⟨_, rfl⟩
        have hcall := fun W hW => HC.out p' kv W hW hkv hp5
        have hltR := fun v k2 p2 e1 e2 => HLT.out p' kv v k2 p2 e1 e2 hkv
        obtain ⟨res, hres⟩ : ∃ res, (if 512 ≤ p' then (.error kv : Except Nat (V × Nat × Nat)) else rv p' kv) = res := ⟨_, rfl⟩
        unfold restF at hq
        rw [hres] at hcall hq
        have hmlt := mOf_live hrd
        have hat2 : ∀ v k2 p2, res = .ok (v, k2, p2) → kv < k2 ∧ k2 ≤ s.size ∧ p' < p2 ∧ p2 ≤ 512 := by
          intro v k2 p2 e
          by_cases h5 : 512 ≤ p'
          · rw [if_pos h5] at hres; rw [← hres] at e; cases e
          · rw [if_neg h5] at hres; exact hltR v k2 p2 (hres.trans e) (by omega)
        have HCA := Lib.hid hcall
        have HAT := Lib.hid hat2
        rw [← hr1] at hrd HCA
        have c2 : wr.cell? ⟨B, 2, none⟩ = some (.bool false) := hrd.c2
        have cz : wr.cell? ⟨w.heap.size + 1, 3, none⟩ = some (.slice A m cap) := blk_cell hH 3
        have HH := Lib.hid hH
        have Hrd := Lib.hid hrd
        have Hbt := Lib.hid hbt
        have HO := Lib.hid hown
        have HE := Lib.hid hE
        have HAC := Lib.hid hacc
        have Hq := Lib.hid hq
        have HM := Lib.hid hmlt
        have Hr1 := Lib.hid hr1
        have HBX := Lib.hid ((But.refl B wr).drewN 1)
        clear hH hrd hbt hown hE hacc hq hmlt hr1 hcall hat2 hltR hres HC HLT
        cases res with
        | error q =>
          go_wp2_with fail
          go_region_law (first
            | (refine step_append_lies _ (by rfl) (.tmp 110) (.tmp 115) 23 (by rfl) (w.heap.size + 2) 26 i0 (.agg #[.int .u8 0, .int .i64 0, .string ⟨#[]⟩, .slice none 0 0, .int .i64 0]) 5 64 Tryd.underlying23 hi hz0 hz1 hz2 rfl (by decide) _ m xs (by rfl) (by exact HOW.out.alloc _) _ 1 1 _ (by rfl) (by rfl) (cells_at _ _ (by simp) _ _) (by simp [Value.oneCell']) (by decide) (by unfold maxLen; omega) (by omega) (by simp; omega) _ rfl ?_; intro g cap3 w3 hown3 hgrow3 hat3 hlt3; have hh3 := (hgrow3.block (w.heap.size + 1) (by simp; have := (Array.getElem?_eq_some_iff.1 HH2.out).1; omega) (fun e => by have := (HO.out.lt _ e.symm).1; omega)).trans ((Below.heap_alloc w2 _ (w.heap.size + 1) (Array.getElem?_eq_some_iff.1 HH2.out).1).trans HH2.out); have hrd3 := Rr.but_grow HO.out hgrow3 HRD2.out (by omega); have hbt3 := but_grown (HOW.out.alloc _) (HBW.out.alloc _) (by simp) hgrow3; have cw3 : w3.cell? ⟨w.heap.size + 1, 3, none⟩ = some (.slice A m cap) := blk_cell hh3 3; have fw3 : w3.frozen? ⟨w.heap.size + 1, 3, none⟩ = false := blk_free hh3 3; have hsz3 : w.heap.size + 2 ≤ w3.heap.size := (by have h1 := hgrow3.size; simp only [World.size_alloc] at h1; omega); have HZ3 := Lib.hid hsz3; have HH3 := Lib.hid hh3; have HR3 := Lib.hid hrd3; have HB3 := Lib.hid hbt3; have HO3 := Lib.hid hown3; clear hown3 hgrow3 hat3 hlt3 hh3 hrd3 hbt3 hsz3)
            | (go_simp; go_at_call 42; rw [HWR.out]; refine (HCA.out _ (by exact Hrd.out)).mono ?_; rintro e w2 ⟨⟨⟨xk, xn, xs0, xA, xm, xc, xr, rfl⟩, st, rm, hrd2, hdg⟩, hb2⟩; have how := own_but HO.out (by omega) (HBX.out.trans hb2); have hh2 := (hb2.block (w.heap.size + 1) (by simp; omega) (by omega)).trans HH.out; have cz2 : w2.cell? ⟨w.heap.size + 1, 3, none⟩ = some (.slice A m cap) := blk_cell hh2 3; have cz3 : ∀ o, (w2.alloc o).cell? ⟨w.heap.size + 1, 3, none⟩ = some (.slice A m cap) := (fun o => blk_cell ((Below.heap_alloc w2 o (w.heap.size + 1) (Array.getElem?_eq_some_iff.1 hh2).1).trans hh2) 3); have hs2 : w.heap.size + 2 ≤ w2.heap.size := Nat.le_trans hwz hb2.size; have hbw := (Hbt.out.drewN 1).trans hb2; have HOW := Lib.hid how; have HH2 := Lib.hid hh2; have HBW := Lib.hid hbw; have HB2 := Lib.hid hb2; have HRD2 := Lib.hid hrd2; clear how hh2 hbw hb2 hrd2; dsimp only))
          all_goals
            have Hdg := Lib.hid hdg
            have HR4 : Hid (Rr (w3.setCell ⟨w.heap.size + 1, 3, none⟩ (.slice (some ⟨g, 0, none⟩) (m + 1) cap3)) B s (q : Int) st rm) := Lib.hid (HR3.out.far (by show B ≠ w.heap.size + 1; omega) _)
            have HH4 : Hid ((w3.setCell ⟨w.heap.size + 1, 3, none⟩ (.slice (some ⟨g, 0, none⟩) (m + 1) cap3)).heap[w.heap.size + 1]? = some (.cells #[.int .u8 3, .int .i64 0, .string ⟨#[]⟩, .slice (some ⟨g, 0, none⟩) (m + 1) cap3, .int .i64 0] 26 (0, 0))) := Lib.hid (set_three HH3.out _)
            have HB4 : Hid (But B (w.alloc (.cells #[.int .u8 0, .int .i64 0, .string ⟨#[]⟩, .slice none 0 0, .int .i64 0] 26)) (w3.setCell ⟨w.heap.size + 1, 3, none⟩ (.slice (some ⟨g, 0, none⟩) (m + 1) cap3))) := Lib.hid (HB3.out.setNew (by simp) _)
            have hq1 := Hq.out
            try dsimp only at hq1
            subst hq1
            clear hdg
            cases st with
            | true =>
              have x2 := HR4.out.c2
              go_wp2_with fail
              refine (rnext_stuck B s q rm _ (by exact HR4.out)).mono ?_
              rintro e w' ⟨rfl, q5, rfl⟩
              go_wp2_with fail
              refine (ron_stuck B s q rm _ _ (by exact HR4.out)).mono ?_
              rintro e w' ⟨rfl, q6, rfl⟩
              go_wp2
              refine ⟨⟨0, rfl, .inr ⟨q, rm, _, _, _, rfl, (Below.heap_setCell _ _ _ _ (by show w.heap.size + 1 ≠ B; omega)).trans HH4.out, Rr.set2 (show Rr _ B s (q : Int) true rm from HR4.out) true, (HB4.out.drewN (q5 + q6)).setCell 2 _⟩⟩, ?_⟩
              rw [mOf_stuck (by exact Rr.set2 (show Rr _ B s (q : Int) true rm from HR4.out) true), HM.out]
              omega
            | false =>
              obtain ⟨hqs, hdq⟩ := Hdg.out rfl
              rw [digitI_iff] at hdq
              have hnq := fun W (hW : Rr W B s (q : Int) false rm) => rnext_any B s q rm W hW
              have u1 : (bAt s q == 93) = false := by simp; omega
              have u2 : (bAt s q == 32) = false := by simp; omega
              clear hdq
              generalize bAt s q = cq at hnq u1 u2
              have HNQ := Lib.hid hnq
              clear hnq
              have x2 := HR4.out.c2
              go_wp2_with fail
              refine (HNQ.out _ (by exact HR4.out)).mono ?_
              rintro e w' ⟨rfl, q5, rfl⟩
              go_wp2_with fail
              refine (ron_no B s q rm _ (by exact HR4.out)).mono ?_
              rintro e w' ⟨rfl, q6, rfl⟩
              go_wp2
              refine ⟨⟨cq, rfl, .inr ⟨q, rm, _, _, _, rfl, (Below.heap_setCell _ _ _ _ (by show w.heap.size + 1 ≠ B; omega)).trans HH4.out, Rr.set2 (show Rr _ B s (q : Int) false rm from HR4.out) true, (HB4.out.drewN (q5 + q6)).setCell 2 _⟩⟩, ?_⟩
              rw [mOf_stuck (by exact Rr.set2 (show Rr _ B s (q : Int) false rm from HR4.out) true), HM.out]
              omega
        | ok rr =>
          obtain ⟨v, k2, p2⟩ := rr
          obtain ⟨hk2, hk2s, hp2, hp25⟩ := HAT.out v k2 p2 rfl
          obtain ⟨r2, hr2x⟩ : ∃ r2 : Int, r2 = 512 - (p2 : Int) := ⟨_, rfl⟩
          have Hr2 := Lib.hid hr2x
          clear hr2x
          go_wp2_with fail
          go_region_law (first
            | (refine step_append_lies _ (by rfl) (.tmp 110) (.tmp 115) 23 (by rfl) (w.heap.size + 2) 26 i0 (.agg #[.int .u8 0, .int .i64 0, .string ⟨#[]⟩, .slice none 0 0, .int .i64 0]) 5 64 Tryd.underlying23 hi hz0 hz1 hz2 rfl (by decide) _ m xs (by rfl) (by exact HOW.out.alloc _) _ 1 1 _ (by rfl) (by rfl) (cells_at _ _ (by simp) _ _) (by simp [Value.oneCell']) (by decide) (by unfold maxLen; omega) (by omega) (by simp; omega) _ rfl ?_; intro g cap3 w3 hown3 hgrow3 hat3 hlt3; have hE3 := elem_step (by omega) (by omega) HBX.out rfl HO.out HE.out HB2.out Hv.out hgrow3 (hat3.elim (fun h => .inl h) (fun h => .inr (h.trans (by simp)))); have HE3 := Lib.hid hE3; clear hE3; have hh3 := (hgrow3.block (w.heap.size + 1) (by simp; have := (Array.getElem?_eq_some_iff.1 HH2.out).1; omega) (fun e => by have := (HO.out.lt _ e.symm).1; omega)).trans ((Below.heap_alloc w2 _ (w.heap.size + 1) (Array.getElem?_eq_some_iff.1 HH2.out).1).trans HH2.out); have hrd3 := Rr.but_grow HO.out hgrow3 HRD2.out (by omega); have hbt3 := but_grown (HOW.out.alloc _) (HBW.out.alloc _) (by simp) hgrow3; have cw3 : w3.cell? ⟨w.heap.size + 1, 3, none⟩ = some (.slice A m cap) := blk_cell hh3 3; have fw3 : w3.frozen? ⟨w.heap.size + 1, 3, none⟩ = false := blk_free hh3 3; have hsz3 : w.heap.size + 2 ≤ w3.heap.size := (by have h1 := hgrow3.size; simp only [World.size_alloc] at h1; omega); have HZ3 := Lib.hid hsz3; have HH3 := Lib.hid hh3; have HR3 := Lib.hid hrd3; have HB3 := Lib.hid hbt3; have HO3 := Lib.hid hown3; clear hown3 hgrow3 hat3 hlt3 hh3 hrd3 hbt3 hsz3)
            | (go_simp; go_at_call 42; rw [HWR.out]; refine (HCA.out _ (by exact Hrd.out)).mono ?_; rintro e w2 ⟨⟨⟨cs, rfl, hv⟩, hrd2⟩, hb2⟩; obtain ⟨xk, xn, xs0, xA, xc, xr, -, rfl⟩ := hv.forms; rw [← Hr2.out] at hrd2; have Hv := Lib.hid hv; clear hv; have how := own_but HO.out (by omega) (HBX.out.trans hb2); have hh2 := (hb2.block (w.heap.size + 1) (by simp; omega) (by omega)).trans HH.out; have cz2 : w2.cell? ⟨w.heap.size + 1, 3, none⟩ = some (.slice A m cap) := blk_cell hh2 3; have cz3 : ∀ o, (w2.alloc o).cell? ⟨w.heap.size + 1, 3, none⟩ = some (.slice A m cap) := (fun o => blk_cell ((Below.heap_alloc w2 o (w.heap.size + 1) (Array.getElem?_eq_some_iff.1 hh2).1).trans hh2) 3); have hs2 : w.heap.size + 2 ≤ w2.heap.size := Nat.le_trans hwz hb2.size; have hbw := (Hbt.out.drewN 1).trans hb2; have HOW := Lib.hid how; have HH2 := Lib.hid hh2; have HBW := Lib.hid hbw; have HB2 := Lib.hid hb2; have HRD2 := Lib.hid hrd2; clear how hh2 hbw hb2 hrd2; dsimp only))
          all_goals
            have HR4 : Hid (Rr (w3.setCell ⟨w.heap.size + 1, 3, none⟩ (.slice (some ⟨g, 0, none⟩) (m + 1) cap3)) B s (k2 : Int) false r2) := Lib.hid (HR3.out.far (by show B ≠ w.heap.size + 1; omega) _)
            have HH4 : Hid ((w3.setCell ⟨w.heap.size + 1, 3, none⟩ (.slice (some ⟨g, 0, none⟩) (m + 1) cap3)).heap[w.heap.size + 1]? = some (.cells #[.int .u8 3, .int .i64 0, .string ⟨#[]⟩, .slice (some ⟨g, 0, none⟩) (m + 1) cap3, .int .i64 0] 26 (0, 0))) := Lib.hid (set_three HH3.out _)
            have HB4 : Hid (But B (w.alloc (.cells #[.int .u8 0, .int .i64 0, .string ⟨#[]⟩, .slice none 0 0, .int .i64 0] 26)) (w3.setCell ⟨w.heap.size + 1, 3, none⟩ (.slice (some ⟨g, 0, none⟩) (m + 1) cap3))) := Lib.hid (HB3.out.setNew (by simp) _)
            obtain ⟨w4, hw4⟩ : ∃ w4, w4 = w3.setCell ⟨w.heap.size + 1, 3, none⟩ (.slice (some ⟨g, 0, none⟩) (m + 1) cap3) := ⟨_, rfl⟩
            have HO4 : Hid (w4.ownsRow (w.heap.size + 2) 26 5 (.slice (some ⟨g, 0, none⟩) (m + 1) cap3) (m + 1) (xs ++ [.int .u8 xk, .int .i64 xn, .string xs0, .slice xA v.lst.length xc, .int .i64 xr])) := Lib.hid (by rw [hw4]; exact own_of_block HO3.out (fun g' hg' => Below.heap_setCell _ _ _ _ (by have := (HO3.out.lt g' hg').1; show g' ≠ w.heap.size + 1; omega)))
            have HE4 : Hid (EIn w4 (fun b => NewB (w.heap.size + 2) w4 b ∧ (Value.slice (some ⟨g, 0, none⟩) (m + 1) cap3).ownBlock ≠ some b) (acc ++ [v]) (xs ++ [.int .u8 xk, .int .i64 xn, .string xs0, .slice xA v.lst.length xc, .int .i64 xr])) := Lib.hid (by rw [hw4]; exact EIn.mono (fun b hb => ⟨⟨hb.1.keep hb.1.1 (Below.heap_setCell _ _ _ _ (by have := hb.1.1; show b ≠ w.heap.size + 1; omega)), hb.2⟩, Below.heap_setCell _ _ _ _ (by have := hb.1.1; show b ≠ w.heap.size + 1; omega)⟩) HE3.out)
            rw [← hw4] at HR4 HH4 HB4
            have HZ4 : Hid (w.heap.size + 2 ≤ w4.heap.size) := Lib.hid (by rw [hw4, Rd.size_set]; exact HZ3.out)
            rw [← hw4]
            clear hw4
            have HY4 : Hid (w4.heap[w.heap.size]? = some (.cells #[.int .u8 0, .int .i64 0, .string ⟨#[]⟩, .slice none 0 0, .int .i64 0] 26 (0, 0))) := Lib.hid ((HB4.out.block w.heap.size (by simp) (by omega)).trans (heap_alloc_new w _))
            have hacc2 : (acc ++ [v]).length = m + 1 := by simp [HAC.out]
            have HAC2 := Lib.hid hacc2
            clear hacc2
            have hq1 := Hq.out
            try dsimp only at hq1
            have hnq := fun W (hW : Rr W B s (k2 : Int) false r2) => rnext_any B s k2 r2 W hW
            by_cases h93 : bAt s k2 = 93
            · have hk2l : k2 < s.size := by
                by_cases hx : k2 < s.size
                · exact hx
                · rw [bAt_out s k2 hx] at h93; omega
              rw [listF, if_pos hk2l, if_pos h93] at hq1
              subst hq1
              rw [h93] at hnq
              have HNQ := Lib.hid hnq
              clear hnq h93
              have x2 := HR4.out.c2
              go_wp2_with fail
              refine (HNQ.out _ (by exact HR4.out)).mono ?_
              rintro e w5x ⟨rfl, q5, hw5⟩
              obtain ⟨w5, hw5b⟩ : ∃ w5, w5 = w5x := ⟨_, rfl⟩
              rw [← hw5b] at hw5 ⊢
              have HR5 : Hid (Rr w5 B s (k2 : Int) false r2) := Lib.hid (by rw [← hw5]; exact HR4.out)
              have HQ1 : Hid ((w5.setCell ⟨B, 1, none⟩ (.int .i64 ((k2 : Int) + 1))).heap[w.heap.size]? = some (.cells #[.int .u8 0, .int .i64 0, .string ⟨#[]⟩, .slice none 0 0, .int .i64 0] 26 (0, 0))) := Lib.hid ((Below.heap_setCell _ _ _ _ (by show w.heap.size ≠ B; omega)).trans (by rw [← hw5]; exact HY4.out))
              have HQ2 : Hid ((w5.setCell ⟨B, 1, none⟩ (.int .i64 ((k2 : Int) + 1))).heap[w.heap.size + 1]? = some (.cells #[.int .u8 3, .int .i64 0, .string ⟨#[]⟩, .slice (some ⟨g, 0, none⟩) (m + 1) cap3, .int .i64 0] 26 (0, 0))) := Lib.hid ((Below.heap_setCell _ _ _ _ (by show w.heap.size + 1 ≠ B; omega)).trans (by rw [← hw5]; exact HH4.out))
              have HBT : Hid (But B (w.alloc (.cells #[.int .u8 0, .int .i64 0, .string ⟨#[]⟩, .slice none 0 0, .int .i64 0] 26)) w5) := Lib.hid (by rw [← hw5]; exact HB4.out.drewN q5)
              have HL5 : Hid (m + 1 ≤ cap3 ∧ LIn w5 (NewB (w.heap.size + 2) w5) (some ⟨g, 0, none⟩) (acc ++ [v]) 0) := Lib.hid (by
                obtain ⟨A', cap', e, hmc, hL⟩ := own_list (S' := NewB (w.heap.size + 2) w4) HO4.out HE4.out HAC2.out (fun b hb => hb.1) (fun g h => h)
                injection e with e1 _ e3
                subst e1
                subst e3
                refine ⟨hmc, ?_⟩
                rw [← hw5]
                exact LIn.keepNew hL (fun b hb _ => ⟨hb, rfl⟩))
              clear hw5 hw5b w5x x2
              have x1 := HR5.out.c1
              have x2 := HR5.out.c2
              have y1 := HR5.out.f 1
              have uz0 : (w5.setCell ⟨B, 1, none⟩ (.int .i64 ((k2 : Int) + 1))).cell? ⟨w.heap.size + 1, 0, none⟩ = some (.int .u8 3) := blk_cell HQ2.out 0
              have uz1 : (w5.setCell ⟨B, 1, none⟩ (.int .i64 ((k2 : Int) + 1))).cell? ⟨w.heap.size + 1, 1, none⟩ = some (.int .i64 0) := blk_cell HQ2.out 1
              have uz2 : (w5.setCell ⟨B, 1, none⟩ (.int .i64 ((k2 : Int) + 1))).cell? ⟨w.heap.size + 1, 2, none⟩ = some (.string ⟨#[]⟩) := blk_cell HQ2.out 2
              have uz3 : (w5.setCell ⟨B, 1, none⟩ (.int .i64 ((k2 : Int) + 1))).cell? ⟨w.heap.size + 1, 3, none⟩ = some (.slice (some ⟨g, 0, none⟩) (m + 1) cap3) := blk_cell HQ2.out 3
              have uz4 : (w5.setCell ⟨B, 1, none⟩ (.int .i64 ((k2 : Int) + 1))).cell? ⟨w.heap.size + 1, 4, none⟩ = some (.int .i64 0) := blk_cell HQ2.out 4
              have uy0 : (w5.setCell ⟨B, 1, none⟩ (.int .i64 ((k2 : Int) + 1))).cell? ⟨w.heap.size, 0, none⟩ = some (.int .u8 0) := blk_cell HQ1.out 0
              have uy1 : (w5.setCell ⟨B, 1, none⟩ (.int .i64 ((k2 : Int) + 1))).cell? ⟨w.heap.size, 1, none⟩ = some (.int .i64 0) := blk_cell HQ1.out 1
              have uy2 : (w5.setCell ⟨B, 1, none⟩ (.int .i64 ((k2 : Int) + 1))).cell? ⟨w.heap.size, 2, none⟩ = some (.string ⟨#[]⟩) := blk_cell HQ1.out 2
              have uy3 : (w5.setCell ⟨B, 1, none⟩ (.int .i64 ((k2 : Int) + 1))).cell? ⟨w.heap.size, 3, none⟩ = some (.slice none 0 0) := blk_cell HQ1.out 3
              have uy4 : (w5.setCell ⟨B, 1, none⟩ (.int .i64 ((k2 : Int) + 1))).cell? ⟨w.heap.size, 4, none⟩ = some (.int .i64 0) := blk_cell HQ1.out 4
              have uf0 : (w5.setCell ⟨B, 1, none⟩ (.int .i64 ((k2 : Int) + 1))).frozen? ⟨w.heap.size, 0, none⟩ = false := blk_free HQ1.out 0
              have uf1 : (w5.setCell ⟨B, 1, none⟩ (.int .i64 ((k2 : Int) + 1))).frozen? ⟨w.heap.size, 1, none⟩ = false := blk_free HQ1.out 1
              have uf2 : (w5.setCell ⟨B, 1, none⟩ (.int .i64 ((k2 : Int) + 1))).frozen? ⟨w.heap.size, 2, none⟩ = false := blk_free HQ1.out 2
              have uf3 : (w5.setCell ⟨B, 1, none⟩ (.int .i64 ((k2 : Int) + 1))).frozen? ⟨w.heap.size, 3, none⟩ = false := blk_free HQ1.out 3
              have uf4 : (w5.setCell ⟨B, 1, none⟩ (.int .i64 ((k2 : Int) + 1))).frozen? ⟨w.heap.size, 4, none⟩ = false := blk_free HQ1.out 4
              go_wp2_with fail
              clear uz0 uy0 uf0 uz1 uy1 uf1 uz2 uy2 uf2 uz3 uy3 uf3 uz4 uy4 uf4
              have h6 := set5 HQ1.out (.int .u8 3) (.int .i64 0) (.string ⟨#[]⟩) (.slice (some ⟨g, 0, none⟩) (m + 1) cap3) (.int .i64 0)
              have e0 := blk_cell h6 0
              have e1 := blk_cell h6 1
              have e2 := blk_cell h6 2
              have e3 := blk_cell h6 3
              have e4 := blk_cell h6 4
              refine bodyPost_ret (v := .agg #[.int .u8 3, .int .i64 0, .string ⟨#[]⟩, .slice (some ⟨g, 0, none⟩) (m + 1) cap3, .int .i64 0]) (by simp [results, Tryd.results42, go_sem, e0, e1, e2, e3, e4]) rfl ?_
              have hfin := RvPost.list_ok (B := B) (s := s) (w := w) (l := acc ++ [v]) (A := some ⟨g, 0, none⟩) (cap := cap3) (k' := k2 + 1) (p' := p2) (LIn.keepNew (base' := w.heap.size) HL5.out.2 (fun b hb _ => ⟨by omega, (five_far _ (H := w.heap.size) (b := b) (by omega) (.int .u8 3) (.int .i64 0) (.string ⟨#[]⟩) (.slice (some ⟨g, 0, none⟩) (m + 1) cap3) (.int .i64 0)).trans (Below.heap_setCell _ ⟨B, 1, none⟩ (.int .i64 ((k2 : Int) + 1)) _ (by show b ≠ B; omega))⟩)) (by rw [HAC2.out]; exact HL5.out.1) (by rw [HAC2.out]; omega) (Rr.room (Rr.at (Rr.set5 (Rr.set1 HR5.out _) (by omega) _ _ _ _ _) (by omega)) Hr2.out) (But.set5 ((((But.refl B w).alloc _).trans HBT.out).setCell 1 _) (Nat.le_refl _) _ _ _ _ _)
              rw [HAC2.out] at hfin
              exact hfin

            · rw [rest_next s rv f p2 k2 (acc ++ [v]) (by simp) hk2s h93] at hq1
              have u1 : (bAt s k2 == 93) = false := by simpa using h93
              by_cases h32 : bAt s k2 = 32 ∧ p2 < 512
              · rw [if_pos h32] at hq1
                have hk2l : k2 < s.size := by
                  by_cases hx : k2 < s.size
                  · exact hx
                  · have := h32.1; rw [bAt_out s k2 hx] at this; omega
                have u2 : decide (0 < r2) = true := by have := Hr2.out; simp; omega
                rw [h32.1] at hnq u1
                have HNQ := Lib.hid hnq
                have Hq1 := Lib.hid hq1
                clear hnq h93 h32 hq1
                have x2 := HR4.out.c2
                have x3 := HR4.out.c3
                go_wp2_with fail
                refine (HNQ.out _ (by exact HR4.out)).mono ?_
                rintro e w' ⟨rfl, q5, rfl⟩
                go_wp2_with fail
                refine (ron_yes B s k2 r2 _ (by omega) (by exact HR4.out) hk2l).mono ?_
                rintro e w' ⟨rfl, q6, rfl⟩
                go_wp2
                have hR9 : Rr _ B s ((k2 + 1 : Nat) : Int) false (512 - (p2 : Int)) := Rr.room (Rr.at (Rr.set1 (show Rr (w4.drewN (q5 + q6)) B s (k2 : Int) false r2 from HR4.out) ((k2 : Int) + 1)) (by omega)) Hr2.out
                refine ⟨⟨32, rfl, .inl ⟨k2 + 1, f, p2, m + 1, acc ++ [v], _, some ⟨g, 0, none⟩, cap3, (Below.heap_setCell _ _ _ _ (by show w.heap.size + 1 ≠ B; omega)).trans HH4.out, by exact hR9, by exact (HB4.out.drewN (q5 + q6)).setCell 1 _, own_of_block HO4.out (fun g' hg' => Below.heap_setCell _ _ _ _ (by have := (HO4.out.lt g' hg').1; show g' ≠ B; omega)), EIn.mono (W := w4) (S := fun b => NewB (w.heap.size + 2) w4 b ∧ (Value.slice (some ⟨g, 0, none⟩) (m + 1) cap3).ownBlock ≠ some b) (fun b hb => ⟨⟨hb.1.keep hb.1.1 (Below.heap_setCell (w4.drewN (q5 + q6)) _ _ _ (by have := hb.1.1; show b ≠ B; omega)), hb.2⟩, Below.heap_setCell (w4.drewN (q5 + q6)) _ _ _ (by have := hb.1.1; show b ≠ B; omega)⟩) HE4.out, HAC2.out, Hq1.out, by omega, hp25, by omega, by omega, by rw [Rd.size_set]; exact HZ4.out⟩⟩, ?_⟩
                rw [mOf_live (k := k2 + 1) (by exact hR9), HM.out]
                omega
              · rw [if_neg h32] at hq1
                subst hq1
                have u2 : (bAt s k2 == 32) = false ∨ ((bAt s k2 == 32) = true ∧ decide (0 < r2) = false) := by
                  cases hx : (bAt s k2 == 32) with
                  | false => exact .inl rfl
                  | true =>
                    refine .inr ⟨rfl, ?_⟩
                    have h1 : bAt s k2 = 32 := by simpa using hx
                    have h2 : ¬ p2 < 512 := fun h => h32 ⟨h1, h⟩
                    have := Hr2.out
                    simp
                    omega
                clear h93 h32
                generalize bAt s k2 = cq at hnq u1 u2
                have HNQ := Lib.hid hnq
                clear hnq
                have x2 := HR4.out.c2
                have x3 := HR4.out.c3
                rcases u2 with u2 | ⟨u2, u3⟩
                all_goals
                  go_wp2_with fail
                  refine (HNQ.out _ (by exact HR4.out)).mono ?_
                  rintro e w' ⟨rfl, q5, rfl⟩
                  go_wp2_with fail
                  refine (ron_no B s k2 r2 _ (by exact HR4.out)).mono ?_
                  rintro e w' ⟨rfl, q6, rfl⟩
                  go_wp2
                  refine ⟨⟨cq, rfl, .inr ⟨k2, r2, _, _, _, rfl, (Below.heap_setCell _ _ _ _ (by show w.heap.size + 1 ≠ B; omega)).trans HH4.out, Rr.set2 (show Rr _ B s (k2 : Int) false r2 from HR4.out) true, (HB4.out.drewN (q5 + q6)).setCell 2 _⟩⟩, ?_⟩
                  rw [mOf_stuck (by exact Rr.set2 (show Rr _ B s (k2 : Int) false r2 from HR4.out) true), HM.out]
                  omega
      · subst hRq
        have HH := Lib.hid hH
        have Hrd := Lib.hid hrd
        have Hbt := Lib.hid hbt
        have HY : Hid (wr.heap[w.heap.size]? = some (.cells #[.int .u8 0, .int .i64 0, .string ⟨#[]⟩, .slice none 0 0, .int .i64 0] 26 (0, 0))) := Lib.hid ((hbt.block w.heap.size (by simp) (by omega)).trans (heap_alloc_new w _))
        have x2 := hrd.c2
        clear hH hrd hbt HC HLT
        have uz0 : wr.cell? ⟨w.heap.size + 1, 0, none⟩ = some (.int .u8 3) := blk_cell HH.out 0
        have uz1 : wr.cell? ⟨w.heap.size + 1, 1, none⟩ = some (.int .i64 0) := blk_cell HH.out 1
        have uz2 : wr.cell? ⟨w.heap.size + 1, 2, none⟩ = some (.string ⟨#[]⟩) := blk_cell HH.out 2
        have uz3 : wr.cell? ⟨w.heap.size + 1, 3, none⟩ = some (.slice A m cap) := blk_cell HH.out 3
        have uz4 : wr.cell? ⟨w.heap.size + 1, 4, none⟩ = some (.int .i64 0) := blk_cell HH.out 4
        have uy0 : wr.cell? ⟨w.heap.size, 0, none⟩ = some (.int .u8 0) := blk_cell HY.out 0
        have uy1 : wr.cell? ⟨w.heap.size, 1, none⟩ = some (.int .i64 0) := blk_cell HY.out 1
        have uy2 : wr.cell? ⟨w.heap.size, 2, none⟩ = some (.string ⟨#[]⟩) := blk_cell HY.out 2
        have uy3 : wr.cell? ⟨w.heap.size, 3, none⟩ = some (.slice none 0 0) := blk_cell HY.out 3
        have uy4 : wr.cell? ⟨w.heap.size, 4, none⟩ = some (.int .i64 0) := blk_cell HY.out 4
        have uf0 : wr.frozen? ⟨w.heap.size, 0, none⟩ = false := blk_free HY.out 0
        have uf1 : wr.frozen? ⟨w.heap.size, 1, none⟩ = false := blk_free HY.out 1
        have uf2 : wr.frozen? ⟨w.heap.size, 2, none⟩ = false := blk_free HY.out 2
        have uf3 : wr.frozen? ⟨w.heap.size, 3, none⟩ = false := blk_free HY.out 3
        have uf4 : wr.frozen? ⟨w.heap.size, 4, none⟩ = false := blk_free HY.out 4
        go_wp2_with fail
        clear uz0 uy0 uf0 uz1 uy1 uf1 uz2 uy2 uf2 uz3 uy3 uf3 uz4 uy4 uf4
        have h6 := set5 HY.out (.int .u8 3) (.int .i64 0) (.string ⟨#[]⟩) (.slice A m cap) (.int .i64 0)
        have e0 := blk_cell h6 0
        have e1 := blk_cell h6 1
        have e2 := blk_cell h6 2
        have e3 := blk_cell h6 3
        have e4 := blk_cell h6 4
        refine bodyPost_ret (v := .agg #[.int .u8 3, .int .i64 0, .string ⟨#[]⟩, .slice A m cap, .int .i64 0]) (by simp [results, Tryd.results42, go_sem, e0, e1, e2, e3, e4]) rfl ?_
        exact RvPost.list_bad (Rr.set5 Hrd.out (by omega) _ _ _ _ _) (But.set5 (((But.refl B w).alloc _).trans Hbt.out) (Nat.le_refl _) _ _ _ _ _)

end Go.Proofs.YtmiipfdndgjndaaDoor
