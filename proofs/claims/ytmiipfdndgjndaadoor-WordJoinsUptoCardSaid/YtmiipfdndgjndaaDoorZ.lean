/- The words of the plain part: bytes, escapes, quoted forms, as plain functions. -/
import Derived.Lib.ItoaNum
import Derived.Lib.ParseIntB
namespace Go.Proofs.YtmiipfdndgjndaaDoor
def letterI (c : Int) : Bool := decide (97 ≤ c) && decide (c ≤ 122)
def digitI (c : Int) : Bool := decide (48 ≤ c) && decide (c ≤ 57)
def plainI (c : Int) : Bool := decide (32 ≤ c) && decide (c ≤ 126) && (c != 34) && (c != 92)
def signs : List Int := [91, 93, 40, 41, 123, 125, 61, 58, 59, 44, 46, 43, 60, 62, 95, 63]
def signI (c : Int) : Bool := signs.any (· == c)
def digs : List Int := [48, 49, 50, 51, 52, 53, 54, 55, 56, 57, 97, 98, 99, 100, 101, 102]
theorem any_drop (l : List Int) (c : Int) (k : Nat) (hk : k < l.length) : (l.drop k).any (· == c) = ((l[k]?.getD 0 == c) || (l.drop (k + 1)).any (· == c)) := by
  rw [List.drop_eq_getElem_cons hk, List.any_cons, List.getElem?_eq_getElem hk]
  rfl
def lowFrom (c : Int) : Nat → Nat → Nat
  | 0, k => k
  | d + 1, k => if digs[k]?.getD 0 == c then k else lowFrom c d (k + 1)
def lowI (c : Int) : Nat := lowFrom c 16 0
def bAt (s : ByteArray) (k : Nat) : Int := if h : k < s.size then ((s[k]'h).toNat : Int) else 0
theorem bAt_eq (s : ByteArray) (k : Nat) (h : k < s.size) : ((s[k]'h).toNat : Int) = bAt s k := by unfold bAt; rw [dif_pos h]
theorem bAt_range (s : ByteArray) (k : Nat) : 0 ≤ bAt s k ∧ bAt s k ≤ 255 := by
  unfold bAt
  split
  · rename_i h
    have := (s[k]'h).toNat_lt
    omega
  · omega
def hexI (c : Int) : Option Nat := if digitI c then some (c - 48).toNat else if decide (97 ≤ c) && decide (c ≤ 102) then some (c - 87).toNat else none
theorem hexI_lt (c : Int) (v : Nat) (h : hexI c = some v) : v < 16 := by
  unfold hexI digitI at h
  split at h
  · rename_i h1
    simp only [Bool.and_eq_true, decide_eq_true_eq] at h1
    cases h
    omega
  · split at h
    · rename_i h1
      simp only [Bool.and_eq_true, decide_eq_true_eq] at h1
      cases h
      omega
    · cases h
def escF (s : ByteArray) (k : Nat) : Except Nat (Int × Nat) :=
  if k < s.size then
    if bAt s k = 34 ∨ bAt s k = 92 then .ok (bAt s k, k + 1)
    else if bAt s k = 110 then .ok (10, k + 1)
    else if bAt s k = 120 then
      if k + 1 < s.size then
        match hexI (bAt s (k + 1)) with
        | none => .error (k + 1)
        | some v =>
          if 2 ≤ v ∧ v ≤ 6 then .error (k + 1)
          else if k + 2 < s.size then
            match hexI (bAt s (k + 2)) with
            | none => .error (k + 2)
            | some l => if v = 0 ∧ l = 10 ∨ v = 7 ∧ l ≠ 15 then .error (k + 2) else .ok (((16 * v + l : Nat) : Int), k + 3)
          else .error s.size
      else .error s.size
    else .error k
  else .error s.size
def u8 (c : Int) : UInt8 := UInt8.ofNat c.toNat
theorem u8_toNat (c : Int) (h0 : 0 ≤ c) (h1 : c ≤ 255) : ((u8 c).toNat : Int) = c := by
  unfold u8
  rw [UInt8.toNat_ofNat']
  omega
def qF (s : ByteArray) (full : Nat → Bool) : Nat → Nat → List UInt8 → Except Nat (List UInt8 × Nat)
  | 0, _, _ => .error s.size
  | n + 1, k, b =>
    if k < s.size then
      if bAt s k = 34 then .ok (b, k + 1)
      else if full b.length then .error k
      else if bAt s k < 32 then .error k
      else if 126 < bAt s k then .error k
      else if bAt s k = 92 then
        match escF s (k + 1) with
        | .error q => .error q
        | .ok (x, k') => qF s full n k' (b ++ [u8 x])
      else qF s full n (k + 1) (b ++ [u8 (bAt s k)])
    else .error s.size
def quotedF (s : ByteArray) (full : Nat → Bool) (k : Nat) : Except Nat (List UInt8 × Nat) :=
  if k < s.size then if bAt s k = 34 then qF s full (s.size + 1) (k + 1) [] else .error k else .error s.size
theorem escF_ok (s : ByteArray) (k : Nat) (x : Int) (k' : Nat) (h : escF s k = .ok (x, k')) : 0 ≤ x ∧ x ≤ 255 ∧ k < k' ∧ k' ≤ s.size := by
  have hr := bAt_range s k
  cases hv : hexI (bAt s (k + 1)) with
  | none =>
    unfold escF at h
    rw [hv] at h
    repeat' split at h
    all_goals first
      | (cases h; done)
      | (simp only [Except.ok.injEq, Prod.mk.injEq] at h; omega)
      | (exfalso; simp_all; done)
  | some v =>
    have h16 := hexI_lt _ v hv
    cases hl : hexI (bAt s (k + 2)) with
    | none =>
      unfold escF at h
      rw [hv, hl] at h
      dsimp only at h
      repeat' split at h
      all_goals first
        | (cases h; done)
        | (simp only [Except.ok.injEq, Prod.mk.injEq] at h; omega)
    | some l =>
      have l16 := hexI_lt _ l hl
      unfold escF at h
      rw [hv, hl] at h
      dsimp only at h
      repeat' split at h
      all_goals first
        | (cases h; done)
        | (simp only [Except.ok.injEq, Prod.mk.injEq] at h; omega)
def unquoteF (s : ByteArray) : List UInt8 × Nat × Int :=
  match quotedF s (fun n => decide ((s.size : Int) ≤ (n : Int))) 0 with
  | .error q => ([], q, 30)
  | .ok (b, k) => if k < s.size then ([], k, 30) else (b, 0, 0)
theorem bAt_out (s : ByteArray) (k : Nat) (h : ¬ k < s.size) : bAt s k = 0 := by unfold bAt; rw [dif_neg h]
end Go.Proofs.YtmiipfdndgjndaaDoor
