/- Values, tokens, their texts and the readers of them, as plain functions. -/
import Derived.Test.YtmiipfdndgjndaaDoorZ
namespace Go.Proofs.YtmiipfdndgjndaaDoor
inductive V where
  | mk (k n : Int) (s : ByteArray) (l : List V) (r : Int)
def V.kind : V → Int | .mk k _ _ _ _ => k
def V.num : V → Int | .mk _ n _ _ _ => n
def V.str : V → ByteArray | .mk _ _ s _ _ => s
def V.lst : V → List V | .mk _ _ _ l _ => l
def V.ref : V → Int | .mk _ _ _ _ r => r
def V.nothing : V := .mk 0 0 ⟨#[]⟩ [] 0
def V.number (n : Int) : V := .mk 1 n ⟨#[]⟩ [] 0
def V.text (s : ByteArray) : V := .mk 2 0 s [] 0
def V.list (l : List V) : V := .mk 3 0 ⟨#[]⟩ l 0
def V.refer (r : Int) : V := .mk 4 0 ⟨#[]⟩ [] r
def quoteI (c : Int) : List UInt8 :=
  if c = 34 ∨ c = 92 then [92, u8 c] else if c = 10 then [92, 110]
  else if c < 32 ∨ 126 < c then [92, 120, u8 (digs[(c / 16).toNat]?.getD 0), u8 (digs[(c % 16).toNat]?.getD 0)] else [u8 c]
def quoteM (l : List UInt8) : List UInt8 := l.flatMap fun b => quoteI (b.toNat : Int)
def quoteL (l : List UInt8) : List UInt8 := 34 :: (quoteM l ++ [34])
mutual
def textL : V → List UInt8
  | .mk k n s l r => if k = 1 then Lib.itoa n else if k = 2 then quoteL s.data.toList else if k = 4 then 35 :: Lib.itoa r else if k = 3 then 91 :: (rowL true l ++ [93]) else [95]
def rowL : Bool → List V → List UInt8
  | _, [] => []
  | first, v :: l => (if first then [] else [32]) ++ (textL v ++ rowL false l)
end
/-- digits, as far as they fit. -/
def numLoop (s : ByteArray) (most : Nat) : Nat → Bool → Nat → Nat → Except Nat (Nat × Nat)
  | 0, _, n, k => .ok (n, k)
  | f + 1, begun, n, k =>
    if k < s.size ∧ digitI (bAt s k) = true then
      if (begun = true ∧ n = 0) ∨ (most - (bAt s k - 48).toNat) / 10 < n then .error k
      else numLoop s most f true (n * 10 + (bAt s k - 48).toNat) (k + 1)
    else .ok (n, k)
/-- digits behind a sign: the first one is no nought. -/
def behindF (s : ByteArray) (most : Nat) (k : Nat) : Except Nat (Nat × Nat) :=
  if k < s.size then if 49 ≤ bAt s k ∧ bAt s k ≤ 57 then numLoop s most (s.size + 1) false 0 k else .error k else .error s.size
def mostP : Nat := 9223372036854775807
def mostN : Nat := 9223372036854775808
def listF (s : ByteArray) (rv : Nat → Nat → Except Nat (V × Nat × Nat)) : Nat → Nat → Nat → List V → Except Nat (List V × Nat × Nat)
  | 0, _, _, _ => .error s.size
  | f + 1, p, k, l =>
    if k < s.size then
      if bAt s k = 93 then .ok (l, k + 1, p)
      else if 512 ≤ p then .error k
      else if l ≠ [] ∧ bAt s k ≠ 32 then .error k
      else match rv p (if l = [] then k else k + 1) with
        | .error q => .error q
        | .ok (v, k', p') => listF s rv f p' k' (l ++ [v])
    else .error s.size
def headF (s : ByteArray) (rv : Option (Nat → Nat → Except Nat (V × Nat × Nat))) (p k : Nat) : Except Nat (V × Nat × Nat) :=
  if k < s.size then
    if bAt s k = 95 then .ok (.nothing, k + 1, p + 1)
    else if bAt s k = 45 then
      match behindF s mostN (k + 1) with
      | .error q => .error q
      | .ok (n, k') => .ok (.number (-(n : Int)), k', p + 1)
    else if digitI (bAt s k) = true then
      match numLoop s mostP (s.size + 1) false 0 k with
      | .error q => .error q
      | .ok (n, k') => .ok (.number (n : Int), k', p + 1)
    else if bAt s k = 35 then
      match behindF s mostP (k + 1) with
      | .error q => .error q
      | .ok (n, k') => .ok (.refer (n : Int), k', p + 1)
    else if bAt s k = 34 then
      match quotedF s (fun n => decide ((256 : Int) ≤ (n : Int))) k with
      | .error q => .error q
      | .ok (b, k') => .ok (.text ⟨b.toArray⟩, k', p + 1)
    else if bAt s k = 91 then
      match rv with
      | none => .error k
      | some rv =>
        match listF s rv (s.size + 1) (p + 1) (k + 1) [] with
        | .error q => .error q
        | .ok (l, k', p') => .ok (.list l, k', p')
    else .error k
  else .error s.size
def valF (s : ByteArray) : Nat → Nat → Nat → Except Nat (V × Nat × Nat)
  | 0 => headF s none
  | d + 1 => headF s (some (valF s d))
def readF (s : ByteArray) : V × Nat × Int :=
  match valF s 16 0 0 with
  | .error q => (.nothing, q, 30)
  | .ok (v, k, _) => if k < s.size then (.nothing, k, 30) else (v, 0, 0)
structure T where
  kind : Int
  place : Int
  n : Int
  s : ByteArray
  r : Int
/-- where letters (if so) and digits end. -/
def whileF (s : ByteArray) (letters : Bool) : Nat → Nat → Nat
  | 0, k => k
  | f + 1, k => if k < s.size ∧ (digitI (bAt s k) || (letters && letterI (bAt s k))) = true then whileF s letters f (k + 1) else k
/-- a number from its digits, or none. -/
def decF (s : ByteArray) (neg : Bool) (a b : Nat) : Option Int :=
  match numLoop (s.extract a b) (if neg then mostN else mostP) (b - a + 1) false 0 0 with
  | .error _ => none
  | .ok (n, _) => if a = b ∨ (neg = true ∧ n = 0) then none else some (if neg then -(n : Int) else n)
def tokF (s : ByteArray) (k : Nat) : Except Nat (T × Nat) :=
  if letterI (bAt s k) = true then
    if whileF s true (s.size + 1) k - k ≤ 32 then .ok (⟨1, k, 0, s.extract k (whileF s true (s.size + 1) k), 0⟩, whileF s true (s.size + 1) k) else .error k
  else if digitI (bAt s k) = true ∨ bAt s k = 45 then
    match decF s (bAt s k == 45) (if bAt s k = 45 then k + 1 else k) (whileF s false (s.size + 1) (if bAt s k = 45 then k + 1 else k)) with
    | none => .error k
    | some n => .ok (⟨2, k, n, ⟨#[]⟩, 0⟩, whileF s false (s.size + 1) (if bAt s k = 45 then k + 1 else k))
  else if bAt s k = 35 then
    match decF s false (k + 1) (whileF s false (s.size + 1) (k + 1)) with
    | none => .error k
    | some n => if n < 1 then .error k else .ok (⟨4, k, 0, ⟨#[]⟩, n⟩, whileF s false (s.size + 1) (k + 1))
  else if bAt s k = 34 then
    match quotedF s (fun n => decide ((s.size : Int) ≤ (n : Int))) k with
    | .error q => .error q
    | .ok (b, k') => .ok (⟨3, k, 0, ⟨b.toArray⟩, 0⟩, k')
  else if signI (bAt s k) = true then .ok (⟨5, k, 0, s.extract k (k + 1), 0⟩, k + 1)
  else .error k
/-- tight: a token that is no sign ended here. -/
def cutL (s : ByteArray) : Nat → Bool → Nat → List T → Except Nat (List T)
  | 0, _, _, l => .ok l
  | f + 1, tight, k, l =>
    if k < s.size then
      if bAt s k = 32 then cutL s f false (k + 1) l
      else if tight = true ∧ signI (bAt s k) = false then .error k
      else match tokF s k with
        | .error q => .error q
        | .ok (t, k') => cutL s f (t.kind != 5) k' (l ++ [t])
    else .ok l
def cutF (s : ByteArray) : List T × Nat × Int :=
  if 1048576 < s.size then ([], 0, 4)
  else match cutL s (s.size + 1) false 0 [] with
    | .error q => ([], q, 30)
    | .ok l => (l, 0, 0)
def namedL (s : ByteArray) : Bool := decide (0 < s.size) && decide (s.size ≤ 32) && letterI (bAt s 0) && (List.range s.size).all fun i => letterI (bAt s i) || digitI (bAt s i)
def mayT (t : T) : Bool :=
  if t.kind = 1 then t.n == 0 && t.r == 0 && namedL t.s
  else if t.kind = 2 then t.s.size == 0 && t.r == 0
  else if t.kind = 3 then t.n == 0 && t.r == 0
  else if t.kind = 4 then t.n == 0 && t.s.size == 0 && decide (1 ≤ t.r)
  else if t.kind = 5 then t.n == 0 && t.r == 0 && t.s.size == 1 && signI (bAt t.s 0)
  else false
def formT (t : T) : List UInt8 :=
  if t.kind = 2 then Lib.itoa t.n else if t.kind = 3 then quoteL t.s.data.toList else if t.kind = 4 then 35 :: Lib.itoa t.r else t.s.data.toList
def joinL : List T → List UInt8 → Bool → Option (List UInt8)
  | [], b, _ => some b
  | t :: l, b, first =>
    if 1048576 < (b ++ ((if first then [] else [32]) ++ formT t)).length then none else joinL l (b ++ ((if first then [] else [32]) ++ formT t)) false
def joinF (l : List T) : List UInt8 × Int :=
  if l.all mayT then match joinL l [] true with | none => ([], 4) | some b => (b, 0) else ([], 2)
end Go.Proofs.YtmiipfdndgjndaaDoor
