/- Plain facts and contracts for the law of the lattice. -/
import Derived.Test.YtbdbhacniejagaaK
import Derived.Test.YtbdbhacniejagaaL
namespace Go.Proofs.Ytbdbhacniejagaa
open Go.RowKit Go.Shelf
set_option maxHeartbeats 1000000
set_option linter.unusedSimpArgs false
def lessN (a b : Nat) : Nat := (a &&& (2 ^ 8 - (b + 1))) &&& 63
theorem lessN_lt (a b : Nat) : lessN a b < 64 := lt_of_sum rfl
theorem lessN_bit (a b k : Nat) (hb : b < 64) (hk : k < 6) : (lessN a b).testBit k = (a.testBit k && !b.testBit k) := by
  unfold lessN
  rw [Nat.testBit_and, Nat.testBit_and, Nat.testBit_two_pow_sub_succ (by omega), bit63 k hk]
  simp [show k < 8 by omega]
theorem eq64 (x y : Nat) (hx : x < 64) (hy : y < 64) (h : ∀ k, k < 6 → x.testBit k = y.testBit k) : x = y := by
  rw [eq_sum x hx x.testBit (fun _ _ => rfl), eq_sum y hy x.testBit (fun k hk => (h k hk).symm)]
theorem and_lt (a b : Nat) (h : a < 64) : a &&& b < 64 := Nat.lt_of_le_of_lt Nat.and_le_left h
theorem or_lt (a b : Nat) (h : a < 64) (k : b < 64) : a ||| b < 64 := Nat.or_lt_two_pow (n := 6) h k
theorem inB_nat (a k : Nat) (ha : a < 64) (hk : k < 6) : inB (a : Int) k = a.testBit k := inB_bit a k (by omega) hk
theorem meetL2 (x y : Nat) (hx : x < 64) (hy : y < 64) : meetL [(x : Int), (y : Int)] = ((x &&& y : Nat) : Int) := by
  rw [meet_nat _ (by intro z hz; simp at hz; omega)]
  congr 1
  refine (eq_sum _ (and_lt x y hx) _ fun k hk => ?_).symm
  rw [Nat.testBit_and, ← inB_nat x k hx hk, ← inB_nat y k hy hk]; simp
theorem joinL2 (x y : Nat) (hx : x < 64) (hy : y < 64) : joinL [(x : Int), (y : Int)] = ((x ||| y : Nat) : Int) := by
  rw [join_nat _ (by intro z hz; simp at hz; omega)]
  congr 1
  refine (eq_sum _ (or_lt x y hx hy) _ fun k hk => ?_).symm
  rw [Nat.testBit_or, ← inB_nat x k hx hk, ← inB_nat y k hy hk]; simp
theorem meetL3 (x y z : Nat) (hx : x < 64) (hy : y < 64) (hz : z < 64) : meetL [(x : Int), (y : Int), (z : Int)] = (((x &&& y) &&& z : Nat) : Int) := by
  rw [meet_nat _ (by intro z hz; simp at hz; omega)]
  congr 1
  refine (eq_sum _ (and_lt _ z (and_lt x y hx)) _ fun k hk => ?_).symm
  rw [Nat.testBit_and, Nat.testBit_and, ← inB_nat x k hx hk, ← inB_nat y k hy hk, ← inB_nat z k hz hk]; simp [Bool.and_assoc]
theorem joinL3 (x y z : Nat) (hx : x < 64) (hy : y < 64) (hz : z < 64) : joinL [(x : Int), (y : Int), (z : Int)] = (((x ||| y) ||| z : Nat) : Int) := by
  rw [join_nat _ (by intro z hz; simp at hz; omega)]
  congr 1
  refine (eq_sum _ (or_lt _ z (or_lt x y hx hy) hz) _ fun k hk => ?_).symm
  rw [Nat.testBit_or, Nat.testBit_or, ← inB_nat x k hx hk, ← inB_nat y k hy hk, ← inB_nat z k hz hk]; simp [Bool.or_assoc]
theorem reads_new (W : World) (xs : List Int) (hl : xs.length ≤ 9) (hx : ∀ x ∈ xs, 0 ≤ x ∧ x ≤ 255) : ReadsU8 (W.alloc (.cells (xs.map (Value.int .u8)).toArray 22)) (some ⟨W.heap.size, 0, none⟩) xs :=
  ⟨by omega, fun j hj => ⟨W.heap.size, 0, rfl, by rw [Nat.zero_add]; exact cell_new _ _ _ _ _ (by simp [hj]), by rw [List.getElem?_eq_getElem hj]; exact hx _ (List.getElem_mem hj)⟩⟩
theorem meet2_any (x y r : Nat) (hx : x < 64) (hy : y < 64) (h : x &&& y = r) (W : World) : Calls Try.prog 24 #[.slice (some ⟨W.heap.size, 0, none⟩) 2 2] (W.alloc (.cells #[.int .u8 (x : Int), .int .u8 (y : Int)] 22)) fun e w' => e = .returned (.int .u8 (r : Int)) ∧ Below W.heap.size W w' := by
  have := meet_any (some ⟨W.heap.size, 0, none⟩) 2 2 [(x : Int), (y : Int)] rfl _ (reads_new W [(x : Int), (y : Int)] (by simp) (by intro z hz; simp at hz; omega))
  refine this.mono fun e w' ⟨he, hw⟩ => ⟨he.trans (by rw [meetL2 x y hx hy, h]), hw ▸ (Below.refl _ _).alloc (Nat.le_refl _) _⟩
theorem meet3_any (x y z r : Nat) (hx : x < 64) (hy : y < 64) (hz : z < 64) (h : (x &&& y) &&& z = r) (W : World) : Calls Try.prog 24 #[.slice (some ⟨W.heap.size, 0, none⟩) 3 3] (W.alloc (.cells #[.int .u8 (x : Int), .int .u8 (y : Int), .int .u8 (z : Int)] 22)) fun e w' => e = .returned (.int .u8 (r : Int)) ∧ Below W.heap.size W w' := by
  have := meet_any (some ⟨W.heap.size, 0, none⟩) 3 3 [(x : Int), (y : Int), (z : Int)] rfl _ (reads_new W [(x : Int), (y : Int), (z : Int)] (by simp) (by intro z hz; simp at hz; omega))
  refine this.mono fun e w' ⟨he, hw⟩ => ⟨he.trans (by rw [meetL3 x y z hx hy hz, h]), hw ▸ (Below.refl _ _).alloc (Nat.le_refl _) _⟩
theorem join2_any (x y r : Nat) (hx : x < 64) (hy : y < 64) (h : x ||| y = r) (W : World) : Calls Try.prog 26 #[.slice (some ⟨W.heap.size, 0, none⟩) 2 2] (W.alloc (.cells #[.int .u8 (x : Int), .int .u8 (y : Int)] 22)) fun e w' => e = .returned (.int .u8 (r : Int)) ∧ Below W.heap.size W w' := by
  have := join_any' (some ⟨W.heap.size, 0, none⟩) 2 2 [(x : Int), (y : Int)] rfl _ (reads_new W [(x : Int), (y : Int)] (by simp) (by intro z hz; simp at hz; omega))
  refine this.mono fun e w' ⟨he, hw⟩ => ⟨he.trans (by rw [joinL2 x y hx hy, h]), hw ▸ (Below.refl _ _).alloc (Nat.le_refl _) _⟩
theorem join3_any (x y z r : Nat) (hx : x < 64) (hy : y < 64) (hz : z < 64) (h : (x ||| y) ||| z = r) (W : World) : Calls Try.prog 26 #[.slice (some ⟨W.heap.size, 0, none⟩) 3 3] (W.alloc (.cells #[.int .u8 (x : Int), .int .u8 (y : Int), .int .u8 (z : Int)] 22)) fun e w' => e = .returned (.int .u8 (r : Int)) ∧ Below W.heap.size W w' := by
  have := join_any' (some ⟨W.heap.size, 0, none⟩) 3 3 [(x : Int), (y : Int), (z : Int)] rfl _ (reads_new W [(x : Int), (y : Int), (z : Int)] (by simp) (by intro z hz; simp at hz; omega))
  refine this.mono fun e w' ⟨he, hw⟩ => ⟨he.trans (by rw [joinL3 x y z hx hy hz, h]), hw ▸ (Below.refl _ _).alloc (Nat.le_refl _) _⟩
theorem less_sets (x y r : Nat) (hx : x < 64) (hy : y < 64) (h : lessN x y = r) (W : World) : Calls Try.prog 29 #[.int .u8 (x : Int), .int .u8 (y : Int)] W fun e w' => e = .returned (.int .u8 (r : Int)) ∧ W = w' :=
  (less_any x y W).mono fun e w' ⟨he, hw⟩ => ⟨he.trans (by
    rw [bits_andNot x y (by omega) (by omega)]
    have := bits_and (x &&& (2 ^ 8 - (y + 1))) 63 (Nat.lt_of_le_of_lt Nat.and_le_left (by omega)) (by omega)
    rw [show ((63 : Nat) : Int) = 63 from rfl] at this
    rw [this, show (x &&& (2 ^ 8 - (y + 1))) &&& 63 = r from h]), hw⟩
theorem has_sets (x y : Nat) (b : Bool) (hx : x < 64) (hy : y < 64) (h : (lessN y x == 0) = b) (W : World) : Calls Try.prog 31 #[.int .u8 (x : Int), .int .u8 (y : Int)] W fun e w' => e = .returned (.bool b) ∧ W = w' :=
  (has_any x y W).mono fun e w' ⟨he, hw⟩ => ⟨he.trans (by
    rw [bits_andNot y x (by omega) (by omega)]
    have := bits_and (y &&& (2 ^ 8 - (x + 1))) 63 (Nat.lt_of_le_of_lt Nat.and_le_left (by omega)) (by omega)
    rw [show ((63 : Nat) : Int) = 63 from rfl] at this
    rw [this, ← h, show (y &&& (2 ^ 8 - (x + 1))) &&& 63 = lessN y x from rfl]
    congr 2
    rw [Bool.eq_iff_iff]
    simp), hw⟩
theorem lat_e0 (a b c : Nat) (ha : a < 64) (hb : b < 64) (_ : c < 64) : a &&& b = (a &&& b) := by
  refine eq64 _ _ (by first | omega | exact lessN_lt _ _ | (repeat (first | assumption | exact lessN_lt _ _ | apply and_lt | apply or_lt))) (by first | omega | exact lessN_lt _ _ | (repeat (first | assumption | exact lessN_lt _ _ | apply and_lt | apply or_lt))) fun k hk => ?_
  have h63 := bit63 k hk
  have hn1 := lessN_bit 63 a k ha hk
  have hn2 := lessN_bit 63 b k hb hk
  have hn3 := lessN_bit 63 (a &&& b) k (and_lt a b ha) hk
  have hn4 := lessN_bit 63 (lessN 63 a) k (lessN_lt _ _) hk
  (simp only [Nat.testBit_and, Nat.testBit_or, Nat.zero_testBit, h63, hn1, hn2, hn3, hn4]) <;> (cases a.testBit k <;> cases b.testBit k <;> cases c.testBit k <;> rfl)
theorem lat_e1 (a b c : Nat) (ha : a < 64) (hb : b < 64) (_ : c < 64) : a ||| b = (a ||| b) := by
  refine eq64 _ _ (by first | omega | exact lessN_lt _ _ | (repeat (first | assumption | exact lessN_lt _ _ | apply and_lt | apply or_lt))) (by first | omega | exact lessN_lt _ _ | (repeat (first | assumption | exact lessN_lt _ _ | apply and_lt | apply or_lt))) fun k hk => ?_
  have h63 := bit63 k hk
  have hn1 := lessN_bit 63 a k ha hk
  have hn2 := lessN_bit 63 b k hb hk
  have hn3 := lessN_bit 63 (a &&& b) k (and_lt a b ha) hk
  have hn4 := lessN_bit 63 (lessN 63 a) k (lessN_lt _ _) hk
  (simp only [Nat.testBit_and, Nat.testBit_or, Nat.zero_testBit, h63, hn1, hn2, hn3, hn4]) <;> (cases a.testBit k <;> cases b.testBit k <;> cases c.testBit k <;> rfl)
theorem lat_e2 (a b c : Nat) (ha : a < 64) (hb : b < 64) (_ : c < 64) : b &&& a = (a &&& b) := by
  refine eq64 _ _ (by first | omega | exact lessN_lt _ _ | (repeat (first | assumption | exact lessN_lt _ _ | apply and_lt | apply or_lt))) (by first | omega | exact lessN_lt _ _ | (repeat (first | assumption | exact lessN_lt _ _ | apply and_lt | apply or_lt))) fun k hk => ?_
  have h63 := bit63 k hk
  have hn1 := lessN_bit 63 a k ha hk
  have hn2 := lessN_bit 63 b k hb hk
  have hn3 := lessN_bit 63 (a &&& b) k (and_lt a b ha) hk
  have hn4 := lessN_bit 63 (lessN 63 a) k (lessN_lt _ _) hk
  (simp only [Nat.testBit_and, Nat.testBit_or, Nat.zero_testBit, h63, hn1, hn2, hn3, hn4]) <;> (cases a.testBit k <;> cases b.testBit k <;> cases c.testBit k <;> rfl)
theorem lat_e3 (a b c : Nat) (ha : a < 64) (hb : b < 64) (_ : c < 64) : b ||| a = (a ||| b) := by
  refine eq64 _ _ (by first | omega | exact lessN_lt _ _ | (repeat (first | assumption | exact lessN_lt _ _ | apply and_lt | apply or_lt))) (by first | omega | exact lessN_lt _ _ | (repeat (first | assumption | exact lessN_lt _ _ | apply and_lt | apply or_lt))) fun k hk => ?_
  have h63 := bit63 k hk
  have hn1 := lessN_bit 63 a k ha hk
  have hn2 := lessN_bit 63 b k hb hk
  have hn3 := lessN_bit 63 (a &&& b) k (and_lt a b ha) hk
  have hn4 := lessN_bit 63 (lessN 63 a) k (lessN_lt _ _) hk
  (simp only [Nat.testBit_and, Nat.testBit_or, Nat.zero_testBit, h63, hn1, hn2, hn3, hn4]) <;> (cases a.testBit k <;> cases b.testBit k <;> cases c.testBit k <;> rfl)
theorem lat_e4 (a b c : Nat) (ha : a < 64) (hb : b < 64) (_ : c < 64) : (a &&& b) &&& c = ((a &&& b) &&& c) := by
  refine eq64 _ _ (by first | omega | exact lessN_lt _ _ | (repeat (first | assumption | exact lessN_lt _ _ | apply and_lt | apply or_lt))) (by first | omega | exact lessN_lt _ _ | (repeat (first | assumption | exact lessN_lt _ _ | apply and_lt | apply or_lt))) fun k hk => ?_
  have h63 := bit63 k hk
  have hn1 := lessN_bit 63 a k ha hk
  have hn2 := lessN_bit 63 b k hb hk
  have hn3 := lessN_bit 63 (a &&& b) k (and_lt a b ha) hk
  have hn4 := lessN_bit 63 (lessN 63 a) k (lessN_lt _ _) hk
  (simp only [Nat.testBit_and, Nat.testBit_or, Nat.zero_testBit, h63, hn1, hn2, hn3, hn4]) <;> (cases a.testBit k <;> cases b.testBit k <;> cases c.testBit k <;> rfl)
theorem lat_e5 (a b c : Nat) (ha : a < 64) (hb : b < 64) (_ : c < 64) : (a &&& b) &&& c = ((a &&& b) &&& c) := by
  refine eq64 _ _ (by first | omega | exact lessN_lt _ _ | (repeat (first | assumption | exact lessN_lt _ _ | apply and_lt | apply or_lt))) (by first | omega | exact lessN_lt _ _ | (repeat (first | assumption | exact lessN_lt _ _ | apply and_lt | apply or_lt))) fun k hk => ?_
  have h63 := bit63 k hk
  have hn1 := lessN_bit 63 a k ha hk
  have hn2 := lessN_bit 63 b k hb hk
  have hn3 := lessN_bit 63 (a &&& b) k (and_lt a b ha) hk
  have hn4 := lessN_bit 63 (lessN 63 a) k (lessN_lt _ _) hk
  (simp only [Nat.testBit_and, Nat.testBit_or, Nat.zero_testBit, h63, hn1, hn2, hn3, hn4]) <;> (cases a.testBit k <;> cases b.testBit k <;> cases c.testBit k <;> rfl)
theorem lat_e6 (a b c : Nat) (ha : a < 64) (hb : b < 64) (_ : c < 64) : b &&& c = (b &&& c) := by
  refine eq64 _ _ (by first | omega | exact lessN_lt _ _ | (repeat (first | assumption | exact lessN_lt _ _ | apply and_lt | apply or_lt))) (by first | omega | exact lessN_lt _ _ | (repeat (first | assumption | exact lessN_lt _ _ | apply and_lt | apply or_lt))) fun k hk => ?_
  have h63 := bit63 k hk
  have hn1 := lessN_bit 63 a k ha hk
  have hn2 := lessN_bit 63 b k hb hk
  have hn3 := lessN_bit 63 (a &&& b) k (and_lt a b ha) hk
  have hn4 := lessN_bit 63 (lessN 63 a) k (lessN_lt _ _) hk
  (simp only [Nat.testBit_and, Nat.testBit_or, Nat.zero_testBit, h63, hn1, hn2, hn3, hn4]) <;> (cases a.testBit k <;> cases b.testBit k <;> cases c.testBit k <;> rfl)
theorem lat_e7 (a b c : Nat) (ha : a < 64) (hb : b < 64) (_ : c < 64) : a &&& (b &&& c) = ((a &&& b) &&& c) := by
  refine eq64 _ _ (by first | omega | exact lessN_lt _ _ | (repeat (first | assumption | exact lessN_lt _ _ | apply and_lt | apply or_lt))) (by first | omega | exact lessN_lt _ _ | (repeat (first | assumption | exact lessN_lt _ _ | apply and_lt | apply or_lt))) fun k hk => ?_
  have h63 := bit63 k hk
  have hn1 := lessN_bit 63 a k ha hk
  have hn2 := lessN_bit 63 b k hb hk
  have hn3 := lessN_bit 63 (a &&& b) k (and_lt a b ha) hk
  have hn4 := lessN_bit 63 (lessN 63 a) k (lessN_lt _ _) hk
  (simp only [Nat.testBit_and, Nat.testBit_or, Nat.zero_testBit, h63, hn1, hn2, hn3, hn4]) <;> (cases a.testBit k <;> cases b.testBit k <;> cases c.testBit k <;> rfl)
theorem lat_e8 (a b c : Nat) (ha : a < 64) (hb : b < 64) (_ : c < 64) : (a ||| b) ||| c = ((a ||| b) ||| c) := by
  refine eq64 _ _ (by first | omega | exact lessN_lt _ _ | (repeat (first | assumption | exact lessN_lt _ _ | apply and_lt | apply or_lt))) (by first | omega | exact lessN_lt _ _ | (repeat (first | assumption | exact lessN_lt _ _ | apply and_lt | apply or_lt))) fun k hk => ?_
  have h63 := bit63 k hk
  have hn1 := lessN_bit 63 a k ha hk
  have hn2 := lessN_bit 63 b k hb hk
  have hn3 := lessN_bit 63 (a &&& b) k (and_lt a b ha) hk
  have hn4 := lessN_bit 63 (lessN 63 a) k (lessN_lt _ _) hk
  (simp only [Nat.testBit_and, Nat.testBit_or, Nat.zero_testBit, h63, hn1, hn2, hn3, hn4]) <;> (cases a.testBit k <;> cases b.testBit k <;> cases c.testBit k <;> rfl)
theorem lat_e9 (a b c : Nat) (ha : a < 64) (hb : b < 64) (_ : c < 64) : (a ||| b) ||| c = ((a ||| b) ||| c) := by
  refine eq64 _ _ (by first | omega | exact lessN_lt _ _ | (repeat (first | assumption | exact lessN_lt _ _ | apply and_lt | apply or_lt))) (by first | omega | exact lessN_lt _ _ | (repeat (first | assumption | exact lessN_lt _ _ | apply and_lt | apply or_lt))) fun k hk => ?_
  have h63 := bit63 k hk
  have hn1 := lessN_bit 63 a k ha hk
  have hn2 := lessN_bit 63 b k hb hk
  have hn3 := lessN_bit 63 (a &&& b) k (and_lt a b ha) hk
  have hn4 := lessN_bit 63 (lessN 63 a) k (lessN_lt _ _) hk
  (simp only [Nat.testBit_and, Nat.testBit_or, Nat.zero_testBit, h63, hn1, hn2, hn3, hn4]) <;> (cases a.testBit k <;> cases b.testBit k <;> cases c.testBit k <;> rfl)
theorem lat_e10 (a b c : Nat) (ha : a < 64) (hb : b < 64) (_ : c < 64) : b ||| c = (b ||| c) := by
  refine eq64 _ _ (by first | omega | exact lessN_lt _ _ | (repeat (first | assumption | exact lessN_lt _ _ | apply and_lt | apply or_lt))) (by first | omega | exact lessN_lt _ _ | (repeat (first | assumption | exact lessN_lt _ _ | apply and_lt | apply or_lt))) fun k hk => ?_
  have h63 := bit63 k hk
  have hn1 := lessN_bit 63 a k ha hk
  have hn2 := lessN_bit 63 b k hb hk
  have hn3 := lessN_bit 63 (a &&& b) k (and_lt a b ha) hk
  have hn4 := lessN_bit 63 (lessN 63 a) k (lessN_lt _ _) hk
  (simp only [Nat.testBit_and, Nat.testBit_or, Nat.zero_testBit, h63, hn1, hn2, hn3, hn4]) <;> (cases a.testBit k <;> cases b.testBit k <;> cases c.testBit k <;> rfl)
theorem lat_e11 (a b c : Nat) (ha : a < 64) (hb : b < 64) (_ : c < 64) : a ||| (b ||| c) = ((a ||| b) ||| c) := by
  refine eq64 _ _ (by first | omega | exact lessN_lt _ _ | (repeat (first | assumption | exact lessN_lt _ _ | apply and_lt | apply or_lt))) (by first | omega | exact lessN_lt _ _ | (repeat (first | assumption | exact lessN_lt _ _ | apply and_lt | apply or_lt))) fun k hk => ?_
  have h63 := bit63 k hk
  have hn1 := lessN_bit 63 a k ha hk
  have hn2 := lessN_bit 63 b k hb hk
  have hn3 := lessN_bit 63 (a &&& b) k (and_lt a b ha) hk
  have hn4 := lessN_bit 63 (lessN 63 a) k (lessN_lt _ _) hk
  (simp only [Nat.testBit_and, Nat.testBit_or, Nat.zero_testBit, h63, hn1, hn2, hn3, hn4]) <;> (cases a.testBit k <;> cases b.testBit k <;> cases c.testBit k <;> rfl)
theorem lat_e12 (a b c : Nat) (ha : a < 64) (hb : b < 64) (_ : c < 64) : a &&& a = a := by
  refine eq64 _ _ (by first | omega | exact lessN_lt _ _ | (repeat (first | assumption | exact lessN_lt _ _ | apply and_lt | apply or_lt))) (by first | omega | exact lessN_lt _ _ | (repeat (first | assumption | exact lessN_lt _ _ | apply and_lt | apply or_lt))) fun k hk => ?_
  have h63 := bit63 k hk
  have hn1 := lessN_bit 63 a k ha hk
  have hn2 := lessN_bit 63 b k hb hk
  have hn3 := lessN_bit 63 (a &&& b) k (and_lt a b ha) hk
  have hn4 := lessN_bit 63 (lessN 63 a) k (lessN_lt _ _) hk
  (simp only [Nat.testBit_and, Nat.testBit_or, Nat.zero_testBit, h63, hn1, hn2, hn3, hn4]) <;> (cases a.testBit k <;> cases b.testBit k <;> cases c.testBit k <;> rfl)
theorem lat_e13 (a b c : Nat) (ha : a < 64) (hb : b < 64) (_ : c < 64) : a ||| a = a := by
  refine eq64 _ _ (by first | omega | exact lessN_lt _ _ | (repeat (first | assumption | exact lessN_lt _ _ | apply and_lt | apply or_lt))) (by first | omega | exact lessN_lt _ _ | (repeat (first | assumption | exact lessN_lt _ _ | apply and_lt | apply or_lt))) fun k hk => ?_
  have h63 := bit63 k hk
  have hn1 := lessN_bit 63 a k ha hk
  have hn2 := lessN_bit 63 b k hb hk
  have hn3 := lessN_bit 63 (a &&& b) k (and_lt a b ha) hk
  have hn4 := lessN_bit 63 (lessN 63 a) k (lessN_lt _ _) hk
  (simp only [Nat.testBit_and, Nat.testBit_or, Nat.zero_testBit, h63, hn1, hn2, hn3, hn4]) <;> (cases a.testBit k <;> cases b.testBit k <;> cases c.testBit k <;> rfl)
theorem lat_e14 (a b c : Nat) (ha : a < 64) (hb : b < 64) (_ : c < 64) : a &&& (a ||| b) = a := by
  refine eq64 _ _ (by first | omega | exact lessN_lt _ _ | (repeat (first | assumption | exact lessN_lt _ _ | apply and_lt | apply or_lt))) (by first | omega | exact lessN_lt _ _ | (repeat (first | assumption | exact lessN_lt _ _ | apply and_lt | apply or_lt))) fun k hk => ?_
  have h63 := bit63 k hk
  have hn1 := lessN_bit 63 a k ha hk
  have hn2 := lessN_bit 63 b k hb hk
  have hn3 := lessN_bit 63 (a &&& b) k (and_lt a b ha) hk
  have hn4 := lessN_bit 63 (lessN 63 a) k (lessN_lt _ _) hk
  (simp only [Nat.testBit_and, Nat.testBit_or, Nat.zero_testBit, h63, hn1, hn2, hn3, hn4]) <;> (cases a.testBit k <;> cases b.testBit k <;> cases c.testBit k <;> rfl)
theorem lat_e15 (a b c : Nat) (ha : a < 64) (hb : b < 64) (_ : c < 64) : a ||| (a &&& b) = a := by
  refine eq64 _ _ (by first | omega | exact lessN_lt _ _ | (repeat (first | assumption | exact lessN_lt _ _ | apply and_lt | apply or_lt))) (by first | omega | exact lessN_lt _ _ | (repeat (first | assumption | exact lessN_lt _ _ | apply and_lt | apply or_lt))) fun k hk => ?_
  have h63 := bit63 k hk
  have hn1 := lessN_bit 63 a k ha hk
  have hn2 := lessN_bit 63 b k hb hk
  have hn3 := lessN_bit 63 (a &&& b) k (and_lt a b ha) hk
  have hn4 := lessN_bit 63 (lessN 63 a) k (lessN_lt _ _) hk
  (simp only [Nat.testBit_and, Nat.testBit_or, Nat.zero_testBit, h63, hn1, hn2, hn3, hn4]) <;> (cases a.testBit k <;> cases b.testBit k <;> cases c.testBit k <;> rfl)
theorem lat_e16 (a b c : Nat) (ha : a < 64) (hb : b < 64) (_ : c < 64) : a &&& (b ||| c) = (a &&& (b ||| c)) := by
  refine eq64 _ _ (by first | omega | exact lessN_lt _ _ | (repeat (first | assumption | exact lessN_lt _ _ | apply and_lt | apply or_lt))) (by first | omega | exact lessN_lt _ _ | (repeat (first | assumption | exact lessN_lt _ _ | apply and_lt | apply or_lt))) fun k hk => ?_
  have h63 := bit63 k hk
  have hn1 := lessN_bit 63 a k ha hk
  have hn2 := lessN_bit 63 b k hb hk
  have hn3 := lessN_bit 63 (a &&& b) k (and_lt a b ha) hk
  have hn4 := lessN_bit 63 (lessN 63 a) k (lessN_lt _ _) hk
  (simp only [Nat.testBit_and, Nat.testBit_or, Nat.zero_testBit, h63, hn1, hn2, hn3, hn4]) <;> (cases a.testBit k <;> cases b.testBit k <;> cases c.testBit k <;> rfl)
theorem lat_e17 (a b c : Nat) (ha : a < 64) (hb : b < 64) (_ : c < 64) : a &&& c = (a &&& c) := by
  refine eq64 _ _ (by first | omega | exact lessN_lt _ _ | (repeat (first | assumption | exact lessN_lt _ _ | apply and_lt | apply or_lt))) (by first | omega | exact lessN_lt _ _ | (repeat (first | assumption | exact lessN_lt _ _ | apply and_lt | apply or_lt))) fun k hk => ?_
  have h63 := bit63 k hk
  have hn1 := lessN_bit 63 a k ha hk
  have hn2 := lessN_bit 63 b k hb hk
  have hn3 := lessN_bit 63 (a &&& b) k (and_lt a b ha) hk
  have hn4 := lessN_bit 63 (lessN 63 a) k (lessN_lt _ _) hk
  (simp only [Nat.testBit_and, Nat.testBit_or, Nat.zero_testBit, h63, hn1, hn2, hn3, hn4]) <;> (cases a.testBit k <;> cases b.testBit k <;> cases c.testBit k <;> rfl)
theorem lat_e18 (a b c : Nat) (ha : a < 64) (hb : b < 64) (_ : c < 64) : (a &&& b) ||| (a &&& c) = (a &&& (b ||| c)) := by
  refine eq64 _ _ (by first | omega | exact lessN_lt _ _ | (repeat (first | assumption | exact lessN_lt _ _ | apply and_lt | apply or_lt))) (by first | omega | exact lessN_lt _ _ | (repeat (first | assumption | exact lessN_lt _ _ | apply and_lt | apply or_lt))) fun k hk => ?_
  have h63 := bit63 k hk
  have hn1 := lessN_bit 63 a k ha hk
  have hn2 := lessN_bit 63 b k hb hk
  have hn3 := lessN_bit 63 (a &&& b) k (and_lt a b ha) hk
  have hn4 := lessN_bit 63 (lessN 63 a) k (lessN_lt _ _) hk
  (simp only [Nat.testBit_and, Nat.testBit_or, Nat.zero_testBit, h63, hn1, hn2, hn3, hn4]) <;> (cases a.testBit k <;> cases b.testBit k <;> cases c.testBit k <;> rfl)
theorem lat_e19 (a b c : Nat) (ha : a < 64) (hb : b < 64) (_ : c < 64) : a ||| (b &&& c) = (a ||| (b &&& c)) := by
  refine eq64 _ _ (by first | omega | exact lessN_lt _ _ | (repeat (first | assumption | exact lessN_lt _ _ | apply and_lt | apply or_lt))) (by first | omega | exact lessN_lt _ _ | (repeat (first | assumption | exact lessN_lt _ _ | apply and_lt | apply or_lt))) fun k hk => ?_
  have h63 := bit63 k hk
  have hn1 := lessN_bit 63 a k ha hk
  have hn2 := lessN_bit 63 b k hb hk
  have hn3 := lessN_bit 63 (a &&& b) k (and_lt a b ha) hk
  have hn4 := lessN_bit 63 (lessN 63 a) k (lessN_lt _ _) hk
  (simp only [Nat.testBit_and, Nat.testBit_or, Nat.zero_testBit, h63, hn1, hn2, hn3, hn4]) <;> (cases a.testBit k <;> cases b.testBit k <;> cases c.testBit k <;> rfl)
theorem lat_e20 (a b c : Nat) (ha : a < 64) (hb : b < 64) (_ : c < 64) : a ||| c = (a ||| c) := by
  refine eq64 _ _ (by first | omega | exact lessN_lt _ _ | (repeat (first | assumption | exact lessN_lt _ _ | apply and_lt | apply or_lt))) (by first | omega | exact lessN_lt _ _ | (repeat (first | assumption | exact lessN_lt _ _ | apply and_lt | apply or_lt))) fun k hk => ?_
  have h63 := bit63 k hk
  have hn1 := lessN_bit 63 a k ha hk
  have hn2 := lessN_bit 63 b k hb hk
  have hn3 := lessN_bit 63 (a &&& b) k (and_lt a b ha) hk
  have hn4 := lessN_bit 63 (lessN 63 a) k (lessN_lt _ _) hk
  (simp only [Nat.testBit_and, Nat.testBit_or, Nat.zero_testBit, h63, hn1, hn2, hn3, hn4]) <;> (cases a.testBit k <;> cases b.testBit k <;> cases c.testBit k <;> rfl)
theorem lat_e21 (a b c : Nat) (ha : a < 64) (hb : b < 64) (_ : c < 64) : (a ||| b) &&& (a ||| c) = (a ||| (b &&& c)) := by
  refine eq64 _ _ (by first | omega | exact lessN_lt _ _ | (repeat (first | assumption | exact lessN_lt _ _ | apply and_lt | apply or_lt))) (by first | omega | exact lessN_lt _ _ | (repeat (first | assumption | exact lessN_lt _ _ | apply and_lt | apply or_lt))) fun k hk => ?_
  have h63 := bit63 k hk
  have hn1 := lessN_bit 63 a k ha hk
  have hn2 := lessN_bit 63 b k hb hk
  have hn3 := lessN_bit 63 (a &&& b) k (and_lt a b ha) hk
  have hn4 := lessN_bit 63 (lessN 63 a) k (lessN_lt _ _) hk
  (simp only [Nat.testBit_and, Nat.testBit_or, Nat.zero_testBit, h63, hn1, hn2, hn3, hn4]) <;> (cases a.testBit k <;> cases b.testBit k <;> cases c.testBit k <;> rfl)
theorem lat_e22 (a b c : Nat) (ha : a < 64) (hb : b < 64) (_ : c < 64) : lessN 63 a = (lessN 63 a) := by
  refine eq64 _ _ (by first | omega | exact lessN_lt _ _ | (repeat (first | assumption | exact lessN_lt _ _ | apply and_lt | apply or_lt))) (by first | omega | exact lessN_lt _ _ | (repeat (first | assumption | exact lessN_lt _ _ | apply and_lt | apply or_lt))) fun k hk => ?_
  have h63 := bit63 k hk
  have hn1 := lessN_bit 63 a k ha hk
  have hn2 := lessN_bit 63 b k hb hk
  have hn3 := lessN_bit 63 (a &&& b) k (and_lt a b ha) hk
  have hn4 := lessN_bit 63 (lessN 63 a) k (lessN_lt _ _) hk
  (simp only [Nat.testBit_and, Nat.testBit_or, Nat.zero_testBit, h63, hn1, hn2, hn3, hn4]) <;> (cases a.testBit k <;> cases b.testBit k <;> cases c.testBit k <;> rfl)
theorem lat_e23 (a b c : Nat) (ha : a < 64) (hb : b < 64) (_ : c < 64) : a &&& (lessN 63 a) = 0 := by
  refine eq64 _ _ (by first | omega | exact lessN_lt _ _ | (repeat (first | assumption | exact lessN_lt _ _ | apply and_lt | apply or_lt))) (by first | omega | exact lessN_lt _ _ | (repeat (first | assumption | exact lessN_lt _ _ | apply and_lt | apply or_lt))) fun k hk => ?_
  have h63 := bit63 k hk
  have hn1 := lessN_bit 63 a k ha hk
  have hn2 := lessN_bit 63 b k hb hk
  have hn3 := lessN_bit 63 (a &&& b) k (and_lt a b ha) hk
  have hn4 := lessN_bit 63 (lessN 63 a) k (lessN_lt _ _) hk
  (simp only [Nat.testBit_and, Nat.testBit_or, Nat.zero_testBit, h63, hn1, hn2, hn3, hn4]) <;> (cases a.testBit k <;> cases b.testBit k <;> cases c.testBit k <;> rfl)
theorem lat_e24 (a b c : Nat) (ha : a < 64) (hb : b < 64) (_ : c < 64) : a ||| (lessN 63 a) = 63 := by
  refine eq64 _ _ (by first | omega | exact lessN_lt _ _ | (repeat (first | assumption | exact lessN_lt _ _ | apply and_lt | apply or_lt))) (by first | omega | exact lessN_lt _ _ | (repeat (first | assumption | exact lessN_lt _ _ | apply and_lt | apply or_lt))) fun k hk => ?_
  have h63 := bit63 k hk
  have hn1 := lessN_bit 63 a k ha hk
  have hn2 := lessN_bit 63 b k hb hk
  have hn3 := lessN_bit 63 (a &&& b) k (and_lt a b ha) hk
  have hn4 := lessN_bit 63 (lessN 63 a) k (lessN_lt _ _) hk
  (simp only [Nat.testBit_and, Nat.testBit_or, Nat.zero_testBit, h63, hn1, hn2, hn3, hn4]) <;> (cases a.testBit k <;> cases b.testBit k <;> cases c.testBit k <;> rfl)
theorem lat_e25 (a b c : Nat) (ha : a < 64) (hb : b < 64) (_ : c < 64) : lessN 63 (a &&& b) = (lessN 63 (a &&& b)) := by
  refine eq64 _ _ (by first | omega | exact lessN_lt _ _ | (repeat (first | assumption | exact lessN_lt _ _ | apply and_lt | apply or_lt))) (by first | omega | exact lessN_lt _ _ | (repeat (first | assumption | exact lessN_lt _ _ | apply and_lt | apply or_lt))) fun k hk => ?_
  have h63 := bit63 k hk
  have hn1 := lessN_bit 63 a k ha hk
  have hn2 := lessN_bit 63 b k hb hk
  have hn3 := lessN_bit 63 (a &&& b) k (and_lt a b ha) hk
  have hn4 := lessN_bit 63 (lessN 63 a) k (lessN_lt _ _) hk
  (simp only [Nat.testBit_and, Nat.testBit_or, Nat.zero_testBit, h63, hn1, hn2, hn3, hn4]) <;> (cases a.testBit k <;> cases b.testBit k <;> cases c.testBit k <;> rfl)
theorem lat_e26 (a b c : Nat) (ha : a < 64) (hb : b < 64) (_ : c < 64) : lessN 63 b = (lessN 63 b) := by
  refine eq64 _ _ (by first | omega | exact lessN_lt _ _ | (repeat (first | assumption | exact lessN_lt _ _ | apply and_lt | apply or_lt))) (by first | omega | exact lessN_lt _ _ | (repeat (first | assumption | exact lessN_lt _ _ | apply and_lt | apply or_lt))) fun k hk => ?_
  have h63 := bit63 k hk
  have hn1 := lessN_bit 63 a k ha hk
  have hn2 := lessN_bit 63 b k hb hk
  have hn3 := lessN_bit 63 (a &&& b) k (and_lt a b ha) hk
  have hn4 := lessN_bit 63 (lessN 63 a) k (lessN_lt _ _) hk
  (simp only [Nat.testBit_and, Nat.testBit_or, Nat.zero_testBit, h63, hn1, hn2, hn3, hn4]) <;> (cases a.testBit k <;> cases b.testBit k <;> cases c.testBit k <;> rfl)
theorem lat_e27 (a b c : Nat) (ha : a < 64) (hb : b < 64) (_ : c < 64) : (lessN 63 a) ||| (lessN 63 b) = (lessN 63 (a &&& b)) := by
  refine eq64 _ _ (by first | omega | exact lessN_lt _ _ | (repeat (first | assumption | exact lessN_lt _ _ | apply and_lt | apply or_lt))) (by first | omega | exact lessN_lt _ _ | (repeat (first | assumption | exact lessN_lt _ _ | apply and_lt | apply or_lt))) fun k hk => ?_
  have h63 := bit63 k hk
  have hn1 := lessN_bit 63 a k ha hk
  have hn2 := lessN_bit 63 b k hb hk
  have hn3 := lessN_bit 63 (a &&& b) k (and_lt a b ha) hk
  have hn4 := lessN_bit 63 (lessN 63 a) k (lessN_lt _ _) hk
  (simp only [Nat.testBit_and, Nat.testBit_or, Nat.zero_testBit, h63, hn1, hn2, hn3, hn4]) <;> (cases a.testBit k <;> cases b.testBit k <;> cases c.testBit k <;> rfl)
theorem lat_e28 (a b c : Nat) (ha : a < 64) (hb : b < 64) (_ : c < 64) : lessN 63 (lessN 63 a) = a := by
  refine eq64 _ _ (by first | omega | exact lessN_lt _ _ | (repeat (first | assumption | exact lessN_lt _ _ | apply and_lt | apply or_lt))) (by first | omega | exact lessN_lt _ _ | (repeat (first | assumption | exact lessN_lt _ _ | apply and_lt | apply or_lt))) fun k hk => ?_
  have h63 := bit63 k hk
  have hn1 := lessN_bit 63 a k ha hk
  have hn2 := lessN_bit 63 b k hb hk
  have hn3 := lessN_bit 63 (a &&& b) k (and_lt a b ha) hk
  have hn4 := lessN_bit 63 (lessN 63 a) k (lessN_lt _ _) hk
  (simp only [Nat.testBit_and, Nat.testBit_or, Nat.zero_testBit, h63, hn1, hn2, hn3, hn4]) <;> (cases a.testBit k <;> cases b.testBit k <;> cases c.testBit k <;> rfl)
theorem lat_e29 (a b c : Nat) (ha : a < 64) (hb : b < 64) (_ : c < 64) : lessN b a = (lessN b a) := by
  refine eq64 _ _ (by first | omega | exact lessN_lt _ _ | (repeat (first | assumption | exact lessN_lt _ _ | apply and_lt | apply or_lt))) (by first | omega | exact lessN_lt _ _ | (repeat (first | assumption | exact lessN_lt _ _ | apply and_lt | apply or_lt))) fun k hk => ?_
  have h63 := bit63 k hk
  have hn1 := lessN_bit 63 a k ha hk
  have hn2 := lessN_bit 63 b k hb hk
  have hn3 := lessN_bit 63 (a &&& b) k (and_lt a b ha) hk
  have hn4 := lessN_bit 63 (lessN 63 a) k (lessN_lt _ _) hk
  (simp only [Nat.testBit_and, Nat.testBit_or, Nat.zero_testBit, h63, hn1, hn2, hn3, hn4]) <;> (cases a.testBit k <;> cases b.testBit k <;> cases c.testBit k <;> rfl)
theorem lat_sub (a b : Nat) (ha : a < 64) (hb : b < 64) : ((a &&& b) = b ↔ lessN b a = 0) ∧ ((a ||| b) = a ↔ lessN b a = 0) := by
  have hl : lessN b a = 0 ↔ ∀ k, k < 6 → (b.testBit k && !a.testBit k) = false := by
    constructor
    · intro h k hk
      rw [← lessN_bit b a k ha hk, h, Nat.zero_testBit]
    · intro h
      exact eq64 _ _ (lessN_lt _ _) (by omega) fun k hk => by rw [lessN_bit b a k ha hk, h k hk, Nat.zero_testBit]
  rw [hl]
  constructor
  · constructor
    · intro h k hk
      have : (a &&& b).testBit k = b.testBit k := by rw [h]
      rw [Nat.testBit_and] at this
      revert this; cases a.testBit k <;> cases b.testBit k <;> simp
    · intro h
      refine eq64 _ _ (and_lt a b ha) hb fun k hk => ?_
      have := h k hk
      rw [Nat.testBit_and]
      revert this; cases a.testBit k <;> cases b.testBit k <;> simp
  · constructor
    · intro h k hk
      have : (a ||| b).testBit k = a.testBit k := by rw [h]
      rw [Nat.testBit_or] at this
      revert this; cases a.testBit k <;> cases b.testBit k <;> simp
    · intro h
      refine eq64 _ _ (or_lt a b ha hb) ha fun k hk => ?_
      have := h k hk
      rw [Nat.testBit_or]
      revert this; cases a.testBit k <;> cases b.testBit k <;> simp
end Go.Proofs.Ytbdbhacniejagaa
