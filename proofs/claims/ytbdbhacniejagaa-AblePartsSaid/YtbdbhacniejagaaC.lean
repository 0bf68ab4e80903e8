/- Contracts of able's small functions, and of able.Text and able.Read. -/
import Derived.Test.YtbdbhacniejagaaB
import Derived.Test.YtbdbhacniejagaaShelf
namespace Go.Proofs.Ytbdbhacniejagaa
open Go.RowKit Go.Shelf
attribute [local go_sem] Oper.semAt_some

set_option maxHeartbeats 1000000
theorem may_any (a : Int) (w : World) :
    Calls Try.prog 17 #[.int .u8 a] w fun e w' => e = .returned (.bool (bits .andNot .u8 a 63 == 0)) ∧ w = w' := by
  go_enter Try.func17, Try.ntmps17
  go_wp2
  go_ret
  exact ⟨rfl, rfl⟩
def cntB (a : Int) : Int := ((Lib.onesCount a.toNat : Nat) : Int)
def oneB (a : Int) : Bool := (bits .andNot .u8 a 63 == 0) && (cntB a == 1)
theorem pop_any (a : Int) (h0 : 0 ≤ a) (h1 : a ≤ 255) (w : World) :
    Calls Try.prog 42 #[.int .u8 a] w fun e w' => e = .returned (.int .i64 (cntB a)) ∧ w = w' :=
  (Try.bits_OnesCount8 a w h0 h1).mono fun _ _ ⟨he, hw⟩ => ⟨he, hw.symm⟩
theorem one_any (a : Int) (h0 : 0 ≤ a) (h1 : a ≤ 255) (w : World) :
    Calls Try.prog 19 #[.int .u8 a] w fun e w' => e = .returned (.bool (oneB a)) ∧ w = w' := by
  by_cases hh : (bits BinOp.andNot IntKind.u8 a 63 == 0) = true
  · have hp : oneB a = (cntB a == 1) := by unfold oneB; rw [hh]; rfl
    rw [hp]; clear hp
    go_enter Try.func19, Try.ntmps19
    go_wp2_with (first | (go_at_call 17; refine (may_any _ _).mono ?_; rintro e w' ⟨rfl, rfl⟩) | (go_at_call 42; refine (pop_any a h0 h1 _).mono ?_; rintro e w' ⟨rfl, rfl⟩))
    go_ret
    exact ⟨rfl, rfl⟩
  · have hp : oneB a = false := by unfold oneB; rw [Bool.eq_false_iff.2 hh]; rfl
    rw [hp]; clear hp
    go_enter Try.func19, Try.ntmps19
    go_wp2_with (first | (go_at_call 17; refine (may_any _ _).mono ?_; rintro e w' ⟨rfl, rfl⟩) | (go_at_call 42; refine (pop_any a h0 h1 _).mono ?_; rintro e w' ⟨rfl, rfl⟩))
    go_ret
    exact ⟨rfl, rfl⟩
theorem count_any (a : Int) (h0 : 0 ≤ a) (h1 : a ≤ 255) (w : World) :
    Calls Try.prog 21 #[.int .u8 a] w fun e w' => e = .returned (.int .i64 (cntB (a % 64))) ∧ w = w' := by
  go_enter Try.func21, Try.ntmps21
  go_wp2_with (go_at_call 42; refine (pop_any _ (by omega) (by omega) _).mono ?_; rintro e w' ⟨rfl, rfl⟩)
  go_ret
  exact ⟨rfl, rfl⟩
theorem less_any (a b : Int) (w : World) :
    Calls Try.prog 29 #[.int .u8 a, .int .u8 b] w fun e w' => e = .returned (.int .u8 (bits BinOp.and IntKind.u8 (bits BinOp.andNot IntKind.u8 a b) 63)) ∧ w = w' := by
  go_enter Try.func29, Try.ntmps29
  go_wp2
  go_ret
  exact ⟨rfl, rfl⟩
theorem has_any (a b : Int) (w : World) :
    Calls Try.prog 31 #[.int .u8 a, .int .u8 b] w fun e w' => e = .returned (.bool (bits BinOp.and IntKind.u8 (bits BinOp.andNot IntKind.u8 b a) 63 == 0)) ∧ w = w' := by
  go_enter Try.func31, Try.ntmps31
  go_wp2
  go_ret
  exact ⟨rfl, rfl⟩
def placeB (a : Int) : Int := ((Lib.trailingZeros8 a.toNat : Nat) : Int)
theorem tz_any (a : Int) (h0 : 0 ≤ a) (h1 : a ≤ 255) (w : World) :
    Calls Try.prog 40 #[.int .u8 a] w fun e w' => e = .returned (.int .i64 (placeB a)) ∧ w = w' :=
  (Try.bits_TrailingZeros8 a w h0 h1).mono fun _ _ ⟨he, hw⟩ => ⟨he, hw.symm⟩
theorem place_yes (a : Int) (h0 : 0 ≤ a) (h1 : a ≤ 255) (hh : oneB a = true) (w : World) :
    Calls Try.prog 15 #[.int .u8 a] w fun e w' => e = .returned (.tuple #[.int .i64 (placeB a), .int .i64 0]) ∧ w = w' := by
  go_enter Try.func15, Try.ntmps15
  go_wp2_with (first | (go_at_call 19; refine (one_any a h0 h1 _).mono ?_; rintro e w' ⟨rfl, rfl⟩) | (go_at_call 40; refine (tz_any _ (by omega) (by omega) _).mono ?_; rintro e w' ⟨rfl, rfl⟩))
  go_ret2
  exact ⟨rfl, rfl⟩
theorem place_no (a : Int) (h0 : 0 ≤ a) (h1 : a ≤ 255) (hh : oneB a = false) (w : World) :
    Calls Try.prog 15 #[.int .u8 a] w fun e w' => e = .returned (.tuple #[.int .i64 0, .int .i64 2]) ∧ w = w' := by
  go_enter Try.func15, Try.ntmps15
  go_wp2_with (first | (go_at_call 19; refine (one_any a h0 h1 _).mono ?_; rintro e w' ⟨rfl, rfl⟩))
  go_ret2
  exact ⟨rfl, rfl⟩
def nameL (k : Nat) : List UInt8 := if k = 0 then [103, 101, 116] else if k = 1 then [112, 117, 116] else if k = 2 then [116, 97, 107, 101] else if k = 3 then [103, 105, 118, 101] else if k = 4 then [97, 115, 107] else [99, 117, 116]
def nameS (k : Nat) : ByteArray := ⟨(nameL k).toArray⟩
theorem names_any (w : World) :
    Calls Try.prog 38 #[] w fun e w' => e = .returned (.agg #[.string (nameS 0), .string (nameS 1), .string (nameS 2), .string (nameS 3), .string (nameS 4), .string (nameS 5)]) ∧ w.alloc (.cells #[.string (nameS 0), .string (nameS 1), .string (nameS 2), .string (nameS 3), .string (nameS 4), .string (nameS 5)] 56) = w' := by
  go_enter Try.func38, Try.ntmps38
  go_wp2
  exact bodyPost_ret (v := .agg #[.string (nameS 0), .string (nameS 1), .string (nameS 2), .string (nameS 3), .string (nameS 4), .string (nameS 5)]) (by simp [results, Try.results38, go_sem]; exact ⟨rfl, rfl, rfl, rfl, rfl, rfl⟩) rfl ⟨rfl, rfl⟩
theorem info55e : (Try.prog.info? 9).map (fun i => (i.zero, i.size, i.bytes)) = some (some (.string ⟨#[]⟩), 1, 16) := by kernel_rfl
def partsV (l : List (Fin 6)) : List Value := l.map fun k => .string (nameS k.val)
theorem place_at (k : Fin 6) : oneB (2 ^ k.val) = true ∧ placeB (2 ^ k.val) = (k.val : Int) := by
  have h : (List.finRange 6).all (fun k => oneB (2 ^ k.val) && (placeB (2 ^ k.val) == (k.val : Int))) = true := by decide +kernel
  rw [List.all_eq_true] at h
  simpa using h k (List.mem_finRange k)

theorem stepIn_append_own {F : Fence} {n : Nat} {P : Program} {ops : Array Oper} {o : Oper} {a : Act} {w : World} {K : Act → World → Prop} {Q : Exit → Act → World → Prop} {E : Prop}
    (hg : o.guard = none) (s x : Operand) (t : TypeId) (hop : o.op = Op.call { callee := Callee.builtin Builtin.append, args := #[s, x], argTypes := #[t, t] })
    (base : Nat) (e : TypeId) (i : TypeInfo) (z : Value) (size bytes : Nat) (h1 : P.underlying t = some (.slice e)) (h2 : P.info? e = some i) (h3 : i.zero = some z) (h4 : i.size = size) (h5 : i.bytes = bytes) (h6 : z.cells.size = size) (h7 : 0 < size)
    (v : Value) (k : Nat) (xs : List Value) (hs : a.eval s = v) (hown : w.ownsRow base e size v k xs) (ad : Addr) (m c : Nat) (news : List Value) (hx : a.eval x = .slice (some ad) m c) (hn : news.length = m * size)
    (hc : ∀ j u, news[j]? = some u → w.cell? (ad.add j) = some u) (h1c : ∀ u ∈ news, u.oneCell' = true) (b1 : k + m ≤ maxLen) (b2 : (k + m) * bytes ≤ 140737488355328) (b3 : base ≤ w.heap.size)
    (hK : ∀ v' w', w'.ownsRow base e size v' (k + m) (xs ++ news) → w.grownBy w' v.ownBlock → K (a.put o.dst v') w') :
    if Region.wanted o (yielded ops a.tmps) = true then Oper.wpIn F n P o a w K Q else E := by
  rw [if_pos (by simp [Region.wanted, hg])]
  obtain ⟨v', w', hrun, r1, r2, r3⟩ := run_append_own (P := P) w base t o.type e i z size bytes h1 h2 h3 h4 h5 h6 h7 v k xs hown ad m c news hn hc h1c b1 b2 b3
  unfold Oper.wpIn
  refine ⟨?_, ?_⟩
  · simp [Oper.about, hop, resolve, Target.leads, Sem.run_pure]
  · rw [Oper.semAt_plain F _ _ (by rw [hop]; intro c hc'; cases hc')]
    simp [execOp, hop, resolve, invoke, builtin, hs, hx, hrun, Result.andThen]
    exact hK v' w' r1 r2
theorem box_appended {W X w1 : World} {n₀ B : Nat} {t e : TypeId} {size : Nat} {v v' : Value} {k m : Nat} {xs ys : List Value}
    (hX : W.grownBy X none) (hv : Boxed W B t v) (hte : t ≠ e) (hrow : W.ownsRow n₀ e size v k xs) (hn₀ : n₀ ≤ W.heap.size) (hB : n₀ ≤ B)
    (hown' : w1.ownsRow n₀ e size v' m ys) (hgrow : X.grownBy w1 v.ownBlock) :
    Boxed w1 B t v ∧ Boxed (w1.setCell ⟨B, 0, none⟩ v') B t v' ∧ (w1.setCell ⟨B, 0, none⟩ v').ownsRow n₀ e size v' m ys ∧ KeepsOthers W (w1.setCell ⟨B, 0, none⟩ v') ∧ Below n₀ W (w1.setCell ⟨B, 0, none⟩ v') := by
  have hv1 : Boxed w1 B t v := (hv.kept hX (by simp)).kept hgrow (hv.not_row hte hrow)
  refine ⟨hv1, hv1.set v', hown'.kept (grownBy_setCell' w1 B v') (.inr (hv1.not_row hte hown').symm), ?_, ?_⟩
  · refine ((KeepsOthers.of_grownBy hX (fun j o ej => by simp at ej)).trans (KeepsOthers.of_grownBy hgrow fun j o ej hj => ?_)).trans (KeepsOthers.setCell _ _ _)
    rcases (hrow.kept hX (by cases v.ownBlock <;> simp)).2 with ⟨rfl, _⟩ | ⟨g, cap, cur, rfl, _, hgb, _⟩
    · simp [Value.ownBlock] at ej
    · obtain rfl : g = j := by simpa [Value.ownBlock] using ej
      rw [hgb] at hj; cases hj; rfl
  · refine (((Below.refl n₀ W).grown hX hn₀ (fun j ej => by simp at ej)).grown hgrow (Nat.le_trans hn₀ hX.size) fun j ej => ?_).setCell (p := ⟨B, 0, none⟩) hB v'
    rcases hrow.2 with ⟨rfl, _⟩ | ⟨g, cap, cur, rfl, hb, _, _⟩
    · simp [Value.ownBlock] at ej
    · obtain rfl : g = j := by simpa [Value.ownBlock] using ej
      exact hb
theorem kpB_of {W W' : World} {B : Nat} {t : TypeId} {u : Value} (h : Boxed W B t u) (h' : Boxed W' B t u) : KpB B W W' := fun v hv => by
  rw [h.cell] at hv
  rw [h'.cell]
  exact hv

theorem boxed_own {β : Type} (B : Nat) (t : TypeId) (v : Value) : Own (fun (_ : β) W => Boxed W B t v) := by
  intro s X Y row hs hg hrow
  refine hs.kept hg (fun e' => ?_)
  obtain ⟨o, ho, hc⟩ := hrow B e'.symm
  rw [show X.heap[B]? = _ from hs] at ho; cases ho; cases hc
theorem may_lt (a : Int) (h0 : 0 ≤ a) (h1 : a ≤ 255) (hm : (bits .andNot .u8 a 63 == 0) = true) : a < 64 := by
  have h : ((List.range 256).all fun n => !(bits .andNot .u8 (n : Int) 63 == 0) || decide (n < 64)) = true := by decide +kernel
  rw [List.all_eq_true] at h
  have := h a.toNat (by simp; omega)
  rw [show ((a.toNat : Nat) : Int) = a by omega, hm] at this
  simp at this
  omega
theorem upto_facts : ((List.range 64).all fun n => (n == 0 || !(upto (n : Int) 6).isEmpty) && decide ((Lib.join ((upto (n : Int) 6).map fun k => (nameS k.val).data.toList) [43]).length ≤ 1000)) = true := by decide +kernel
theorem upto_at (a : Int) (h0 : 0 ≤ a) (h1 : a ≤ 255) (hm : (bits .andNot .u8 a 63 == 0) = true) : (a = 0 ∨ 0 < (upto a 6).length) ∧ (Lib.join ((upto a 6).map fun k => (nameS k.val).data.toList) [43]).length ≤ 1000 := by
  have hl := may_lt a h0 h1 hm
  have h := upto_facts
  rw [List.all_eq_true] at h
  have := h a.toNat (by simp; omega)
  rw [show ((a.toNat : Nat) : Int) = a by omega] at this
  simp only [Bool.and_eq_true, decide_eq_true_eq, Bool.or_eq_true, beq_iff_eq, Bool.not_eq_true', List.isEmpty_eq_false_iff] at this
  refine ⟨this.1.imp (by omega) (fun h => List.length_pos_iff.2 h), this.2⟩
theorem upto_ne (a : Int) (h0 : 0 ≤ a) (h1 : a ≤ 255) (hm : (bits .andNot .u8 a 63 == 0) = true) (hz : (a == 0) = false) : 0 < (upto a 6).length :=
  (upto_at a h0 h1 hm).1.resolve_left (by simpa using hz)
theorem join_len (a : Int) (h0 : 0 ≤ a) (h1 : a ≤ 255) (hm : (bits .andNot .u8 a 63 == 0) = true) : (Lib.join ((upto a 6).map fun k => (nameS k.val).data.toList) [43]).length ≤ 140737488355328 :=
  Nat.le_trans (upto_at a h0 h1 hm).2 (by omega)

theorem join_any (bk c n : Nat) (ks : List (Fin 6)) (hn : ks.length = n) (w : World) (hcells : ∀ (j : Nat) (x : ByteArray), (ks.map fun k => nameS k.val)[j]? = some x → w.cell? { block := bk, off := 0 + j } = some (Value.string x))
    (hbk : bk < w.heap.size) (h1 : n ≤ 6) (h2 : n ≤ c) (h3 : (Lib.join (ks.map fun k => (nameS k.val).data.toList) [43]).length ≤ 140737488355328) :
    Calls Try.prog 39 #[.slice (some ⟨bk, 0, none⟩) n c, .string ⟨#[43]⟩] w fun e w' => e = .returned (.string ⟨(Lib.join (ks.map fun k => nameL k.val) [43]).toArray⟩) ∧ Below w.heap.size w w' := by
  subst hn
  have := Try.strings_Join bk 0 c (ks.map fun k => nameS k.val) ⟨#[43]⟩ w hcells hbk (by simp; omega) (by simpa using h2) (by rw [List.map_map]; exact h3)
  rw [List.length_map, List.map_map] at this
  exact this

set_option maxRecDepth 100000 in
set_option maxHeartbeats 2000000 in
theorem text_loop (a : Int) (h0 : 0 ≤ a) (h1 : a ≤ 255) (hm : (bits .andNot .u8 a 63 == 0) = true) (hz : (a == 0) = false) (w : World) :
    CallsIn Fence.wide 10 Try.prog 13 #[.int .u8 a] w fun e w' => e = .returned (.tuple #[.string ⟨(Lib.join ((upto a 6).map fun k => nameL k.val) [43]).toArray⟩, .int .i64 0]) ∧ Below w.heap.size w w' := by
  obtain ⟨i0, hi, hz0, hz1, hz2⟩ := info_parts info55e
  refine callsIn_of_wp_marks Try.func13 rfl trivial ?_ rfl
  simp only [Try.ntmps13, List.size_toArray, List.length_cons, List.length_nil, Nat.reduceAdd, Nat.reduceSub, Array.replicate_succ, Array.replicate_zero, List.push_toArray, List.append_toArray, List.nil_append, List.cons_append]
  gi_wp2_with (first | (refine ⟨trivial, ?_⟩; gi_at_call 17; refine (callsIn_wide.2 (may_any _ _)).mono ?_; rintro e w' ⟨rfl, rfl⟩) | (refine ⟨trivial, ?_⟩; gi_at_call 37; refine (callsIn_wide.2 (each_any _ _)).mono ?_; rintro e w' ⟨rfl, rfl⟩))
  have bO := Boxed.new w 55 (.slice none 0 0)
  have bN := Boxed.new (w.alloc (.cells #[.slice none 0 0] 55)) 22 (.int .u8 a)
  rw [World.size_alloc] at bN
  have hB0 : Below w.heap.size w ((w.alloc (.cells #[.slice none 0 0] 55)).alloc (.cells #[.int .u8 a] 22)) := ((Below.refl _ w).alloc (Nat.le_refl _) _).alloc (by simp) _
  refine wpIn_rangeFunc_ownG rfl (by omega) (gf := 47) (lb := #[.pointer (some ⟨w.heap.size + 1, 0, none⟩)]) rfl trivial (enters_of Try.func47 (by kernel_rfl) rfl)
    (each_stops Fence.wide 9 trivial rfl (by omega) (w.heap.size + 1) a _ (by simp) bN.cell) KpB.t (fun W l o o' _ h hc _ => KpB.b W l o o' h hc) (Below.refl _ _) (fun _ => rfl)
    (fun pre W => (∃ v, Boxed W w.heap.size 55 v ∧ W.ownsRow w.heap.size 9 1 v pre.length (partsV pre)) ∧ Boxed W (w.heap.size + 1) 22 (.int .u8 a) ∧ Below w.heap.size w W)
    (fun _ _ _ => False)
    ?own (fun _ _ _ _ _ hs _ _ => hs)
    ⟨⟨_, bO.alloc _, World.ownsRow_nil _ _ _ _⟩, bN, hB0⟩
    (fun k => { tmps := #[Value.int IntKind.u8 a, undef, Value.string { data := #[] }, Value.int IntKind.i64 0,
          Value.pointer (some { block := w.heap.size, off := 0 }), .int .u8 (2 ^ k.val), undef, undef, Value.int IntKind.u8 a,
          Value.bool true, Value.bool false, Value.int IntKind.u8 a, Value.bool false, Value.int IntKind.u8 a,
          Value.func (Fn.func 47) #[] #[Value.pointer (some { block := w.heap.size + 1, off := 0 })], .int .u8 (2 ^ k.val), undef,
          undef, undef, undef, undef, undef, undef, undef, undef, undef, undef, undef, undef], defers := [] }) ?assign ?body ?done ?stop
  case own =>
    exact OwnFrom.and (Own.from (fun s X Y row hs hg hrow => by
        obtain ⟨v, h1, h2, _⟩ := holdsRow_own w.heap.size w.heap.size 55 9 1 (fun pre : List (Fin 6) => pre.length) partsV (fun _ _ => True) s X Y row (by obtain ⟨v, h1, h2⟩ := hs; exact ⟨v, h1, h2, trivial⟩) hg hrow
        exact ⟨v, h1, h2⟩) _) (OwnFrom.and (Own.from (boxed_own _ _ _) _) (ownFrom_below (Nat.le_refl _) (by simp; omega)))
  case assign =>
    intro l x W K hK
    simp only [enc6]
    gi_wp2
    exact hK
  case body =>
    rintro l pre x W ⟨⟨v, hv, hrow⟩, hN, hB⟩ hlt
    have hc := hv.cell
    have hf := hv.frozen
    obtain ⟨hp1, hp2⟩ := place_at x
    have Hp2 := Lib.hid hp2
    clear hp2
    have hq : 1 ≤ (2 : Int) ^ x.val ∧ (2 : Int) ^ x.val ≤ 32 := by
      have h : ∀ y : Fin 6, 1 ≤ (2 : Int) ^ y.val ∧ (2 : Int) ^ y.val ≤ 32 := by decide
      exact h x
    generalize (2 : Int) ^ x.val = p at *
    gi_wp2_with (refine ⟨trivial, ?_⟩; gi_at_call 15; refine (CallsIn.inRound l (callsIn_wide.2 (place_yes p (by omega) (by omega) hp1 _))).mono ?_; rintro e w' ⟨rfl, rfl⟩)
    have hidx : ∀ w : World, (Instr.index 56 (.agg #[.string (nameS 0), .string (nameS 1), .string (nameS 2), .string (nameS 3), .string (nameS 4), .string (nameS 5)]) (.int .i64 (placeB p))).run Try.prog w = .ok (.string (nameS x.val)) w := by
      rw [Hp2.out]
      intro w
      revert x; intro x; intros
      rcases x with ⟨x, hx⟩
      rcases (show x = 0 ∨ x = 1 ∨ x = 2 ∨ x = 3 ∨ x = 4 ∨ x = 5 by omega) with rfl | rfl | rfl | rfl | rfl | rfl <;> kernel_rfl
    have hlB := hv.lt
    have hcC : (W.alloc (.cells #[.string (nameS 0), .string (nameS 1), .string (nameS 2), .string (nameS 3), .string (nameS 4), .string (nameS 5)] 56)).cell? ⟨w.heap.size, 0, none⟩ = some v := (hv.alloc _).cell
    have hcS : ((W.alloc (.cells #[.string (nameS 0), .string (nameS 1), .string (nameS 2), .string (nameS 3), .string (nameS 4), .string (nameS 5)] 56)).alloc (.cells #[.string (nameS x.val)] 9)).cell? ⟨w.heap.size, 0, none⟩ = some v := ((hv.alloc _).alloc _).cell
    have hrowX : ((W.alloc (.cells #[.string (nameS 0), .string (nameS 1), .string (nameS 2), .string (nameS 3), .string (nameS 4), .string (nameS 5)] 56)).alloc (.cells #[.string (nameS x.val)] 9)).drew.ownsRow w.heap.size 9 1 v pre.length (partsV pre) := ((hrow.alloc _).alloc _).drew
    have hgX : W.grownBy ((W.alloc (.cells #[.string (nameS 0), .string (nameS 1), .string (nameS 2), .string (nameS 3), .string (nameS 4), .string (nameS 5)] 56)).alloc (.cells #[.string (nameS x.val)] 9)).drew none := ⟨rfl, rfl, rfl, by simp; omega, fun k hk _ => by
      have h1 := (World.grownBy_alloc W (.cells #[.string (nameS 0), .string (nameS 1), .string (nameS 2), .string (nameS 3), .string (nameS 4), .string (nameS 5)] 56) none).block k hk (by simp)
      have h2 := (World.grownBy_alloc (W.alloc (.cells #[.string (nameS 0), .string (nameS 1), .string (nameS 2), .string (nameS 3), .string (nameS 4), .string (nameS 5)] 56)) (.cells #[.string (nameS x.val)] 9) none).block k (by simp; omega) (by simp)
      exact h2.trans h1⟩
    have hnewX : ∀ (j : Nat) (u : Value), [Value.string (nameS x.val)][j]? = some u → ((W.alloc (.cells #[.string (nameS 0), .string (nameS 1), .string (nameS 2), .string (nameS 3), .string (nameS 4), .string (nameS 5)] 56)).alloc (.cells #[.string (nameS x.val)] 9)).drew.cell? ((⟨W.heap.size + 1, 0, none⟩ : Addr).add j) = some u := by
      have := cell_one_new (W.alloc (.cells #[.string (nameS 0), .string (nameS 1), .string (nameS 2), .string (nameS 3), .string (nameS 4), .string (nameS 5)] 56)) (.string (nameS x.val)) 9
      rw [World.size_alloc] at this
      exact this
    have hbaseX : w.heap.size ≤ ((W.alloc (.cells #[.string (nameS 0), .string (nameS 1), .string (nameS 2), .string (nameS 3), .string (nameS 4), .string (nameS 5)] 56)).alloc (.cells #[.string (nameS x.val)] 9)).drew.heap.size := by simp; omega
    refine wpIn_region_any (by kernel_rfl) ?_
    try (change wpAnyIn _ _ _ _ _ _ _ _ _ (World.drew _))
    refine wpAnyIn_ready (rs := [0, 1, 2]) (by kernel_rfl) (by simp) ?_
    refine AllReadyIn.cons rfl (fun K hK => ?_) ?_
    · go_simp
      refine hK _ _ ?_; clear hK K
      refine wpAnyIn_ready (rs := [1, 2]) (by kernel_rfl) (by simp) ?_
      refine AllReadyIn.cons rfl (fun K hK => ?_) ?_
      · go_simp
        refine ⟨trivial, (CallsIn.inRound l (callsIn_wide.2 (names_any _))).mono ?_⟩; rintro e w' ⟨rfl, rfl⟩
        dsimp only
        refine hK _ _ ?_; clear hK K
        refine wpAnyIn_ready (rs := [2]) (by kernel_rfl) (by simp) ?_
        refine AllReadyIn.cons rfl (fun K hK => ?_) ?_
        · go_simp
          refine hK _ _ ?_; clear hK K
          refine wpAnyIn_ready (rs := [3]) (by kernel_rfl) (by simp) ?_
          refine AllReadyIn.cons rfl (fun K hK => ?_) ?_
          · go_simp
            refine hK _ _ ?_; clear hK K
            refine wpAnyIn_ready (rs := [4]) (by kernel_rfl) (by simp) ?_
            refine AllReadyIn.cons rfl (fun K hK => ?_) ?_
            · go_simp
              refine hK _ _ ?_; clear hK K
              refine wpAnyIn_ready (rs := [5]) (by kernel_rfl) (by simp) ?_
              refine AllReadyIn.cons rfl (fun K hK => ?_) ?_
              · refine stepIn_append_own rfl _ _ 55 rfl w.heap.size 9 i0 (.string ⟨#[]⟩) 1 16 Try.underlying55 hi hz0 hz1 hz2 rfl (by decide) v pre.length (partsV pre) rfl hrowX ⟨W.heap.size + 1, 0, none⟩ 1 1 [.string (nameS x.val)] rfl rfl hnewX (by simp [Value.oneCell']) (by unfold maxLen; omega) (by omega) hbaseX ?_
                intro v' w1 hown' hgrow
                obtain ⟨g', cap', rfl⟩ := ownsRow_succ hown'
                obtain ⟨hv1, hv2, hr2, hk2, hb2⟩ := box_appended hgX hv (by decide) hrow hB.size (Nat.le_refl _) hown' hgrow
                have hc1 := hv1.cell
                have hf1 := hv1.frozen
                have hN1 := hN.kept hgX (by simp)
                have hN2 : Boxed w1 (w.heap.size + 1) 22 (.int .u8 a) := hN1.kept hgrow (hN.not_row (by decide) hrow)
                refine hK _ _ ?_; clear hK K
                refine wpAnyIn_ready (rs := [6]) (by kernel_rfl) (by simp) ?_
                refine AllReadyIn.cons rfl (fun K hK => ?_) ?_
                · go_simp
                  refine hK _ _ ?_; clear hK K
                  refine wpAnyIn_done (by kernel_rfl) ?_ _
                  have hN3 := hN2.kept (grownBy_setCell' w1 w.heap.size (.slice (some ⟨g', 0, none⟩) (pre.length + 1) cap')) (by simp)
                  exact ⟨hk2.from _, kpB_of hN hN3, ⟨_, hv2, by simpa [partsV] using hr2⟩, hN3, hB.trans hb2⟩
                exact AllReadyIn.nil
              exact AllReadyIn.nil
            exact AllReadyIn.nil
          exact AllReadyIn.nil
        exact AllReadyIn.nil
      refine AllReadyIn.cons rfl (fun K hK => ?_) ?_
      · go_simp
        refine hK _ _ ?_; clear hK K
        refine wpAnyIn_ready (rs := [1]) (by kernel_rfl) (by simp) ?_
        refine AllReadyIn.cons rfl (fun K hK => ?_) ?_
        · go_simp
          refine ⟨trivial, (CallsIn.inRound l (callsIn_wide.2 (names_any _))).mono ?_⟩; rintro e w' ⟨rfl, rfl⟩
          dsimp only
          refine hK _ _ ?_; clear hK K
          refine wpAnyIn_ready (rs := [3]) (by kernel_rfl) (by simp) ?_
          refine AllReadyIn.cons rfl (fun K hK => ?_) ?_
          · go_simp
            refine hK _ _ ?_; clear hK K
            refine wpAnyIn_ready (rs := [4]) (by kernel_rfl) (by simp) ?_
            refine AllReadyIn.cons rfl (fun K hK => ?_) ?_
            · go_simp
              refine hK _ _ ?_; clear hK K
              refine wpAnyIn_ready (rs := [5]) (by kernel_rfl) (by simp) ?_
              refine AllReadyIn.cons rfl (fun K hK => ?_) ?_
              · refine stepIn_append_own rfl _ _ 55 rfl w.heap.size 9 i0 (.string ⟨#[]⟩) 1 16 Try.underlying55 hi hz0 hz1 hz2 rfl (by decide) v pre.length (partsV pre) rfl hrowX ⟨W.heap.size + 1, 0, none⟩ 1 1 [.string (nameS x.val)] rfl rfl hnewX (by simp [Value.oneCell']) (by unfold maxLen; omega) (by omega) hbaseX ?_
                intro v' w1 hown' hgrow
                obtain ⟨g', cap', rfl⟩ := ownsRow_succ hown'
                obtain ⟨hv1, hv2, hr2, hk2, hb2⟩ := box_appended hgX hv (by decide) hrow hB.size (Nat.le_refl _) hown' hgrow
                have hc1 := hv1.cell
                have hf1 := hv1.frozen
                have hN1 := hN.kept hgX (by simp)
                have hN2 : Boxed w1 (w.heap.size + 1) 22 (.int .u8 a) := hN1.kept hgrow (hN.not_row (by decide) hrow)
                refine hK _ _ ?_; clear hK K
                refine wpAnyIn_ready (rs := [6]) (by kernel_rfl) (by simp) ?_
                refine AllReadyIn.cons rfl (fun K hK => ?_) ?_
                · go_simp
                  refine hK _ _ ?_; clear hK K
                  refine wpAnyIn_done (by kernel_rfl) ?_ _
                  have hN3 := hN2.kept (grownBy_setCell' w1 w.heap.size (.slice (some ⟨g', 0, none⟩) (pre.length + 1) cap')) (by simp)
                  exact ⟨hk2.from _, kpB_of hN hN3, ⟨_, hv2, by simpa [partsV] using hr2⟩, hN3, hB.trans hb2⟩
                exact AllReadyIn.nil
              exact AllReadyIn.nil
            exact AllReadyIn.nil
          exact AllReadyIn.nil
        exact AllReadyIn.nil
      exact AllReadyIn.nil
    refine AllReadyIn.cons rfl (fun K hK => ?_) ?_
    · go_simp
      refine ⟨trivial, (CallsIn.inRound l (callsIn_wide.2 (names_any _))).mono ?_⟩; rintro e w' ⟨rfl, rfl⟩
      dsimp only
      refine hK _ _ ?_; clear hK K
      refine wpAnyIn_ready (rs := [0, 2]) (by kernel_rfl) (by simp) ?_
      refine AllReadyIn.cons rfl (fun K hK => ?_) ?_
      · go_simp
        refine hK _ _ ?_; clear hK K
        refine wpAnyIn_ready (rs := [2]) (by kernel_rfl) (by simp) ?_
        refine AllReadyIn.cons rfl (fun K hK => ?_) ?_
        · go_simp
          refine hK _ _ ?_; clear hK K
          refine wpAnyIn_ready (rs := [3]) (by kernel_rfl) (by simp) ?_
          refine AllReadyIn.cons rfl (fun K hK => ?_) ?_
          · go_simp
            refine hK _ _ ?_; clear hK K
            refine wpAnyIn_ready (rs := [4]) (by kernel_rfl) (by simp) ?_
            refine AllReadyIn.cons rfl (fun K hK => ?_) ?_
            · go_simp
              refine hK _ _ ?_; clear hK K
              refine wpAnyIn_ready (rs := [5]) (by kernel_rfl) (by simp) ?_
              refine AllReadyIn.cons rfl (fun K hK => ?_) ?_
              · refine stepIn_append_own rfl _ _ 55 rfl w.heap.size 9 i0 (.string ⟨#[]⟩) 1 16 Try.underlying55 hi hz0 hz1 hz2 rfl (by decide) v pre.length (partsV pre) rfl hrowX ⟨W.heap.size + 1, 0, none⟩ 1 1 [.string (nameS x.val)] rfl rfl hnewX (by simp [Value.oneCell']) (by unfold maxLen; omega) (by omega) hbaseX ?_
                intro v' w1 hown' hgrow
                obtain ⟨g', cap', rfl⟩ := ownsRow_succ hown'
                obtain ⟨hv1, hv2, hr2, hk2, hb2⟩ := box_appended hgX hv (by decide) hrow hB.size (Nat.le_refl _) hown' hgrow
                have hc1 := hv1.cell
                have hf1 := hv1.frozen
                have hN1 := hN.kept hgX (by simp)
                have hN2 : Boxed w1 (w.heap.size + 1) 22 (.int .u8 a) := hN1.kept hgrow (hN.not_row (by decide) hrow)
                refine hK _ _ ?_; clear hK K
                refine wpAnyIn_ready (rs := [6]) (by kernel_rfl) (by simp) ?_
                refine AllReadyIn.cons rfl (fun K hK => ?_) ?_
                · go_simp
                  refine hK _ _ ?_; clear hK K
                  refine wpAnyIn_done (by kernel_rfl) ?_ _
                  have hN3 := hN2.kept (grownBy_setCell' w1 w.heap.size (.slice (some ⟨g', 0, none⟩) (pre.length + 1) cap')) (by simp)
                  exact ⟨hk2.from _, kpB_of hN hN3, ⟨_, hv2, by simpa [partsV] using hr2⟩, hN3, hB.trans hb2⟩
                exact AllReadyIn.nil
              exact AllReadyIn.nil
            exact AllReadyIn.nil
          exact AllReadyIn.nil
        exact AllReadyIn.nil
      refine AllReadyIn.cons rfl (fun K hK => ?_) ?_
      · go_simp
        refine hK _ _ ?_; clear hK K
        refine wpAnyIn_ready (rs := [0, 3]) (by kernel_rfl) (by simp) ?_
        refine AllReadyIn.cons rfl (fun K hK => ?_) ?_
        · go_simp
          refine hK _ _ ?_; clear hK K
          refine wpAnyIn_ready (rs := [3]) (by kernel_rfl) (by simp) ?_
          refine AllReadyIn.cons rfl (fun K hK => ?_) ?_
          · go_simp
            refine hK _ _ ?_; clear hK K
            refine wpAnyIn_ready (rs := [4]) (by kernel_rfl) (by simp) ?_
            refine AllReadyIn.cons rfl (fun K hK => ?_) ?_
            · go_simp
              refine hK _ _ ?_; clear hK K
              refine wpAnyIn_ready (rs := [5]) (by kernel_rfl) (by simp) ?_
              refine AllReadyIn.cons rfl (fun K hK => ?_) ?_
              · refine stepIn_append_own rfl _ _ 55 rfl w.heap.size 9 i0 (.string ⟨#[]⟩) 1 16 Try.underlying55 hi hz0 hz1 hz2 rfl (by decide) v pre.length (partsV pre) rfl hrowX ⟨W.heap.size + 1, 0, none⟩ 1 1 [.string (nameS x.val)] rfl rfl hnewX (by simp [Value.oneCell']) (by unfold maxLen; omega) (by omega) hbaseX ?_
                intro v' w1 hown' hgrow
                obtain ⟨g', cap', rfl⟩ := ownsRow_succ hown'
                obtain ⟨hv1, hv2, hr2, hk2, hb2⟩ := box_appended hgX hv (by decide) hrow hB.size (Nat.le_refl _) hown' hgrow
                have hc1 := hv1.cell
                have hf1 := hv1.frozen
                have hN1 := hN.kept hgX (by simp)
                have hN2 : Boxed w1 (w.heap.size + 1) 22 (.int .u8 a) := hN1.kept hgrow (hN.not_row (by decide) hrow)
                refine hK _ _ ?_; clear hK K
                refine wpAnyIn_ready (rs := [6]) (by kernel_rfl) (by simp) ?_
                refine AllReadyIn.cons rfl (fun K hK => ?_) ?_
                · go_simp
                  refine hK _ _ ?_; clear hK K
                  refine wpAnyIn_done (by kernel_rfl) ?_ _
                  have hN3 := hN2.kept (grownBy_setCell' w1 w.heap.size (.slice (some ⟨g', 0, none⟩) (pre.length + 1) cap')) (by simp)
                  exact ⟨hk2.from _, kpB_of hN hN3, ⟨_, hv2, by simpa [partsV] using hr2⟩, hN3, hB.trans hb2⟩
                exact AllReadyIn.nil
              exact AllReadyIn.nil
            exact AllReadyIn.nil
          exact AllReadyIn.nil
        refine AllReadyIn.cons rfl (fun K hK => ?_) ?_
        · go_simp
          refine hK _ _ ?_; clear hK K
          refine wpAnyIn_ready (rs := [0, 4]) (by kernel_rfl) (by simp) ?_
          refine AllReadyIn.cons rfl (fun K hK => ?_) ?_
          · go_simp
            refine hK _ _ ?_; clear hK K
            refine wpAnyIn_ready (rs := [4]) (by kernel_rfl) (by simp) ?_
            refine AllReadyIn.cons rfl (fun K hK => ?_) ?_
            · go_simp
              refine hK _ _ ?_; clear hK K
              refine wpAnyIn_ready (rs := [5]) (by kernel_rfl) (by simp) ?_
              refine AllReadyIn.cons rfl (fun K hK => ?_) ?_
              · refine stepIn_append_own rfl _ _ 55 rfl w.heap.size 9 i0 (.string ⟨#[]⟩) 1 16 Try.underlying55 hi hz0 hz1 hz2 rfl (by decide) v pre.length (partsV pre) rfl hrowX ⟨W.heap.size + 1, 0, none⟩ 1 1 [.string (nameS x.val)] rfl rfl hnewX (by simp [Value.oneCell']) (by unfold maxLen; omega) (by omega) hbaseX ?_
                intro v' w1 hown' hgrow
                obtain ⟨g', cap', rfl⟩ := ownsRow_succ hown'
                obtain ⟨hv1, hv2, hr2, hk2, hb2⟩ := box_appended hgX hv (by decide) hrow hB.size (Nat.le_refl _) hown' hgrow
                have hc1 := hv1.cell
                have hf1 := hv1.frozen
                have hN1 := hN.kept hgX (by simp)
                have hN2 : Boxed w1 (w.heap.size + 1) 22 (.int .u8 a) := hN1.kept hgrow (hN.not_row (by decide) hrow)
                refine hK _ _ ?_; clear hK K
                refine wpAnyIn_ready (rs := [6]) (by kernel_rfl) (by simp) ?_
                refine AllReadyIn.cons rfl (fun K hK => ?_) ?_
                · go_simp
                  refine hK _ _ ?_; clear hK K
                  refine wpAnyIn_done (by kernel_rfl) ?_ _
                  have hN3 := hN2.kept (grownBy_setCell' w1 w.heap.size (.slice (some ⟨g', 0, none⟩) (pre.length + 1) cap')) (by simp)
                  exact ⟨hk2.from _, kpB_of hN hN3, ⟨_, hv2, by simpa [partsV] using hr2⟩, hN3, hB.trans hb2⟩
                exact AllReadyIn.nil
              exact AllReadyIn.nil
            exact AllReadyIn.nil
          refine AllReadyIn.cons rfl (fun K hK => ?_) ?_
          · go_simp
            refine hK _ _ ?_; clear hK K
            refine wpAnyIn_ready (rs := [0]) (by kernel_rfl) (by simp) ?_
            refine AllReadyIn.cons rfl (fun K hK => ?_) ?_
            · go_simp
              refine hK _ _ ?_; clear hK K
              refine wpAnyIn_ready (rs := [5]) (by kernel_rfl) (by simp) ?_
              refine AllReadyIn.cons rfl (fun K hK => ?_) ?_
              · refine stepIn_append_own rfl _ _ 55 rfl w.heap.size 9 i0 (.string ⟨#[]⟩) 1 16 Try.underlying55 hi hz0 hz1 hz2 rfl (by decide) v pre.length (partsV pre) rfl hrowX ⟨W.heap.size + 1, 0, none⟩ 1 1 [.string (nameS x.val)] rfl rfl hnewX (by simp [Value.oneCell']) (by unfold maxLen; omega) (by omega) hbaseX ?_
                intro v' w1 hown' hgrow
                obtain ⟨g', cap', rfl⟩ := ownsRow_succ hown'
                obtain ⟨hv1, hv2, hr2, hk2, hb2⟩ := box_appended hgX hv (by decide) hrow hB.size (Nat.le_refl _) hown' hgrow
                have hc1 := hv1.cell
                have hf1 := hv1.frozen
                have hN1 := hN.kept hgX (by simp)
                have hN2 : Boxed w1 (w.heap.size + 1) 22 (.int .u8 a) := hN1.kept hgrow (hN.not_row (by decide) hrow)
                refine hK _ _ ?_; clear hK K
                refine wpAnyIn_ready (rs := [6]) (by kernel_rfl) (by simp) ?_
                refine AllReadyIn.cons rfl (fun K hK => ?_) ?_
                · go_simp
                  refine hK _ _ ?_; clear hK K
                  refine wpAnyIn_done (by kernel_rfl) ?_ _
                  have hN3 := hN2.kept (grownBy_setCell' w1 w.heap.size (.slice (some ⟨g', 0, none⟩) (pre.length + 1) cap')) (by simp)
                  exact ⟨hk2.from _, kpB_of hN hN3, ⟨_, hv2, by simpa [partsV] using hr2⟩, hN3, hB.trans hb2⟩
                exact AllReadyIn.nil
              exact AllReadyIn.nil
            exact AllReadyIn.nil
          exact AllReadyIn.nil
        exact AllReadyIn.nil
      exact AllReadyIn.nil
    refine AllReadyIn.cons rfl (fun K hK => ?_) ?_
    · go_simp
      refine hK _ _ ?_; clear hK K
      refine wpAnyIn_ready (rs := [0, 1]) (by kernel_rfl) (by simp) ?_
      refine AllReadyIn.cons rfl (fun K hK => ?_) ?_
      · go_simp
        refine hK _ _ ?_; clear hK K
        refine wpAnyIn_ready (rs := [1]) (by kernel_rfl) (by simp) ?_
        refine AllReadyIn.cons rfl (fun K hK => ?_) ?_
        · go_simp
          refine ⟨trivial, (CallsIn.inRound l (callsIn_wide.2 (names_any _))).mono ?_⟩; rintro e w' ⟨rfl, rfl⟩
          dsimp only
          refine hK _ _ ?_; clear hK K
          refine wpAnyIn_ready (rs := [3]) (by kernel_rfl) (by simp) ?_
          refine AllReadyIn.cons rfl (fun K hK => ?_) ?_
          · go_simp
            refine hK _ _ ?_; clear hK K
            refine wpAnyIn_ready (rs := [4]) (by kernel_rfl) (by simp) ?_
            refine AllReadyIn.cons rfl (fun K hK => ?_) ?_
            · go_simp
              refine hK _ _ ?_; clear hK K
              refine wpAnyIn_ready (rs := [5]) (by kernel_rfl) (by simp) ?_
              refine AllReadyIn.cons rfl (fun K hK => ?_) ?_
              · refine stepIn_append_own rfl _ _ 55 rfl w.heap.size 9 i0 (.string ⟨#[]⟩) 1 16 Try.underlying55 hi hz0 hz1 hz2 rfl (by decide) v pre.length (partsV pre) rfl hrowX ⟨W.heap.size + 1, 0, none⟩ 1 1 [.string (nameS x.val)] rfl rfl hnewX (by simp [Value.oneCell']) (by unfold maxLen; omega) (by omega) hbaseX ?_
                intro v' w1 hown' hgrow
                obtain ⟨g', cap', rfl⟩ := ownsRow_succ hown'
                obtain ⟨hv1, hv2, hr2, hk2, hb2⟩ := box_appended hgX hv (by decide) hrow hB.size (Nat.le_refl _) hown' hgrow
                have hc1 := hv1.cell
                have hf1 := hv1.frozen
                have hN1 := hN.kept hgX (by simp)
                have hN2 : Boxed w1 (w.heap.size + 1) 22 (.int .u8 a) := hN1.kept hgrow (hN.not_row (by decide) hrow)
                refine hK _ _ ?_; clear hK K
                refine wpAnyIn_ready (rs := [6]) (by kernel_rfl) (by simp) ?_
                refine AllReadyIn.cons rfl (fun K hK => ?_) ?_
                · go_simp
                  refine hK _ _ ?_; clear hK K
                  refine wpAnyIn_done (by kernel_rfl) ?_ _
                  have hN3 := hN2.kept (grownBy_setCell' w1 w.heap.size (.slice (some ⟨g', 0, none⟩) (pre.length + 1) cap')) (by simp)
                  exact ⟨hk2.from _, kpB_of hN hN3, ⟨_, hv2, by simpa [partsV] using hr2⟩, hN3, hB.trans hb2⟩
                exact AllReadyIn.nil
              exact AllReadyIn.nil
            exact AllReadyIn.nil
          exact AllReadyIn.nil
        exact AllReadyIn.nil
      refine AllReadyIn.cons rfl (fun K hK => ?_) ?_
      · go_simp
        refine ⟨trivial, (CallsIn.inRound l (callsIn_wide.2 (names_any _))).mono ?_⟩; rintro e w' ⟨rfl, rfl⟩
        dsimp only
        refine hK _ _ ?_; clear hK K
        refine wpAnyIn_ready (rs := [0, 3]) (by kernel_rfl) (by simp) ?_
        refine AllReadyIn.cons rfl (fun K hK => ?_) ?_
        · go_simp
          refine hK _ _ ?_; clear hK K
          refine wpAnyIn_ready (rs := [3]) (by kernel_rfl) (by simp) ?_
          refine AllReadyIn.cons rfl (fun K hK => ?_) ?_
          · go_simp
            refine hK _ _ ?_; clear hK K
            refine wpAnyIn_ready (rs := [4]) (by kernel_rfl) (by simp) ?_
            refine AllReadyIn.cons rfl (fun K hK => ?_) ?_
            · go_simp
              refine hK _ _ ?_; clear hK K
              refine wpAnyIn_ready (rs := [5]) (by kernel_rfl) (by simp) ?_
              refine AllReadyIn.cons rfl (fun K hK => ?_) ?_
              · refine stepIn_append_own rfl _ _ 55 rfl w.heap.size 9 i0 (.string ⟨#[]⟩) 1 16 Try.underlying55 hi hz0 hz1 hz2 rfl (by decide) v pre.length (partsV pre) rfl hrowX ⟨W.heap.size + 1, 0, none⟩ 1 1 [.string (nameS x.val)] rfl rfl hnewX (by simp [Value.oneCell']) (by unfold maxLen; omega) (by omega) hbaseX ?_
                intro v' w1 hown' hgrow
                obtain ⟨g', cap', rfl⟩ := ownsRow_succ hown'
                obtain ⟨hv1, hv2, hr2, hk2, hb2⟩ := box_appended hgX hv (by decide) hrow hB.size (Nat.le_refl _) hown' hgrow
                have hc1 := hv1.cell
                have hf1 := hv1.frozen
                have hN1 := hN.kept hgX (by simp)
                have hN2 : Boxed w1 (w.heap.size + 1) 22 (.int .u8 a) := hN1.kept hgrow (hN.not_row (by decide) hrow)
                refine hK _ _ ?_; clear hK K
                refine wpAnyIn_ready (rs := [6]) (by kernel_rfl) (by simp) ?_
                refine AllReadyIn.cons rfl (fun K hK => ?_) ?_
                · go_simp
                  refine hK _ _ ?_; clear hK K
                  refine wpAnyIn_done (by kernel_rfl) ?_ _
                  have hN3 := hN2.kept (grownBy_setCell' w1 w.heap.size (.slice (some ⟨g', 0, none⟩) (pre.length + 1) cap')) (by simp)
                  exact ⟨hk2.from _, kpB_of hN hN3, ⟨_, hv2, by simpa [partsV] using hr2⟩, hN3, hB.trans hb2⟩
                exact AllReadyIn.nil
              exact AllReadyIn.nil
            exact AllReadyIn.nil
          exact AllReadyIn.nil
        refine AllReadyIn.cons rfl (fun K hK => ?_) ?_
        · go_simp
          refine hK _ _ ?_; clear hK K
          refine wpAnyIn_ready (rs := [0, 4]) (by kernel_rfl) (by simp) ?_
          refine AllReadyIn.cons rfl (fun K hK => ?_) ?_
          · go_simp
            refine hK _ _ ?_; clear hK K
            refine wpAnyIn_ready (rs := [4]) (by kernel_rfl) (by simp) ?_
            refine AllReadyIn.cons rfl (fun K hK => ?_) ?_
            · go_simp
              refine hK _ _ ?_; clear hK K
              refine wpAnyIn_ready (rs := [5]) (by kernel_rfl) (by simp) ?_
              refine AllReadyIn.cons rfl (fun K hK => ?_) ?_
              · refine stepIn_append_own rfl _ _ 55 rfl w.heap.size 9 i0 (.string ⟨#[]⟩) 1 16 Try.underlying55 hi hz0 hz1 hz2 rfl (by decide) v pre.length (partsV pre) rfl hrowX ⟨W.heap.size + 1, 0, none⟩ 1 1 [.string (nameS x.val)] rfl rfl hnewX (by simp [Value.oneCell']) (by unfold maxLen; omega) (by omega) hbaseX ?_
                intro v' w1 hown' hgrow
                obtain ⟨g', cap', rfl⟩ := ownsRow_succ hown'
                obtain ⟨hv1, hv2, hr2, hk2, hb2⟩ := box_appended hgX hv (by decide) hrow hB.size (Nat.le_refl _) hown' hgrow
                have hc1 := hv1.cell
                have hf1 := hv1.frozen
                have hN1 := hN.kept hgX (by simp)
                have hN2 : Boxed w1 (w.heap.size + 1) 22 (.int .u8 a) := hN1.kept hgrow (hN.not_row (by decide) hrow)
                refine hK _ _ ?_; clear hK K
                refine wpAnyIn_ready (rs := [6]) (by kernel_rfl) (by simp) ?_
                refine AllReadyIn.cons rfl (fun K hK => ?_) ?_
                · go_simp
                  refine hK _ _ ?_; clear hK K
                  refine wpAnyIn_done (by kernel_rfl) ?_ _
                  have hN3 := hN2.kept (grownBy_setCell' w1 w.heap.size (.slice (some ⟨g', 0, none⟩) (pre.length + 1) cap')) (by simp)
                  exact ⟨hk2.from _, kpB_of hN hN3, ⟨_, hv2, by simpa [partsV] using hr2⟩, hN3, hB.trans hb2⟩
                exact AllReadyIn.nil
              exact AllReadyIn.nil
            exact AllReadyIn.nil
          refine AllReadyIn.cons rfl (fun K hK => ?_) ?_
          · go_simp
            refine hK _ _ ?_; clear hK K
            refine wpAnyIn_ready (rs := [0]) (by kernel_rfl) (by simp) ?_
            refine AllReadyIn.cons rfl (fun K hK => ?_) ?_
            · go_simp
              refine hK _ _ ?_; clear hK K
              refine wpAnyIn_ready (rs := [5]) (by kernel_rfl) (by simp) ?_
              refine AllReadyIn.cons rfl (fun K hK => ?_) ?_
              · refine stepIn_append_own rfl _ _ 55 rfl w.heap.size 9 i0 (.string ⟨#[]⟩) 1 16 Try.underlying55 hi hz0 hz1 hz2 rfl (by decide) v pre.length (partsV pre) rfl hrowX ⟨W.heap.size + 1, 0, none⟩ 1 1 [.string (nameS x.val)] rfl rfl hnewX (by simp [Value.oneCell']) (by unfold maxLen; omega) (by omega) hbaseX ?_
                intro v' w1 hown' hgrow
                obtain ⟨g', cap', rfl⟩ := ownsRow_succ hown'
                obtain ⟨hv1, hv2, hr2, hk2, hb2⟩ := box_appended hgX hv (by decide) hrow hB.size (Nat.le_refl _) hown' hgrow
                have hc1 := hv1.cell
                have hf1 := hv1.frozen
                have hN1 := hN.kept hgX (by simp)
                have hN2 : Boxed w1 (w.heap.size + 1) 22 (.int .u8 a) := hN1.kept hgrow (hN.not_row (by decide) hrow)
                refine hK _ _ ?_; clear hK K
                refine wpAnyIn_ready (rs := [6]) (by kernel_rfl) (by simp) ?_
                refine AllReadyIn.cons rfl (fun K hK => ?_) ?_
                · go_simp
                  refine hK _ _ ?_; clear hK K
                  refine wpAnyIn_done (by kernel_rfl) ?_ _
                  have hN3 := hN2.kept (grownBy_setCell' w1 w.heap.size (.slice (some ⟨g', 0, none⟩) (pre.length + 1) cap')) (by simp)
                  exact ⟨hk2.from _, kpB_of hN hN3, ⟨_, hv2, by simpa [partsV] using hr2⟩, hN3, hB.trans hb2⟩
                exact AllReadyIn.nil
              exact AllReadyIn.nil
            exact AllReadyIn.nil
          exact AllReadyIn.nil
        exact AllReadyIn.nil
      exact AllReadyIn.nil
    exact AllReadyIn.nil
  case done =>
    rintro D ys W hD rfl ⟨⟨v, hv, hrow⟩, hN, hB⟩ hK
    have hc := hv.cell
    have hne := upto_ne a h0 h1 hm hz
    obtain ⟨g, cap, rfl, hgb, hglt, hcap⟩ : ∃ g cap, v = .slice (some ⟨g, 0, none⟩) (upto a 6).length cap ∧ w.heap.size ≤ g ∧ g < W.heap.size ∧ (upto a 6).length ≤ cap := by
      rcases hrow.2 with ⟨_, h⟩ | ⟨g', cap', cur, h, hb, hg, hcp, _⟩
      · omega
      · exact ⟨g', cap', h, hb, (Array.getElem?_eq_some_iff.1 hg).1, hcp⟩
    have hcells : ∀ (j : Nat) (x : ByteArray), ((upto a 6).map fun k => nameS k.val)[j]? = some x → W.cell? { block := g, off := 0 + j } = some (Value.string x) := by
      intro j x hx
      rw [Nat.zero_add]
      obtain ⟨hj, hx'⟩ := List.getElem?_eq_some_iff.1 hx
      rw [hrow.cellAt j (by simpa using hj)]
      simp only [List.length_map] at hj
      simp only [List.getElem_map] at hx'
      simp [partsV, hj, hx']
    have hl6 := upto_len a 6 (by omega)
    have hjl := join_len a h0 h1 hm
    gi_wp2_with (refine ⟨trivial, ?_⟩; gi_at_call 39; ((with_reducible refine (callsIn_wide.2 (join_any g cap (upto a 6).length (upto a 6) rfl _ hcells hglt hl6 hcap hjl)).mono ?_); rintro e w' ⟨rfl, hb'⟩))
    have hK' : w'.heap[D]? = some (.deferred (some [])) := (hb'.block D (Array.getElem?_eq_some_iff.1 hK).1).trans hK
    refine ⟨by simp, .inl ⟨_, _, rfl, run_takeDeferred hK', ?_⟩⟩
    exact ⟨_, results_tmp2 rfl _ _ _, rfl, (hB.trans (hb'.mono hB.size)).trans (belowK_b (w := w) (Nat.le_refl _) w' D _ _ (by simp at hD; omega) hK' rfl rfl)⟩
  case stop =>
    rintro D c pre W _ _ h _
    exact h.elim

/-- The text of a set that may be. -/
def textL (a : Int) : List UInt8 := if a == 0 then [45] else Lib.join ((upto a 6).map fun k => nameL k.val) [43]
def textS (a : Int) : ByteArray := ⟨(textL a).toArray⟩
theorem text_yes (a : Int) (h0 : 0 ≤ a) (h1 : a ≤ 255) (hm : (bits .andNot .u8 a 63 == 0) = true) (w : World) :
    Calls Try.prog 13 #[.int .u8 a] w fun e w' => e = .returned (.tuple #[.string (textS a), .int .i64 0]) ∧ Below w.heap.size w w' := by
  by_cases hz : a = 0
  · subst hz
    go_enter Try.func13, Try.ntmps13
    go_wp2_with (go_at_call 17; refine (may_any _ _).mono ?_; rintro e w' ⟨rfl, rfl⟩)
    go_ret2
    exact ⟨rfl, Below.refl _ _⟩
  · have hz1 : (a == 0) = false := by simpa using hz
    have h := callsIn_wide.1 (text_loop a h0 h1 hm hz1 w)
    have he : textS a = ⟨(Lib.join ((upto a 6).map fun k => nameL k.val) [43]).toArray⟩ := by
      unfold textS textL; rw [if_neg (by simpa using hz)]
    rw [he]
    exact h
theorem text_no (a : Int) (hm : (bits .andNot .u8 a 63 == 0) = false) (w : World) :
    Calls Try.prog 13 #[.int .u8 a] w fun e w' => e = .returned (.tuple #[.string ⟨#[]⟩, .int .i64 2]) ∧ w = w' := by
  go_enter Try.func13, Try.ntmps13
  go_wp2_with (go_at_call 17; refine (may_any _ _).mono ?_; rintro e w' ⟨rfl, rfl⟩)
  go_ret2
  exact ⟨rfl, rfl⟩
end Go.Proofs.Ytbdbhacniejagaa
