/- What a walk carries over its calls; calls that are refused. -/
import Derived.Test.YtifnmehpkelifaaDoorLent
namespace Go.Proofs.YtifnmehpkelifaaDoor
open Go.RowKit SeedP
structure K (w0 w : World) (g : Nat) (key : Int) : Prop where
  st : St w
  cell : w.cell? ⟨g, 0, none⟩ = some (.int .u64 key)
  bel : Below w0.heap.size w0 w
theorem K.lt {w0 w : World} {g : Nat} {key : Int} (h : K w0 w g key) : g < w.heap.size := World.block_lt_of_cell? w ⟨g, 0, none⟩ h.cell
theorem K.start {w0 w : World} {key : Int} (hb : Below w0.heap.size w0 w) (hs : St w) : K w0 (w.alloc (.cells #[.int .u64 key] 31)) w.heap.size key :=
  ⟨hs.alloc _, by simp [go_sem], hb.alloc hb.size _⟩
theorem K.step {w0 w w' : World} {g : Nat} {key : Int} (h : K w0 w g key) (hb : Below w.heap.size w w') : K w0 w' g key :=
  ⟨h.st.below hb h.st.pos, keep_cell hb h.cell, h.bel.trans (hb.mono h.bel.size)⟩
theorem below_alloc (w : World) (o : Obj) : Below w.heap.size w (w.alloc o) := (Below.refl _ _).alloc (Nat.le_refl _) _
theorem K.alloc {w0 w : World} {g : Nat} {key : Int} (h : K w0 w g key) (o : Obj) : K w0 (w.alloc o) g key := h.step (below_alloc w o)
theorem below_stepA {w w' : World} {o : Obj} (hb : Below (w.alloc o).heap.size (w.alloc o) w') : Below w.heap.size w w' := (below_alloc w o).trans (hb.mono (by simp))
theorem K.stepA {w0 w w' : World} {g : Nat} {key : Int} {o : Obj} (h : K w0 w g key) (hb : Below (w.alloc o).heap.size (w.alloc o) w') : K w0 w' g key := h.step (below_stepA hb)
theorem K.drewN {w0 w : World} {g : Nat} {key : Int} (h : K w0 w g key) (n : Nat) : K w0 (w.drewN n) g key := ⟨h.st.below (below_drewN (Below.refl _ w) n) h.st.pos, h.cell, below_drewN h.bel n⟩
theorem Rd.nil {w : World} {v : Value} {k : IntKind} (h : Rd w v (ints k [])) : ∃ a c, v = .slice a 0 c := by
  obtain ⟨a, c, rfl, _⟩ := h.open_ints; exact ⟨a, c, rfl⟩
theorem word_bad_c (key i : Int) (w : World) (hs : St w) (h : i < 0 ∨ 1099511627776 ≤ i) :
    Calls Tryd.prog 18 #[.agg #[.int .u64 key], .int .i64 i] w fun e w' => e = .returned (.tuple #[.int .u64 0, .int .i64 2]) ∧ Below w.heap.size w w' := by
  have := Word_c key i w hs
  rwa [wordR_no key i h] at this
theorem below_bad_c (key i n : Int) (w : World) (hs : St w) (h : i < 0 ∨ 1099511627776 < i ∨ n < 1) (i0 : -9223372036854775808 ≤ i) (i1 : i ≤ 9223372036854775807) (n1 : n ≤ 9223372036854775807) :
    Calls Tryd.prog 17 #[.agg #[.int .u64 key], .int .i64 i, .int .i64 n] w fun e w' => e = .returned (.tuple #[.int .i64 0, .int .i64 0, .int .i64 2]) ∧ Below w.heap.size w w' := by
  have := below_c key i n w hs i0 i1 n1
  rwa [belowP_bad _ i n h] at this
theorem perm_bad_c (key i n : Int) (w : World) (hs : St w) (h : i < 0 ∨ 1099511627776 < i ∨ n < 0 ∨ 1000 < n) (i0 : -9223372036854775808 ≤ i) (i1 : i ≤ 9223372036854775807) :
    Calls Tryd.prog 19 #[.agg #[.int .u64 key], .int .i64 i, .int .i64 n] w fun e w' => (∃ a c, e = .returned (.tuple #[.slice a 0 c, .int .i64 0, .int .i64 2])) ∧ Below w.heap.size w w' := by
  have := perm_c key i n w hs i0 i1
  rw [show permP (wordI key) i n = ([], 0, 2) by unfold permP; rw [if_pos h]] at this
  exact this.mono fun e w' ⟨v, he, hr, hb⟩ => by obtain ⟨a, c, rfl⟩ := hr.nil; exact ⟨⟨a, c, he⟩, hb⟩
theorem choose_bad_c (key i n k : Int) (w : World) (hs : St w) (h : i < 0 ∨ 1099511627776 < i ∨ n < 0 ∨ 1000 < n ∨ k < 0 ∨ n < k) (i0 : -9223372036854775808 ≤ i) (i1 : i ≤ 9223372036854775807) :
    Calls Tryd.prog 22 #[.agg #[.int .u64 key], .int .i64 i, .int .i64 n, .int .i64 k] w fun e w' => (∃ a c, e = .returned (.tuple #[.slice a 0 c, .int .i64 0, .int .i64 2])) ∧ Below w.heap.size w w' := by
  have := choose_c key i n k w hs i0 i1
  rw [show chooseP (wordI key) i n k = ([], 0, 2) by unfold chooseP; rw [if_pos h]] at this
  exact this.mono fun e w' ⟨v, he, hr, hb⟩ => by obtain ⟨a, c, rfl⟩ := hr.nil; exact ⟨⟨a, c, he⟩, hb⟩
theorem weigh_bad_c (key i : Int) (v : Value) (l : List Int) (w : World) (hs : St w) (hv : Rd w v (ints .i64 l)) (h : weighP (wordI key) i l = (0, 0, 2)) (i0 : -9223372036854775808 ≤ i) (i1 : i ≤ 9223372036854775807) :
    Calls Tryd.prog 21 #[.agg #[.int .u64 key], .int .i64 i, v] w fun e w' => e = .returned (.tuple #[.int .i64 0, .int .i64 0, .int .i64 2]) ∧ Below w.heap.size w w' := by
  have := weigh_c key i v l w hs hv i0 i1
  rwa [h] at this
theorem sub_bad_c (key : Int) (s : ByteArray) (w : World) (hs : St w) (hm : s.size ≤ maxLen) (er : Int) (h : subR key s.data.toList = (0, er)) :
    Calls Tryd.prog 23 #[.agg #[.int .u64 key], .string s] w fun e w' => e = .returned (.tuple #[.agg #[.int .u64 0], .int .i64 er]) ∧ Below w.heap.size w w' := by
  have := sub_c key s w hs hm
  rwa [h] at this
theorem wpList_min {P : Program} (w : World) {ops : Array Oper} {rest : List Oper} {o : Oper} {a : Act} {Q : Exit → Act → World → Prop}
    (hg : o.guard = none) (s x : Operand) (t : TypeId) (hop : o.op = Op.call { callee := Callee.builtin Builtin.min, args := #[s, x], argTypes := #[t, t] })
    (m n : Int) (hs : a.eval s = .int .i64 m) (hx : a.eval x = .int .i64 n)
    (hK : ∀ r : Int, r ≤ m → r ≤ n → (r = m ∨ r = n) → wpList P ops Q rest (a.put o.dst (.int .i64 r)) w) :
    wpList P ops Q (o :: rest) a w := by
  refine wpList_plain hg fun K hK' => ?_
  unfold Oper.wp
  simp [execOp, hop, resolve, invoke, builtin, hs, hx, Builtin.min_, Builtin.min2]
  exact hK' _ _ (hK _ (by split <;> omega) (by split <;> omega) (by split <;> simp))
theorem wpList_max {P : Program} (w : World) {ops : Array Oper} {rest : List Oper} {o : Oper} {a : Act} {Q : Exit → Act → World → Prop}
    (hg : o.guard = none) (s x : Operand) (t : TypeId) (hop : o.op = Op.call { callee := Callee.builtin Builtin.max, args := #[s, x], argTypes := #[t, t] })
    (m n : Int) (hs : a.eval s = .int .i64 m) (hx : a.eval x = .int .i64 n)
    (hK : ∀ r : Int, m ≤ r → n ≤ r → (r = m ∨ r = n) → wpList P ops Q rest (a.put o.dst (.int .i64 r)) w) :
    wpList P ops Q (o :: rest) a w := by
  refine wpList_plain hg fun K hK' => ?_
  unfold Oper.wp
  simp [execOp, hop, resolve, invoke, builtin, hs, hx, Builtin.max_, Builtin.max2]
  exact hK' _ _ (hK _ (by split <;> omega) (by split <;> omega) (by split <;> simp))
end Go.Proofs.YtifnmehpkelifaaDoor
