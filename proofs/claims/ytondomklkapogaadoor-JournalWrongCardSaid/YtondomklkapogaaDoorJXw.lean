/- Single operations of JournalWrong's region 22. -/
import Derived.Test.YtondomklkapogaaDoorJWrongT
import Derived.Test.YtondomklkapogaaDoorJApi
namespace Go.Proofs.YtondomklkapogaaDoor
open Go.RowKit SeedP Go.Maps
set_option linter.unusedSectionVars false
set_option linter.unusedSimpArgs false
set_option linter.unusedVariables false
section
variable (ρ : Operand → Value) (hρ : ∀ v, ρ (.const v) = v) (d : Option Tmp) (ty : TypeId) (pos : String) (af : Array Edge) (gd : Option (Nat × Bool)) (w : World)
include hρ
theorem xw_make (t : TypeId) (n : Int) (v : Value) (w' : World) (h : (Instr.makeSlice t (.int .i64 n) (.int .i64 n)).run Tryd.prog w = .ok v w') :
    (execOp ρ ⟨d, .makeSlice t (.const (.int .i64 n)) (.const (.int .i64 n)), ty, pos, af, gd⟩).run Tryd.prog w = .ok (.value v) w' := by
  simp [go_sem, hρ, h]
theorem xw_b74 (x : Operand) (a : Option Addr) (n c : Nat) (code : Int) (hx : ρ x = .slice a n c) :
    (execOp ρ ⟨d, .build 74 #[(0, x), (1, .const (.int .i64 code))], ty, pos, af, gd⟩).run Tryd.prog w = .ok (.value (.agg #[.slice a n c, .int .i64 code])) w := by
  simp [go_sem, hρ, hx]
theorem xw_bs1 (x : Operand) (s : ByteArray) (a : Option Addr) (n c : Nat) (b : Bool) (hx : ρ x = .agg #[.string s, .slice a n c, .bool b]) :
    (execOp ρ ⟨d, .buildSlice 39 1 #[(0, x)], ty, pos, af, gd⟩).run Tryd.prog w = .ok (.value (.slice (some ⟨w.heap.size, 0, none⟩) 1 1)) (w.alloc (.cells #[.string s, .slice a n c, .bool b] 65)) := by
  simp [go_sem, hρ, hx]
theorem xw_bs2 (x y : Operand) (s : ByteArray) (a : Option Addr) (n c : Nat) (b : Bool) (s' : ByteArray) (a' : Option Addr) (n' c' : Nat) (b' : Bool) (hx : ρ x = .agg #[.string s, .slice a n c, .bool b]) (hy : ρ y = .agg #[.string s', .slice a' n' c', .bool b']) :
    (execOp ρ ⟨d, .buildSlice 39 2 #[(0, x), (1, y)], ty, pos, af, gd⟩).run Tryd.prog w = .ok (.value (.slice (some ⟨w.heap.size, 0, none⟩) 2 2)) (w.alloc (.cells #[.string s, .slice a n c, .bool b, .string s', .slice a' n' c', .bool b'] 65)) := by
  simp [go_sem, hρ, hx, hy]
theorem xw_add (x y : Operand) (t : TypeId) (s s' : ByteArray) (hx : ρ x = .string s) (hy : ρ y = .string s') (hl : s.size + s'.size ≤ 9223372036854775807) :
    (execOp ρ ⟨d, .binOp .add 9 x y 9, ty, pos, af, gd⟩).run Tryd.prog w = .ok (.value (.string (s ++ s'))) w := by
  simp [go_sem, hρ, hx, hy, hl]
theorem xw_b65s (x : Operand) (s : ByteArray) (hx : ρ x = .string s) :
    (execOp ρ ⟨d, .build 65 #[(0, x)], ty, pos, af, gd⟩).run Tryd.prog w = .ok (.value (.agg #[.string s, .slice none 0 0, .bool false])) w := by
  simp [go_sem, hρ, hx]
theorem xw_b65v (x : Operand) (s : ByteArray) (a : Option Addr) (n c : Nat) (hx : ρ x = .slice a n c) :
    (execOp ρ ⟨d, .build 65 #[(0, .const (.string s)), (2, .const (.bool true)), (1, x)], ty, pos, af, gd⟩).run Tryd.prog w = .ok (.value (.agg #[.string s, .slice a n c, .bool true])) w := by
  simp [go_sem, hρ, hx]
theorem xw_b65w (x : Operand) (s : ByteArray) (a : Option Addr) (n c : Nat) (hx : ρ x = .slice a n c) :
    (execOp ρ ⟨d, .build 65 #[(0, .const (.string s)), (1, x)], ty, pos, af, gd⟩).run Tryd.prog w = .ok (.value (.agg #[.string s, .slice a n c, .bool false])) w := by
  simp [go_sem, hρ, hx]
theorem xw_ldc (x : Operand) (ad : Addr) (v : Value) (hx : ρ x = .pointer (some ad)) (hc : w.cell? ad = some v) :
    (execOp ρ ⟨d, .load 39 x, ty, pos, af, gd⟩).run Tryd.prog w = .ok (.value v) w := by
  simp [go_sem, hx, hc]
theorem xw_lde (x : Operand) (ad : Addr) (v : Value) (hx : ρ x = .pointer (some ad)) (hc : w.cell? ad = some v) :
    (execOp ρ ⟨d, .load 31 x, ty, pos, af, gd⟩).run Tryd.prog w = .ok (.value v) w := by
  simp [go_sem, hx, hc]
theorem xw_neq (x y : Operand) (c : Int) (hx : ρ x = .int .i64 c) (hy : ρ y = .int .i64 c) :
    (execOp ρ ⟨d, .binOp .neq 31 x y 31, ty, pos, af, gd⟩).run Tryd.prog w = .ok (.value (.bool false)) w := by
  simp [go_sem, hx, hy]
theorem xw_len (x : Operand) (a : Option Addr) (n c : Nat) (hx : ρ x = .slice a n c) :
    (execOp ρ ⟨d, .call { callee := .builtin .len, args := #[x], argTypes := #[75] }, 3, pos, af, gd⟩).run Tryd.prog w = .ok (.value (.int .i64 n)) w := by
  simp [go_sem, hρ, hx]
theorem xw_bs9 (x0 x1 x2 x3 x4 x5 x6 x7 x8 : Operand) (a0 a1 a2 a3 a4 a5 a6 a7 a8 : Option Addr) (n0 c0 n1 c1 n2 c2 n3 c3 n4 c4 n5 c5 n6 c6 n7 c7 n8 c8 : Nat) (k0 k1 k2 k3 k4 k5 k6 k7 k8 : Int) (h0 : ρ x0 = .agg #[.slice a0 n0 c0, .int .i64 k0]) (h1 : ρ x1 = .agg #[.slice a1 n1 c1, .int .i64 k1]) (h2 : ρ x2 = .agg #[.slice a2 n2 c2, .int .i64 k2]) (h3 : ρ x3 = .agg #[.slice a3 n3 c3, .int .i64 k3]) (h4 : ρ x4 = .agg #[.slice a4 n4 c4, .int .i64 k4]) (h5 : ρ x5 = .agg #[.slice a5 n5 c5, .int .i64 k5]) (h6 : ρ x6 = .agg #[.slice a6 n6 c6, .int .i64 k6]) (h7 : ρ x7 = .agg #[.slice a7 n7 c7, .int .i64 k7]) (h8 : ρ x8 = .agg #[.slice a8 n8 c8, .int .i64 k8]) :
    (execOp ρ ⟨d, .buildSlice 75 9 #[(0, x0), (1, x1), (2, x2), (3, x3), (4, x4), (5, x5), (6, x6), (7, x7), (8, x8)], ty, pos, af, gd⟩).run Tryd.prog w = .ok (.value (.slice (some ⟨w.heap.size, 0, none⟩) 9 9)) (w.alloc (.cells #[.slice a0 n0 c0, .int .i64 k0, .slice a1 n1 c1, .int .i64 k1, .slice a2 n2 c2, .int .i64 k2, .slice a3 n3 c3, .int .i64 k3, .slice a4 n4 c4, .int .i64 k4, .slice a5 n5 c5, .int .i64 k5, .slice a6 n6 c6, .int .i64 k6, .slice a7 n7 c7, .int .i64 k7, .slice a8 n8 c8, .int .i64 k8] 74)) := by
  simp [go_sem, hρ, h0, h1, h2, h3, h4, h5, h6, h7, h8]
end
theorem ba_app (a b : List UInt8) : (⟨a.toArray⟩ : ByteArray) ++ ⟨b.toArray⟩ = ⟨(a ++ b).toArray⟩ := by
  apply ByteArray.ext
  rw [ByteArray.data_append]
  simp
theorem ba_len41 : (⟨fortyB.toArray⟩ : ByteArray).size + (⟨[48].toArray⟩ : ByteArray).size ≤ 9223372036854775807 := by
  show fortyB.toArray.size + [48].toArray.size ≤ _
  simp [fortyB]
theorem ba_len (k : List UInt8) (h : k.length ≤ 140737488351232) : (⟨(fortyB ++ [48]).toArray⟩ : ByteArray).size + (⟨k.toArray⟩ : ByteArray).size ≤ 9223372036854775807 := by
  show (fortyB ++ [48]).toArray.size + k.toArray.size ≤ _
  simp [fortyB]; omega
theorem rd_one (w : World) (q : Nat → Prop) (hq : q w.heap.size) : RdP (w.alloc (.cells #[.int .u8 1] 5)) q (.slice (some ⟨w.heap.size, 0, none⟩) 1 1) [1] := by
  refine Or.inr ⟨w.heap.size, 0, 1, rfl, Nat.le_refl _, by unfold maxLen; omega, hq, fun j hj => ?_⟩
  have h := (Blk.new w 5 [.int .u8 1]).cell j hj
  obtain rfl : j = 0 := by simp at hj; omega
  exact h
/-- a slice of two changes that was just laid -/
theorem chgs_two (w : World) (q : Nat → Prop) (k val : List UInt8) (v : Value) (d : Bool) (k' val' : List UInt8) (v' : Value) (d' : Bool) (hv : RdP w q v val) (hv' : RdP w q v' val') (hq : q w.heap.size) :
    ChgsP (w.alloc (.cells #[strV k, v, .bool d, strV k', v', .bool d'] 65)) q (.slice (some ⟨w.heap.size, 0, none⟩) 2 2) [⟨k, val, d⟩, ⟨k', val', d'⟩] := by
  have hb := Blk.new w 65 [strV k, v, .bool d, strV k', v', .bool d']
  have hg : Grown (fun _ => False) w (w.alloc (.cells #[strV k, v, .bool d, strV k', v', .bool d'] 65)) := Grown.of_below ((Below.refl _ w).alloc (Nat.le_refl _) _)
  refine ⟨some ⟨w.heap.size, 0, none⟩, 2, rfl, Nat.le_refl _, by unfold maxLen; omega, Or.inr ⟨w.heap.size, 0, rfl, hq, fun j hj => ?_⟩⟩
  have hj : j < 2 := hj
  match j, hj with
  | 0, _ => exact ⟨v, hb.cell 0 (by simp), hb.cell 1 (by simp), hb.cell 2 (by simp), hv.grown hg (fun _ _ h => h)⟩
  | 1, _ => exact ⟨v', hb.cell 3 (by simp), hb.cell 4 (by simp), hb.cell 5 (by simp), hv'.grown hg (fun _ _ h => h)⟩
end Go.Proofs.YtondomklkapogaaDoor
