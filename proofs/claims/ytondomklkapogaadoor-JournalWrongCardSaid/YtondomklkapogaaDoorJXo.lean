/- Single operations of a drawn region. -/
import Derived.Test.YtondomklkapogaaDoorJTab
import Derived.Test.YtondomklkapogaaDoorJBase
namespace Go.Proofs.YtondomklkapogaaDoor
open Go.RowKit SeedP
theorem xo_bool (ρ : Operand → Value) (d : Option Tmp) (x : Operand) (ty : TypeId) (pos : String) (af : Array Edge) (gd : Option (Nat × Bool)) (ad : Addr) (v : Value) (w : World) (hx : ρ x = .pointer (some ad)) (hc : w.cell? ad = some v) :
    (execOp ρ ⟨d, .load 4 x, ty, pos, af, gd⟩).run Tryd.prog w = .ok (.value v) w := by
  simp [go_sem, hx, hc]
theorem xo_jptr (ρ : Operand → Value) (d : Option Tmp) (x : Operand) (ty : TypeId) (pos : String) (af : Array Edge) (gd : Option (Nat × Bool)) (ad : Addr) (v : Value) (w : World) (hx : ρ x = .pointer (some ad)) (hc : w.cell? ad = some v) :
    (execOp ρ ⟨d, .load 30 x, ty, pos, af, gd⟩).run Tryd.prog w = .ok (.value v) w := by
  simp [go_sem, hx, hc]
theorem xo_str (ρ : Operand → Value) (d : Option Tmp) (x : Operand) (ty : TypeId) (pos : String) (af : Array Edge) (gd : Option (Nat × Bool)) (ad : Addr) (v : Value) (w : World) (hx : ρ x = .pointer (some ad)) (hc : w.cell? ad = some v) :
    (execOp ρ ⟨d, .load 9 x, ty, pos, af, gd⟩).run Tryd.prog w = .ok (.value v) w := by
  simp [go_sem, hx, hc]
theorem xo_bytes (ρ : Operand → Value) (d : Option Tmp) (x : Operand) (ty : TypeId) (pos : String) (af : Array Edge) (gd : Option (Nat × Bool)) (ad : Addr) (v : Value) (w : World) (hx : ρ x = .pointer (some ad)) (hc : w.cell? ad = some v) :
    (execOp ρ ⟨d, .load 26 x, ty, pos, af, gd⟩).run Tryd.prog w = .ok (.value v) w := by
  simp [go_sem, hx, hc]
theorem xo_at (ρ : Operand → Value) (d : Option Tmp) (x y : Operand) (ty : TypeId) (pos : String) (af : Array Edge) (gd : Option (Nat × Bool)) (g n c i : Nat) (w : World) (hx : ρ x = .slice (some ⟨g, 0, none⟩) n c) (hy : ρ y = .int .i64 (i : Int)) (hi : i < n) :
    (execOp ρ ⟨d, .indexAddr 39 x y, ty, pos, af, gd⟩).run Tryd.prog w = .ok (.value (.pointer (some ⟨g, i * 3, none⟩))) w := by
  have b1 : (i : Int) < n := by omega
  simp [go_sem, hx, hy, b1]
end Go.Proofs.YtondomklkapogaaDoor
