/- '==' on two streams. -/
import Derived.Test.YtifnmehpkelifaaDoorBun
namespace Go.Proofs.YtifnmehpkelifaaDoor
open Go.RowKit SeedP
theorem eqF31 (d : Nat) (a b : Int) (w : World) : (Op.eqFields (d + 1) #[.int .u64 a] #[.int .u64 b] (Tryd.prog.fieldsOf 31).toList).run Tryd.prog w = .ok (a == b) w := by
  simp [go_sem, Tryd.underlying31, part]
  by_cases h : a = b <;> simp [h]
theorem eq31 (a b : Int) (w : World) : (binOp .eql 31 (.agg #[.int .u64 a]) (.agg #[.int .u64 b])).run Tryd.prog w = .ok (.bool (a == b)) w := by
  obtain ⟨d, hd⟩ : ∃ d, Op.maxDepth = d + 2 := ⟨9998, rfl⟩
  simp only [binOp, Op.equal, hd]
  simp only [Sem.run_bind, run_equalIn_agg w (d + 1) 31 _ _ (by simp [go_sem, Tryd.underlying31]) Tryd.stoodInHeld31, eqF31]
  rfl
theorem eqg31 (x y : Operand) (a b : Int) (w : World) : (eqGuard .eql 31 x y (.agg #[.int .u64 a]) (.agg #[.int .u64 b])).run Tryd.prog w = .ok () w :=
  run_eqGuard_agg w .eql 31 x y _ _ Tryd.eqGuardType31
theorem wpList_eq31 (w : World) {ops : Array Oper} {rest : List Oper} {o : Oper} {a : Act} {Q : Exit → Act → World → Prop}
    (s x : Operand) (hop : o.op = .binOp .eql 31 s x 31) (m n : Int) (hs : a.eval s = .agg #[.int .u64 m]) (hx : a.eval x = .agg #[.int .u64 n]) (b : Bool) (hb : (m == n) = b)
    (hw : Region.wanted o (yielded ops a.tmps) = true) (hK : wpList Tryd.prog ops Q rest (a.put o.dst (.bool b)) w) : wpList Tryd.prog ops Q (o :: rest) a w := by
  refine BigFrame.wpList_want hw fun K hK' => ?_
  unfold Oper.wp execOp
  rw [hop]
  have e1 := eqg31 s x m n w
  have e2 := eq31 m n w
  rw [hb] at e2
  simp only [Sem.run_bind, hs, hx, e1, e2, Result.andThen_ok]
  exact hK' _ _ hK
theorem step_eq31 (w : World) {ops : Array Oper} {o : Oper} {a : Act} {K : Act → World → Prop} {Q : Exit → Act → World → Prop} {E : Prop}
    (s x : Operand) (hop : o.op = .binOp .eql 31 s x 31) (m n : Int) (hs : a.eval s = .agg #[.int .u64 m]) (hx : a.eval x = .agg #[.int .u64 n]) (b : Bool) (hb : (m == n) = b)
    (hw : Region.wanted o (yielded ops a.tmps) = true) (hK : K (a.put o.dst (.bool b)) w) : if Region.wanted o (yielded ops a.tmps) = true then Oper.wp Tryd.prog o a w K Q else E := by
  rw [if_pos hw]
  unfold Oper.wp execOp
  rw [hop]
  have e1 := eqg31 s x m n w
  have e2 := eq31 m n w
  rw [hb] at e2
  simp only [Sem.run_bind, hs, hx, e1, e2, Result.andThen_ok]
  exact hK
end Go.Proofs.YtifnmehpkelifaaDoor
