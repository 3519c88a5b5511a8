/- What the row's list gives: the steps of mixing lie where the program's text lays them. -/
import Derived.Test.YtifnmehpkelifaaDoorCards
import Derived.Test.YtifnmehpkelifaaDoorTie
import Derived.Test.YtifnmehpkelifaaDoorAwake
import Derived.ProofKit
import Derived.OpenShut
import Derived.LaidMore
import Derived.Deep.DeepHandedRow
import Derived.Lib.LaidTab
namespace Go.Proofs.YtifnmehpkelifaaDoor
open Go.ChangeShapes Go.WideShapes Go.ChangeAt Go.RowKit
theorem own : ownKnob Tryd.prog.godebug = none := by kernel_rfl
theorem laidOut : laidOutB Tryd.prog = true := by kernel_rfl
theorem gS : Tryd.prog.globalNamed "lyceum/seed.steps" = some 0 := by kernel_rfl
theorem tS : (Tryd.prog.globals[0]?).map (·.type) = some 76 := by kernel_rfl
theorem cells76 : Tryd.prog.cellsOf 76 = 6 := by kernel_rfl
theorem cells75 : Tryd.prog.cellsOf 75 = 2 := by kernel_rfl
theorem cells73 : Tryd.prog.cellsOf 73 = 1 := by kernel_rfl
theorem cells22 : Tryd.prog.cellsOf 22 = 1 := by kernel_rfl
/-- one step of mixing, read -/
theorem step_read {W : World} {H : Type} {enc : TypeId × Value → H} {base : Nat} {sp : Nat → Bool} {held : Bool} {fuel : Nat} {a b : Value} {x y : Int} {q : List MemPlace}
    (h : DataW.trod enc Tryd.prog W base sp held fuel 75 [a, b] = some (.agg [.lit (.int .u64 x), .lit (.int .u64 y)], q)) : a = .int .u64 x ∧ b = .int .u64 y := by
  obtain ⟨y0, y1, n, hx, _, h0, h1⟩ := trod_struct2 Tryd.underlying75 h
  simp only [cells73, cells22, List.drop_zero, List.take_succ_cons, List.take_zero, List.drop_succ_cons] at h0 h1
  obtain ⟨k0, e0, r0, _⟩ := DataW.trod_int Tryd.underlying73 h0
  obtain ⟨k1, e1, r1, _⟩ := DataW.trod_int Tryd.underlying22 h1
  subst r0 r1
  simp only [Prod.mk.injEq, DataW.agg.injEq, List.cons.injEq, DataW.lit.injEq, Lit.int.injEq, true_and, and_true] at hx
  obtain ⟨⟨rfl, rfl⟩, _⟩ := hx
  simp only [List.cons.injEq, and_true] at e0 e1
  exact ⟨e0, e1⟩
theorem steps_of_laid {W : World} (h : laidMetH Tryd.prog [("lyceum/seed.steps", Rows.laid_lyceum_seed_steps)] W) : St W := by
  rw [MakeChecks.laidMetH_plain _ _ _ (by kernel_rfl)] at h
  obtain ⟨ps, ⟨g0, t0, cs0, f0, p0, q0, hg0, ht0, hv0, hd0, _, _⟩, _, _⟩ := h
  obtain rfl := Option.some.inj (gS.symm.trans hg0)
  obtain rfl := Option.some.inj (tS.symm.trans ht0)
  obtain ⟨xs, m, rfl, hx, hlen, hn3, hel⟩ := DataW.trod_array Tryd.underlying76 hd0
  rw [cells76] at hlen
  have hc : ∀ i, W.cell? ⟨0, i, none⟩ = cs0[i]? := fun i => World.var?_cell gS hv0 i
  obtain ⟨l⟩ := cs0
  match l, hlen with
  | [a0, a1, a2, a3, a4, a5], _ =>
    match xs, hn3 with
    | [x0, x1, x2], _ =>
      have e0 := hel 0 (by decide)
      have e1 := hel 1 (by decide)
      have e2 := hel 2 (by decide)
      simp [cells75] at e0 e1 e2
      unfold Rows.laid_lyceum_seed_steps at hx
      simp only [Prod.mk.injEq, DataW.agg.injEq, List.map_cons, List.map_nil, List.cons.injEq, and_true] at hx
      obtain ⟨⟨r0, r1, r2⟩, _⟩ := hx
      obtain ⟨d0, q0⟩ := x0
      obtain ⟨d1, q1⟩ := x1
      obtain ⟨d2, q2⟩ := x2
      simp only at r0 r1 r2
      subst r0 r1 r2
      obtain ⟨rfl, rfl⟩ := step_read e0
      obtain ⟨rfl, rfl⟩ := step_read e1
      obtain ⟨rfl, rfl⟩ := step_read e2
      exact ⟨hc 0, hc 1, hc 2, hc 3, hc 4, hc 5⟩
/-- A WORLD FOR THE WITNESS: the settled one, the steps (block 0) holding what their initialiser lays. -/
noncomputable def laidWorld (os : Os) : World :=
  { World.holding Tryd.prog os ⟨#[], #[], []⟩ with heap := (World.holding Tryd.prog os ⟨#[], #[], []⟩).heap.modify 0 fun
      | .cells _ t frozen => .cells #[.int .u64 30, .int .u64 13787848793156543929, .int .u64 27, .int .u64 10723151780598845931, .int .u64 31, .int .u64 1] t frozen
      | o => o }
theorem laid_met (os : Os) (args : Array Value) : laidMet Tryd.prog [("lyceum/seed.steps", Rows.laid_lyceum_seed_steps)] ((laidWorld os).forCall (fun _ _ => 0) ⟨#[], args, []⟩).memory :=
  laidMet_of_run' 8 (by kernel_rfl) (by kernel_rfl)
end Go.Proofs.YtifnmehpkelifaaDoor
