/- What the row's list gives: the steps of mixing lie where the program's text lays them. -/
import Derived.Test.YtondomklkapogaaDoorCards
import Derived.Test.YtondomklkapogaaDoorTie
import Derived.Test.YtondomklkapogaaDoorJWalkA
import Derived.ProofKit
import Derived.OpenShut
import Derived.LaidMore
import Derived.Deep.DeepHandedRow
import Derived.Lib.LaidTab
import Derived.Test.YtondomklkapogaaDoorJLibX
import Derived.SizedLaws
import Derived.Deep.Slices
import Derived.Deep.Fields
import Derived.ChangeSame
namespace Go.Proofs.YtondomklkapogaaDoor
section
open Go.ChangeShapes Go.WideShapes Go.ChangeAt Go.RowKit
theorem own : ownKnob Tryd.prog.godebug = none := by kernel_rfl
theorem laidOut : laidOutB Tryd.prog = true := by kernel_rfl
theorem gS : Tryd.prog.globalNamed "lyceum/seed.steps" = some 0 := by kernel_rfl
theorem tS : (Tryd.prog.globals[0]?).map (·.type) = some 119 := by kernel_rfl
theorem cellsA : Tryd.prog.cellsOf 119 = 6 := by kernel_rfl
theorem cellsS : Tryd.prog.cellsOf 118 = 2 := by kernel_rfl
theorem cellsU : Tryd.prog.cellsOf 55 = 1 := by kernel_rfl
theorem cellsW : Tryd.prog.cellsOf 68 = 1 := by kernel_rfl
/-- one step of mixing, read -/
theorem step_read {W : World} {H : Type} {enc : TypeId × Value → H} {base : Nat} {sp : Nat → Bool} {held : Bool} {fuel : Nat} {a b : Value} {x y : Int} {q : List MemPlace}
    (h : DataW.trod enc Tryd.prog W base sp held fuel 118 [a, b] = some (.agg [.lit (.int .u64 x), .lit (.int .u64 y)], q)) : a = .int .u64 x ∧ b = .int .u64 y := by
  obtain ⟨y0, y1, n, hx, _, h0, h1⟩ := trod_struct2 Tryd.underlying118 h
  simp only [cellsU, cellsW, List.drop_zero, List.take_succ_cons, List.take_zero, List.drop_succ_cons] at h0 h1
  obtain ⟨k0, e0, r0, _⟩ := DataW.trod_int Tryd.underlying55 h0
  obtain ⟨k1, e1, r1, _⟩ := DataW.trod_int Tryd.underlying68 h1
  subst r0 r1
  simp only [Prod.mk.injEq, DataW.agg.injEq, List.cons.injEq, DataW.lit.injEq, Lit.int.injEq, true_and, and_true] at hx
  obtain ⟨⟨rfl, rfl⟩, _⟩ := hx
  simp only [List.cons.injEq, and_true] at e0 e1
  exact ⟨e0, e1⟩
set_option maxRecDepth 100000 in
theorem steps_of_laid {W : World} (h : laidMetH Tryd.prog [("lyceum/seed.steps", Rows.laid_lyceum_seed_steps)] W) : St W := by
  rw [MakeChecks.laidMetH_plain _ _ _ (by kernel_rfl)] at h
  obtain ⟨ps, ⟨g0, t0, cs0, f0, p0, q0, hg0, ht0, hv0, hd0, _, _⟩, _, _⟩ := h
  obtain rfl := Option.some.inj (gS.symm.trans hg0)
  obtain rfl := Option.some.inj (tS.symm.trans ht0)
  obtain ⟨xs, m, rfl, hx, hlen, hn3, hel⟩ := DataW.trod_array Tryd.underlying119 hd0
  rw [cellsA] at hlen
  have hc : ∀ i, W.cell? ⟨0, i, none⟩ = cs0[i]? := fun i => World.var?_cell gS hv0 i
  obtain ⟨l⟩ := cs0
  match l, hlen with
  | [a0, a1, a2, a3, a4, a5], _ =>
    match xs, hn3 with
    | [x0, x1, x2], _ =>
      have e0 := hel 0 (by decide)
      have e1 := hel 1 (by decide)
      have e2 := hel 2 (by decide)
      simp [cellsS] at e0 e1 e2
      unfold Rows.laid_lyceum_seed_steps at hx
      simp only [Prod.mk.injEq, DataW.agg.injEq, List.map_cons, List.map_nil, List.cons.injEq, and_true] at hx
      obtain ⟨⟨r0, r1, r2⟩, _⟩ := hx
      obtain ⟨d0, q0⟩ := x0
      obtain ⟨d1, q1⟩ := x1
      obtain ⟨d2, q2⟩ := x2
      simp only at r0 r1 r2
      subst r0 r1 r2
      obtain ⟨rfl, rfl⟩ := step_read e0
      obtain ⟨rfl, rfl⟩ := step_read e1
      obtain ⟨rfl, rfl⟩ := step_read e2
      exact ⟨hc 0, hc 1, hc 2, hc 3, hc 4, hc 5⟩
/-- A WORLD FOR THE WITNESS: the settled one, the steps (block 0) holding what their initialiser lays. -/
noncomputable def laidWorld (os : Os) : World :=
  { World.holding Tryd.prog os ⟨#[], #[], []⟩ with heap := (World.holding Tryd.prog os ⟨#[], #[], []⟩).heap.modify 0 fun
      | .cells _ t frozen => .cells #[.int .u64 30, .int .u64 13787848793156543929, .int .u64 27, .int .u64 10723151780598845931, .int .u64 31, .int .u64 1] t frozen
      | o => o }
theorem laid_met (os : Os) (args : Array Value) : laidMet Tryd.prog [("lyceum/seed.steps", Rows.laid_lyceum_seed_steps)] ((laidWorld os).forCall (fun _ _ => 0) ⟨#[], args, []⟩).memory :=
  laidMet_of_run' 8 (by kernel_rfl) (by kernel_rfl)
end
section
open Go.ChangeShapes Go.WideShapes Go.ChangeAt Go.RowKit Go.Deep
theorem cells8 : Tryd.prog.cellsOf 5 = 1 := by kernel_rfl
theorem cells16 : Tryd.prog.cellsOf 22 = 1 := by kernel_rfl
theorem cellsSt : Tryd.prog.cellsOf 36 = 5 := by kernel_rfl
section
variable {H : Type} {enc : TypeId × Value → H} {W : World}
theorem read_u8 {base : Nat} {sp : Nat → Bool} {held : Bool} {fuel : Nat} {c : Value} {x : DataW H × List MemPlace} (h : DataW.trod enc Tryd.prog W base sp held fuel 5 [c] = some x) : ∃ n : Nat, n < 256 ∧ c = .int .u8 n := by
  obtain ⟨n, e, _, hw⟩ := DataW.trod_int Tryd.underlying5 h
  have hb := bounds_u8 hw
  refine ⟨n.toNat, by omega, ?_⟩
  simp only [List.cons.injEq, and_true] at e
  rw [e, Int.toNat_of_nonneg hb.1]
theorem read_u16 {base : Nat} {sp : Nat → Bool} {held : Bool} {fuel : Nat} {c : Value} {x : DataW H × List MemPlace} (h : DataW.trod enc Tryd.prog W base sp held fuel 22 [c] = some x) : ∃ n : Nat, n < 65536 ∧ c = .int .u16 n := by
  obtain ⟨n, e, _, hw⟩ := DataW.trod_int Tryd.underlying22 h
  have hb := bounds_u16 hw
  refine ⟨n.toNat, by omega, ?_⟩
  simp only [List.cons.injEq, and_true] at e
  rw [e, Int.toNat_of_nonneg hb.1]
set_option maxRecDepth 100000 in
/-- the five cells of a step -/
theorem open_stepC {base : Nat} {sp : Nat → Bool} {held : Bool} {fuel : Nat} {cs : List Value} {x : DataW H × List MemPlace} (h : DataW.trod enc Tryd.prog W base sp held fuel 36 cs = some x) : ∃ st : StepP, st.Ok ∧ cs = stepC st := by
  obtain ⟨xs, n, rfl, rfl, hlen, hxl, hf⟩ := DataW.trod_struct Tryd.underlying36 h
  rw [cellsSt] at hlen
  match cs, hlen with
  | [c0, c1, c2, c3, c4], _ =>
    match xs, hxl with
    | [y0, y1, y2, y3, y4], _ =>
      have e0 := hf 0 _ rfl
      have e1 := hf 1 _ rfl
      have e2 := hf 2 _ rfl
      have e3 := hf 3 _ rfl
      have e4 := hf 4 _ rfl
      simp [cells8, cells16] at e0 e1 e2 e3 e4
      obtain ⟨n0, l0, rfl⟩ := read_u8 e0
      obtain ⟨n1, l1, rfl⟩ := read_u8 e1
      obtain ⟨n2, l2, rfl⟩ := read_u8 e2
      obtain ⟨n3, l3, rfl⟩ := read_u8 e3
      obtain ⟨n4, l4, rfl⟩ := read_u16 e4
      exact ⟨⟨n0, n1, n2, n3, n4⟩, ⟨l0, l1, l2, l3, l4⟩, rfl⟩
set_option maxRecDepth 100000 in
/-- a step, handed by value -/
theorem open_step {base : Nat} {v : Value} {d : DataW H} {ps : List MemPlace} (hval : Value.okWide Tryd.prog W .any base 36 v) (h : DataW.Trod enc Tryd.prog W 0 (fun _ => true) true 36 v d ps) : ∃ st : StepP, v = stepV st ∧ st.Ok := by
  obtain ⟨cs, rfl, hsz⟩ := okWide_struct Tryd.underlying36 hval
  obtain ⟨fuel, hf⟩ := h
  obtain ⟨st, hok, he⟩ := open_stepC hf
  refine ⟨st, ?_, hok⟩
  obtain ⟨l⟩ := cs
  have he : l = stepC st := by simpa [Value.cells] using he
  rw [he]; rfl
set_option maxRecDepth 100000 in
/-- a slice of steps -/
theorem open_steps {base : Nat} {v : Value} {d : DataW H} {ps : List MemPlace} (hval : Value.okWide Tryd.prog W .any base 23 v) (h : DataW.Trod enc Tryd.prog W 0 (fun _ => true) true 23 v d ps) : ∃ L : List StepP, RdS W v L := by
  obtain ⟨a0, len, cap, rfl⟩ := okWide_slice Tryd.underlying23 hval
  obtain ⟨fuel, hf⟩ := h
  rcases open_slice Tryd.underlying23 hf with ⟨hcs, _⟩ | ⟨a, len', cap', m, n, D, Pl, hcs, _, hl, hm, hmm, _, hi⟩
  · simp [Value.cells] at hcs
    obtain ⟨rfl, rfl, rfl⟩ := hcs
    exact ⟨[], ⟨none, 0, rfl, Nat.le_refl _, Nat.zero_le _, Or.inl rfl⟩, fun s hs => by cases hs⟩
  · simp [Value.cells] at hcs
    obtain ⟨rfl, rfl, rfl⟩ := hcs
    simp only [if_true] at hmm
    subst hmm
    by_cases h0 : len = 0
    · subst h0
      exact ⟨[], ⟨_, m, rfl, Nat.zero_le _, hm, Or.inl rfl⟩, fun s hs => by cases hs⟩
    · obtain ⟨g, off, spot⟩ := a
      have hone : ∀ i, i < len → ∃ st : StepP, st.Ok ∧ ∀ o, o < 5 → W.cell? ((⟨g, off, spot⟩ : Addr).add (i * 5 + o)) = (stepC st)[o]? := by
        intro i hi'
        obtain ⟨cs', hc, ht⟩ := hi i (by omega)
        rw [cellsSt] at hc
        obtain ⟨st, hok, rfl⟩ := open_stepC ht
        refine ⟨st, hok, fun o ho => ?_⟩
        obtain ⟨_, _, hat⟩ := World.cells?_some hc
        rw [← add_add]
        exact hat o ho
      have hspot : spot = none := by
        obtain ⟨st, _, hc⟩ := hone 0 (by omega)
        have := World.cell?_spot ((hc 0 (by omega)).trans rfl)
        simpa [Addr.add] using this
      subst hspot
      have hL : ∀ n, n ≤ len → ∃ L : List StepP, L.length = n ∧ (∀ s ∈ L, s.Ok) ∧ ∀ i (h : i < L.length), ∀ o, o < 5 → W.cell? ⟨g, off + i * 5 + o, none⟩ = (stepC L[i])[o]? := by
        intro n
        induction n with
        | zero => intro _; exact ⟨[], rfl, (fun s hs => by cases hs), fun i h => by simp at h⟩
        | succ n ih =>
          intro hn
          obtain ⟨L, hl1, hl2, hl3⟩ := ih (by omega)
          obtain ⟨st, hok, hc⟩ := hone n (by omega)
          refine ⟨L ++ [st], by simp [hl1], fun s hs => ?_, fun i hi2 o ho => ?_⟩
          · rcases List.mem_append.1 hs with hs | hs
            · exact hl2 s hs
            · rw [List.mem_singleton.1 hs]; exact hok
          · rw [List.length_append, List.length_singleton] at hi2
            by_cases hlt : i < L.length
            · rw [List.getElem_append_left hlt]; exact hl3 i hlt o ho
            · obtain rfl : i = n := by omega
              rw [List.getElem_append_right (by omega)]
              have e : (⟨g, off, none⟩ : Addr).add (i * 5 + o) = ⟨g, off + (i * 5 + o), none⟩ := by unfold Addr.add; split <;> simp_all
              rw [← Nat.add_assoc] at e
              have := hc o ho
              rw [e] at this
              rw [this]
              simp [hl1]
      obtain ⟨L, hl1, hl2, hl3⟩ := hL len (Nat.le_refl _)
      subst hl1
      have hg : g < W.heap.size := by
        have h3 := hl3 0 (by omega) 0 (by omega)
        exact World.block_lt_of_cell? W ⟨g, off + 0 * 5 + 0, none⟩ h3
      exact ⟨L, ⟨_, m, rfl, hl, hm, Or.inr ⟨g, off, rfl, hg, fun i hi2 => ⟨hl3 i hi2 0 (by omega), hl3 i hi2 1 (by omega), hl3 i hi2 2 (by omega), hl3 i hi2 3 (by omega), hl3 i hi2 4 (by omega)⟩⟩⟩, hl2⟩
end
end
end Go.Proofs.YtondomklkapogaaDoor
