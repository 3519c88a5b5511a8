/- Entries in memory, as the laws build and read them. -/
import Derived.Test.YtondomklkapogaaDoorJCommW
import Derived.Test.YtondomklkapogaaDoorJSteps
namespace Go.Proofs.YtondomklkapogaaDoor
open Go.RowKit SeedP Go.Maps
def entC (e : List UInt8 × List UInt8) : List Value := [strV e.1, strV e.2]
def rowE (P : PEnts) : List Value := P.flatMap entC
theorem rowE_length (P : PEnts) : (rowE P).length = P.length * 2 := by
  induction P with
  | nil => rfl
  | cons x r ih => rw [rowE, List.flatMap_cons, List.length_append, ← rowE, ih]; simp [entC]; omega
theorem rowE_append (P Q : PEnts) : rowE (P ++ Q) = rowE P ++ rowE Q := by simp [rowE]
theorem rowE_get (P : PEnts) (j o : Nat) (h : j < P.length) (ho : o < 2) : (rowE P)[j * 2 + o]? = (entC P[j])[o]? := by
  induction P generalizing j with
  | nil => simp at h
  | cons x r ih =>
    rw [rowE, List.flatMap_cons, ← rowE]
    have hl : (entC x).length = 2 := rfl
    cases j with
    | zero => rw [List.getElem?_append_left (by omega)]; simp
    | succ j =>
      rw [List.getElem?_append_right (by omega), hl]
      have e : (j + 1) * 2 + o - 2 = j * 2 + o := by omega
      rw [e, ih j (by simpa using h)]; rfl
theorem rowE_one (P : PEnts) : ∀ u ∈ rowE P, u.oneCell' = true := by
  intro u hu
  obtain ⟨e, _, hu⟩ := List.mem_flatMap.1 hu
  simp only [entC, List.mem_cons, List.not_mem_nil, or_false] at hu
  rcases hu with rfl | rfl <;> rfl
/-- A slice of entries, nil let in, in a block where q holds. -/
def RdE (w : World) (q : Nat → Prop) (v : Value) (P : PEnts) : Prop :=
  ∃ a cap, v = .slice a P.length cap ∧ P.length ≤ cap ∧ cap ≤ maxLen ∧ (a = none → P.length = 0 ∧ cap = 0) ∧ (P = [] ∨ ∃ g off, a = some ⟨g, off, none⟩ ∧ q g ∧ g < w.heap.size ∧ ∀ j (h : j < P.length), w.cell? ⟨g, off + j * 2, none⟩ = some (strV P[j].1) ∧ w.cell? ⟨g, off + j * 2 + 1, none⟩ = some (strV P[j].2))
theorem RdE.nil (w : World) (q : Nat → Prop) : RdE w q (.slice none 0 0) [] := ⟨none, 0, rfl, Nat.le_refl _, Nat.zero_le _, fun _ => ⟨rfl, rfl⟩, Or.inl rfl⟩
theorem RdE.grown {w w' : World} {q S : Nat → Prop} {v : Value} {P : PEnts} (h : RdE w q v P) (hg : Grown S w w') (hq : ∀ g, q g → ¬ S g) : RdE w' q v P := by
  obtain ⟨a, cap, e, h1, h2, h3, h4⟩ := h
  refine ⟨a, cap, e, h1, h2, h3, ?_⟩
  rcases h4 with h4 | ⟨g, off, e2, hgq, hlt, h5⟩
  · exact Or.inl h4
  · have hk : ∀ o v, w.cell? ⟨g, o, none⟩ = some v → w'.cell? ⟨g, o, none⟩ = some v := fun o v hc => (World.cell?_of_block (hg.block g (World.block_lt_of_cell? w ⟨g, o, none⟩ hc) (hq g hgq))).trans hc
    exact Or.inr ⟨g, off, e2, hgq, Nat.lt_of_lt_of_le hlt hg.size, fun j hj => ⟨hk _ _ (h5 j hj).1, hk _ _ (h5 j hj).2⟩⟩
theorem RdE.below {w w' : World} {B : Nat} {v : Value} {P : PEnts} (h : RdE w (fun g => g < B) v P) (hb : Below B w w') : RdE w' (fun g => g < B) v P := by
  obtain ⟨a, cap, e, h1, h2, h3, h4⟩ := h
  refine ⟨a, cap, e, h1, h2, h3, ?_⟩
  rcases h4 with h4 | ⟨g, off, e2, hgq, hlt, h5⟩
  · exact Or.inl h4
  · exact Or.inr ⟨g, off, e2, hgq, Nat.lt_of_lt_of_le hlt hb.size, fun j hj => ⟨(hb.cell (p := ⟨g, _, none⟩) hgq).trans (h5 j hj).1, (hb.cell (p := ⟨g, _, none⟩) hgq).trans (h5 j hj).2⟩⟩
theorem RdE.mono {w : World} {q q' : Nat → Prop} {v : Value} {P : PEnts} (h : RdE w q v P) (hq : ∀ g, g < w.heap.size → q g → q' g) : RdE w q' v P := by
  obtain ⟨a, cap, e, h1, h2, h3, h4⟩ := h
  refine ⟨a, cap, e, h1, h2, h3, ?_⟩
  rcases h4 with h4 | ⟨g, off, e2, hgq, hlt, h5⟩
  · exact Or.inl h4
  · exact Or.inr ⟨g, off, e2, hq g hlt hgq, hlt, h5⟩
theorem RdE.toB {w : World} {q : Nat → Prop} {v : Value} {P : PEnts} (h : RdE w q v P) : RdE w (fun g => g < w.heap.size) v P := h.mono (fun _ hg _ => hg)
theorem RdE.own {w : World} {B n : Nat} {v : Value} {P : PEnts} {q : Nat → Prop} (h : w.ownsRow B 60 2 v n (rowE P)) (hq : ∀ g, B ≤ g → g < w.heap.size → q g) : RdE w q v P := by
  have hr := h
  obtain ⟨hl, h2⟩ := h
  rw [rowE_length] at hl
  obtain rfl : P.length = n := by omega
  rcases h2 with ⟨rfl, h0⟩ | ⟨g, cap, cur, rfl, hB, hg, hn, hc, _⟩
  · rw [List.eq_nil_of_length_eq_zero h0]; exact RdE.nil w q
  · have hlt := (Array.getElem?_eq_some_iff.1 hg).1
    refine ⟨_, cap, rfl, hn, hc, fun h => (by cases h), Or.inr ⟨g, 0, rfl, hq g hB hlt, hlt, fun j hj => ⟨?_, ?_⟩⟩⟩
    · rw [Nat.zero_add, hr.cellAt _ (by omega), show j * 2 = j * 2 + 0 from rfl, rowE_get P j 0 hj (by omega)]; rfl
    · rw [Nat.zero_add, hr.cellAt _ (by omega), rowE_get P j 1 hj (by omega)]; rfl
/-- a part of it -/
theorem RdE.take {w : World} {q : Nat → Prop} {a : Option Addr} {n cap m : Nat} {P : PEnts} (h : RdE w q (.slice a n cap) P) (hm : m ≤ n) : RdE w q (.slice a m cap) (P.take m) := by
  obtain ⟨a', cap', e, h1, h2, h3, h4⟩ := h
  simp only [Value.slice.injEq] at e
  obtain ⟨rfl, rfl, rfl⟩ := e
  refine ⟨a, cap, by rw [List.length_take, Nat.min_eq_left hm], by rw [List.length_take]; omega, h2, fun h => (by have := h3 h; rw [List.length_take]; omega), ?_⟩
  rcases h4 with rfl | ⟨g, off, e2, hgq, hlt, h5⟩
  · exact Or.inl (by simp)
  · refine Or.inr ⟨g, off, e2, hgq, hlt, fun j hj => ?_⟩
    rw [List.length_take] at hj
    rw [List.getElem_take]
    exact h5 j (by omega)
theorem RdE.drop {w : World} {q : Nat → Prop} {g off n cap m : Nat} {P : PEnts} (h : RdE w q (.slice (some ⟨g, off, none⟩) n cap) P) (hm : m ≤ n) (hq : q g) (hlt : g < w.heap.size) : RdE w q (.slice (some ⟨g, off + m * 2, none⟩) (n - m) (cap - m)) (P.drop m) := by
  obtain ⟨a', cap', e, h1, h2, h3, h4⟩ := h
  simp only [Value.slice.injEq] at e
  obtain ⟨rfl, rfl, rfl⟩ := e
  refine ⟨_, cap - m, by rw [List.length_drop], by rw [List.length_drop]; omega, by omega, fun h => (by cases h), Or.inr ⟨g, off + m * 2, rfl, hq, hlt, fun j hj => ?_⟩⟩
  rw [List.length_drop] at hj
  rw [List.getElem_drop]
  rcases h4 with rfl | ⟨g', off', e2, _, _, h5⟩
  · simp at hj
  · cases e2
    have := h5 (m + j) (by omega)
    have e1 : off + (m + j) * 2 = off + m * 2 + j * 2 := by omega
    rw [e1] at this
    exact this
theorem infoEn : (Tryd.prog.info? 60).map (fun i => (i.zero, i.size, i.bytes)) = some (some (.agg #[.string ⟨#[]⟩, .string ⟨#[]⟩]), 2, 32) := by kernel_rfl
theorem appE_run {w : World} (ty : TypeId) (B : Nat) (v : Value) (P : PEnts) (hown : w.ownsRow B 60 2 v P.length (rowE P))
    {q : Nat → Prop} (vx : Value) (R : PEnts) (hr : RdE w q vx R) (hm : P.length + R.length ≤ 4294967296) (hB : B ≤ w.heap.size) :
    ∃ v' w', (Builtin.append_ #[34, 34] ty #[v, vx]).run Tryd.prog w = .ok v' w' ∧ w'.ownsRow B 60 2 v' (P ++ R).length (rowE (P ++ R)) ∧ w.grownBy w' v.ownBlock := by
  have hi := infoEn
  obtain ⟨i, hi, hz⟩ := Option.map_eq_some_iff.1 hi
  simp only [Prod.mk.injEq] at hz
  obtain ⟨hz, hs1, hby⟩ := hz
  obtain ⟨ax, cap, rfl, hl1, hl2, hnone, hc⟩ := hr
  rcases ax with _ | ax
  · obtain ⟨h0, rfl⟩ := hnone rfl
    obtain rfl : R = [] := List.eq_nil_of_length_eq_zero h0
    refine ⟨v, w, ?_, by simpa using hown, ⟨rfl, rfl, rfl, Nat.le_refl _, fun _ _ _ => rfl⟩⟩
    rcases hown.2 with ⟨rfl, h0⟩ | ⟨g, cap, cur, rfl, _, _, hnc, _⟩
    · obtain rfl : P = [] := List.eq_nil_of_length_eq_zero h0
      simp [Builtin.append_, run_underlying Tryd.underlying34, sizeOf, typeInfo, hi, Builtin.lenOf, Builtin.firstCells]
    · simp [Builtin.append_, run_underlying Tryd.underlying34, sizeOf, typeInfo, hi, Builtin.lenOf, Builtin.firstCells, hnc, storeCells]
  · have hcells : ∀ j u, (rowE R)[j]? = some u → w.cell? (ax.add j) = some u := fun j u hu => by
      have hj := (List.getElem?_eq_some_iff.1 hu).1
      rw [rowE_length] at hj
      rcases hc with rfl | ⟨g, off, hg, _, _, hcell⟩
      · simp at hj
      · cases hg
        have e : (⟨g, off, none⟩ : Addr).add j = ⟨g, off + j, none⟩ := by unfold Addr.add; split <;> simp_all
        rw [e]
        have hk : j / 2 < R.length := by omega
        have h2 : j = (j / 2) * 2 + j % 2 := by omega
        have hu' := hu
        rw [h2, rowE_get R (j / 2) (j % 2) hk (by omega)] at hu'
        rcases Nat.mod_two_eq_zero_or_one j with h0 | h0
        · rw [h0] at hu'
          have : j = (j / 2) * 2 := by omega
          rw [this, (hcell _ hk).1]
          exact hu'
        · rw [h0] at hu'
          have : off + j = off + (j / 2) * 2 + 1 := by omega
          rw [this, (hcell _ hk).2]
          exact hu'
    obtain ⟨v', w', hr, h2, h3, _, h5⟩ := run_append_own_at (P := Tryd.prog) w B 34 ty 60 i _ 2 32 Tryd.underlying34 hi hz hs1 hby rfl (by decide) v P.length (rowE P) hown ax R.length cap (rowE R) (rowE_length R) hcells (rowE_one R) (by unfold maxLen; omega) (by omega) hB
    exact ⟨v', w', hr, by rw [rowE_append, List.length_append]; exact h2, h3⟩
section
variable {w : World} {ops : Array Oper} {rest : List Oper} {o : Oper} {a : Act} {Q : Exit → Act → World → Prop} {K : Act → World → Prop} {E : Prop}
theorem wp_appE (s x : Operand) (ho : o.op = .call { callee := .builtin .append, args := #[s, x], argTypes := #[34, 34] })
    (B : Nat) (v : Value) (P : PEnts) (hs : a.eval s = v) (hown : w.ownsRow B 60 2 v P.length (rowE P))
    {q : Nat → Prop} (vx : Value) (R : PEnts) (hx : a.eval x = vx) (hr : RdE w q vx R) (hm : P.length + R.length ≤ 4294967296) (hB : B ≤ w.heap.size)
    (h : ∀ v' w', w'.ownsRow B 60 2 v' (P ++ R).length (rowE (P ++ R)) → w.grownBy w' v.ownBlock → K (a.put o.dst v') w') : o.wp Tryd.prog a w K Q := by
  obtain ⟨v', w', hr, h2, h3⟩ := appE_run o.type B v P hown vx R hr hm hB
  unfold Oper.wp execOp
  simp only [ho, resolve, invoke, builtin, Sem.run_bind, Sem.run_pure, Result.andThen_ok, List.map_toArray, List.map_cons, List.map_nil, hs, hx, hr]
  exact h v' w' h2 h3
theorem wpList_appE (hgd : o.guard = none) (s x : Operand) (ho : o.op = .call { callee := .builtin .append, args := #[s, x], argTypes := #[34, 34] })
    (B : Nat) (v : Value) (P : PEnts) (hs : a.eval s = v) (hown : w.ownsRow B 60 2 v P.length (rowE P))
    {q : Nat → Prop} (vx : Value) (R : PEnts) (hx : a.eval x = vx) (hr : RdE w q vx R) (hm : P.length + R.length ≤ 4294967296) (hB : B ≤ w.heap.size)
    (h : ∀ v' w', w'.ownsRow B 60 2 v' (P ++ R).length (rowE (P ++ R)) → Below B w w' → wpList Tryd.prog ops Q rest (a.put o.dst v') w') :
    wpList Tryd.prog ops Q (o :: rest) a w :=
  wpList_plain hgd fun _ hK => wp_appE s x ho B v P hs hown vx R hx hr hm hB fun v' w' h2 h3 => hK _ _ (h v' w' h2 ((Below.refl _ _).grown h3 hB (fun k hk => (hown.lt k hk).1)))
theorem step_appE (hgd : o.guard = none) (s x : Operand) (ho : o.op = .call { callee := .builtin .append, args := #[s, x], argTypes := #[34, 34] })
    (B : Nat) (v : Value) (P : PEnts) (hs : a.eval s = v) (hown : w.ownsRow B 60 2 v P.length (rowE P))
    {q : Nat → Prop} (vx : Value) (R : PEnts) (hx : a.eval x = vx) (hr : RdE w q vx R) (hm : P.length + R.length ≤ 4294967296) (hB : B ≤ w.heap.size)
    (h : ∀ v' w', w'.ownsRow B 60 2 v' (P ++ R).length (rowE (P ++ R)) → Below B w w' → K (a.put o.dst v') w') :
    if Region.wanted o (yielded ops a.tmps) = true then Oper.wp Tryd.prog o a w K Q else E := by
  rw [if_pos (by simp [Region.wanted, hgd])]
  exact wp_appE s x ho B v P hs hown vx R hx hr hm hB fun v' w' h2 h3 => h v' w' h2 ((Below.refl _ _).grown h3 hB (fun k hk => (hown.lt k hk).1))
end
/-- keys read off a row -/
theorem key_at {w : World} {B n : Nat} {v : Value} {ks : List (List UInt8)} (h : w.ownsRow B 9 1 v n (ks.map strV)) : ∃ a cap, v = .slice a ks.length cap ∧ (ks = [] ∨ ∃ g, a = some ⟨g, 0, none⟩ ∧ B ≤ g ∧ g < w.heap.size ∧ ∀ j (hj : j < ks.length), w.cell? ⟨g, j, none⟩ = some (strV ks[j])) := by
  have hr := h
  obtain ⟨hl, h2⟩ := h
  rw [List.length_map, Nat.mul_one] at hl
  subst hl
  rcases h2 with ⟨rfl, h0⟩ | ⟨g, cap, cur, rfl, hB, hg, hn, hc, _⟩
  · obtain rfl := List.eq_nil_of_length_eq_zero h0; exact ⟨none, 0, rfl, Or.inl rfl⟩
  · refine ⟨_, cap, rfl, Or.inr ⟨g, rfl, hB, (Array.getElem?_eq_some_iff.1 hg).1, fun j hj => ?_⟩⟩
    rw [hr.cellAt j (by omega), List.getElem?_map, List.getElem?_eq_getElem hj]; rfl
/-! ### what has is told -/
theorem find_at {P : PEnts} (ho : Ordered P) (j : Nat) (hj : j < P.length) : pFind P P[j].1 = some P[j].2 := by
  have h : ∀ (A : PEnts) (e : List UInt8 × List UInt8) (R : PEnts), e.1 ∉ keysOf A → pFind (A ++ e :: R) e.1 = some e.2 := by
    intro A e R hA
    induction A with
    | nil => rw [List.nil_append, pFind_cons]; simp
    | cons x r ih =>
      rw [List.cons_append, pFind_cons]
      unfold keysOf at hA
      rw [List.map_cons, List.mem_cons, not_or] at hA
      have : (x.1 == e.1) = false := by simpa using fun h => hA.1 h.symm
      rw [this]
      simp only [Bool.false_eq_true, if_false]
      exact ih hA.2
  have hP : P.take j ++ P[j] :: P.drop (j + 1) = P := by rw [← List.drop_eq_getElem_cons hj, List.take_append_drop]
  have hn : P[j].1 ∉ keysOf (P.take j) := by
    intro hm
    obtain ⟨e, he, hek⟩ := List.mem_map.1 hm
    obtain ⟨i, hi, rfl⟩ := List.mem_take_iff_getElem.1 he
    have := List.pairwise_iff_getElem.1 ho i j (by omega) hj (by omega)
    rw [hek, blt_irrefl] at this; cases this
  have := h (P.take j) P[j] (P.drop (j + 1)) hn
  rw [hP] at this
  exact this
theorem pWt_take (P : PEnts) (j : Nat) (hj : j < P.length) : pWt (P.take (j + 1)) = pWt (P.take j) + (3 + (P[j].1.length : Int) + P[j].2.length) := by
  unfold pWt
  rw [List.take_succ_eq_append_getElem hj, List.map_append, List.sum_append]
  simp [eWt]
end Go.Proofs.YtondomklkapogaaDoor
