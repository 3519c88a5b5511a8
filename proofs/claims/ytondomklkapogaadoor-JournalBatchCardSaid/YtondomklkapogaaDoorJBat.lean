/- Three journals side by side; changes turned. -/
import Derived.Test.YtondomklkapogaaDoorJPerm
import Derived.Test.YtondomklkapogaaDoorJOwn
import Derived.Test.YtondomklkapogaaDoorJLibZ
namespace Go.Proofs.YtondomklkapogaaDoor
open Go.RowKit SeedP Go.Maps
/-- where a journal lies -/
structure JR where
  db : Nat
  jb : Nat
  mb : Nat
  p : Nat → Prop
def JR.mem (r : JR) (g : Nat) : Prop := Sj r.db r.jb r.mb g ∨ r.p g
def upd {α : Type} (f : Nat → α) (i : Nat) (x : α) : Nat → α := fun k => if k = i then x else f k
theorem upd_same {α : Type} (f : Nat → α) (i : Nat) (x : α) : upd f i x i = x := if_pos rfl
theorem upd_other {α : Type} (f : Nat → α) {i k : Nat} (x : α) (h : k ≠ i) : upd f i x k = f k := if_neg h
/-- some journals, apart from each other, above block D -/
structure J3 (D n : Nat) (w : World) (R : Nat → JR) (S : Nat → JS) : Prop where
  jz : ∀ i, i < n → JZ D (R i).p w (R i).db (R i).jb (R i).mb (S i)
  apart : ∀ i k, i < n → k < n → i ≠ k → ∀ g, (R i).mem g → ¬ (R k).mem g
theorem J3.none (D : Nat) (w : World) (R : Nat → JR) (S : Nat → JS) : J3 D 0 w R S := ⟨fun _ h => absurd h (Nat.not_lt_zero _), fun _ _ h => absurd h (Nat.not_lt_zero _)⟩
theorem JZ.memLt {D : Nat} {w : World} {r : JR} {s : JS} (h : JZ D r.p w r.db r.jb r.mb s) {g : Nat} (hg : r.mem g) : D ≤ g ∧ g < w.heap.size := by
  rcases hg with hg | hg
  · have := h.jw.lt; have := h.jle; have := h.dle; have := h.mle
    unfold Sj at hg; omega
  · exact h.lie g hg
theorem J3.below {D n : Nat} {w w' : World} {R : Nat → JR} {S : Nat → JS} (h : J3 D n w R S) (hb : Below w.heap.size w w') : J3 D n w' R S := ⟨fun i hi => (h.jz i hi).below hb, h.apart⟩
/-- whatever is none of their memory may turn -/
theorem J3.grown {D n : Nat} {w w' : World} {R : Nat → JR} {S : Nat → JS} {T : Nat → Prop} (h : J3 D n w R S) (hg : Grown T w w') (hT : ∀ g, T g → g ≠ 0 ∧ ∀ i, i < n → ¬ (R i).mem g) : J3 D n w' R S :=
  ⟨fun i hi => (h.jz i hi).grown hg (fun g e => ⟨fun hp => (hT g e).2 i hi (Or.inr hp), fun hs => (hT g e).2 i hi (Or.inl hs), (hT g e).1⟩), h.apart⟩
/-- one of them acts -/
theorem J3.act {D n : Nat} {w w' : World} {R : Nat → JR} {S : Nat → JS} (h : J3 D n w R S) {i : Nat} (hi : i < n) {s' : JS} (hJ : JZ D (pNext (R i).p w w') w' (R i).db (R i).jb (R i).mb s') (hg : Grown (Sj (R i).db (R i).jb (R i).mb) w w') :
    J3 D n w' (upd R i ⟨(R i).db, (R i).jb, (R i).mb, pNext (R i).p w w'⟩) (upd S i s') := by
  have hnew : ∀ k, k < n → k ≠ i → ∀ g, pNext (R i).p w w' g → ¬ (R k).mem g := by
    intro k hk hki g hp hm
    rcases hp.1 with hp | hp
    · exact h.apart i k hi hk (fun e => hki e.symm) g (Or.inr hp) hm
    · have := ((h.jz k hk).memLt hm).2; omega
  refine ⟨fun k hk => ?_, fun k l hk hl hkl g hm => ?_⟩
  · by_cases e : k = i
    · subst e; rw [upd_same, upd_same]; exact hJ
    · rw [upd_other _ _ e, upd_other _ _ e]
      exact (h.jz k hk).grown hg (fun g hs => ⟨fun hp => h.apart i k hi hk (fun e2 => e e2.symm) g (Or.inl hs) (Or.inr hp), fun hs2 => h.apart i k hi hk (fun e2 => e e2.symm) g (Or.inl hs) (Or.inl hs2), fun e0 => by
        have := ((h.jz i hi).memLt (Or.inl hs)).1; have := (h.jz i hi).pos; omega⟩)
  · by_cases ek : k = i
    · subst ek
      rw [upd_same] at hm
      rw [upd_other _ _ (fun e => hkl e.symm)]
      rcases hm with hm | hm
      · exact h.apart k l hk hl hkl g (Or.inl hm)
      · exact hnew l hl (fun e => hkl e.symm) g hm
    · rw [upd_other _ _ ek] at hm
      by_cases el : l = i
      · subst el
        rw [upd_same]
        rintro (hm2 | hm2)
        · exact h.apart k l hk hl hkl g hm (Or.inl hm2)
        · exact hnew k hk ek g hm2 hm
      · rw [upd_other _ _ el]; exact h.apart k l hk hl hkl g hm
/-- one more is opened -/
theorem J3.snoc {D n : Nat} {w w' : World} {R : Nat → JR} {S : Nat → JS} (h : J3 D n w R S) (hb : Below w.heap.size w w') (h0 : 0 < D) (hD : D ≤ w.heap.size) {db jb mb : Nat} {s : JS} (hX : JX w.heap.size w' db jb mb s) :
    ∃ p, J3 D (n + 1) w' (upd R n ⟨db, jb, mb, p⟩) (upd S n s) := by
  have hz := hX.z
  refine ⟨fun g => (w.heap.size ≤ g ∧ g ≠ jb ∧ g ≠ db ∧ g ≠ mb) ∧ g < w'.heap.size, fun k hk => ?_, fun k l hk hl hkl g hm => ?_⟩
  · by_cases e : k = n
    · subst e; rw [upd_same, upd_same]
      exact ⟨h0, Nat.le_trans hD hX.jle, Nat.le_trans hD hX.dle, Nat.le_trans hD hX.mle, fun g hg => ⟨Nat.le_trans hD hg.1.1, hg.2⟩, hz.jw⟩
    · rw [upd_other _ _ e, upd_other _ _ e]; exact (h.jz k (by omega)).below hb
  · have hnew : ∀ k, k < n → ∀ g, (R k).mem g → ¬ JR.mem ⟨db, jb, mb, fun g => (w.heap.size ≤ g ∧ g ≠ jb ∧ g ≠ db ∧ g ≠ mb) ∧ g < w'.heap.size⟩ g := by
      intro k hk g hm h2
      have h1 := ((h.jz k hk).memLt hm).2
      have := hX.jle; have := hX.dle; have := hX.mle
      rcases h2 with h2 | h2
      · have h2 : Sj db jb mb g := h2
        unfold Sj at h2; omega
      · have := h2.1.1; omega
    by_cases ek : k = n
    · subst ek
      rw [upd_same] at hm
      rw [upd_other _ _ (fun e => hkl e.symm)]
      exact fun h2 => hnew l (by omega) g h2 hm
    · rw [upd_other _ _ ek] at hm
      by_cases el : l = n
      · subst el; rw [upd_same]; exact hnew k (by omega) g hm
      · rw [upd_other _ _ el]; exact h.apart k l (by omega) (by omega) hkl g hm
/-! ### changes turned -/
theorem crow_app (xs ys : List (Chg × Value)) : crow (xs ++ ys) = crow xs ++ crow ys := by unfold crow; rw [List.flatMap_append]
theorem crow_one (xs : List (Chg × Value)) (h : ∀ p ∈ xs, p.2.oneCell' = true) : ∀ u ∈ crow xs, u.oneCell' = true := by
  intro u hu
  obtain ⟨p, hp, hu⟩ := List.mem_flatMap.1 hu
  simp only [chgCells, List.mem_cons, List.not_mem_nil, or_false] at hu
  rcases hu with rfl | rfl | rfl
  · rfl
  · exact h p hp
  · rfl
theorem own_oneCell {w : World} {B n m : Nat} {e : TypeId} {v : Value} {xs : List Value} (h : w.ownsRow B e m v n xs) : v.oneCell' = true := by
  rcases h.2 with ⟨rfl, _⟩ | ⟨g, cap, cur, rfl, _⟩ <;> rfl
/-- a part of changes, as it reads -/
def CSrc (w : World) (v : Value) (xs : List (Chg × Value)) : Prop := ∃ a c, v = .slice (some a) xs.length c ∧ ∀ j u, (crow xs)[j]? = some u → w.cell? (a.add j) = some u
theorem CSrc.below {w w' : World} {v : Value} {xs : List (Chg × Value)} (h : CSrc w v xs) (hb : Below w.heap.size w w') : CSrc w' v xs := by
  obtain ⟨a, c, e, h⟩ := h
  exact ⟨a, c, e, fun j u hu => (hb.cell (World.block_lt_of_cell? w _ (h j u hu))).trans (h j u hu)⟩
theorem ChgRow.src {w : World} {B : Nat} {v : Value} {xs : List (Chg × Value)} (h : ChgRow w B v xs) (hne : xs ≠ []) : ∃ g cap, v = .slice (some ⟨g, 0, none⟩) xs.length cap ∧ xs.length ≤ cap ∧ cap ≤ maxLen ∧ ∀ k, k ≤ xs.length →
    CSrc w (.slice (some ⟨g, 0, none⟩) k cap) (xs.take k) ∧ (k < xs.length → CSrc w (.slice (some ⟨g, k * 3, none⟩) (xs.length - k) (cap - k)) (xs.drop k)) := by
  have hr := h.row
  obtain ⟨hl, h2⟩ := h.row
  rcases h2 with ⟨_, e⟩ | ⟨g, cap, cur, rfl, hB, hg, hn, hc, _⟩
  · exact absurd (List.eq_nil_of_length_eq_zero e) hne
  · have hcell : ∀ j u, (crow xs)[j]? = some u → w.cell? ⟨g, j, none⟩ = some u := fun j u hu => by
      have hj := (List.getElem?_eq_some_iff.1 hu).1
      rw [hr.cellAt j (by rw [crow_length] at hj; omega)]; exact hu
    have hadd : ∀ o j, (⟨g, o, none⟩ : Addr).add j = ⟨g, o + j, none⟩ := fun o j => by unfold Addr.add; split <;> simp_all
    refine ⟨g, cap, rfl, hn, hc, fun k hk => ⟨⟨_, cap, by rw [List.length_take, Nat.min_eq_left hk], fun j u hu => ?_⟩, fun hlt => ⟨_, cap - k, by rw [List.length_drop], fun j u hu => ?_⟩⟩⟩
    · rw [hadd, Nat.zero_add]
      apply hcell
      have : crow xs = crow (xs.take k) ++ crow (xs.drop k) := by rw [← crow_app, List.take_append_drop]
      rw [this, List.getElem?_append_left (List.getElem?_eq_some_iff.1 hu).1]; exact hu
    · rw [hadd]
      apply hcell
      have : crow xs = crow (xs.take k) ++ crow (xs.drop k) := by rw [← crow_app, List.take_append_drop]
      have hlen : (crow (xs.take k)).length = k * 3 := by rw [crow_length, List.length_take, Nat.min_eq_left hk]
      rw [this, List.getElem?_append_right (by omega), hlen, Nat.add_sub_cancel_left]; exact hu
/-- an append of several changes in a region that draws its order -/
theorem step_appC {w : World} {ops : Array Oper} {o : Oper} {a : Act} {Q : Exit → Act → World → Prop} {K : Act → World → Prop} {E : Prop} (hgd : o.guard = none) (s x : Operand) (ho : o.op = .call { callee := .builtin .append, args := #[s, x], argTypes := #[39, 39] })
    (B : Nat) (v : Value) (xs : List (Chg × Value)) (hs : a.eval s = v) (hown : w.ownsRow B 65 3 v xs.length (crow xs))
    (vx : Value) (ys : List (Chg × Value)) (hx : a.eval x = vx) (hr : CSrc w vx ys) (h1 : ∀ p ∈ ys, p.2.oneCell' = true) (hm : xs.length + ys.length ≤ 1000000) (hB : B ≤ w.heap.size)
    (h : ∀ v' w', w'.ownsRow B 65 3 v' (xs ++ ys).length (crow (xs ++ ys)) → Below B w w' → K (a.put o.dst v') w') :
    if Region.wanted o (yielded ops a.tmps) = true then Oper.wp Tryd.prog o a w K Q else E := by
  rw [if_pos (by simp [Region.wanted, hgd])]
  have hi := infoC
  obtain ⟨i, hi, hz⟩ := Option.map_eq_some_iff.1 hi
  simp only [Prod.mk.injEq] at hz
  obtain ⟨hz1, hz2, hz3⟩ := hz
  obtain ⟨ad, c, rfl, hc⟩ := hr
  obtain ⟨v', w', hr, h2, h3, h4⟩ := run_append_own (P := Tryd.prog) w B 39 o.type 65 i _ 3 48 Tryd.underlying39 hi hz1 hz2 hz3 rfl (by decide) v xs.length (crow xs) hown ad ys.length c (crow ys) (crow_length ys) hc (crow_one ys h1) (by unfold maxLen; omega) (by omega) hB
  unfold Oper.wp execOp
  simp only [ho, resolve, invoke, builtin, Sem.run_bind, Sem.run_pure, Result.andThen_ok, List.map_toArray, List.map_cons, List.map_nil, hs, hx, hr]
  exact h v' w' (by rw [crow_app, List.length_append]; exact h2) ((Below.refl _ _).grown h3 hB (fun k hk => (hown.lt k hk).1))
/-! ### what the law does -/
theorem FS.perm {s : JS} {P : PEnts} {g : Nat} (h : FS s P g) (hg : g + 2 < 4611686018427387904) (st : StepP) {cs : List Chg} (hp : (chAll st P).Perm cs) : (jCommit cs s).2 = 0 ∧ (jCommit cs s).1.ents = pChgs P (chAll st P) := by
  obtain ⟨l, pw, e, ge, f⟩ := h
  subst e
  have hm := (may_step l rfl f st).perm hp
  have hc := (commit_may l hm (by omega)).2 pw
  obtain ⟨_, l2, e2, g2⟩ := (commit_live (cs := cs) l).2.1 hc.1
  exact ⟨hc.1, by rw [ents_up l2, e2]; exact (pChgs_perm f.ord hp (chAll_valid st s.c.ents).1.apart).symm⟩
/-- one change after the other -/
structure TS (P : PEnts) (cs : List Chg) (s : JS) (i g : Nat) : Prop where
  live : Live s
  pw : s.d.pw = -1
  ents : s.c.ents = pChgs P (cs.take i)
  gen : s.c.gen ≤ g + 2 * i
theorem TS.next {P : PEnts} {cs : List Chg} {s : JS} {i g : Nat} (h : TS P cs s i g) (hi : i < cs.length) (hF : Few P) (hf : ∀ c ∈ cs, (∃ n, c.key = nameP n) ∧ c.val.length ≤ 3) (hv : Valid cs) (ht : ∀ c ∈ cs, c.drop = true → (pFind P c.key).isSome = true) (hg : g + 2 * i + 2 < 4611686018427387904) :
    (jCommit [cs[i]] s).2 = 0 ∧ TS P cs (jCommit [cs[i]] s).1 (i + 1) g := by
  have hm := may_one h.live hi h.ents hF hf hv ht
  have hgn := h.gen
  have hc := (commit_may h.live hm (by omega)).2 h.pw
  obtain ⟨_, l2, e2, g2⟩ := (commit_live (cs := [cs[i]]) h.live).2.1 hc.1
  refine ⟨hc.1, l2, hc.2, ?_, by omega⟩
  rw [e2, h.ents, ← pChgs_app, List.take_succ_eq_append_getElem hi]
end Go.Proofs.YtondomklkapogaaDoor
