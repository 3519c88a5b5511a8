/- Plain laws: changes of different keys, in any order, at once or one by one. -/
import Derived.Test.YtondomklkapogaaDoorJMay
namespace Go.Proofs.YtondomklkapogaaDoor
open Go.RowKit SeedP Go.Maps
theorem find_before {P : PEnts} {k : List UInt8} (h : ∀ e ∈ P, bytesBefore k e.1 = true) : pFind P k = none := by
  rw [pFind_none]
  intro hm
  obtain ⟨e, he, rfl⟩ := List.mem_map.1 hm
  have := h e he
  rw [blt_irrefl] at this; cases this
/-- entries in order are what they answer -/
theorem ord_ext : ∀ {P Q : PEnts}, Ordered P → Ordered Q → (∀ k, pFind P k = pFind Q k) → P = Q
  | [], [], _, _, _ => rfl
  | [], y :: t, _, _, h => by
    have := h y.1
    rw [pFind_cons] at this
    simp only [beq_self_eq_true, if_true] at this
    cases this
  | x :: r, [], _, _, h => by
    have := h x.1
    rw [pFind_cons] at this
    simp only [beq_self_eq_true, if_true] at this
    cases this
  | x :: r, y :: t, hP, hQ, h => by
    obtain ⟨hx, hr⟩ := List.pairwise_cons.1 hP
    obtain ⟨hy, ht⟩ := List.pairwise_cons.1 hQ
    have e : x.1 = y.1 := by
      apply Classical.byContradiction
      intro hne
      rcases blt_total _ _ hne with hl | hl
      · have h1 := h x.1
        rw [find_before (P := y :: t) (k := x.1) (fun e he => by
          rcases List.mem_cons.1 he with rfl | he
          · exact hl
          · exact blt_trans _ _ _ hl (hy e he)), pFind_cons] at h1
        simp only [beq_self_eq_true, if_true] at h1
        cases h1
      · have h1 := h y.1
        rw [find_before (P := x :: r) (k := y.1) (fun e he => by
          rcases List.mem_cons.1 he with rfl | he
          · exact hl
          · exact blt_trans _ _ _ hl (hx e he)), pFind_cons] at h1
        simp only [beq_self_eq_true, if_true] at h1
        cases h1
    have e2 : x.2 = y.2 := by
      have h1 := h x.1
      rw [pFind_cons, pFind_cons, e] at h1
      simp only [beq_self_eq_true, if_true, Option.some.injEq] at h1
      exact h1
    have e3 : r = t := by
      refine ord_ext hr ht (fun k => ?_)
      by_cases hk : k = x.1
      · rw [hk, find_before hx, e, find_before hy]
      · have h1 := h k
        rw [pFind_cons, pFind_cons, ← e, beq_eq_false_iff_ne.2 (fun e => hk e.symm)] at h1
        simpa using h1
    rw [Prod.ext e e2, e3]
theorem pChg_find_same (P : PEnts) (c : Chg) : pFind (pChg P c) c.key = if c.drop then none else some c.val := by
  unfold pChg
  split
  · exact pDel_find_same P c.key
  · rw [pPut_find]; simp
/-- what is found behind changes of different keys -/
theorem pChgs_find_in {k : List UInt8} : ∀ {cs : List Chg} (P : PEnts), (cs.map (·.key)).Nodup → ∀ c ∈ cs, c.key = k → pFind (pChgs P cs) k = if c.drop then none else some c.val
  | [], _, _, c, hc, _ => by cases hc
  | d :: r, P, hn, c, hc, hk => by
    rw [List.map_cons, List.nodup_cons] at hn
    show pFind (pChgs (pChg P d) r) k = _
    rcases List.mem_cons.1 hc with rfl | hc
    · rw [pChgs_find _ (by rw [← hk]; exact hn.1), ← hk, pChg_find_same]
    · exact pChgs_find_in _ hn.2 c hc hk
theorem pChgs_perm {P : PEnts} (hP : Ordered P) {cs cs' : List Chg} (hp : cs.Perm cs') (hn : (cs.map (·.key)).Nodup) : pChgs P cs = pChgs P cs' := by
  have hn' : (cs'.map (·.key)).Nodup := (hp.map _).nodup_iff.1 hn
  refine ord_ext (pChgs_ord hP _) (pChgs_ord hP _) (fun k => ?_)
  by_cases hk : k ∈ cs.map (·.key)
  · obtain ⟨c, hc, rfl⟩ := List.mem_map.1 hk
    rw [pChgs_find_in P hn c hc rfl, pChgs_find_in P hn' c (hp.mem_iff.1 hc) rfl]
  · have hk' : k ∉ cs'.map (·.key) := fun h => hk ((hp.map _).mem_iff.2 h)
    rw [pChgs_find P hk, pChgs_find P hk']
theorem pChgs_app (P : PEnts) (a b : List Chg) : pChgs P (a ++ b) = pChgs (pChgs P a) b := List.foldl_append
theorem Valid.perm {cs cs' : List Chg} (h : Valid cs) (hp : cs.Perm cs') : Valid cs' :=
  ⟨fun c hc => h.key c (hp.mem_iff.2 hc), fun c hc => h.val c (hp.mem_iff.2 hc), fun c hc => h.drop c (hp.mem_iff.2 hc), (hp.map _).nodup_iff.1 h.apart, by
    have h1 := h.size
    unfold codeSize at h1 ⊢
    have : (cs.map chgSize).sum = (cs'.map chgSize).sum := (hp.map _).sum_nat
    omega⟩
theorem May.perm {s : JS} {cs cs' : List Chg} (h : May s cs) (hp : cs.Perm cs') : May s cs' := by
  refine ⟨by rw [← hp.length_eq]; exact h.some, by rw [← hp.length_eq]; exact h.many, h.valid.perm hp, fun c hc => h.there c (hp.mem_iff.2 hc), ?_⟩
  have h1 := h.weight
  unfold pWAfter at h1 ⊢
  have : (cs.map (pCw s.c.ents)).sum = (cs'.map (pCw s.c.ents)).sum := by
    have hp2 := hp.map (pCw s.c.ents)
    generalize cs.map (pCw s.c.ents) = a at *
    generalize cs'.map (pCw s.c.ents) = b at *
    clear h1
    induction hp2 with
    | nil => rfl
    | cons x _ ih => rw [List.sum_cons, List.sum_cons, ih]
    | swap x y l => simp only [List.sum_cons]; omega
    | trans _ _ ih1 ih2 => rw [ih1, ih2]
  omega
theorem valid_single {cs : List Chg} (h : Valid cs) {c : Chg} (hc : c ∈ cs) : Valid [c] := by
  refine ⟨fun x hx => ?_, fun x hx => ?_, fun x hx => ?_, by simp, ?_⟩
  · obtain rfl := List.mem_singleton.1 hx; exact h.key _ hc
  · obtain rfl := List.mem_singleton.1 hx; exact h.val _ hc
  · obtain rfl := List.mem_singleton.1 hx; exact h.drop _ hc
  · have h1 := h.size
    unfold codeSize at h1 ⊢
    have h2 : ∀ l : List Chg, c ∈ l → chgSize c ≤ (l.map chgSize).sum := by
      intro l
      induction l with
      | nil => intro h; cases h
      | cons x r ih =>
        intro h
        rw [List.map_cons, List.sum_cons]
        rcases List.mem_cons.1 h with rfl | h
        · omega
        · have := ih h; omega
    have := h2 cs hc
    simp; omega
/-- one change of a step's, behind those ahead of it -/
theorem may_one {s : JS} (h : Live s) {P : PEnts} {cs : List Chg} {i : Nat} (hi : i < cs.length) (he : s.c.ents = pChgs P (cs.take i)) (hP : Few P) (hf : ∀ c ∈ cs, (∃ n, c.key = nameP n) ∧ c.val.length ≤ 3) (hv : Valid cs) (ht : ∀ c ∈ cs, c.drop = true → (pFind P c.key).isSome = true) : May s [cs[i]] := by
  have hm : cs[i] ∈ cs := List.getElem_mem hi
  have hsub : ∀ c ∈ cs.take i, (∃ n, c.key = nameP n) ∧ c.val.length ≤ 3 := fun c hc => hf c (List.mem_of_mem_take hc)
  have hF : Few s.c.ents := by rw [he]; exact hP.chgs hsub
  refine ⟨by simp, by simp, valid_single hv hm, ?_, ?_⟩
  · intro c hc hd
    obtain rfl := List.mem_singleton.1 hc
    rw [he, pChgs_find]
    · exact ht _ hm hd
    · intro hmm
      obtain ⟨c2, hc2, e⟩ := List.mem_map.1 hmm
      obtain ⟨j, hj, rfl⟩ := List.mem_take_iff_getElem.1 hc2
      have hn := hv.apart
      rw [List.nodup_iff_pairwise_ne, List.pairwise_map] at hn
      have := List.pairwise_iff_getElem.1 hn j i (by omega) hi (by omega)
      exact this e
  · have h3 := pChgs_wt s.c.ents [cs[i]] (ord_nodup hF.ord) (by simp)
    rw [h.ok.wt, ← h3.2]
    have := (hF.chgs (cs := [cs[i]]) (fun c hc => by obtain rfl := List.mem_singleton.1 hc; exact hf _ hm)).wt
    omega
end Go.Proofs.YtondomklkapogaaDoor
