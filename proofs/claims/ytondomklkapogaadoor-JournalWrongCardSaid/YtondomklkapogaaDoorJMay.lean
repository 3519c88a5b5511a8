/- Plain laws: the changes of a step may be committed; the entries stay few. -/
import Derived.Test.YtondomklkapogaaDoorJSteps
namespace Go.Proofs.YtondomklkapogaaDoor
open Go.RowKit SeedP Go.Maps
/-- entries of the nine keys, in order -/
structure Few (P : PEnts) : Prop where
  ord : Ordered P
  key : ∀ e ∈ P, ∃ n, e.1 = nameP n
  val : ∀ e ∈ P, e.2.length ≤ 3
theorem Few.nil : Few [] := ⟨List.Pairwise.nil, (fun e he => by cases he), (fun e he => by cases he)⟩
theorem pDel_sub {P : PEnts} {k : List UInt8} {e : List UInt8 × List UInt8} (h : e ∈ pDel P k) : e ∈ P := (List.mem_filter.1 h).1
theorem Few.chg {P : PEnts} (h : Few P) {c : Chg} (hk : ∃ n, c.key = nameP n) (hv : c.val.length ≤ 3) : Few (pChg P c) := by
  refine ⟨pChg_ord h.ord c, ?_, ?_⟩
  · intro e he
    unfold pChg at he
    split at he
    · exact h.key e (pDel_sub he)
    · unfold pPut at he
      rw [pIns_mem] at he
      rcases he with rfl | he
      · exact hk
      · exact h.key e (pDel_sub he)
  · intro e he
    unfold pChg at he
    split at he
    · exact h.val e (pDel_sub he)
    · unfold pPut at he
      rw [pIns_mem] at he
      rcases he with rfl | he
      · exact hv
      · exact h.val e (pDel_sub he)
theorem Few.chgs {P : PEnts} (h : Few P) {cs : List Chg} (hc : ∀ c ∈ cs, (∃ n, c.key = nameP n) ∧ c.val.length ≤ 3) : Few (pChgs P cs) := by
  unfold pChgs
  induction cs generalizing P with
  | nil => exact h
  | cons c r ih => exact ih (h.chg (hc c (List.mem_cons_self ..)).1 (hc c (List.mem_cons_self ..)).2) (fun x hx => hc x (List.mem_cons_of_mem _ hx))
theorem chList_few {s : StepP} {P : PEnts} {i : Nat} : ∀ c ∈ chList s P i, (∃ n, c.key = nameP n) ∧ c.val.length ≤ 3 := by
  intro c hc
  obtain ⟨j, _, rfl⟩ := chList_mem hc
  exact ⟨⟨_, chOne_key s _ j⟩, (chOne_fine s _ j).2.1⟩
theorem Few.all {P : PEnts} (h : Few P) (s : StepP) : Few (pChgs P (chAll s P)) := h.chgs chList_few
theorem ord_nodup {P : PEnts} (h : Ordered P) : (keysOf P).Nodup := by
  unfold keysOf
  rw [List.nodup_iff_pairwise_ne, List.pairwise_map]
  refine h.imp ?_
  intro a b hab e
  rw [e, blt_irrefl] at hab; cases hab
theorem nameP_mod (n : Nat) : nameP n = nameP (n % 9) := by unfold nameP; rw [Nat.mod_mod]
theorem Few.len {P : PEnts} (h : Few P) : P.length ≤ 9 := by
  have h1 : (keysOf P).length ≤ ((List.range 9).map nameP).length := by
    refine List.Nodup.length_le_of_subset (ord_nodup h.ord) ?_
    intro k hk
    obtain ⟨e, he, rfl⟩ := List.mem_map.1 hk
    obtain ⟨n, hn⟩ := h.key e he
    rw [hn, nameP_mod]
    exact List.mem_map.2 ⟨n % 9, List.mem_range.2 (Nat.mod_lt _ (by omega)), rfl⟩
  unfold keysOf at h1
  simpa using h1
theorem nameP_length (n : Nat) : (nameP n).length = 2 := rfl
theorem wt_few : ∀ {P : PEnts}, (∀ e ∈ P, e.1.length = 2 ∧ e.2.length ≤ 3) → pWt P ≤ 8 * (P.length : Int)
  | [], _ => Int.le_refl _
  | x :: r, h => by
    have h1 := h x (List.mem_cons_self ..)
    have h2 := wt_few (P := r) (fun e he => h e (List.mem_cons_of_mem _ he))
    rw [pWt_cons, List.length_cons]
    unfold eWt
    omega
theorem Few.wt {P : PEnts} (h : Few P) : pWt P ≤ 72 := by
  have h1 := wt_few (P := P) (fun e he => ⟨by obtain ⟨n, hn⟩ := h.key e he; rw [hn]; rfl, h.val e he⟩)
  have h2 := h.len
  omega
theorem Few.small {P : PEnts} (h : Few P) : ∀ e ∈ P, e.1.length ≤ 1000 ∧ e.2.length ≤ 1000000 := fun e he => ⟨by obtain ⟨n, hn⟩ := h.key e he; rw [hn, nameP_length]; omega, by have := h.val e he; omega⟩
theorem pChgs_find {k : List UInt8} : ∀ {cs : List Chg} (P : PEnts), k ∉ cs.map (·.key) → pFind (pChgs P cs) k = pFind P k
  | [], _, _ => rfl
  | c :: r, P, h => by
    rw [List.map_cons, List.mem_cons, not_or] at h
    show pFind (pChgs (pChg P c) r) k = _
    rw [pChgs_find _ h.2, pChg_find P c k h.1]
theorem chOne_there {s : StepP} {P : PEnts} {j : Nat} (h : (chOne s P j).drop = true) : thereP P (nameP (s.a + j)) = true := by
  unfold chOne at h
  split at h
  · rename_i h1
    rw [Bool.and_eq_true] at h1; exact h1.1
  · cases h
/-- the changes of a step may be committed to these entries -/
theorem may_step {s : JS} (h : Live s) {P : PEnts} (hP : s.c.ents = P) (hf : Few P) (st : StepP) : May s (chAll st P) := by
  obtain ⟨hv, h1, h2⟩ := chAll_valid st P
  refine ⟨h1, by omega, hv, ?_, ?_⟩
  · intro c hc hd
    have hc' : c ∈ chList st P (st.n % 4 + 1) := hc
    obtain ⟨j, hj, rfl⟩ := chList_mem hc'
    have ht := chOne_there hd
    rw [← there_find (pChgs_ord hf.ord _), pChgs_find] at ht
    · rw [hP, chOne_key]; exact ht
    · rw [chList_keys]
      intro hm
      obtain ⟨i, hi, e⟩ := List.mem_map.1 hm
      rw [List.mem_range] at hi
      have := nameP_inj e
      omega
  · have h3 := pChgs_wt s.c.ents (chAll st P) (ord_nodup (by rw [hP]; exact hf.ord)) hv.apart
    rw [h.ok.wt, ← h3.2, hP]
    have := (hf.all st).wt
    omega
end Go.Proofs.YtondomklkapogaaDoor
