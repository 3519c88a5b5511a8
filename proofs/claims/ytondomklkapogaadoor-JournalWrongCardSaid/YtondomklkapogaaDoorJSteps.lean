/- Plain laws: the changes of a step, and the entries behind them. -/
import Derived.Test.YtondomklkapogaaDoorJOps
namespace Go.Proofs.YtondomklkapogaaDoor
open Go.RowKit SeedP Go.Maps
/-- the entries before a key -/
def before (P : PEnts) (k : List UInt8) : PEnts := P.takeWhile (fun e => bytesBefore e.1 k)
def atP (P : PEnts) (k : List UInt8) : Nat := (before P k).length
theorem before_take (P : PEnts) (k : List UInt8) : P.take (atP P k) = before P k := by
  unfold atP before
  induction P with
  | nil => rfl
  | cons x r ih =>
    rw [List.takeWhile_cons]
    cases bytesBefore x.1 k
    · rfl
    · simp only [if_true, List.length_cons, List.take_succ_cons, ih]
theorem atP_le (P : PEnts) (k : List UInt8) : atP P k ≤ P.length := by
  unfold atP before
  exact (List.takeWhile_prefix _).length_le
theorem atP_lt {P : PEnts} {k : List UInt8} {j : Nat} (h : j < atP P k) : ∃ hj : j < P.length, bytesBefore P[j].1 k = true := by
  have hl : j < P.length := Nat.lt_of_lt_of_le h (atP_le P k)
  refine ⟨hl, ?_⟩
  have h1 : P[j] ∈ P.take (atP P k) := by
    rw [List.mem_take_iff_getElem]; exact ⟨j, by omega, rfl⟩
  rw [before_take] at h1
  have := List.all_takeWhile (p := fun e : List UInt8 × List UInt8 => bytesBefore e.1 k) (l := P)
  exact List.all_eq_true.1 this _ h1
theorem atP_at {P : PEnts} {k : List UInt8} (h : atP P k < P.length) : bytesBefore P[atP P k].1 k = false := by
  unfold atP before at *
  induction P with
  | nil => simp at h
  | cons x r ih =>
    cases hb : bytesBefore x.1 k with
    | false => simp only [List.takeWhile_cons, hb, Bool.false_eq_true, if_false, List.length_nil, List.getElem_cons_zero]
    | true =>
      simp only [List.takeWhile_cons, hb, if_true, List.length_cons, List.getElem_cons_succ] at h ⊢
      exact ih (by omega)
def thereP (P : PEnts) (k : List UInt8) : Bool := match P[atP P k]? with | some e => e.1 == k | none => false
theorem split_at {P : PEnts} {k : List UInt8} (ho : Ordered P) (h : thereP P k = true) : ∃ v, P = P.take (atP P k) ++ (k, v) :: P.drop (atP P k + 1) ∧ k ∉ keysOf (P.take (atP P k)) ∧ (∀ e ∈ P.take (atP P k), bytesBefore e.1 k = true) ∧ (∀ e ∈ P.drop (atP P k + 1), bytesBefore k e.1 = true) := by
  unfold thereP at h
  split at h
  · rename_i e he
    obtain ⟨hl, rfl⟩ := List.getElem?_eq_some_iff.1 he
    have hk : P[atP P k].1 = k := by simpa using h
    have hb : ∀ e ∈ P.take (atP P k), bytesBefore e.1 k = true := by
      intro e he
      obtain ⟨j, hj, rfl⟩ := List.mem_take_iff_getElem.1 he
      exact (atP_lt (k := k) (by omega)).2
    refine ⟨P[atP P k].2, ?_, ?_, hb, ?_⟩
    · have : (k, P[atP P k].2) = P[atP P k] := Prod.ext hk.symm rfl
      conv => lhs; rw [← List.take_append_drop (atP P k) P, List.drop_eq_getElem_cons hl]
      rw [this]
    · intro hm
      obtain ⟨e, he, hek⟩ := List.mem_map.1 hm
      have := hb e he
      rw [hek, blt_irrefl] at this; cases this
    · intro e he
      obtain ⟨j, hj, rfl⟩ := List.mem_drop_iff_getElem.1 he
      have := List.pairwise_iff_getElem.1 ho (atP P k) (atP P k + 1 + j) hl (by omega) (by omega)
      rwa [hk] at this
  · cases h
theorem not_there {P : PEnts} {k : List UInt8} (ho : Ordered P) (h : thereP P k = false) : k ∉ keysOf P ∧ (∀ e ∈ P.take (atP P k), bytesBefore e.1 k = true) ∧ (∀ e ∈ P.drop (atP P k), bytesBefore k e.1 = true) := by
  have hb : ∀ e ∈ P.take (atP P k), bytesBefore e.1 k = true := by
    intro e he
    obtain ⟨j, hj, rfl⟩ := List.mem_take_iff_getElem.1 he
    exact (atP_lt (k := k) (by omega)).2
  have ha : ∀ e ∈ P.drop (atP P k), bytesBefore k e.1 = true := by
    intro e he
    obtain ⟨j, hj, rfl⟩ := List.mem_drop_iff_getElem.1 he
    have hl : atP P k < P.length := by omega
    have h1 := atP_at hl
    have h2 : P[atP P k].1 ≠ k := by
      intro e2
      unfold thereP at h
      rw [List.getElem?_eq_getElem hl] at h
      simp only [e2, beq_self_eq_true] at h; cases h
    have h3 : bytesBefore k P[atP P k].1 = true := by
      rcases blt_total _ _ h2 with h3 | h3
      · rw [h1] at h3; cases h3
      · exact h3
    rcases Nat.eq_zero_or_pos j with rfl | hj0
    · simpa using h3
    · exact blt_trans _ _ _ h3 (List.pairwise_iff_getElem.1 ho (atP P k) (atP P k + j) hl (by omega) (by omega))
  refine ⟨fun hm => ?_, hb, ha⟩
  obtain ⟨e, he, hek⟩ := List.mem_map.1 hm
  rw [← List.take_append_drop (atP P k) P] at he
  rcases List.mem_append.1 he with he | he
  · have := hb e he; rw [hek, blt_irrefl] at this; cases this
  · have := ha e he; rw [hek, blt_irrefl] at this; cases this
theorem pIns_mid {A R : PEnts} {x : List UInt8 × List UInt8} (ha : ∀ e ∈ A, bytesBefore e.1 x.1 = true) (hr : ∀ e ∈ R, bytesBefore x.1 e.1 = true) : pIns x (A ++ R) = A ++ x :: R := by
  induction A with
  | nil =>
    cases R with
    | nil => rfl
    | cons y r =>
      have hb : (Lit.string x.1).before (Lit.string y.1) = bytesBefore x.1 y.1 := rfl
      rw [List.nil_append, pIns, hb, hr y (List.mem_cons_self ..)]
      simp
  | cons y r ih =>
    have hy := ha y (List.mem_cons_self ..)
    have hb : (Lit.string x.1).before (Lit.string y.1) = bytesBefore x.1 y.1 := rfl
    have hn : bytesBefore x.1 y.1 = false := by
      cases hbb : bytesBefore x.1 y.1 with
      | false => rfl
      | true => have := blt_trans _ _ _ hbb hy; rw [blt_irrefl] at this; cases this
    rw [List.cons_append, pIns, hb, hn, ih (fun e he => ha e (List.mem_cons_of_mem _ he))]
    simp
theorem pDel_at {P : PEnts} {k : List UInt8} (ho : Ordered P) (h : thereP P k = true) : pDel P k = P.take (atP P k) ++ P.drop (atP P k + 1) := by
  obtain ⟨v, hP, h1, h2, h3⟩ := split_at ho h
  generalize P.take (atP P k) = A at *
  generalize P.drop (atP P k + 1) = R at *
  subst hP
  have hR : k ∉ keysOf R := by
    intro hm
    obtain ⟨e, he, hek⟩ := List.mem_map.1 hm
    have := h3 e he; rw [hek, blt_irrefl] at this; cases this
  unfold pDel
  rw [List.filter_append, List.filter_cons]
  simp only [beq_self_eq_true, Bool.not_true, Bool.false_eq_true, if_false]
  rw [show List.filter (fun e => !(e.1 == k)) A = A from pDel_not A k h1, show List.filter (fun e => !(e.1 == k)) R = R from pDel_not R k hR]
theorem pPut_at {P : PEnts} {k v : List UInt8} (ho : Ordered P) (h : thereP P k = true) : pPut P (k, v) = P.take (atP P k) ++ (k, v) :: P.drop (atP P k + 1) := by
  unfold pPut
  rw [pDel_at ho h]
  obtain ⟨_, _, _, h2, h3⟩ := split_at ho h
  exact pIns_mid h2 h3
theorem pPut_new {P : PEnts} {k v : List UInt8} (ho : Ordered P) (h : thereP P k = false) : pPut P (k, v) = P.take (atP P k) ++ (k, v) :: P.drop (atP P k) := by
  obtain ⟨h1, h2, h3⟩ := not_there ho h
  unfold pPut
  rw [pDel_not P k h1]
  conv => lhs; rw [← List.take_append_drop (atP P k) P]
  exact pIns_mid h2 h3
theorem there_find {P : PEnts} {k : List UInt8} (ho : Ordered P) : (pFind P k).isSome = thereP P k := by
  cases h : thereP P k with
  | true =>
    obtain ⟨v, hP, _⟩ := split_at ho h
    cases hf : pFind P k with
    | some _ => rfl
    | none =>
      rw [pFind_none] at hf
      exact absurd (by rw [hP]; unfold keysOf; simp) hf
  | false =>
    have := (not_there ho h).1
    rw [← pFind_none] at this
    rw [this]; rfl
/-- the key of a number -/
def nameP (n : Nat) : List UInt8 := [107, UInt8.ofNat (97 + n % 9)]
structure StepP where
  kind : Nat
  n : Nat
  a : Nat
  b : Nat
  power : Nat
def chOne (s : StepP) (P : PEnts) (i : Nat) : Chg :=
  if thereP P (nameP (s.a + i)) && decide (s.b / 2 ^ i % 2 = 1) then ⟨nameP (s.a + i), [], true⟩ else ⟨nameP (s.a + i), [UInt8.ofNat s.b, UInt8.ofNat i, UInt8.ofNat s.a], false⟩
def chList (s : StepP) (P : PEnts) : Nat → List Chg
  | 0 => []
  | i + 1 => chList s P i ++ [chOne s (pChgs P (chList s P i)) i]
def chAll (s : StepP) (P : PEnts) : List Chg := chList s P (s.n % 4 + 1)
theorem chList_len (s : StepP) (P : PEnts) : ∀ i, (chList s P i).length = i
  | 0 => rfl
  | i + 1 => by rw [chList, List.length_append, chList_len s P i]; rfl
theorem chOne_key (s : StepP) (P : PEnts) (i : Nat) : (chOne s P i).key = nameP (s.a + i) := by unfold chOne; split <;> rfl
theorem chList_keys (s : StepP) (P : PEnts) : ∀ i, (chList s P i).map (·.key) = (List.range i).map (fun j => nameP (s.a + j))
  | 0 => rfl
  | i + 1 => by rw [chList, List.map_append, chList_keys s P i, List.range_succ, List.map_append, List.map_cons, List.map_nil, chOne_key]; rfl
theorem nameP_inj {m n : Nat} (h : nameP m = nameP n) : m % 9 = n % 9 := by
  unfold nameP at h
  simp only [List.cons.injEq, and_true, true_and] at h
  have := congrArg UInt8.toNat h
  rw [UInt8.toNat_ofNat', UInt8.toNat_ofNat'] at this
  omega
theorem chList_mem {s : StepP} {P : PEnts} : ∀ {i : Nat} {c : Chg}, c ∈ chList s P i → ∃ j, j < i ∧ c = chOne s (pChgs P (chList s P j)) j
  | 0, c, h => by cases h
  | i + 1, c, h => by
    rw [chList] at h
    rcases List.mem_append.1 h with h | h
    · obtain ⟨j, hj, e⟩ := chList_mem h; exact ⟨j, by omega, e⟩
    · exact ⟨i, by omega, List.mem_singleton.1 h⟩
theorem chOne_fine (s : StepP) (P : PEnts) (i : Nat) : (chOne s P i).key.length = 2 ∧ (chOne s P i).val.length ≤ 3 ∧ ((chOne s P i).drop = true → (chOne s P i).val = []) := by
  unfold chOne; split
  · exact ⟨rfl, Nat.zero_le _, fun _ => rfl⟩
  · exact ⟨rfl, Nat.le_refl _, fun h => by cases h⟩
theorem chAll_valid (s : StepP) (P : PEnts) : Valid (chAll s P) ∧ 1 ≤ (chAll s P).length ∧ (chAll s P).length ≤ 4 := by
  have hl := chList_len s P (s.n % 4 + 1)
  have hlen : (chAll s P).length = s.n % 4 + 1 := hl
  refine ⟨⟨?_, ?_, ?_, ?_, ?_⟩, by omega, by omega⟩
  · intro c hc
    obtain ⟨j, _, rfl⟩ := chList_mem hc
    have := chOne_fine s (pChgs P (chList s P j)) j; omega
  · intro c hc
    obtain ⟨j, _, rfl⟩ := chList_mem hc
    have := chOne_fine s (pChgs P (chList s P j)) j; omega
  · intro c hc
    obtain ⟨j, _, rfl⟩ := chList_mem hc
    exact (chOne_fine s (pChgs P (chList s P j)) j).2.2
  · unfold chAll
    rw [chList_keys]
    have : ∀ n, n ≤ 4 → ((List.range n).map (fun j => nameP (s.a + j))).Nodup := by
      intro n hn
      rw [List.nodup_iff_pairwise_ne, List.pairwise_map]
      refine List.Pairwise.imp_of_mem ?_ (List.nodup_iff_pairwise_ne.1 List.nodup_range)
      intro i j hi hj hij e
      have := nameP_inj e
      rw [List.mem_range] at hi hj
      omega
    exact this _ (by omega)
  · have : ∀ l : List Chg, (∀ c ∈ l, c.key.length = 2 ∧ c.val.length ≤ 3) → codeSize l ≤ 1 + l.length * 9 := by
      intro l hl
      unfold codeSize
      suffices (l.map chgSize).sum ≤ l.length * 9 by omega
      induction l with
      | nil => simp
      | cons c r ih =>
        rw [List.map_cons, List.sum_cons, List.length_cons]
        have h1 := hl c (List.mem_cons_self ..)
        have h2 := ih (fun c hc => hl c (List.mem_cons_of_mem _ hc))
        have h3 : chgSize c ≤ 9 := by unfold chgSize; split <;> omega
        omega
    have := this (chAll s P) (fun c hc => by
      obtain ⟨j, _, rfl⟩ := chList_mem hc
      have := chOne_fine s (pChgs P (chList s P j)) j; exact ⟨this.1, this.2.1⟩)
    omega
/-- entries of the few keys -/
def FewEnts (P : PEnts) : Prop := ∀ e ∈ P, (∃ n, e.1 = nameP n) ∧ e.2.length ≤ 3
end Go.Proofs.YtondomklkapogaaDoor
