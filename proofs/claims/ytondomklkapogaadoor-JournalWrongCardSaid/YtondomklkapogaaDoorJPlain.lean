/- Plain laws: weights of entries, keys that are apart. -/
import Derived.Test.YtondomklkapogaaDoorJChange
namespace Go.Proofs.YtondomklkapogaaDoor
open Go.RowKit SeedP Go.Maps
def pFind (P : PEnts) (k : List UInt8) : Option (List UInt8) := (P.find? (fun e => e.1 == k)).map (·.2)
def eWt (e : List UInt8 × List UInt8) : Int := 3 + (e.1.length : Int) + e.2.length
def pWt (P : PEnts) : Int := (P.map eWt).sum
def pCw (P : PEnts) (c : Chg) : Int := (if c.drop then 0 else 3 + (c.key.length : Int) + c.val.length) - match pFind P c.key with | some v => 3 + (c.key.length : Int) + v.length | none => 0
def pWAfter (P : PEnts) (wt : Int) (cs : List Chg) : Int := wt + (cs.map (pCw P)).sum
def pPoss (P : PEnts) (wt : Int) (cs : List Chg) : Bool := !(cs.any fun c => c.drop && !(pFind P c.key).isSome) && decide (pWAfter P wt cs ≤ 131072)
def keysOf (P : PEnts) : List (List UInt8) := P.map (·.1)
theorem EB_find (L : List Ent) (k : List UInt8) : pFind (EB L) k = (eFind L k).map (·.bytes) := by
  unfold pFind EB eFind
  rw [List.find?_map, Option.map_map]; rfl
theorem EB_cw (L : List Ent) (c : Chg) : chgWeight L c = pCw (EB L) c := by
  unfold chgWeight pCw; rw [EB_find]; cases eFind L c.key <;> rfl
theorem EB_wAfter (L : List Ent) (wt : Int) (cs : List Chg) : wAfter L wt cs = pWAfter (EB L) wt cs := by
  unfold wAfter pWAfter
  congr 2
  exact List.map_congr_left (fun c _ => EB_cw L c)
theorem EB_poss (L : List Ent) (wt : Int) (cs : List Chg) : possP L wt cs = pPoss (EB L) wt cs := by
  unfold possP pPoss
  rw [EB_wAfter]
  congr 2
  congr 1
  funext c
  rw [EB_find]; cases eFind L c.key <;> rfl
theorem pWt_nonneg (P : PEnts) : 0 ≤ pWt P := by
  unfold pWt
  induction P with
  | nil => simp
  | cons x r ih => rw [List.map_cons, List.sum_cons]; unfold eWt at *; omega
theorem pWt_cons (x : List UInt8 × List UInt8) (P : PEnts) : pWt (x :: P) = eWt x + pWt P := by simp [pWt]
theorem pWt_mem {P : PEnts} {e : List UInt8 × List UInt8} (h : e ∈ P) : eWt e ≤ pWt P := by
  induction P with
  | nil => cases h
  | cons x r ih =>
    rw [pWt_cons]
    have h1 := pWt_nonneg r
    rcases List.mem_cons.1 h with rfl | h
    · omega
    · have := ih h
      have h2 : 0 ≤ eWt x := by unfold eWt; omega
      omega
theorem pWt_len (P : PEnts) : 3 * (P.length : Int) ≤ pWt P := by
  induction P with
  | nil => simp [pWt]
  | cons x r ih => rw [pWt_cons, List.length_cons]; unfold eWt; omega
theorem pIns_perm (x : List UInt8 × List UInt8) (P : PEnts) : (pIns x P).Perm (x :: P) := by
  induction P with
  | nil => exact List.Perm.refl _
  | cons y r ih =>
    simp only [pIns]
    split
    · exact List.Perm.refl _
    · exact (List.Perm.cons y ih).trans (List.Perm.swap x y r)
theorem pWt_perm {P Q : PEnts} (h : P.Perm Q) : pWt P = pWt Q := by
  induction h with
  | nil => rfl
  | cons x _ ih => rw [pWt_cons, pWt_cons, ih]
  | swap x y l => rw [pWt_cons, pWt_cons, pWt_cons, pWt_cons]; omega
  | trans _ _ h1 h2 => exact h1.trans h2
theorem pFind_cons (x : List UInt8 × List UInt8) (P : PEnts) (k : List UInt8) : pFind (x :: P) k = if x.1 == k then some x.2 else pFind P k := by
  unfold pFind; rw [List.find?_cons]; cases x.1 == k <;> rfl
theorem pFind_none (P : PEnts) (k : List UInt8) : pFind P k = none ↔ k ∉ keysOf P := by
  unfold keysOf
  induction P with
  | nil => simp [pFind]
  | cons x r ih =>
    rw [pFind_cons]
    by_cases h : x.1 = k
    · simp [h]
    · have h2 : (x.1 == k) = false := by simpa using h
      rw [h2]
      simp only [Bool.false_eq_true, if_false, ih, List.map_cons, List.mem_cons, not_or]
      exact ⟨fun h3 => ⟨fun e => h e.symm, h3⟩, fun h3 => h3.2⟩
theorem pDel_not (P : PEnts) (k : List UInt8) (h : k ∉ keysOf P) : pDel P k = P := by
  unfold pDel
  rw [List.filter_eq_self]
  intro e he
  have : e.1 ≠ k := fun e2 => h (by unfold keysOf; rw [← e2]; exact List.mem_map_of_mem he)
  simpa using this
theorem pDel_cons (x : List UInt8 × List UInt8) (P : PEnts) (k : List UInt8) : pDel (x :: P) k = if x.1 == k then pDel P k else x :: pDel P k := by
  unfold pDel; rw [List.filter_cons]; cases x.1 == k <;> rfl
theorem pDel_wt (P : PEnts) (k : List UInt8) (h : (keysOf P).Nodup) : pWt (pDel P k) = pWt P - match pFind P k with | some v => 3 + (k.length : Int) + v.length | none => 0 := by
  induction P with
  | nil => simp [pDel, pFind, pWt]
  | cons x r ih =>
    have hn := List.nodup_cons.1 (show (x.1 :: keysOf r).Nodup from h)
    rw [pDel_cons, pFind_cons, pWt_cons]
    by_cases e : x.1 = k
    · subst e
      simp only [beq_self_eq_true, if_true]
      rw [pDel_not r x.1 hn.1]
      show pWt r = eWt x + pWt r - (3 + (x.1.length : Int) + x.2.length)
      unfold eWt; omega
    · have h2 : (x.1 == k) = false := by simpa using e
      rw [h2]
      simp only [Bool.false_eq_true, if_false]
      rw [pWt_cons, ih hn.2]; omega
theorem keys_pDel (P : PEnts) (k : List UInt8) : keysOf (pDel P k) = (keysOf P).filter (fun x => !(x == k)) := by
  unfold keysOf pDel; rw [List.filter_map]; rfl
theorem keys_perm {P Q : PEnts} (h : P.Perm Q) : (keysOf P).Perm (keysOf Q) := h.map _
theorem pDel_find (P : PEnts) (k k' : List UInt8) (h : k' ≠ k) : pFind (pDel P k) k' = pFind P k' := by
  induction P with
  | nil => rfl
  | cons x r ih =>
    rw [pDel_cons, pFind_cons]
    by_cases e : x.1 = k
    · have e1 : (x.1 == k) = true := by simpa using e
      have e2 : (x.1 == k') = false := by simp; intro e3; exact h (e3.symm.trans e)
      rw [e1, e2]; simpa using ih
    · have e1 : (x.1 == k) = false := by simpa using e
      rw [e1]; simp only [Bool.false_eq_true, if_false]; rw [pFind_cons, ih]
theorem pDel_find_same (P : PEnts) (k : List UInt8) : pFind (pDel P k) k = none := by
  rw [pFind_none, keys_pDel]; simp
theorem pIns_find (x : List UInt8 × List UInt8) (P : PEnts) (k : List UInt8) (hx : x.1 ∉ keysOf P) : pFind (pIns x P) k = if x.1 == k then some x.2 else pFind P k := by
  induction P with
  | nil => rw [pIns, pFind_cons]
  | cons y r ih =>
    have hx' : x.1 ≠ y.1 ∧ x.1 ∉ keysOf r := by simpa [keysOf] using hx
    simp only [pIns]
    split
    · rw [pFind_cons]
    · rw [pFind_cons, pFind_cons, ih hx'.2]
      by_cases e : x.1 = k
      · have e2 : (y.1 == k) = false := by simp; intro e3; exact hx'.1 (e.trans e3.symm)
        rw [e2]; simp [e]
      · have e1 : (x.1 == k) = false := by simpa using e
        rw [e1]; simp
theorem pDel_notin (P : PEnts) (k : List UInt8) : k ∉ keysOf (pDel P k) := by rw [keys_pDel]; simp
theorem pPut_find (P : PEnts) (x : List UInt8 × List UInt8) (k : List UInt8) : pFind (pPut P x) k = if x.1 == k then some x.2 else pFind P k := by
  unfold pPut
  rw [pIns_find _ _ _ (pDel_notin P x.1)]
  by_cases e : x.1 = k
  · simp [e]
  · have e1 : (x.1 == k) = false := by simpa using e
    rw [e1]; simp only [Bool.false_eq_true, if_false]; exact pDel_find P x.1 k (fun e2 => e e2.symm)
theorem pPut_nodup (P : PEnts) (x : List UInt8 × List UInt8) (h : (keysOf P).Nodup) : (keysOf (pPut P x)).Nodup := by
  unfold pPut
  refine (keys_perm (pIns_perm x (pDel P x.1))).nodup_iff.2 (List.nodup_cons.2 ⟨pDel_notin P x.1, ?_⟩)
  show (keysOf (pDel P x.1)).Nodup
  rw [keys_pDel]; exact h.filter _
theorem pDel_nodup (P : PEnts) (k : List UInt8) (h : (keysOf P).Nodup) : (keysOf (pDel P k)).Nodup := by rw [keys_pDel]; exact h.filter _
theorem pPut_wt (P : PEnts) (x : List UInt8 × List UInt8) (h : (keysOf P).Nodup) : pWt (pPut P x) = eWt x + pWt P - match pFind P x.1 with | some v => 3 + (x.1.length : Int) + v.length | none => 0 := by
  unfold pPut
  rw [pWt_perm (pIns_perm x _), pWt_cons, pDel_wt P x.1 h]; omega
theorem pChg_nodup (P : PEnts) (c : Chg) (h : (keysOf P).Nodup) : (keysOf (pChg P c)).Nodup := by
  unfold pChg; split
  · exact pDel_nodup P _ h
  · exact pPut_nodup P _ h
theorem pChg_find (P : PEnts) (c : Chg) (k : List UInt8) (h : k ≠ c.key) : pFind (pChg P c) k = pFind P k := by
  unfold pChg; split
  · exact pDel_find P _ _ h
  · rw [pPut_find]
    have e1 : (c.key == k) = false := by simp; exact fun e => h e.symm
    rw [e1]; rfl
theorem pChg_wt (P : PEnts) (c : Chg) (h : (keysOf P).Nodup) : pWt (pChg P c) = pWt P + pCw P c := by
  unfold pChg pCw; split
  · rename_i hd; rw [pDel_wt P _ h]; omega
  · rename_i hd; rw [pPut_wt P _ h]
    show eWt (c.key, c.val) + pWt P - _ = _
    unfold eWt; simp only; omega
theorem pChgs_wt (P : PEnts) (cs : List Chg) (hP : (keysOf P).Nodup) (hc : (cs.map (·.key)).Nodup) : (keysOf (pChgs P cs)).Nodup ∧ pWt (pChgs P cs) = pWAfter P (pWt P) cs := by
  induction cs generalizing P with
  | nil => exact ⟨hP, by simp [pChgs, pWAfter]⟩
  | cons c r ih =>
    have hn := List.nodup_cons.1 (show (c.key :: r.map (·.key)).Nodup from hc)
    have h := ih (pChg P c) (pChg_nodup P c hP) hn.2
    refine ⟨h.1, h.2.trans ?_⟩
    unfold pWAfter
    rw [pChg_wt P c hP, List.map_cons, List.sum_cons]
    have e : r.map (pCw (pChg P c)) = r.map (pCw P) := by
      refine List.map_congr_left (fun c' hc' => ?_)
      unfold pCw
      rw [pChg_find P c c'.key (fun e => hn.1 (by rw [← e]; exact List.mem_map_of_mem hc'))]
    rw [e]; omega
/-! ### changes that are valid -/
structure Valid (cs : List Chg) : Prop where
  key : ∀ c ∈ cs, 1 ≤ c.key.length ∧ c.key.length ≤ 40
  val : ∀ c ∈ cs, c.val.length ≤ 4096
  drop : ∀ c ∈ cs, c.drop = true → c.val = []
  apart : (cs.map (·.key)).Nodup
  size : codeSize cs ≤ 65536
theorem valid_zero (cs : List Chg) : validP cs = 0 ↔ Valid cs := by
  have hbad : ∀ j (h : j < cs.length), badAt cs j = false ↔ (1 ≤ cs[j].key.length ∧ cs[j].key.length ≤ 40 ∧ cs[j].key ∉ (cs.take j).map (·.key) ∧ (cs[j].drop = true → cs[j].val = [])) := by
    intro j h
    rw [badAt_eq cs j h]
    unfold bad1
    simp only [Bool.or_eq_false_iff, decide_eq_false_iff_not, Bool.and_eq_false_imp, List.contains_eq_mem]
    constructor
    · rintro ⟨⟨⟨h1, h2⟩, h3⟩, h4⟩
      exact ⟨by omega, by omega, h3, fun hd => List.eq_nil_of_length_eq_zero (by have := h4 hd; omega)⟩
    · rintro ⟨h1, h2, h3, h4⟩
      exact ⟨⟨⟨by omega, by omega⟩, h3⟩, fun hd => by rw [h4 hd]; simp⟩
  have hnd : ∀ n, n ≤ cs.length → (∀ j (h : j < cs.length), j < n → cs[j].key ∉ (cs.take j).map (·.key)) → ((cs.take n).map (·.key)).Nodup := by
    intro n
    induction n with
    | zero => intro _ _; simp
    | succ n ih =>
      intro hn hh
      rw [List.take_succ_eq_append_getElem (by omega), List.map_append, List.map_cons, List.map_nil]
      refine List.nodup_append.2 ⟨ih (by omega) (fun j h hj => hh j h (by omega)), by simp, ?_⟩
      intro a ha b hb
      rcases List.mem_singleton.1 hb with rfl
      intro e
      exact hh n (by omega) (by omega) (by rw [← e]; exact ha)
  constructor
  · intro h
    have h1 : ∀ j, j < cs.length → badAt cs j = false := by
      intro j hj
      cases hb : badAt cs j with
      | false => rfl
      | true => rw [valid_bad cs j hj hb] at h; cases h
    have h2 : (cs.any (fun c => decide (4096 < c.val.length)) || decide (65536 < codeSize cs)) = false := by
      cases hb : (cs.any (fun c => decide (4096 < c.val.length)) || decide (65536 < codeSize cs)) with
      | false => rfl
      | true => rw [valid_long cs h1 hb] at h; cases h
    simp only [Bool.or_eq_false_iff, List.any_eq_false, decide_eq_true_eq, decide_eq_false_iff_not] at h2
    refine ⟨fun c hc => ?_, fun c hc => by have := h2.1 c hc; omega, fun c hc hd => ?_, ?_, by omega⟩
    · obtain ⟨j, hj, rfl⟩ := List.getElem_of_mem hc
      have := (hbad j hj).1 (h1 j hj)
      exact ⟨this.1, this.2.1⟩
    · obtain ⟨j, hj, rfl⟩ := List.getElem_of_mem hc
      exact ((hbad j hj).1 (h1 j hj)).2.2.2 hd
    · have := hnd cs.length (Nat.le_refl _) (fun j h _ => ((hbad j h).1 (h1 j h)).2.2.1)
      rwa [List.take_of_length_le (Nat.le_refl _)] at this
  · intro h
    refine valid_fine cs (fun j hj => ?_) ?_
    · rw [hbad j hj]
      have hm := List.getElem_mem hj
      refine ⟨(h.key _ hm).1, (h.key _ hm).2, fun hin => ?_, h.drop _ hm⟩
      have hap := h.apart
      have e : cs = cs.take j ++ cs[j] :: cs.drop (j + 1) := by rw [← List.drop_eq_getElem_cons hj, List.take_append_drop]
      rw [e, List.map_append, List.map_cons] at hap
      exact (List.nodup_append.1 hap).2.2 _ hin _ (List.mem_cons_self ..) rfl
    · simp only [Bool.or_eq_false_iff, List.any_eq_false, decide_eq_true_eq, decide_eq_false_iff_not]
      exact ⟨fun c hc => by have := h.val c hc; omega, by have := h.size; omega⟩
end Go.Proofs.YtondomklkapogaaDoor
