/- A drawn region met by a table of what its operations yield: each operation is looked at once, whatever the order. Plain law, no program in sight. -/
import Derived.StillTail
import Derived.StillTactics
namespace Go.Proofs.YtondomklkapogaaDoor
section
variable {P : Program} {ops : Array Oper} {md : Region.Mode}

/-- one operation, which ends in no panic -/
def opN (P : Program) (ops : Array Oper) (i : Nat) (K : Act → World → Prop) (a : Act) (w : World) : Prop :=
  match ops[i]? with
  | none => K a w
  | some o => if Region.wanted o (yielded ops a.tmps) then o.wp P a w K (fun _ _ _ => False) else K (a.put o.dst undef) w

/-- two acts agree wherever no operation is still to write -/
def Agr (ops : Array Oper) (listed : Array Bool) (a b : Act) : Prop :=
  a.defers = b.defers ∧ a.tmps.size = b.tmps.size ∧ ∀ t, (∀ i o, ops[i]? = some o → o.dst = some t → listed.getD i false = true) → a.tmps[t]? = b.tmps[t]?

/-- no operation waits for a later one; whose result it reads, for that one it waits -/
def tabB (md : Region.Mode) (ops : Array Oper) : Bool :=
  Region.noSelect ops && (List.range ops.size).all fun i => match ops[i]? with
    | none => true
    | some o => (o.after.all fun e => !Region.binds md e || decide (e.on < i)) &&
      (List.range ops.size).all fun j => match (ops[j]?).bind (·.dst) with
        | none => true
        | some d => !(o.looksAt ops).contains d || o.after.any fun e => Region.binds md e && e.on == j

theorem tabB_spec (h : tabB md ops = true) : Region.noSelect ops = true ∧ ∀ i o, ops[i]? = some o →
    (∀ e ∈ o.after, Region.binds md e = true → e.on < i) ∧ ∀ j oj d, ops[j]? = some oj → oj.dst = some d → d ∈ o.looksAt ops → ∃ e ∈ o.after, Region.binds md e = true ∧ e.on = j := by
  unfold tabB at h
  rw [Bool.and_eq_true, List.all_eq_true] at h
  refine ⟨h.1, fun i o hi => ?_⟩
  have hlt : i < ops.size := (Array.getElem?_eq_some_iff.1 hi).1
  have h1 := h.2 i (List.mem_range.2 hlt)
  simp only [hi, Bool.and_eq_true, List.all_eq_true] at h1
  refine ⟨fun e he hb => ?_, fun j oj d hj hd hm => ?_⟩
  · have h2 := Array.all_eq_true_iff_forall_mem.1 h1.1 e he
    simpa [hb] using h2
  · have hltj : j < ops.size := (Array.getElem?_eq_some_iff.1 hj).1
    have h2 := h1.2 j (List.mem_range.2 hltj)
    simp only [hj, Option.bind_some, hd, Bool.or_eq_true, Bool.not_eq_true'] at h2
    rcases h2 with h2 | h2
    · have : (o.looksAt ops).contains d = true := by simpa using hm
      rw [this] at h2; cases h2
    · obtain ⟨e, he, hb⟩ := Array.any_eq_true'.1 h2
      simp only [Bool.and_eq_true, beq_iff_eq] at hb
      exact ⟨e, he, hb.1, hb.2⟩

theorem Agr.look {listed : Array Bool} {a b : Act} (hA : Agr ops listed a b) {t : Nat} (ht : ∀ i o, ops[i]? = some o → o.dst = some t → listed.getD i false = true) : a.tmps[t]? = b.tmps[t]? := hA.2.2 t ht

theorem Agr.put {listed : Array Bool} {a b : Act} (hA : Agr ops listed a b) {i : Nat} {o : Oper} (hi : ops[i]? = some o) (v : Value) : Agr ops (listed.setIfInBounds i true) (a.put o.dst v) (b.put o.dst v) := by
  obtain ⟨hd, hs, hl⟩ := hA
  have back : ∀ t, o.dst ≠ some t → (∀ j oj, ops[j]? = some oj → oj.dst = some t → (listed.setIfInBounds i true).getD j false = true) → a.tmps[t]? = b.tmps[t]? := fun t hne h => hl t fun j oj hj ht => by
    have h1 := h j oj hj ht
    by_cases e : i = j
    · subst e
      obtain rfl : oj = o := Option.some.inj (hj.symm.trans hi)
      exact absurd ht hne
    · rwa [getD_set_ne false e] at h1
  cases ho : o.dst with
  | none => exact ⟨hd, hs, fun t h => back t (by rw [ho]; simp) h⟩
  | some d =>
    refine ⟨hd, by simp [Act.put, hs], fun t h => ?_⟩
    by_cases e : d = t
    · subst e
      simp only [Act.put, Array.getElem?_setIfInBounds, if_true, hs]
    · simp only [Act.put, Array.getElem?_setIfInBounds_ne e]
      exact back t (by rw [ho]; simpa using e) h

theorem Agr.evalAt {listed : Array Bool} {a b : Act} (hB : tabB md ops = true) (hA : Agr ops listed a b) {i : Nat} {o : Oper} (hi : ops[i]? = some o) (hr : i ∈ Region.ready md ops listed) :
    execOp a.eval o = execOp b.eval o ∧ Region.wanted o (yielded ops a.tmps) = Region.wanted o (yielded ops b.tmps) := by
  obtain ⟨hns, hall⟩ := tabB_spec hB
  obtain ⟨_, hdep⟩ := hall i o hi
  obtain ⟨_, o', ho', haf⟩ := mem_ready.1 hr
  obtain rfl : o' = o := Option.some.inj (ho'.symm.trans hi)
  have look : ∀ t, t ∈ o'.looksAt ops → a.tmps[t]? = b.tmps[t]? := fun t ht => hA.look fun j oj hj hd => by
    obtain ⟨e, he, hb, rfl⟩ := hdep j oj t hj hd ht
    exact haf e he hb
  constructor
  · refine execOp_congr o' (fun cs b => Region.noSelect_spec hns i o' cs b hi) fun x hx => ?_
    cases x with
    | tmp t =>
      have := look t (List.mem_append_left _ (List.mem_filterMap.2 ⟨.tmp t, by simpa using hx, rfl⟩))
      simp [Act.eval, this]
    | _ => rfl
  · unfold Region.wanted
    cases hg : o'.guard with
    | none => rfl
    | some gw =>
      obtain ⟨g, want⟩ := gw
      have hy : yielded ops a.tmps g = yielded ops b.tmps g := by
        unfold yielded
        cases ht : (ops[g]?).bind (·.dst) with
        | none => rfl
        | some t =>
          have := look t (by simp [Oper.looksAt, hg, ht])
          simp [this]
      simp only [hy]

theorem opN_move {listed : Array Bool} {a b : Act} {w : World} {Q : Exit → Act → World → Prop} {K : Act → World → Prop} (hB : tabB md ops = true) (hA : Agr ops listed a b) {i : Nat} (hr : i ∈ Region.ready md ops listed)
    (h : opN P ops i K b w) : wpOp P ops Q i (fun a' w' => ∃ b', Agr ops (listed.setIfInBounds i true) a' b' ∧ K b' w') a w := by
  obtain ⟨_, o, hi, _⟩ := mem_ready.1 hr
  obtain ⟨he, hw⟩ := hA.evalAt hB hi hr
  unfold opN at h
  unfold wpOp
  simp only [hi] at h ⊢
  rw [hw]
  split
  · rename_i hww
    simp only [hww, if_true] at h
    refine .inl ?_
    unfold Oper.wp at *
    rw [he]
    generalize (execOp b.eval o).run P w = r at *
    cases r with
    | ok n w' =>
      cases n <;> simp only [Oper.upon] at h ⊢
      case value u => exact ⟨_, hA.put hi u, h⟩
      case skip => exact ⟨_, hA.put hi _, h⟩
      case defer d =>
        have hA' : Agr ops listed { a with defers := d :: a.defers } { b with defers := d :: b.defers } := ⟨by simp [hA.1], hA.2.1, hA.2.2⟩
        exact ⟨_, hA'.put hi _, h⟩
      case enter f args =>
        refine Calls.mono h fun e w'' he => ?_
        cases e with
        | returned u => exact ⟨_, hA.put hi u, he⟩
        | panicked c => exact he.elim
        | outgrown => obtain ⟨_, _, hf⟩ := he; exact hf.elim
      case row row args => exact Rows.mono h fun u w'' he => ⟨_, hA.put hi u, he⟩
    | halt x w' =>
      cases x <;> simp only [Oper.upon] at h ⊢
  · rename_i hww
    simp only [hww] at h
    exact ⟨_, hA.put hi undef, h⟩

theorem ready_nil_all {listed : Array Bool} (hB : tabB md ops = true) (hs : listed.size = ops.size) (h : Region.ready md ops listed = []) : ∀ i, i < ops.size → listed.getD i false = true := by
  intro i
  induction i using Nat.strongRecOn with
  | _ i ih =>
    intro hi
    cases hl : listed.getD i false with
    | true => rfl
    | false =>
      have : i ∈ Region.ready md ops listed := mem_ready.2 ⟨getD_in (by omega) hl, ops[i], by simp [hi], fun e he hb => by
        have h1 := ((tabB_spec hB).2 i ops[i] (by simp [hi])).1 e he hb
        exact ih e.on h1 (by omega)⟩
      rw [h] at this
      cases this

theorem Agr.all {listed : Array Bool} {a b : Act} (hA : Agr ops listed a b) (h : ∀ i, i < ops.size → listed.getD i false = true) : a = b := by
  obtain ⟨h1, h2, h3⟩ := hA
  have e : a.tmps = b.tmps := Array.ext_getElem? fun t => h3 t fun i o hi _ => h i (Array.getElem?_eq_some_iff.1 hi).1
  cases a; cases b
  simp only at h1 e
  subst h1; subst e
  rfl

theorem wpAny_tab {Q : Exit → Act → World → Prop} (hB : tabB md ops = true) (J : Array Bool → Act → World → Prop)
    (hJ : ∀ listed i b w, listed.size = ops.size → i ∈ Region.ready md ops listed → J listed b w → opN P ops i (fun b' w' => J (listed.setIfInBounds i true) b' w') b w)
    (hQ : ∀ listed b w, (∀ i, i < ops.size → listed.getD i false = true) → J listed b w → Q .normal b w) :
    ∀ (fuel : Nat) (listed : Array Bool) (a b : Act) (w : World), listed.size = ops.size → listed.count false ≤ fuel → Agr ops listed a b → J listed b w → wpAny P md ops Q fuel listed a w := by
  intro fuel
  have done : ∀ (listed : Array Bool) (a b : Act) (w : World), listed.size = ops.size → Agr ops listed a b → J listed b w → Region.ready md ops listed = [] → Q .normal a w := fun listed a b w hs hA hj hr => by
    have hl := ready_nil_all hB hs hr
    rw [hA.all hl]
    exact hQ listed b w hl hj
  induction fuel with
  | zero =>
    intro listed a b w hs hc hA hj
    have hr : Region.ready md ops listed = [] := by
      cases hr : Region.ready md ops listed with
      | nil => rfl
      | cons i l =>
        have hi : i ∈ Region.ready md ops listed := by rw [hr]; simp
        have h0 := (mem_ready.1 hi).1
        have hc' : false ∉ listed := Array.count_eq_zero.1 (Nat.le_zero.1 hc)
        exfalso
        apply hc'
        rcases Nat.lt_or_ge i listed.size with h | h
        · simp [h] at h0; exact h0 ▸ Array.getElem_mem h
        · simp [Array.getElem?_eq_none h] at h0
    exact ⟨hr, done _ _ _ _ hs hA hj hr⟩
  | succ fuel ih =>
    intro listed a b w hs hc hA hj
    refine ⟨fun hr => done _ _ _ _ hs hA hj hr, fun i hi => ?_⟩
    refine wpOp_mono (fun a' w' h => ?_) (opN_move (Q := Q) hB hA hi (hJ listed i b w hs hi hj))
    obtain ⟨b', hA', hj'⟩ := h
    refine ih _ _ _ _ (by simpa using hs) ?_ hA' hj'
    have h0 := (mem_ready.1 hi).1
    rcases Nat.lt_or_ge i listed.size with h | h
    · have hv : listed[i] = false := by simpa [h] using h0
      have hpos : 0 < listed.count false := Array.count_pos_iff.2 (hv ▸ Array.getElem_mem h)
      simp only [Array.setIfInBounds, h, dif_pos, Array.count_set, hv]
      simp
      omega
    · simp [Array.getElem?_eq_none h] at h0

/-- the region, by an invariant over the operations that are done -/
theorem wp_region_tab {id : Nat} {Q : Exit → Act → World → Prop} {a : Act} {w : World} (hm : P.follows .mixedOrders = true) (hB : tabB .any ops = true) (J : Array Bool → Act → World → Prop) (b : Act)
    (hA : Agr ops (Array.replicate ops.size false) a b) (h0 : J (Array.replicate ops.size false) b { w with drawn := w.drawn + 1 })
    (hJ : ∀ listed i b w, listed.size = ops.size → i ∈ Region.ready .any ops listed → J listed b w → opN P ops i (fun b' w' => J (listed.setIfInBounds i true) b' w') b w)
    (hQ : ∀ listed b w, (∀ i, i < ops.size → listed.getD i false = true) → J listed b w → Q .normal b w) : (Code.region id ops true).wp P Q a w :=
  wp_region_any hm (wpAny_tab hB J hJ hQ _ _ _ _ _ (by simp) (by simp) hA h0)

/-- the act with all that the operations yield -/
def fillAct : List Oper → Nat → (Nat → Value) → Act → Act
  | [], _, _, a => a
  | o :: l, k, vs, a => fillAct l (k + 1) vs (a.put o.dst (vs k))
def updV (vs : Nat → Value) (i : Nat) (v : Value) : Nat → Value := fun k => if k = i then v else vs k
theorem updV_same (vs : Nat → Value) (i : Nat) (v : Value) : updV vs i v i = v := by simp [updV]
theorem updV_ne (vs : Nat → Value) {i k : Nat} (v : Value) (h : k ≠ i) : updV vs i v k = vs k := by simp [updV, h]
theorem updV_self (vs : Nat → Value) (i : Nat) : updV vs i (vs i) = vs := by
  funext k
  by_cases e : k = i
  · subst e; exact updV_same _ _ _
  · exact updV_ne _ _ e
/-- no two of them write the same -/
def dstB : List Oper → Bool
  | [] => true
  | o :: l => (match o.dst with
    | none => true
    | some d => l.all fun x => x.dst != some d) && dstB l
theorem fill_congr : ∀ (l : List Oper) (k : Nat) (vs vs' : Nat → Value) (a : Act), (∀ j, k ≤ j → vs j = vs' j) → fillAct l k vs a = fillAct l k vs' a
  | [], _, _, _, _, _ => rfl
  | o :: l, k, vs, vs', a, h => by
    simp only [fillAct]
    rw [h k (Nat.le_refl _)]
    exact fill_congr l (k + 1) vs vs' _ (fun j hj => h j (by omega))
theorem fill_out : ∀ (l : List Oper) (k : Nat) (vs : Nat → Value) (a : Act) (d : Tmp) (v : Value), (∀ o ∈ l, o.dst ≠ some d) → (fillAct l k vs a).put (some d) v = fillAct l k vs (a.put (some d) v)
  | [], _, _, _, _, _, _ => rfl
  | o :: l, k, vs, a, d, v, h => by
    simp only [fillAct]
    rw [fill_out l (k + 1) vs _ d v (fun x hx => h x (by simp [hx]))]
    rw [Act.put_comm a (vs k) v (fun e he hd => h o (by simp) (he.trans hd.symm))]
theorem put_put (a : Act) (x : Option Tmp) (v u : Value) : (a.put x v).put x u = a.put x u := by
  cases x with
  | none => rfl
  | some d => simp [Act.put]
theorem fill_put : ∀ (l : List Oper) (k : Nat) (vs : Nat → Value) (a : Act) (i : Nat) (o : Oper) (v : Value), dstB l = true → l[i]? = some o → (fillAct l k vs a).put o.dst v = fillAct l k (updV vs (k + i) v) a
  | [], _, _, _, _, _, _, _, h => by simp at h
  | x :: l, k, vs, a, 0, o, v, hB, h => by
    obtain rfl : x = o := by simpa using h
    simp only [dstB, Bool.and_eq_true] at hB
    simp only [fillAct, Nat.add_zero, updV_same]
    rw [fill_congr l (k + 1) (updV vs k v) vs _ (fun j hj => updV_ne _ _ (by omega))]
    cases hd : x.dst with
    | none =>
      rfl
    | some d =>
      rw [hd] at hB
      rw [fill_out l (k + 1) vs _ d v (fun y hy => by have := List.all_eq_true.1 hB.1 y hy; simpa using this), put_put]
  | x :: l, k, vs, a, i + 1, o, v, hB, h => by
    simp only [dstB, Bool.and_eq_true] at hB
    simp only [fillAct]
    rw [fill_put l (k + 1) vs _ i o v hB.2 (by simpa using h), updV_ne _ _ (by omega), show k + 1 + i = k + (i + 1) by omega]
theorem fill_agr (l : List Oper) (vs : Nat → Value) (a : Act) : Agr l.toArray (Array.replicate l.length false) a (fillAct l 0 vs a) := by
  have key : ∀ (l : List Oper) (k : Nat) (a : Act), (fillAct l k vs a).defers = a.defers ∧ (fillAct l k vs a).tmps.size = a.tmps.size ∧ ∀ t, (∀ o ∈ l, o.dst ≠ some t) → (fillAct l k vs a).tmps[t]? = a.tmps[t]? := by
    intro l
    induction l with
    | nil => intro k a; exact ⟨rfl, rfl, fun _ _ => rfl⟩
    | cons o l ih =>
      intro k a
      obtain ⟨h1, h2, h3⟩ := ih (k + 1) (a.put o.dst (vs k))
      simp only [fillAct]
      refine ⟨?_, ?_, fun t ht => ?_⟩
      · rw [h1]; cases o.dst <;> rfl
      · rw [h2]; cases o.dst <;> simp [Act.put]
      · rw [h3 t (fun x hx => ht x (by simp [hx]))]
        have hne := ht o (by simp)
        cases hd : o.dst with
        | none => rfl
        | some d =>
          rw [hd] at hne
          simp only [Act.put]
          exact Array.getElem?_setIfInBounds_ne (fun e => hne (by rw [e]))
  obtain ⟨h1, h2, h3⟩ := key l 0 a
  refine ⟨h1.symm, h2.symm, fun t ht => (h3 t fun o ho hd => ?_).symm⟩
  obtain ⟨i, hi⟩ := List.mem_iff_getElem?.1 ho
  have := ht i o (by simpa using hi) hd
  rw [getD_replicate_false] at this
  cases this

/-- what an operation that only looks yields, is in the table -/
def Gv (P : Program) (Y : Nat → Option Bool) (b : Act) (w : World) (o : Oper) (v : Value) : Prop :=
  (Region.wanted o Y = true ∧ (execOp b.eval o).run P w = .ok (.value v) w) ∨ (Region.wanted o Y = false ∧ undef = v)
def GvAll (P : Program) (Y : Nat → Option Bool) (b : Act) (w : World) (vs : Nat → Value) : Nat → List Oper → Prop
  | _, [] => True
  | k, o :: l => Gv P Y b w o (vs k) ∧ GvAll P Y b w vs (k + 1) l
theorem GvAll.nil {Y : Nat → Option Bool} {b : Act} {w : World} {vs : Nat → Value} {k : Nat} : GvAll P Y b w vs k [] := trivial
theorem GvAll.run {Y : Nat → Option Bool} {b : Act} {w : World} {vs : Nat → Value} {k : Nat} {o : Oper} {l : List Oper} (hw : Region.wanted o Y = true) (hr : (execOp b.eval o).run P w = .ok (.value (vs k)) w) (h : GvAll P Y b w vs (k + 1) l) : GvAll P Y b w vs k (o :: l) := ⟨Or.inl ⟨hw, hr⟩, h⟩
theorem GvAll.skip {Y : Nat → Option Bool} {b : Act} {w : World} {vs : Nat → Value} {k : Nat} {o : Oper} {l : List Oper} (hw : Region.wanted o Y = false) (hv : undef = vs k) (h : GvAll P Y b w vs (k + 1) l) : GvAll P Y b w vs k (o :: l) := ⟨Or.inr ⟨hw, hv⟩, h⟩
theorem GvAll.at {Y : Nat → Option Bool} {b : Act} {w : World} {vs : Nat → Value} : ∀ {l : List Oper} {k i : Nat} {o : Oper}, GvAll P Y b w vs k l → l[i]? = some o → Gv P Y b w o (vs (k + i))
  | [], _, _, _, _, h => by simp at h
  | x :: l, k, 0, o, h, hi => by
    obtain rfl : x = o := by simpa using hi
    exact h.1
  | x :: l, k, i + 1, o, h, hi => by
    have := GvAll.at (k := k + 1) (i := i) h.2 (by simpa using hi)
    rwa [show k + 1 + i = k + (i + 1) by omega] at this
theorem Gv.opN {b : Act} {w : World} {i : Nat} {o : Oper} {v : Value} (hi : ops[i]? = some o) (h : Gv P (yielded ops b.tmps) b w o v) (hp : b.put o.dst v = b) {K : Act → World → Prop} (hK : K b w) : opN P ops i K b w := by
  unfold Go.Proofs.YtondomklkapogaaDoor.opN
  simp only [hi]
  rcases h with ⟨hw, hr⟩ | ⟨hw, rfl⟩
  · simp only [hw, if_true, Oper.wp, hr, Oper.upon, hp]; exact hK
  · simp only [hw, Bool.false_eq_true, if_false, hp]; exact hK

/-- the slots that are written lie side by side -/
def contB : Nat → List Oper → Bool
  | _, [] => true
  | d, o :: l => (o.dst == some d) && contB (d + 1) l
theorem fill_cont : ∀ (l : List Oper) (k d : Nat) (vs : Nat → Value) (L : List Value) (ds : List Deferred), contB d l = true → d + l.length ≤ L.length →
    fillAct l k vs ⟨L.toArray, ds⟩ = ⟨(L.take d ++ ((List.range' k l.length).map vs ++ L.drop (d + l.length))).toArray, ds⟩
  | [], _, d, _, L, _, _, _ => by simp [fillAct]
  | o :: l, k, d, vs, L, ds, hB, hl => by
    simp only [contB, Bool.and_eq_true, beq_iff_eq] at hB
    simp only [List.length_cons] at hl
    simp only [fillAct, hB.1, Act.put]
    rw [List.setIfInBounds_toArray, fill_cont l (k + 1) (d + 1) vs _ ds hB.2 (by rw [List.length_set]; omega)]
    congr 2
    have h1 : (L.set d (vs k)).take (d + 1) = L.take d ++ [vs k] := by
      rw [List.take_succ_eq_append_getElem (by rw [List.length_set]; omega), List.take_set_of_le (Nat.le_refl _)]
      simp
    have h2 : (L.set d (vs k)).drop (d + 1 + l.length) = L.drop (d + (l.length + 1)) := by
      rw [List.drop_set_of_lt (by omega), show d + 1 + l.length = d + (l.length + 1) by omega]
    rw [h1, h2, List.length_cons, List.range'_succ, List.map_cons]
    simp
theorem map_getD (vals : List Value) : (List.range' 0 vals.length).map (fun k => vals.getD k undef) = vals := by
  apply List.ext_getElem
  · simp
  · intro i h1 h2
    simp at h1
    simp [h1]

/-- ONE CALL that turns the world; every other operation only looks, and sees the same ahead of the call and behind it -/
theorem wp_region_call {id : Nat} {Q : Exit → Act → World → Prop} {a : Act} {w : World} {l : List Oper} (hm : P.follows .mixedOrders = true) (c : Nat) (vs : Nat → Value) (R : World → Prop) {oc : Oper}
    (hB : tabB .any l.toArray = true) (hD : dstB l = true) (hc : l[c]? = some oc)
    (hstill : ∀ w', w' = w.drew ∨ R w' → GvAll P (yielded l.toArray (fillAct l 0 vs a).tmps) (fillAct l 0 vs a) w' vs 0 (l.take c) ∧ GvAll P (yielded l.toArray (fillAct l 0 vs a).tmps) (fillAct l 0 vs a) w' vs (c + 1) (l.drop (c + 1)))
    (hw : Region.wanted oc (yielded l.toArray (fillAct l 0 vs a).tmps) = true) (f : FuncId) (args : Array Value) (hx : (execOp (fillAct l 0 vs a).eval oc).run P w.drew = .ok (.enter f args) w.drew)
    (hcall : Calls P f args w.drew (fun e w' => e = .returned (vs c) ∧ R w'))
    (hQ : ∀ w', R w' → Q .normal (fillAct l 0 vs a) w') : (Code.region id l.toArray true).wp P Q a w := by
  have hA := fill_agr l vs a
  have hput : ∀ i o, l[i]? = some o → (fillAct l 0 vs a).put o.dst (vs i) = fillAct l 0 vs a := fun i o hi => by
    rw [fill_put l 0 vs a i o (vs i) hD hi, Nat.zero_add, updV_self]
  generalize fillAct l 0 vs a = b at *
  have hcl : c < l.length := (List.getElem?_eq_some_iff.1 hc).1
  refine wp_region_tab hm hB (fun listed b' w' => b' = b ∧ (listed.getD c false = false → w' = w.drew) ∧ (listed.getD c false = true → R w')) b (by simpa using hA) ⟨rfl, fun _ => rfl, fun h => ?_⟩ ?_ ?_
  · rw [getD_replicate_false] at h; cases h
  · rintro listed i b2 w' hs hi ⟨rfl, h1, h2⟩
    obtain ⟨hun, o, ho, _⟩ := mem_ready.1 hi
    have hlo : l[i]? = some o := by simpa using ho
    by_cases e : i = c
    · subst e
      obtain rfl : o = oc := Option.some.inj (hlo.symm.trans hc)
      obtain rfl := h1 (getD_both hun)
      unfold opN
      simp only [ho, hw, if_true, Oper.wp, hx, Oper.upon]
      refine hcall.mono fun e w'' he => ?_
      obtain ⟨rfl, hR⟩ := he
      refine ⟨hput i o hlo, fun h => ?_, fun _ => hR⟩
      have hi' : i < listed.size := by rw [hs]; simpa using hcl
      rw [show (listed.setIfInBounds i true).getD i false = true by simp [hi']] at h
      cases h
    · have hst := hstill w' (by
        cases hl : listed.getD c false with
        | false => exact .inl (h1 hl)
        | true => exact .inr (h2 hl))
      have hat : Gv P (yielded l.toArray b2.tmps) b2 w' o (vs i) := by
        rcases Nat.lt_or_ge i c with h | h
        · have := hst.1.at (i := i) (o := o) (by rw [List.getElem?_take, if_pos h]; exact hlo)
          rwa [Nat.zero_add] at this
        · have := hst.2.at (i := i - (c + 1)) (o := o) (by rw [List.getElem?_drop, show c + 1 + (i - (c + 1)) = i by omega]; exact hlo)
          rwa [show c + 1 + (i - (c + 1)) = i by omega] at this
      exact hat.opN ho (hput i o hlo) ⟨rfl, by rw [getD_set_ne false e]; exact h1, by rw [getD_set_ne false e]; exact h2⟩
  · rintro listed _ w' hl ⟨rfl, _, h2⟩
    exact hQ w' (h2 (hl c (by simpa using hcl)))

/-- the same, where the operations' slots lie side by side -/
theorem wp_region_call' {id : Nat} {Q : Exit → Act → World → Prop} {L : List Value} {ds : List Deferred} {w : World} {l : List Oper} (hm : P.follows .mixedOrders = true) (c d e : Nat) (vals : List Value) (R : World → Prop) {oc : Oper}
    (hB : tabB .any l.toArray = true) (hD : dstB l = true) (hc : l[c]? = some oc) (hC : contB d l = true) (hn : l.length = vals.length) (he : d + l.length = e) (hd : e ≤ L.length)
    (hstill : ∀ w', w' = w.drew ∨ R w' → GvAll P (yielded l.toArray (fillAct l 0 (fun k => vals.getD k undef) ⟨L.toArray, ds⟩).tmps) (fillAct l 0 (fun k => vals.getD k undef) ⟨L.toArray, ds⟩) w' (fun k => vals.getD k undef) 0 (l.take c) ∧ GvAll P (yielded l.toArray (fillAct l 0 (fun k => vals.getD k undef) ⟨L.toArray, ds⟩).tmps) (fillAct l 0 (fun k => vals.getD k undef) ⟨L.toArray, ds⟩) w' (fun k => vals.getD k undef) (c + 1) (l.drop (c + 1)))
    (hw : Region.wanted oc (yielded l.toArray (fillAct l 0 (fun k => vals.getD k undef) ⟨L.toArray, ds⟩).tmps) = true) (f : FuncId) (args : Array Value) (hx : (execOp (fillAct l 0 (fun k => vals.getD k undef) ⟨L.toArray, ds⟩).eval oc).run P w.drew = .ok (.enter f args) w.drew)
    (hcall : Calls P f args w.drew (fun e w' => e = .returned (vals.getD c undef) ∧ R w'))
    (hQ : ∀ L', L.take d ++ (vals ++ L.drop e) = L' → ∀ w', R w' → Q .normal ⟨L'.toArray, ds⟩ w') : (Code.region id l.toArray true).wp P Q ⟨L.toArray, ds⟩ w :=
  wp_region_call hm c (fun k => vals.getD k undef) R hB hD hc hstill hw f args hx hcall (fun w' hR => by
    have h := hQ _ rfl w' hR
    rw [fill_cont l 0 d _ L ds hC (by omega), he, hn, map_getD]
    exact h)

/-- what one operation gives, and the world it leaves; a call is one that returns -/
def Oper.gives (P : Program) (o : Oper) (a : Act) (w : World) (R : Value → World → Prop) : Prop :=
  match (execOp a.eval o).run P w with
  | .ok (.value v) w' => R v w'
  | .ok .skip w' => R undef w'
  | .ok (.enter f args) w' => Calls P f args w' (fun e w'' => ∃ v, e = .returned v ∧ R v w'')
  | _ => False

theorem Oper.gives_wp {o : Oper} {a : Act} {w : World} {R : Value → World → Prop} {K : Act → World → Prop} {Q' : Exit → Act → World → Prop} (h : Oper.gives P o a w R) (hK : ∀ v w', R v w' → K (a.put o.dst v) w') : o.wp P a w K Q' := by
  unfold Oper.gives at h
  unfold Go.Oper.wp
  generalize (execOp a.eval o).run P w = r at *
  cases r with
  | ok n w' =>
    cases n <;> simp only at h <;> simp only [Go.Oper.upon]
    case enter f args =>
      refine h.mono fun e w'' he => ?_
      obtain ⟨v, rfl, hR⟩ := he
      exact hK _ _ hR
    all_goals first | exact hK _ _ h | exact h.elim
  | halt x w' => exact h.elim

def EachI (F : Nat → Oper → Prop) : Nat → List Oper → Prop
  | _, [] => True
  | k, o :: l => F k o ∧ EachI F (k + 1) l
theorem EachI.nil {F : Nat → Oper → Prop} {k : Nat} : EachI F k [] := trivial
theorem EachI.cons {F : Nat → Oper → Prop} {k : Nat} {o : Oper} {l : List Oper} (h : F k o) (h2 : EachI F (k + 1) l) : EachI F k (o :: l) := ⟨h, h2⟩
theorem EachI.at {F : Nat → Oper → Prop} : ∀ {l : List Oper} {k i : Nat} {o : Oper}, EachI F k l → l[i]? = some o → F (k + i) o
  | [], _, _, _, _, h => by simp at h
  | x :: l, k, 0, o, h, hi => by
    obtain rfl : x = o := by simpa using hi
    exact h.1
  | x :: l, k, i + 1, o, h, hi => by
    have := EachI.at (k := k + 1) (i := i) h.2 (by simpa using hi)
    rwa [show k + 1 + i = k + (i + 1) by omega] at this

/-- operations that make blocks (or call), in whatever order: Good i says what the i-th has yielded, in words of what those that it waits for have yielded -/
theorem wp_region_mk {id : Nat} {Q : Exit → Act → World → Prop} {a : Act} {w : World} {l : List Oper} (hm : P.follows .mixedOrders = true)
    (hB : tabB .any l.toArray = true) (hD : dstB l = true) (I : World → Prop) (Ext : World → World → Prop) (Good : Nat → (Nat → Value) → World → Prop) (hI : I w.drew)
    (hframe : ∀ j vs vs' w w', Ext w w' → (∀ k, k = j ∨ Region.waitsFor .any l.toArray j k = true → vs k = vs' k) → Good j vs w → Good j vs' w')
    (hstep : EachI (fun i o => ∀ vs w, I w → (∀ j, Region.waitsFor .any l.toArray i j = true → Good j vs w) →
      if Region.wanted o (yielded l.toArray (fillAct l 0 vs a).tmps) then Oper.gives P o (fillAct l 0 vs a) w (fun v w' => I w' ∧ Ext w w' ∧ Good i (updV vs i v) w') else I w ∧ Ext w w ∧ Good i (updV vs i undef) w) 0 l)
    (hQ : ∀ vs w, I w → (∀ i, i < l.length → Good i vs w) → Q .normal (fillAct l 0 vs a) w) : (Code.region id l.toArray true).wp P Q a w := by
  refine wp_region_tab hm hB (fun listed b' w' => ∃ vs, b' = fillAct l 0 vs a ∧ I w' ∧ (∀ i oi, l[i]? = some oi → listed.getD i false = true → (∀ e ∈ oi.after, Region.binds .any e = true → listed.getD e.on false = true) ∧ Good i vs w')) (fillAct l 0 (fun _ => undef) a) (by simpa using fill_agr l _ a) ⟨_, rfl, hI, fun i oi hi h => ?_⟩ ?_ ?_
  · rw [getD_replicate_false] at h; cases h
  · rintro listed i b2 w' hs hi ⟨vs, rfl, hI', hG⟩
    obtain ⟨hun, o, ho, haf⟩ := mem_ready.1 hi
    have ho' : l[i]? = some o := by simpa using ho
    have hil : i < listed.size := by rw [hs]; exact (Array.getElem?_eq_some_iff.1 ho).1
    have hst0 := hstep.at ho'
    rw [Nat.zero_add] at hst0
    have hst := hst0 vs w' hI' (fun j hj => by
      obtain ⟨oj, hoj, e, he, hb, rfl⟩ := Region.waitsFor_spec hj
      obtain rfl : oj = o := Option.some.inj (hoj.symm.trans ho)
      have hl := haf e he hb
      have hlt : e.on < l.length := by
        rcases Nat.lt_or_ge e.on l.length with h | h
        · exact h
        · have : listed.size ≤ e.on := by rw [hs]; simpa using h
          simp [Array.getElem?_eq_none this] at hl
      exact (hG e.on l[e.on] (by simp [hlt]) hl).2)
    have next : ∀ v w'', (I w'' ∧ Ext w' w'' ∧ Good i (updV vs i v) w'') → ∃ vs', (fillAct l 0 vs a).put o.dst v = fillAct l 0 vs' a ∧ I w'' ∧ (∀ k ok, l[k]? = some ok → (listed.setIfInBounds i true).getD k false = true → (∀ e ∈ ok.after, Region.binds .any e = true → (listed.setIfInBounds i true).getD e.on false = true) ∧ Good k vs' w'') := by
      rintro v w'' ⟨h1, h2, h3⟩
      refine ⟨updV vs i v, ?_, h1, fun k ok hk hl => ?_⟩
      · rw [fill_put l 0 vs a i o v hD ho', Nat.zero_add]
      · by_cases e : i = k
        · subst e
          obtain rfl : ok = o := Option.some.inj (hk.symm.trans ho')
          exact ⟨fun e he hb => getD_set_true (haf e he hb), h3⟩
        · rw [getD_set_ne false e] at hl
          obtain ⟨g1, g2⟩ := hG k ok hk hl
          refine ⟨fun e he hb => getD_set_true (g1 e he hb), hframe k vs _ w' w'' h2 (fun j hj => ?_) g2⟩
          have hji : j ≠ i := by
            rintro rfl
            rcases hj with rfl | hj
            · exact e rfl
            · obtain ⟨oj, hoj, e', he', hb', hon⟩ := Region.waitsFor_spec hj
              obtain rfl : oj = ok := by
                have : l[k]? = some oj := by simpa using hoj
                exact Option.some.inj (this.symm.trans hk)
              have := g1 e' he' hb'
              rw [hon, getD_both hun] at this
              cases this
          exact (updV_ne vs v hji).symm
    unfold opN
    simp only [ho]
    split
    · rename_i hw
      simp only [hw, if_true] at hst
      exact Oper.gives_wp hst fun v w'' h => next v w'' h
    · rename_i hw
      simp only [hw] at hst
      exact next undef w' hst
  · rintro listed b2 w' hl ⟨vs, rfl, hI', hG⟩
    exact hQ vs w' hI' (fun i hi => (hG i l[i] (by simp [hi]) (hl i (by simpa using hi))).2)

/-- what holds of the i-th: a row tells on whose results it leans, and what holds of its own -/
def rowG (T : List (List Nat × (Value → List Value → World → Prop))) (i : Nat) (vs : Nat → Value) (w : World) : Prop :=
  match T[i]? with
  | some t => t.2 (vs i) (t.1.map vs) w
  | none => True
def depsB (md : Region.Mode) (ops : Array Oper) (D : List (List Nat)) : Bool := (List.range D.length).all fun i => (D.getD i []).all fun k => Region.waitsFor md ops i k
theorem wp_region_rows {id : Nat} {Q : Exit → Act → World → Prop} {a : Act} {w : World} {l : List Oper} (hm : P.follows .mixedOrders = true)
    (hB : tabB .any l.toArray = true) (hD : dstB l = true) (I : World → Prop) (Ext : World → World → Prop) (T : List (List Nat × (Value → List Value → World → Prop))) (hT : depsB .any l.toArray (T.map (·.1)) = true) (hI : I w.drew)
    (hmono : ∀ t ∈ T, ∀ v ds w w', Ext w w' → t.2 v ds w → t.2 v ds w')
    (hstep : EachI (fun i o => ∀ vs w, I w → (∀ j, Region.waitsFor .any l.toArray i j = true → rowG T j vs w) →
      if Region.wanted o (yielded l.toArray (fillAct l 0 vs a).tmps) then Oper.gives P o (fillAct l 0 vs a) w (fun v w' => I w' ∧ Ext w w' ∧ rowG T i (updV vs i v) w') else I w ∧ Ext w w ∧ rowG T i (updV vs i undef) w) 0 l)
    (hQ : ∀ vs w, I w → (∀ i, i < l.length → rowG T i vs w) → Q .normal (fillAct l 0 vs a) w) : (Code.region id l.toArray true).wp P Q a w := by
  refine wp_region_mk hm hB hD I Ext (rowG T) hI (fun j vs vs' w w' hE hv h => ?_) hstep hQ
  unfold rowG at h ⊢
  cases hj : T[j]? with
  | none => trivial
  | some t =>
    rw [hj] at h
    have hlt : j < T.length := (List.getElem?_eq_some_iff.1 hj).1
    have h0 : vs j = vs' j := hv j (Or.inl rfl)
    have h1 : t.1.map vs = t.1.map vs' := List.map_congr_left fun k hk => by
      refine hv k (Or.inr ?_)
      have h2 := List.all_eq_true.1 hT j (List.mem_range.2 (by rw [List.length_map]; exact hlt))
      have h3 : (T.map (·.1)).getD j [] = t.1 := by
        rw [List.getD_eq_getElem?_getD, List.getElem?_map, hj]; rfl
      rw [h3] at h2
      exact List.all_eq_true.1 h2 k hk
    simp only at h ⊢
    rw [← h0, ← h1]
    exact hmono t (List.mem_of_getElem? hj) _ _ _ _ hE h

/-- one row -/
structure RowOk (P : Program) (Y : Nat → Option Bool) (b : Act) (w : World) (o : Oper) (I : World → Prop) (Ext : World → World → Prop) (C : Value → World → Prop) : Prop where
  out : if Region.wanted o Y then Oper.gives P o b w (fun v w' => I w' ∧ Ext w w' ∧ C v w') else I w ∧ Ext w w ∧ C undef w
/-- an operation that is wanted, and runs to a value -/
theorem row_run {o : Oper} {Y : Nat → Option Bool} {b : Act} {w : World} {I : World → Prop} {Ext : World → World → Prop} {C : Value → World → Prop} (hw : Region.wanted o Y = true) (v : Value) (w' : World) (hr : (execOp b.eval o).run P w = .ok (.value v) w') (h : I w' ∧ Ext w w' ∧ C v w') : RowOk P Y b w o I Ext C := by
  constructor
  rw [if_pos hw]; unfold Oper.gives; rw [hr]; exact h
theorem EachI.imp {F G : Nat → Oper → Prop} (h : ∀ k o, F k o → G k o) : ∀ {l : List Oper} {k : Nat}, EachI F k l → EachI G k l
  | [], _, _ => trivial
  | _ :: _, _, ⟨h1, h2⟩ => ⟨h _ _ h1, EachI.imp h h2⟩
/-- the same law, where the operations' slots lie side by side -/
theorem wp_region_rows' {id : Nat} {Q : Exit → Act → World → Prop} {L : List Value} {ds : List Deferred} {w : World} {l : List Oper} (hm : P.follows .mixedOrders = true) (d e : Nat) (ks : List Nat)
    (hB : tabB .any l.toArray = true) (hD : dstB l = true) (hC : contB d l = true) (hk : List.range' 0 l.length = ks) (he : d + l.length = e) (hd : e ≤ L.length)
    (I : World → Prop) (Ext : World → World → Prop) (T : List (List Nat × (Value → List Value → World → Prop))) (hT : depsB .any l.toArray (T.map (·.1)) = true) (hI : I w.drew)
    (hmono : ∀ t ∈ T, ∀ v ds w w', Ext w w' → t.2 v ds w → t.2 v ds w')
    (hstep : EachI (fun i o => ∀ vs w, I w → (∀ j, Region.waitsFor .any l.toArray i j = true → rowG T j vs w) →
      RowOk P (yielded l.toArray (fillAct l 0 vs ⟨L.toArray, ds⟩).tmps) (fillAct l 0 vs ⟨L.toArray, ds⟩) w o I Ext (fun v w' => rowG T i (updV vs i v) w')) 0 l)
    (hQ : ∀ vs L', L.take d ++ (ks.map vs ++ L.drop e) = L' → ∀ w, I w → (∀ i, i < l.length → rowG T i vs w) → Q .normal ⟨L'.toArray, ds⟩ w) : (Code.region id l.toArray true).wp P Q ⟨L.toArray, ds⟩ w :=
  wp_region_rows hm hB hD I Ext T hT hI hmono (hstep.imp (fun _ _ h vs w hI hG => (h vs w hI hG).out)) (fun vs w' hI' hG => by
    have h := hQ vs _ rfl w' hI' hG
    rw [fill_cont l 0 d _ L ds hC (by omega), he, hk]
    exact h)
end
end Go.Proofs.YtondomklkapogaaDoor
