/- A drawn region in which one operation, the last of a chain, writes what others have read ('x = append(x, ..)'). Plain law, no program in sight. -/
import Derived.Test.YtbcfpdlhieaepaaGreatDoorR21
namespace Go.Proofs.YtbcfpdlhieaepaaGreatDoor
section
variable {P:Program} {ops:Array Oper} {md:Region.Mode}
/-- j waits for i, at once or by others -/
def reachB (md:Region.Mode) (ops:Array Oper):Nat→Nat→Nat→Bool
 | 0,_,_=>false
 | f+1,j,i=>Region.waitsFor md ops j i || (List.range ops.size).any fun k=>Region.waitsFor md ops j k && reachB md ops f k i
theorem reach_listed {listed:Array Bool} (hcl:∀ j k,Region.waitsFor md ops j k=true→listed.getD j false=true→listed.getD k false=true):∀ (f j i:Nat),reachB md ops f j i=true→listed.getD j false=true→listed.getD i false=true
 | 0,_,_,h,_=>by cases h
 | f+1,j,i,h,hj=>by
   simp only [reachB,Bool.or_eq_true,List.any_eq_true,Bool.and_eq_true] at h
   rcases h with h | ⟨k,_,h1,h2⟩
   ·exact hcl j i h hj
   ·exact reach_listed hcl f k i h2 (hcl j k h1 hj)
/-- no operation waits for a later one; whose result it reads, for that one it waits; who reads the slot of the late one, is waited for by it -/
def lateB (md:Region.Mode) (ops:Array Oper) (e:Nat) (te:Tmp):Bool:=
 Region.noSelect ops && (List.range ops.size).all fun i=>match ops[i]? with
  | none=>true
  | some o=>(o.after.all fun x=>!Region.binds md x || decide (x.on < i)) &&
    (if i=e then o.dst == some te && !(o.looksAt ops).contains te else o.dst != some te && (!(o.looksAt ops).contains te || reachB md ops ops.size e i)) &&
    (List.range ops.size).all fun j=>j == e || match (ops[j]?).bind (·.dst) with
     | none=>true
     | some d=>!(o.looksAt ops).contains d || o.after.any fun x=>Region.binds md x && x.on == j
structure LateSpec (md:Region.Mode) (ops:Array Oper) (e:Nat) (te:Tmp):Prop where
 sel:Region.noSelect ops=true
 order:∀ (i:Nat) (o:Oper),ops[i]?=some o→∀ x ∈ o.after,Region.binds md x=true→x.on < i
 dep:∀ (i:Nat) (o:Oper),ops[i]?=some o→∀ (j:Nat) (oj:Oper) (d:Tmp),j ≠ e→ops[j]?=some oj→oj.dst=some d→d ∈ o.looksAt ops→∃ x ∈ o.after,Region.binds md x=true∧x.on=j
 own:∀ o:Oper,ops[e]?=some o→o.dst=some te∧te ∉ o.looksAt ops
 other:∀ (i:Nat) (o:Oper),i ≠ e→ops[i]?=some o→o.dst ≠ some te∧(te ∈ o.looksAt ops→reachB md ops ops.size e i=true)
theorem lateB_spec {e:Nat} {te:Tmp} (h:lateB md ops e te=true):LateSpec md ops e te:=by
 unfold lateB at h
 rw [Bool.and_eq_true,List.all_eq_true] at h
 have key:∀ i o,ops[i]?=some o→((o.after.all fun x=>!Region.binds md x || decide (x.on < i))=true ∧
  (if i=e then o.dst == some te && !(o.looksAt ops).contains te else o.dst != some te && (!(o.looksAt ops).contains te || reachB md ops ops.size e i))=true) ∧
  ∀ j,j < ops.size→(j == e || match (ops[j]?).bind (·.dst) with
    | none=>true
    | some d=>!(o.looksAt ops).contains d || o.after.any fun x=>Region.binds md x && x.on == j)=true:=by
  intro i o hi
  have hlt:i < ops.size:=(Array.getElem?_eq_some_iff.1 hi).1
  have h1:=h.2 i (List.mem_range.2 hlt)
  simp only [hi] at h1
  rw [Bool.and_eq_true,Bool.and_eq_true,List.all_eq_true] at h1
  exact ⟨h1.1,fun j hj=>h1.2 j (List.mem_range.2 hj)⟩
 refine ⟨h.1,fun i o hi x hx hb=>?_,fun i o hi j oj d hje hj hd hm=>?_,fun o ho=>?_,fun i o hie hi=>?_⟩
 ·have h2:=Array.all_eq_true_iff_forall_mem.1 (key i o hi).1.1 x hx
  simpa [hb] using h2
 ·have hltj:j < ops.size:=(Array.getElem?_eq_some_iff.1 hj).1
  have h2:=(key i o hi).2 j hltj
  rw [Bool.or_eq_true] at h2
  rcases h2 with h2 | h2
  ·exact absurd (by simpa using h2) hje
  ·simp only [hj,Option.bind_some,hd,Bool.or_eq_true,Bool.not_eq_true'] at h2
   rcases h2 with h2 | h2
   ·have:(o.looksAt ops).contains d=true:=by simpa using hm
    rw [this] at h2; cases h2
   ·obtain ⟨x,hx,hb⟩:=Array.any_eq_true'.1 h2
    simp only [Bool.and_eq_true,beq_iff_eq] at hb
    exact ⟨x,hx,hb.1,hb.2⟩
 ·have h2:=(key e o ho).1.2
  rw [if_pos rfl] at h2
  simp only [Bool.and_eq_true,beq_iff_eq,Bool.not_eq_true'] at h2
  refine ⟨h2.1,fun hm=>?_⟩
  have:(o.looksAt ops).contains te=true:=by simpa using hm
  rw [this] at h2; cases h2.2
 ·have h2:=(key i o hi).1.2
  rw [if_neg hie] at h2
  simp only [Bool.and_eq_true,Bool.or_eq_true,Bool.not_eq_true'] at h2
  refine ⟨by have:=h2.1; simpa using this,fun hm=>?_⟩
  rcases h2.2 with h3 | h3
  ·have:(o.looksAt ops).contains te=true:=by simpa using hm
   rw [this] at h3; cases h3
  ·exact h3
/-- the acts agree, but for what is still to be written, and the late slot -/
structure AgrL (ops:Array Oper) (e:Nat) (te:Tmp) (listed:Array Bool) (ve:Value) (a b:Act):Prop where
 defers:a.defers=b.defers
 size:a.tmps.size=b.tmps.size
 at_:∀ t,t ≠ te→(∀ i o,ops[i]?=some o→o.dst=some t→listed.getD i false=true)→a.tmps[t]?=b.tmps[t]?
 early:listed.getD e false=false→a.tmps[te]?=b.tmps[te]?
 late:listed.getD e false=true→a.tmps[te]?=some ve
theorem AgrL.evalAt {listed:Array Bool} {e:Nat} {te:Tmp} {ve:Value} {a b:Act} (hS:LateSpec md ops e te) (hA:AgrL ops e te listed ve a b) {i:Nat} {o:Oper} (hi:ops[i]?=some o) (hr:i ∈ Region.ready md ops listed)
 (hcl:∀ j k,Region.waitsFor md ops j k=true→listed.getD j false=true→listed.getD k false=true) :
 execOp a.eval o=execOp b.eval o∧Region.wanted o (yielded ops a.tmps)=Region.wanted o (yielded ops b.tmps):=by
 obtain ⟨hun,o',ho',haf⟩:=mem_ready.1 hr
 obtain rfl:o'=o:=Option.some.inj (ho'.symm.trans hi)
 have look:∀ t,t ∈ o'.looksAt ops→a.tmps[t]?=b.tmps[t]?:=fun t ht=>by
  by_cases hte:t=te
  ·subst hte
   refine hA.early ?_
   by_cases hie:i=e
   ·subst hie; exact getD_both hun
   ·cases hl:listed.getD e false with
    | false=>rfl
    | true=>
      have:=reach_listed hcl _ e i ((hS.other i o' hie hi).2 ht) hl
      rw [getD_both hun] at this; cases this
  ·refine hA.at_ t hte fun j oj hj hd=>?_
   have hje:j ≠ e:=by
    rintro rfl
    have:=(hS.own oj hj).1
    rw [hd] at this
    exact hte (Option.some.inj this)
   obtain ⟨x,hx,hb,rfl⟩:=hS.dep i o' hi j oj t hje hj hd ht
   exact haf x hx hb
 constructor
 ·refine execOp_congr o' (fun cs b=>Region.noSelect_spec hS.sel i o' cs b hi) fun x hx=>?_
  cases x with
  | tmp t=>
    have:=look t (List.mem_append_left _ (List.mem_filterMap.2 ⟨.tmp t,by simpa using hx,rfl⟩))
    simp [Act.eval,this]
  | _=>rfl
 ·unfold Region.wanted
  cases hg:o'.guard with
  | none=>rfl
  | some gw=>
    obtain ⟨g,want⟩:=gw
    have hy:yielded ops a.tmps g=yielded ops b.tmps g:=by
     unfold yielded
     cases ht:(ops[g]?).bind (·.dst) with
     | none=>rfl
     | some t=>
       have:=look t (by simp [Oper.looksAt,hg,ht])
       simp [this]
    simp only [hy]
/-- an operation other than the late one writes -/
theorem AgrL.put {listed:Array Bool} {e:Nat} {te:Tmp} {ve:Value} {a b:Act} (hS:LateSpec md ops e te) (hA:AgrL ops e te listed ve a b) {i:Nat} {o:Oper} (hie:i ≠ e) (hi:ops[i]?=some o) (v:Value):AgrL ops e te (listed.setIfInBounds i true) ve (a.put o.dst v) (b.put o.dst v):=by
 have hne:=(hS.other i o hie hi).1
 have hls:(listed.setIfInBounds i true).getD e false=listed.getD e false:=getD_set_ne false hie
 have back:∀ t,t ≠ te→o.dst ≠ some t→(∀ j oj,ops[j]?=some oj→oj.dst=some t→(listed.setIfInBounds i true).getD j false=true)→a.tmps[t]?=b.tmps[t]?:=fun t hte hnt h=>hA.at_ t hte fun j oj hj ht=>by
  have h1:=h j oj hj ht
  by_cases he:i=j
  ·subst he
   obtain rfl:oj=o:=Option.some.inj (hj.symm.trans hi)
   exact absurd ht hnt
  ·rwa [getD_set_ne false he] at h1
 cases ho:o.dst with
 | none=>
   exact ⟨hA.defers,hA.size,fun t hte h=>back t hte (by rw [ho]; simp) h,fun h=>hA.early (by rwa [hls] at h),fun h=>hA.late (by rwa [hls] at h)⟩
 | some d=>
   rw [ho] at hne
   have hdt:d ≠ te:=fun h=>hne (by rw [h])
   refine ⟨hA.defers,by simp [Act.put,hA.size],fun t hte h=>?_,fun h=>?_,fun h=>?_⟩
   ·by_cases hd:d=t
    ·subst hd
     simp only [Act.put,Array.getElem?_setIfInBounds,if_true,hA.size]
    ·simp only [Act.put,Array.getElem?_setIfInBounds_ne hd]
     exact back t hte (by rw [ho]; simpa using hd) h
   ·simp only [Act.put,Array.getElem?_setIfInBounds_ne hdt]
    exact hA.early (by rwa [hls] at h)
   ·simp only [Act.put,Array.getElem?_setIfInBounds_ne hdt]
    exact hA.late (by rwa [hls] at h)
/-- the late one writes -/
theorem AgrL.putE {listed:Array Bool} {e:Nat} {te:Tmp} {ve:Value} {a b:Act} (hS:LateSpec md ops e te) (hA:AgrL ops e te listed ve a b) {o:Oper} (hi:ops[e]?=some o) (hte:te < a.tmps.size) (he:e < listed.size) (v:Value):AgrL ops e te (listed.setIfInBounds e true) v (a.put o.dst v) b:=by
 have hd:=(hS.own o hi).1
 refine ⟨by rw [hd]; exact hA.defers,by rw [hd]; simp [Act.put,hA.size],fun t hne h=>?_,fun h=>?_,fun _=>?_⟩
 ·rw [hd]
  simp only [Act.put,Array.getElem?_setIfInBounds_ne (Ne.symm hne)]
  refine hA.at_ t hne fun j oj hj ht=>?_
  have h1:=h j oj hj ht
  by_cases hje:e=j
  ·subst hje
   obtain rfl:oj=o:=Option.some.inj (hj.symm.trans hi)
   rw [hd] at ht
   exact absurd (Option.some.inj ht).symm hne
  ·rwa [getD_set_ne false hje] at h1
 ·rw [show (listed.setIfInBounds e true).getD e false=true by simp [he]] at h; cases h
 ·rw [hd]; simp [Act.put,hte]
theorem ready_nil_late {listed:Array Bool} {e:Nat} {te:Tmp} (hS:LateSpec md ops e te) (hs:listed.size=ops.size) (h:Region.ready md ops listed=[]):∀ i,i < ops.size→listed.getD i false=true:=by
 intro i
 induction i using Nat.strongRecOn with
 | _ i ih=>
   intro hi
   cases hl:listed.getD i false with
   | true=>rfl
   | false=>
     have:i ∈ Region.ready md ops listed:=mem_ready.2 ⟨getD_in (by omega) hl,ops[i],by simp [hi],fun x hx hb=>by
      have h1:=hS.order i ops[i] (by simp [hi]) x hx hb
      exact ih x.on h1 (by omega)⟩
     rw [h] at this
     cases this
/-- what an operation gives, in whatever case -/
def opV (P:Program) (o:Oper) (b:Act) (Y:Nat→Option Bool) (w:World) (K:Value→World→Prop):Prop:=if Region.wanted o Y then Oper.gives P o b w K else K undef w
theorem wpAny_late {Q:Exit→Act→World→Prop} {e:Nat} {te:Tmp} (hS:LateSpec md ops e te) (he:e < ops.size) (J:Array Bool→Act→Value→World→Prop)
 (hJ:∀ listed i o b ve w,listed.size=ops.size→ops[i]?=some o→i ∈ Region.ready md ops listed→(∀ j k,Region.waitsFor md ops j k=true→listed.getD j false=true→listed.getD k false=true)→J listed b ve w→opV P o b (yielded ops b.tmps) w (fun v w'=>J (listed.setIfInBounds i true) (if i=e then b else b.put o.dst v) (if i=e then v else ve) w'))
 (hQ:∀ listed b ve w,(∀ i,i < ops.size→listed.getD i false=true)→J listed b ve w→Q .normal (b.put (some te) ve) w) :
 ∀ (fuel:Nat) (listed:Array Bool) (a b:Act) (ve:Value) (w:World),listed.size=ops.size→listed.count false≤fuel→te < a.tmps.size→(∀ j k,Region.waitsFor md ops j k=true→listed.getD j false=true→listed.getD k false=true)→AgrL ops e te listed ve a b→J listed b ve w→wpAny P md ops Q fuel listed a w:=by
 intro fuel
 have done:∀ (listed:Array Bool) (a b:Act) (ve:Value) (w:World),listed.size=ops.size→te < a.tmps.size→AgrL ops e te listed ve a b→J listed b ve w→Region.ready md ops listed=[]→Q .normal a w:=fun listed a b ve w hs hte hA hj hr=>by
  have hl:=ready_nil_late hS hs hr
  have hab:a=b.put (some te) ve:=by
   have e1:a.tmps=b.tmps.setIfInBounds te ve:=Array.ext_getElem? fun t=>by
    by_cases ht:t=te
    ·subst ht
     rw [hA.late (hl e he)]
     have:t < b.tmps.size:=by rw [← hA.size]; exact hte
     simp [this]
    ·rw [Array.getElem?_setIfInBounds_ne (Ne.symm ht)]
     exact hA.at_ t ht fun i o hi _=>hl i (Array.getElem?_eq_some_iff.1 hi).1
   have e2:=hA.defers
   cases a; cases b
   simp only at e1 e2
   simp only [Act.put]
   rw [e1,e2]
  rw [hab]
  exact hQ listed b ve w hl hj
 induction fuel with
 | zero=>
   intro listed a b ve w hs hc hte hcl hA hj
   have hr:Region.ready md ops listed=[]:=by
    cases hr:Region.ready md ops listed with
    | nil=>rfl
    | cons i l=>
      have hi:i ∈ Region.ready md ops listed:=by rw [hr]; simp
      have h0:=(mem_ready.1 hi).1
      have hc':false ∉ listed:=Array.count_eq_zero.1 (Nat.le_zero.1 hc)
      exfalso
      apply hc'
      rcases Nat.lt_or_ge i listed.size with h | h
      ·simp [h] at h0; exact h0 ▸ Array.getElem_mem h
      ·simp [Array.getElem?_eq_none h] at h0
   exact ⟨hr,done _ _ _ _ _ hs hte hA hj hr⟩
 | succ fuel ih=>
   intro listed a b ve w hs hc hte hcl hA hj
   refine ⟨fun hr=>done _ _ _ _ _ hs hte hA hj hr,fun i hi=>?_⟩
   obtain ⟨hun,o,ho,haf⟩:=mem_ready.1 hi
   have hil:i < listed.size:=by rw [hs]; exact (Array.getElem?_eq_some_iff.1 ho).1
   have hst:=hJ listed i o b ve w hs ho hi hcl hj
   obtain ⟨he1,hw1⟩:=hA.evalAt hS ho hi hcl
   have hcnt:(listed.setIfInBounds i true).count false≤fuel:=by
    have hv:listed[i]=false:=by simpa [hil] using hun
    have hpos:0 < listed.count false:=Array.count_pos_iff.2 (hv ▸ Array.getElem_mem hil)
    simp only [Array.setIfInBounds,hil,dif_pos,Array.count_set,hv]
    simp
    omega
   have hcl':∀ j k,Region.waitsFor md ops j k=true→(listed.setIfInBounds i true).getD j false=true→(listed.setIfInBounds i true).getD k false=true:=by
    intro j k hjk hl
    by_cases hij:i=j
    ·subst hij
     obtain ⟨oj,hoj,x,hx,hb,rfl⟩:=Region.waitsFor_spec hjk
     obtain rfl:oj=o:=Option.some.inj (hoj.symm.trans ho)
     exact getD_set_true (haf x hx hb)
    ·rw [getD_set_ne false hij] at hl
     exact getD_set_true (hcl j k hjk hl)
   have next:∀ v w',J (listed.setIfInBounds i true) (if i=e then b else b.put o.dst v) (if i=e then v else ve) w'→wpAny P md ops Q fuel (listed.setIfInBounds i true) (a.put o.dst v) w':=by
    intro v w' hj'
    refine ih _ _ _ _ _ (by simpa using hs) hcnt (by cases o.dst <;> simpa [Act.put] using hte) hcl' ?_ hj'
    by_cases hie:i=e
    ·subst hie
     rw [if_pos rfl,if_pos rfl]
     exact hA.putE hS ho hte hil v
    ·rw [if_neg hie,if_neg hie]
     exact hA.put hS hie ho v
   unfold wpOp
   simp only [ho]
   unfold opV at hst
   rw [hw1]
   split
   ·rename_i hww
    simp only [hww,if_true] at hst
    refine .inl ?_
    unfold Oper.gives at hst
    unfold Go.Oper.wp
    rw [he1]
    generalize (execOp b.eval o).run P w=r at *
    cases r with
    | ok n w'=>
      cases n <;> simp only at hst <;> simp only [Go.Oper.upon]
      case enter f args=>
       refine hst.mono fun x w'' hx=>?_
       obtain ⟨v,rfl,hR⟩:=hx
       exact next v w'' hR
      all_goals first | exact next _ _ hst | exact hst.elim
    | halt x w'=>exact hst.elim
   ·rename_i hww
    simp only [hww] at hst
    exact next undef w hst
/-- what an operation of such a region owes -/
structure MixOkL (P:Program) (l l':List Oper) (L:List Value) (ds:List Deferred) (C:List (Option Value)) (eff:List Nat) (G:List Bool→List Value→World→Prop) (i:Nat) (o:Oper):Prop where
 out:∀ (d:Nat→Bool) ws w,G (eff.map d) (eff.map ws) w→(∀ j,Region.waitsFor .any l.toArray i j=true→d j=true)→(∀ j k,Region.waitsFor .any l.toArray j k=true→d j=true→d k=true)→d i=false →
  (eff.contains i=true→TurnOk P (yielded l.toArray (fillAct l' 0 (mix C ws) ⟨L.toArray,ds⟩).tmps) (fillAct l' 0 (mix C ws) ⟨L.toArray,ds⟩) w o (fun v w'=>G (eff.map fun k=>if k=i then true else d k) (eff.map (updV ws i v)) w')) ∧
  (eff.contains i=false→Gv P (yielded l.toArray (fillAct l' 0 (mix C ws) ⟨L.toArray,ds⟩).tmps) (fillAct l' 0 (mix C ws) ⟨L.toArray,ds⟩) w o (mix C ws i))
section
variable {l l':List Oper} {L:List Value} {ds:List Deferred} {C:List (Option Value)} {eff:List Nat} {G:List Bool→List Value→World→Prop} {i:Nat} {o:Oper}
theorem MixOkL.pure (he:eff.contains i=false) (hw:∀ ws,Region.wanted o (yielded l.toArray (fillAct l' 0 (mix C ws) ⟨L.toArray,ds⟩).tmps)=true) (hr:∀ ws w,(execOp (fillAct l' 0 (mix C ws) ⟨L.toArray,ds⟩).eval o).run P w=.ok (.value (mix C ws i)) w):MixOkL P l l' L ds C eff G i o:=
 ⟨fun _ ws w _ _ _ _=>⟨fun e=>(by rw [he] at e; cases e),fun _=>Or.inl ⟨hw ws,hr ws w⟩⟩⟩
theorem MixOkL.skip (he:eff.contains i=false) (hw:∀ ws,Region.wanted o (yielded l.toArray (fillAct l' 0 (mix C ws) ⟨L.toArray,ds⟩).tmps)=false) (hr:∀ ws,undef=mix C ws i):MixOkL P l l' L ds C eff G i o:=
 ⟨fun _ ws w _ _ _ _=>⟨fun e=>(by rw [he] at e; cases e),fun _=>Or.inr ⟨hw ws,hr ws⟩⟩⟩
theorem MixOkL.look (he:eff.contains i=false) (hw:∀ ws,Region.wanted o (yielded l.toArray (fillAct l' 0 (mix C ws) ⟨L.toArray,ds⟩).tmps)=true)
 (hr:∀ (d:Nat→Bool) ws w,G (eff.map d) (eff.map ws) w→(∀ j,Region.waitsFor .any l.toArray i j=true→d j=true)→(∀ j k,Region.waitsFor .any l.toArray j k=true→d j=true→d k=true)→d i=false→(execOp (fillAct l' 0 (mix C ws) ⟨L.toArray,ds⟩).eval o).run P w=.ok (.value (mix C ws i)) w):MixOkL P l l' L ds C eff G i o:=
 ⟨fun d ws w h1 h2 h3 h4=>⟨fun e=>(by rw [he] at e; cases e),fun _=>Or.inl ⟨hw ws,hr d ws w h1 h2 h3 h4⟩⟩⟩
theorem MixOkL.turn (he:eff.contains i=true) (h:∀ (d:Nat→Bool) ws w,G (eff.map d) (eff.map ws) w→(∀ j,Region.waitsFor .any l.toArray i j=true→d j=true)→(∀ j k,Region.waitsFor .any l.toArray j k=true→d j=true→d k=true)→d i=false →
 TurnOk P (yielded l.toArray (fillAct l' 0 (mix C ws) ⟨L.toArray,ds⟩).tmps) (fillAct l' 0 (mix C ws) ⟨L.toArray,ds⟩) w o (fun v w'=>G (eff.map fun k=>if k=i then true else d k) (eff.map (updV ws i v)) w')):MixOkL P l l' L ds C eff G i o:=
 ⟨fun d ws w h1 h2 h3 h4=>⟨fun _=>h d ws w h1 h2 h3 h4,fun e=>(by rw [he] at e; cases e)⟩⟩
end
/-- the region: operation e writes slot te, which others of it have read; l' is the region without that -/
theorem wp_region_mixL {id:Nat} {Q:Exit→Act→World→Prop} {L:List Value} {ds:List Deferred} {w:World} {l:List Oper} (hm:P.follows .mixedOrders=true) (e:Nat) (te:Tmp) (l':List Oper) {oe:Oper} (hoe:l[e]?=some oe) (hl':l.set e { oe with dst:=none }=l')
 (hB:lateB .any l.toArray e te=true) (hD:dstB l'=true) (hte:te < L.length) (C:List (Option Value)) (eff:List Nat) (hC:mixB C eff l.length=true) (heff:(eff.all fun i=>decide (i < l.length))=true) (hee:eff.contains e=true) (G:List Bool→List Value→World→Prop)
 (hG:G (eff.map fun _=>false) (eff.map fun _=>undef) w.drew) (hstep:EachI (MixOkL P l l' L ds C eff G) 0 l)
 (hQ:∀ ws L',(setAll l' 0 (mix C ws) L).set te (ws e)=L'→∀ w,G (eff.map fun _=>true) (eff.map ws) w→Q .normal ⟨L'.toArray,ds⟩ w):(Code.region id l.toArray true).wp P Q ⟨L.toArray,ds⟩ w:=by
 have heff':∀ i ∈ eff,i < l.length:=fun i hi=>by simpa using List.all_eq_true.1 heff i hi
 have hel:e < l.length:=(List.getElem?_eq_some_iff.1 hoe).1
 have hS:=lateB_spec hB
 have hAg:AgrL l.toArray e te (Array.replicate l.toArray.size false) undef ⟨L.toArray,ds⟩ (fillAct l' 0 (mix C fun _=>undef) ⟨L.toArray,ds⟩):=by
  have h:=fill_agr l' (mix C fun _=>undef) ⟨L.toArray,ds⟩
  have hlen:l'.length=l.length:=by rw [← hl',List.length_set]
  obtain ⟨h1,h2,h3⟩:=h
  have hno:∀ t,(∀ (i:Nat) (o:Oper),l'[i]?=some o→o.dst=some t→False)→(⟨L.toArray,ds⟩:Act).tmps[t]?=(fillAct l' 0 (mix C fun _=>undef) ⟨L.toArray,ds⟩).tmps[t]?:=fun t ht=>h3 t fun i o hi hd=>(ht i o (by simpa using hi) hd).elim
  refine ⟨h1,h2,fun t hne h=>hno t fun i o hi hd=>?_,fun _=>hno te fun i o hi hd=>?_,fun h=>?_⟩
  ·rw [← hl'] at hi
   by_cases hie:e=i
   ·subst hie
    rw [List.getElem?_set_self hel] at hi
    obtain rfl:=Option.some.inj hi
    cases hd
   ·rw [List.getElem?_set_ne hie] at hi
    have:=h i o (by simpa using hi) hd
    rw [getD_replicate_false] at this; cases this
  ·rw [← hl'] at hi
   by_cases hie:e=i
   ·subst hie
    rw [List.getElem?_set_self hel] at hi
    obtain rfl:=Option.some.inj hi
    cases hd
   ·rw [List.getElem?_set_ne hie] at hi
    exact (hS.other i o (Ne.symm hie) (by simpa using hi)).1 hd
  ·rw [getD_replicate_false] at h; cases h
 refine wp_region_any hm (wpAny_late (md:=.any) hS (by simpa using hel) (fun listed b' ve w'=>∃ ws,b'=fillAct l' 0 (mix C ws) ⟨L.toArray,ds⟩∧ve=ws e∧G (eff.map fun i=>listed.getD i false) (eff.map ws) w') ?_ ?_ _ _ _ _ _ _ (by simp) (by simp) (by simpa using hte) (fun j k _ h=>by rw [getD_replicate_false] at h; cases h) hAg ⟨_,rfl,rfl,?_⟩)
 ·rintro listed i o b2 ve w' hs ho hi hcl ⟨ws,rfl,rfl,hG'⟩
  have ho':l[i]?=some o:=by simpa using ho
  have hill:i < l.length:=(List.getElem?_eq_some_iff.1 ho').1
  have hil:i < listed.size:=by rw [hs]; simpa using hill
  obtain ⟨hun,o2,ho2,haf⟩:=mem_ready.1 hi
  obtain rfl:o2=o:=Option.some.inj (ho2.symm.trans ho)
  have hst0:=hstep.at ho'
  rw [Nat.zero_add] at hst0
  have hst:=hst0.out (fun k=>listed.getD k false) ws w' hG' (fun j hj=>by
   obtain ⟨oj,hoj,x,hx,hb,rfl⟩:=Region.waitsFor_spec hj
   obtain rfl:oj=o2:=Option.some.inj (hoj.symm.trans ho)
   exact haf x hx hb) hcl (getD_both hun)
  have hmap:(eff.map fun k=>(listed.setIfInBounds i true).getD k false)=eff.map fun k=>if k=i then true else listed.getD k false:=List.map_congr_left fun k hk=>by
   by_cases e:k=i
   ·subst e; rw [if_pos rfl]; simp [hil]
   ·rw [if_neg e,getD_set_ne false (fun h=>e h.symm)]
  have hmx:=mixB_spec hC hill
  have hput:i ≠ e→∀ v,(fillAct l' 0 (mix C ws) ⟨L.toArray,ds⟩).put o2.dst v=fillAct l' 0 (updV (mix C ws) i v) ⟨L.toArray,ds⟩:=fun hie v=>by
   have hi':l'[i]?=some o2:=by rw [← hl',List.getElem?_set_ne (Ne.symm hie)]; exact ho'
   rw [fill_put l' 0 (mix C ws) _ i o2 v hD hi',Nat.zero_add]
  have hputE:∀ v,fillAct l' 0 (updV (mix C ws) e v) ⟨L.toArray,ds⟩=fillAct l' 0 (mix C ws) ⟨L.toArray,ds⟩:=fun v=>by
   have hi':l'[e]?=some { oe with dst:=none }:=by rw [← hl',List.getElem?_set_self hel]
   have h:=fill_put l' 0 (mix C ws) ⟨L.toArray,ds⟩ e _ v hD hi'
   rw [Nat.zero_add] at h
   exact h.symm
  unfold opV
  by_cases hei:eff.contains i=true
  ·have ht:=(hst.1 hei).out
   rw [hei] at hmx
   have next:∀ v w'',G (eff.map fun k=>if k=i then true else listed.getD k false) (eff.map (updV ws i v)) w''→∃ ws',(if i=e then fillAct l' 0 (mix C ws) ⟨L.toArray,ds⟩ else (fillAct l' 0 (mix C ws) ⟨L.toArray,ds⟩).put o2.dst v)=fillAct l' 0 (mix C ws') ⟨L.toArray,ds⟩∧(if i=e then v else ws e)=ws' e∧G (eff.map fun k=>(listed.setIfInBounds i true).getD k false) (eff.map ws') w'':=by
    intro v w'' h2
    refine ⟨updV ws i v,?_,?_,by rw [hmap]; exact h2⟩
    ·by_cases hie:i=e
     ·subst hie
      rw [if_pos rfl,← mix_open hmx,hputE]
     ·rw [if_neg hie,hput hie,mix_open hmx]
    ·by_cases hie:i=e
     ·subst hie; rw [if_pos rfl,updV_same]
     ·rw [if_neg hie,updV_ne _ _ (Ne.symm hie)]
   split
   ·rename_i hw
    simp only [hw,if_true] at ht
    unfold Oper.gives at ht ⊢
    generalize (execOp (fillAct l' 0 (mix C ws) ⟨L.toArray,ds⟩).eval o2).run P w'=r at *
    cases r with
    | ok n w2=>
      cases n <;> simp only at ht ⊢
      case enter f args=>exact ht.mono fun x w'' hx=>by obtain ⟨v,rfl,hR⟩:=hx; exact ⟨v,rfl,next v w'' hR⟩
      all_goals first | exact next _ _ ht | exact ht
    | halt x w2=>exact ht
   ·rename_i hw
    simp only [hw] at ht
    exact next undef w' ht
  ·have hei':eff.contains i=false:=by simpa using hei
   have hie:i ≠ e:=by rintro rfl; exact hei hee
   have ht:=hst.2 hei'
   rw [hei'] at hmx
   have hne:∀ k ∈ eff,k ≠ i:=fun k hk e=>hei (by subst e; simpa using hk)
   have e1:(eff.map fun k=>(listed.setIfInBounds i true).getD k false)=eff.map fun k=>listed.getD k false:=List.map_congr_left fun k hk=>getD_set_ne false (fun h=>hne k hk h.symm)
   have next:∃ ws',(if i=e then fillAct l' 0 (mix C ws) ⟨L.toArray,ds⟩ else (fillAct l' 0 (mix C ws) ⟨L.toArray,ds⟩).put o2.dst (mix C ws i))=fillAct l' 0 (mix C ws') ⟨L.toArray,ds⟩∧(if i=e then mix C ws i else ws e)=ws' e∧G (eff.map fun k=>(listed.setIfInBounds i true).getD k false) (eff.map ws') w':=
    ⟨ws,by rw [if_neg hie,hput hie,updV_self],by rw [if_neg hie],by rw [e1]; exact hG'⟩
   rcases ht with ⟨hw,hr⟩ | ⟨hw,hv⟩
   ·simp only [hw,if_true]
    unfold Oper.gives
    rw [hr]
    exact next
   ·simp only [hw,Bool.false_eq_true,if_false]
    rw [hv]
    exact next
 ·rintro listed b2 ve w' hl ⟨ws,rfl,rfl,hG'⟩
  have h:=hQ ws _ rfl w' (by
   have e:(eff.map fun i=>listed.getD i false)=eff.map fun _=>true:=List.map_congr_left fun i hi=>hl i (by simpa using heff' i hi)
   rw [← e]; exact hG')
  rw [fill_set]
  simp only [Act.put,List.setIfInBounds_toArray]
  exact h
 ·have e:(eff.map fun i=>(Array.replicate l.toArray.size false).getD i false)=eff.map fun _=>false:=List.map_congr_left fun i _=>getD_replicate_false _ _
  rw [e]; exact hG
end
end Go.Proofs.YtbcfpdlhieaepaaGreatDoor
