/- A drawn region met by a table of what its operations yield: each operation is looked at once, whatever the order. Plain law, no program in sight. -/
import Derived.StillTail
import Derived.StillTactics
import Derived.Test.YtbcfpdlhieaepaaGreatDoorR04
namespace Go.Proofs.YtbcfpdlhieaepaaGreatDoor
section
section
variable {P:Program} {ops:Array Oper} {md:Region.Mode}
/-- one operation, which ends in no panic -/
def opN (P:Program) (ops:Array Oper) (i:Nat) (K:Act→World→Prop) (a:Act) (w:World):Prop:=
 match ops[i]? with
 | none=>K a w
 | some o=>if Region.wanted o (yielded ops a.tmps) then o.wp P a w K (fun _ _ _=>False) else K (a.put o.dst undef) w
/-- two acts agree wherever no operation is still to write -/
def Agr (ops:Array Oper) (listed:Array Bool) (a b:Act):Prop:=
 a.defers=b.defers∧a.tmps.size=b.tmps.size∧∀ t,(∀ i o,ops[i]?=some o→o.dst=some t→listed.getD i false=true)→a.tmps[t]?=b.tmps[t]?
/-- no operation waits for a later one; whose result it reads, for that one it waits -/
def tabB (md:Region.Mode) (ops:Array Oper):Bool:=
 Region.noSelect ops && (List.range ops.size).all fun i=>match ops[i]? with
  | none=>true
  | some o=>(o.after.all fun e=>!Region.binds md e || decide (e.on < i)) &&
    (List.range ops.size).all fun j=>match (ops[j]?).bind (·.dst) with
     | none=>true
     | some d=>!(o.looksAt ops).contains d || o.after.any fun e=>Region.binds md e && e.on == j
theorem tabB_spec (h:tabB md ops=true):Region.noSelect ops=true∧∀ i o,ops[i]?=some o →
 (∀ e ∈ o.after,Region.binds md e=true→e.on < i)∧∀ j oj d,ops[j]?=some oj→oj.dst=some d→d ∈ o.looksAt ops→∃ e ∈ o.after,Region.binds md e=true∧e.on=j:=by
 unfold tabB at h
 rw [Bool.and_eq_true,List.all_eq_true] at h
 refine ⟨h.1,fun i o hi=>?_⟩
 have hlt:i < ops.size:=(Array.getElem?_eq_some_iff.1 hi).1
 have h1:=h.2 i (List.mem_range.2 hlt)
 simp only [hi,Bool.and_eq_true,List.all_eq_true] at h1
 refine ⟨fun e he hb=>?_,fun j oj d hj hd hm=>?_⟩
 ·have h2:=Array.all_eq_true_iff_forall_mem.1 h1.1 e he
  simpa [hb] using h2
 ·have hltj:j < ops.size:=(Array.getElem?_eq_some_iff.1 hj).1
  have h2:=h1.2 j (List.mem_range.2 hltj)
  simp only [hj,Option.bind_some,hd,Bool.or_eq_true,Bool.not_eq_true'] at h2
  rcases h2 with h2 | h2
  ·have:(o.looksAt ops).contains d=true:=by simpa using hm
   rw [this] at h2; cases h2
  ·obtain ⟨e,he,hb⟩:=Array.any_eq_true'.1 h2
   simp only [Bool.and_eq_true,beq_iff_eq] at hb
   exact ⟨e,he,hb.1,hb.2⟩
theorem Agr.look {listed:Array Bool} {a b:Act} (hA:Agr ops listed a b) {t:Nat} (ht:∀ i o,ops[i]?=some o→o.dst=some t→listed.getD i false=true):a.tmps[t]?=b.tmps[t]?:=hA.2.2 t ht
theorem Agr.put {listed:Array Bool} {a b:Act} (hA:Agr ops listed a b) {i:Nat} {o:Oper} (hi:ops[i]?=some o) (v:Value):Agr ops (listed.setIfInBounds i true) (a.put o.dst v) (b.put o.dst v):=by
 obtain ⟨hd,hs,hl⟩:=hA
 have back:∀ t,o.dst ≠ some t→(∀ j oj,ops[j]?=some oj→oj.dst=some t→(listed.setIfInBounds i true).getD j false=true)→a.tmps[t]?=b.tmps[t]?:=fun t hne h=>hl t fun j oj hj ht=>by
  have h1:=h j oj hj ht
  by_cases e:i=j
  ·subst e
   obtain rfl:oj=o:=Option.some.inj (hj.symm.trans hi)
   exact absurd ht hne
  ·rwa [getD_set_ne false e] at h1
 cases ho:o.dst with
 | none=>exact ⟨hd,hs,fun t h=>back t (by rw [ho]; simp) h⟩
 | some d=>
   refine ⟨hd,by simp [Act.put,hs],fun t h=>?_⟩
   by_cases e:d=t
   ·subst e
    simp only [Act.put,Array.getElem?_setIfInBounds,if_true,hs]
   ·simp only [Act.put,Array.getElem?_setIfInBounds_ne e]
    exact back t (by rw [ho]; simpa using e) h
theorem Agr.evalAt {listed:Array Bool} {a b:Act} (hB:tabB md ops=true) (hA:Agr ops listed a b) {i:Nat} {o:Oper} (hi:ops[i]?=some o) (hr:i ∈ Region.ready md ops listed) :
 execOp a.eval o=execOp b.eval o∧Region.wanted o (yielded ops a.tmps)=Region.wanted o (yielded ops b.tmps):=by
 obtain ⟨hns,hall⟩:=tabB_spec hB
 obtain ⟨_,hdep⟩:=hall i o hi
 obtain ⟨_,o',ho',haf⟩:=mem_ready.1 hr
 obtain rfl:o'=o:=Option.some.inj (ho'.symm.trans hi)
 have look:∀ t,t ∈ o'.looksAt ops→a.tmps[t]?=b.tmps[t]?:=fun t ht=>hA.look fun j oj hj hd=>by
  obtain ⟨e,he,hb,rfl⟩:=hdep j oj t hj hd ht
  exact haf e he hb
 constructor
 ·refine execOp_congr o' (fun cs b=>Region.noSelect_spec hns i o' cs b hi) fun x hx=>?_
  cases x with
  | tmp t=>
    have:=look t (List.mem_append_left _ (List.mem_filterMap.2 ⟨.tmp t,by simpa using hx,rfl⟩))
    simp [Act.eval,this]
  | _=>rfl
 ·unfold Region.wanted
  cases hg:o'.guard with
  | none=>rfl
  | some gw=>
    obtain ⟨g,want⟩:=gw
    have hy:yielded ops a.tmps g=yielded ops b.tmps g:=by
     unfold yielded
     cases ht:(ops[g]?).bind (·.dst) with
     | none=>rfl
     | some t=>
       have:=look t (by simp [Oper.looksAt,hg,ht])
       simp [this]
    simp only [hy]
theorem opN_move {listed:Array Bool} {a b:Act} {w:World} {Q:Exit→Act→World→Prop} {K:Act→World→Prop} (hB:tabB md ops=true) (hA:Agr ops listed a b) {i:Nat} (hr:i ∈ Region.ready md ops listed)
 (h:opN P ops i K b w):wpOp P ops Q i (fun a' w'=>∃ b',Agr ops (listed.setIfInBounds i true) a' b'∧K b' w') a w:=by
 obtain ⟨_,o,hi,_⟩:=mem_ready.1 hr
 obtain ⟨he,hw⟩:=hA.evalAt hB hi hr
 unfold opN at h
 unfold wpOp
 simp only [hi] at h ⊢
 rw [hw]
 split
 ·rename_i hww
  simp only [hww,if_true] at h
  refine .inl ?_
  unfold Oper.wp at *
  rw [he]
  generalize (execOp b.eval o).run P w=r at *
  cases r with
  | ok n w'=>
    cases n <;> simp only [Oper.upon] at h ⊢
    case value u=>exact ⟨_,hA.put hi u,h⟩
    case skip=>exact ⟨_,hA.put hi _,h⟩
    case defer d=>
     have hA':Agr ops listed { a with defers:=d :: a.defers } { b with defers:=d :: b.defers }:=⟨by simp [hA.1],hA.2.1,hA.2.2⟩
     exact ⟨_,hA'.put hi _,h⟩
    case enter f args=>
     refine Calls.mono h fun e w'' he=>?_
     cases e with
     | returned u=>exact ⟨_,hA.put hi u,he⟩
     | panicked c=>exact he.elim
     | outgrown=>obtain ⟨_,_,hf⟩:=he; exact hf.elim
    case row row args=>exact Rows.mono h fun u w'' he=>⟨_,hA.put hi u,he⟩
  | halt x w'=>
    cases x <;> simp only [Oper.upon] at h ⊢
 ·rename_i hww
  simp only [hww] at h
  exact ⟨_,hA.put hi undef,h⟩
theorem ready_nil_all {listed:Array Bool} (hB:tabB md ops=true) (hs:listed.size=ops.size) (h:Region.ready md ops listed=[]):∀ i,i < ops.size→listed.getD i false=true:=by
 intro i
 induction i using Nat.strongRecOn with
 | _ i ih=>
   intro hi
   cases hl:listed.getD i false with
   | true=>rfl
   | false=>
     have:i ∈ Region.ready md ops listed:=mem_ready.2 ⟨getD_in (by omega) hl,ops[i],by simp [hi],fun e he hb=>by
      have h1:=((tabB_spec hB).2 i ops[i] (by simp [hi])).1 e he hb
      exact ih e.on h1 (by omega)⟩
     rw [h] at this
     cases this
theorem Agr.all {listed:Array Bool} {a b:Act} (hA:Agr ops listed a b) (h:∀ i,i < ops.size→listed.getD i false=true):a=b:=by
 obtain ⟨h1,h2,h3⟩:=hA
 have e:a.tmps=b.tmps:=Array.ext_getElem? fun t=>h3 t fun i o hi _=>h i (Array.getElem?_eq_some_iff.1 hi).1
 cases a; cases b
 simp only at h1 e
 subst h1; subst e
 rfl
theorem wpAny_tab {Q:Exit→Act→World→Prop} (hB:tabB md ops=true) (J:Array Bool→Act→World→Prop)
 (hJ:∀ listed i b w,listed.size=ops.size→i ∈ Region.ready md ops listed→J listed b w→opN P ops i (fun b' w'=>J (listed.setIfInBounds i true) b' w') b w)
 (hQ:∀ listed b w,(∀ i,i < ops.size→listed.getD i false=true)→J listed b w→Q .normal b w) :
 ∀ (fuel:Nat) (listed:Array Bool) (a b:Act) (w:World),listed.size=ops.size→listed.count false≤fuel→Agr ops listed a b→J listed b w→wpAny P md ops Q fuel listed a w:=by
 intro fuel
 have done:∀ (listed:Array Bool) (a b:Act) (w:World),listed.size=ops.size→Agr ops listed a b→J listed b w→Region.ready md ops listed=[]→Q .normal a w:=fun listed a b w hs hA hj hr=>by
  have hl:=ready_nil_all hB hs hr
  rw [hA.all hl]
  exact hQ listed b w hl hj
 induction fuel with
 | zero=>
   intro listed a b w hs hc hA hj
   have hr:Region.ready md ops listed=[]:=by
    cases hr:Region.ready md ops listed with
    | nil=>rfl
    | cons i l=>
      have hi:i ∈ Region.ready md ops listed:=by rw [hr]; simp
      have h0:=(mem_ready.1 hi).1
      have hc':false ∉ listed:=Array.count_eq_zero.1 (Nat.le_zero.1 hc)
      exfalso
      apply hc'
      rcases Nat.lt_or_ge i listed.size with h | h
      ·simp [h] at h0; exact h0 ▸ Array.getElem_mem h
      ·simp [Array.getElem?_eq_none h] at h0
   exact ⟨hr,done _ _ _ _ hs hA hj hr⟩
 | succ fuel ih=>
   intro listed a b w hs hc hA hj
   refine ⟨fun hr=>done _ _ _ _ hs hA hj hr,fun i hi=>?_⟩
   refine wpOp_mono (fun a' w' h=>?_) (opN_move (Q:=Q) hB hA hi (hJ listed i b w hs hi hj))
   obtain ⟨b',hA',hj'⟩:=h
   refine ih _ _ _ _ (by simpa using hs) ?_ hA' hj'
   have h0:=(mem_ready.1 hi).1
   rcases Nat.lt_or_ge i listed.size with h | h
   ·have hv:listed[i]=false:=by simpa [h] using h0
    have hpos:0 < listed.count false:=Array.count_pos_iff.2 (hv ▸ Array.getElem_mem h)
    simp only [Array.setIfInBounds,h,dif_pos,Array.count_set,hv]
    simp
    omega
   ·simp [Array.getElem?_eq_none h] at h0
/-- the region, by an invariant over the operations that are done -/
theorem wp_region_tab {id:Nat} {Q:Exit→Act→World→Prop} {a:Act} {w:World} (hm:P.follows .mixedOrders=true) (hB:tabB .any ops=true) (J:Array Bool→Act→World→Prop) (b:Act)
 (hA:Agr ops (Array.replicate ops.size false) a b) (h0:J (Array.replicate ops.size false) b { w with drawn:=w.drawn+1 })
 (hJ:∀ listed i b w,listed.size=ops.size→i ∈ Region.ready .any ops listed→J listed b w→opN P ops i (fun b' w'=>J (listed.setIfInBounds i true) b' w') b w)
 (hQ:∀ listed b w,(∀ i,i < ops.size→listed.getD i false=true)→J listed b w→Q .normal b w):(Code.region id ops true).wp P Q a w:=
 wp_region_any hm (wpAny_tab hB J hJ hQ _ _ _ _ _ (by simp) (by simp) hA h0)
/-- the act with all that the operations yield -/
def fillAct:List Oper→Nat→(Nat→Value)→Act→Act
 | [],_,_,a=>a
 | o :: l,k,vs,a=>fillAct l (k+1) vs (a.put o.dst (vs k))
def updV (vs:Nat→Value) (i:Nat) (v:Value):Nat→Value:=fun k=>if k=i then v else vs k
theorem updV_same (vs:Nat→Value) (i:Nat) (v:Value):updV vs i v i=v:=by simp [updV]
theorem updV_ne (vs:Nat→Value) {i k:Nat} (v:Value) (h:k ≠ i):updV vs i v k=vs k:=by simp [updV,h]
theorem updV_self (vs:Nat→Value) (i:Nat):updV vs i (vs i)=vs:=by
 funext k
 by_cases e:k=i
 ·subst e; exact updV_same _ _ _
 ·exact updV_ne _ _ e
/-- no two of them write the same -/
def dstB:List Oper→Bool
 | []=>true
 | o :: l=>(match o.dst with
   | none=>true
   | some d=>l.all fun x=>x.dst != some d) && dstB l
theorem fill_congr:∀ (l:List Oper) (k:Nat) (vs vs':Nat→Value) (a:Act),(∀ j,k≤j→vs j=vs' j)→fillAct l k vs a=fillAct l k vs' a
 | [],_,_,_,_,_=>rfl
 | o :: l,k,vs,vs',a,h=>by
   simp only [fillAct]
   rw [h k (Nat.le_refl _)]
   exact fill_congr l (k+1) vs vs' _ (fun j hj=>h j (by omega))
theorem fill_out:∀ (l:List Oper) (k:Nat) (vs:Nat→Value) (a:Act) (d:Tmp) (v:Value),(∀ o ∈ l,o.dst ≠ some d)→(fillAct l k vs a).put (some d) v=fillAct l k vs (a.put (some d) v)
 | [],_,_,_,_,_,_=>rfl
 | o :: l,k,vs,a,d,v,h=>by
   simp only [fillAct]
   rw [fill_out l (k+1) vs _ d v (fun x hx=>h x (by simp [hx]))]
   rw [Act.put_comm a (vs k) v (fun e he hd=>h o (by simp) (he.trans hd.symm))]
theorem put_put (a:Act) (x:Option Tmp) (v u:Value):(a.put x v).put x u=a.put x u:=by
 cases x with
 | none=>rfl
 | some d=>simp [Act.put]
theorem fill_put:∀ (l:List Oper) (k:Nat) (vs:Nat→Value) (a:Act) (i:Nat) (o:Oper) (v:Value),dstB l=true→l[i]?=some o→(fillAct l k vs a).put o.dst v=fillAct l k (updV vs (k+i) v) a
 | [],_,_,_,_,_,_,_,h=>by simp at h
 | x :: l,k,vs,a,0,o,v,hB,h=>by
   obtain rfl:x=o:=by simpa using h
   simp only [dstB,Bool.and_eq_true] at hB
   simp only [fillAct,Nat.add_zero,updV_same]
   rw [fill_congr l (k+1) (updV vs k v) vs _ (fun j hj=>updV_ne _ _ (by omega))]
   cases hd:x.dst with
   | none=>
     rfl
   | some d=>
     rw [hd] at hB
     rw [fill_out l (k+1) vs _ d v (fun y hy=>by have:=List.all_eq_true.1 hB.1 y hy; simpa using this),put_put]
 | x :: l,k,vs,a,i+1,o,v,hB,h=>by
   simp only [dstB,Bool.and_eq_true] at hB
   simp only [fillAct]
   rw [fill_put l (k+1) vs _ i o v hB.2 (by simpa using h),updV_ne _ _ (by omega),show k+1+i=k+(i+1) by omega]
theorem fill_agr (l:List Oper) (vs:Nat→Value) (a:Act):Agr l.toArray (Array.replicate l.length false) a (fillAct l 0 vs a):=by
 have key:∀ (l:List Oper) (k:Nat) (a:Act),(fillAct l k vs a).defers=a.defers∧(fillAct l k vs a).tmps.size=a.tmps.size∧∀ t,(∀ o ∈ l,o.dst ≠ some t)→(fillAct l k vs a).tmps[t]?=a.tmps[t]?:=by
  intro l
  induction l with
  | nil=>intro k a; exact ⟨rfl,rfl,fun _ _=>rfl⟩
  | cons o l ih=>
    intro k a
    obtain ⟨h1,h2,h3⟩:=ih (k+1) (a.put o.dst (vs k))
    simp only [fillAct]
    refine ⟨?_,?_,fun t ht=>?_⟩
    ·rw [h1]; cases o.dst <;> rfl
    ·rw [h2]; cases o.dst <;> simp [Act.put]
    ·rw [h3 t (fun x hx=>ht x (by simp [hx]))]
     have hne:=ht o (by simp)
     cases hd:o.dst with
     | none=>rfl
     | some d=>
       rw [hd] at hne
       simp only [Act.put]
       exact Array.getElem?_setIfInBounds_ne (fun e=>hne (by rw [e]))
 obtain ⟨h1,h2,h3⟩:=key l 0 a
 refine ⟨h1.symm,h2.symm,fun t ht=>(h3 t fun o ho hd=>?_).symm⟩
 obtain ⟨i,hi⟩:=List.mem_iff_getElem?.1 ho
 have:=ht i o (by simpa using hi) hd
 rw [getD_replicate_false] at this
 cases this
/-- what an operation that only looks yields, is in the table -/
def Gv (P:Program) (Y:Nat→Option Bool) (b:Act) (w:World) (o:Oper) (v:Value):Prop:=
 (Region.wanted o Y=true∧(execOp b.eval o).run P w=.ok (.value v) w)∨(Region.wanted o Y=false∧undef=v)
def GvAll (P:Program) (Y:Nat→Option Bool) (b:Act) (w:World) (vs:Nat→Value):Nat→List Oper→Prop
 | _,[]=>True
 | k,o :: l=>Gv P Y b w o (vs k)∧GvAll P Y b w vs (k+1) l
theorem GvAll.nil {Y:Nat→Option Bool} {b:Act} {w:World} {vs:Nat→Value} {k:Nat}:GvAll P Y b w vs k []:=trivial
theorem GvAll.run {Y:Nat→Option Bool} {b:Act} {w:World} {vs:Nat→Value} {k:Nat} {o:Oper} {l:List Oper} (hw:Region.wanted o Y=true) (hr:(execOp b.eval o).run P w=.ok (.value (vs k)) w) (h:GvAll P Y b w vs (k+1) l):GvAll P Y b w vs k (o :: l):=⟨Or.inl ⟨hw,hr⟩,h⟩
theorem GvAll.skip {Y:Nat→Option Bool} {b:Act} {w:World} {vs:Nat→Value} {k:Nat} {o:Oper} {l:List Oper} (hw:Region.wanted o Y=false) (hv:undef=vs k) (h:GvAll P Y b w vs (k+1) l):GvAll P Y b w vs k (o :: l):=⟨Or.inr ⟨hw,hv⟩,h⟩
theorem GvAll.at {Y:Nat→Option Bool} {b:Act} {w:World} {vs:Nat→Value}:∀ {l:List Oper} {k i:Nat} {o:Oper},GvAll P Y b w vs k l→l[i]?=some o→Gv P Y b w o (vs (k+i))
 | [],_,_,_,_,h=>by simp at h
 | x :: l,k,0,o,h,hi=>by
   obtain rfl:x=o:=by simpa using hi
   exact h.1
 | x :: l,k,i+1,o,h,hi=>by
   have:=GvAll.at (k:=k+1) (i:=i) h.2 (by simpa using hi)
   rwa [show k+1+i=k+(i+1) by omega] at this
theorem Gv.opN {b:Act} {w:World} {i:Nat} {o:Oper} {v:Value} (hi:ops[i]?=some o) (h:Gv P (yielded ops b.tmps) b w o v) (hp:b.put o.dst v=b) {K:Act→World→Prop} (hK:K b w):opN P ops i K b w:=by
 unfold Go.Proofs.YtbcfpdlhieaepaaGreatDoor.opN
 simp only [hi]
 rcases h with ⟨hw,hr⟩ | ⟨hw,rfl⟩
 ·simp only [hw,if_true,Oper.wp,hr,Oper.upon,hp]; exact hK
 ·simp only [hw,Bool.false_eq_true,if_false,hp]; exact hK
/-- the slots that are written lie side by side -/
def contB:Nat→List Oper→Bool
 | _,[]=>true
 | d,o :: l=>(o.dst == some d) && contB (d+1) l
theorem fill_cont:∀ (l:List Oper) (k d:Nat) (vs:Nat→Value) (L:List Value) (ds:List Deferred),contB d l=true→d+l.length≤L.length →
 fillAct l k vs ⟨L.toArray,ds⟩=⟨(L.take d ++ ((List.range' k l.length).map vs ++ L.drop (d+l.length))).toArray,ds⟩
 | [],_,d,_,L,_,_,_=>by simp [fillAct]
 | o :: l,k,d,vs,L,ds,hB,hl=>by
   simp only [contB,Bool.and_eq_true,beq_iff_eq] at hB
   simp only [List.length_cons] at hl
   simp only [fillAct,hB.1,Act.put]
   rw [List.setIfInBounds_toArray,fill_cont l (k+1) (d+1) vs _ ds hB.2 (by rw [List.length_set]; omega)]
   congr 2
   have h1:(L.set d (vs k)).take (d+1)=L.take d ++ [vs k]:=by
    rw [List.take_succ_eq_append_getElem (by rw [List.length_set]; omega),List.take_set_of_le (Nat.le_refl _)]
    simp
   have h2:(L.set d (vs k)).drop (d+1+l.length)=L.drop (d+(l.length+1)):=by
    rw [List.drop_set_of_lt (by omega),show d+1+l.length=d+(l.length+1) by omega]
   rw [h1,h2,List.length_cons,List.range'_succ,List.map_cons]
   simp
theorem map_getD (vals:List Value):(List.range' 0 vals.length).map (fun k=>vals.getD k undef)=vals:=by
 apply List.ext_getElem
 ·simp
 ·intro i h1 h2
  simp at h1
  simp [h1]
/-- ONE CALL that turns the world; every other operation only looks, and sees the same ahead of the call and behind it -/
theorem wp_region_call {id:Nat} {Q:Exit→Act→World→Prop} {a:Act} {w:World} {l:List Oper} (hm:P.follows .mixedOrders=true) (c:Nat) (vs:Nat→Value) (R:World→Prop) {oc:Oper}
 (hB:tabB .any l.toArray=true) (hD:dstB l=true) (hc:l[c]?=some oc)
 (hstill:∀ w',w'=w.drew∨R w'→GvAll P (yielded l.toArray (fillAct l 0 vs a).tmps) (fillAct l 0 vs a) w' vs 0 (l.take c)∧GvAll P (yielded l.toArray (fillAct l 0 vs a).tmps) (fillAct l 0 vs a) w' vs (c+1) (l.drop (c+1)))
 (hw:Region.wanted oc (yielded l.toArray (fillAct l 0 vs a).tmps)=true) (f:FuncId) (args:Array Value) (hx:(execOp (fillAct l 0 vs a).eval oc).run P w.drew=.ok (.enter f args) w.drew)
 (hcall:Calls P f args w.drew (fun e w'=>e=.returned (vs c)∧R w'))
 (hQ:∀ w',R w'→Q .normal (fillAct l 0 vs a) w'):(Code.region id l.toArray true).wp P Q a w:=by
 have hA:=fill_agr l vs a
 have hput:∀ i o,l[i]?=some o→(fillAct l 0 vs a).put o.dst (vs i)=fillAct l 0 vs a:=fun i o hi=>by
  rw [fill_put l 0 vs a i o (vs i) hD hi,Nat.zero_add,updV_self]
 generalize fillAct l 0 vs a=b at *
 have hcl:c < l.length:=(List.getElem?_eq_some_iff.1 hc).1
 refine wp_region_tab hm hB (fun listed b' w'=>b'=b∧(listed.getD c false=false→w'=w.drew)∧(listed.getD c false=true→R w')) b (by simpa using hA) ⟨rfl,fun _=>rfl,fun h=>?_⟩ ?_ ?_
 ·rw [getD_replicate_false] at h; cases h
 ·rintro listed i b2 w' hs hi ⟨rfl,h1,h2⟩
  obtain ⟨hun,o,ho,_⟩:=mem_ready.1 hi
  have hlo:l[i]?=some o:=by simpa using ho
  by_cases e:i=c
  ·subst e
   obtain rfl:o=oc:=Option.some.inj (hlo.symm.trans hc)
   obtain rfl:=h1 (getD_both hun)
   unfold opN
   simp only [ho,hw,if_true,Oper.wp,hx,Oper.upon]
   refine hcall.mono fun e w'' he=>?_
   obtain ⟨rfl,hR⟩:=he
   refine ⟨hput i o hlo,fun h=>?_,fun _=>hR⟩
   have hi':i < listed.size:=by rw [hs]; simpa using hcl
   rw [show (listed.setIfInBounds i true).getD i false=true by simp [hi']] at h
   cases h
  ·have hst:=hstill w' (by
    cases hl:listed.getD c false with
    | false=>exact .inl (h1 hl)
    | true=>exact .inr (h2 hl))
   have hat:Gv P (yielded l.toArray b2.tmps) b2 w' o (vs i):=by
    rcases Nat.lt_or_ge i c with h | h
    ·have:=hst.1.at (i:=i) (o:=o) (by rw [List.getElem?_take,if_pos h]; exact hlo)
     rwa [Nat.zero_add] at this
    ·have:=hst.2.at (i:=i - (c+1)) (o:=o) (by rw [List.getElem?_drop,show c+1+(i - (c+1))=i by omega]; exact hlo)
     rwa [show c+1+(i - (c+1))=i by omega] at this
   exact hat.opN ho (hput i o hlo) ⟨rfl,by rw [getD_set_ne false e]; exact h1,by rw [getD_set_ne false e]; exact h2⟩
 ·rintro listed _ w' hl ⟨rfl,_,h2⟩
  exact hQ w' (h2 (hl c (by simpa using hcl)))
/-- the same, where the operations' slots lie side by side -/
theorem wp_region_call' {id:Nat} {Q:Exit→Act→World→Prop} {L:List Value} {ds:List Deferred} {w:World} {l:List Oper} (hm:P.follows .mixedOrders=true) (c d e:Nat) (vals:List Value) (R:World→Prop) {oc:Oper}
 (hB:tabB .any l.toArray=true) (hD:dstB l=true) (hc:l[c]?=some oc) (hC:contB d l=true) (hn:l.length=vals.length) (he:d+l.length=e) (hd:e≤L.length)
 (hstill:∀ w',w'=w.drew∨R w'→GvAll P (yielded l.toArray (fillAct l 0 (fun k=>vals.getD k undef) ⟨L.toArray,ds⟩).tmps) (fillAct l 0 (fun k=>vals.getD k undef) ⟨L.toArray,ds⟩) w' (fun k=>vals.getD k undef) 0 (l.take c)∧GvAll P (yielded l.toArray (fillAct l 0 (fun k=>vals.getD k undef) ⟨L.toArray,ds⟩).tmps) (fillAct l 0 (fun k=>vals.getD k undef) ⟨L.toArray,ds⟩) w' (fun k=>vals.getD k undef) (c+1) (l.drop (c+1)))
 (hw:Region.wanted oc (yielded l.toArray (fillAct l 0 (fun k=>vals.getD k undef) ⟨L.toArray,ds⟩).tmps)=true) (f:FuncId) (args:Array Value) (hx:(execOp (fillAct l 0 (fun k=>vals.getD k undef) ⟨L.toArray,ds⟩).eval oc).run P w.drew=.ok (.enter f args) w.drew)
 (hcall:Calls P f args w.drew (fun e w'=>e=.returned (vals.getD c undef)∧R w'))
 (hQ:∀ L',L.take d ++ (vals ++ L.drop e)=L'→∀ w',R w'→Q .normal ⟨L'.toArray,ds⟩ w'):(Code.region id l.toArray true).wp P Q ⟨L.toArray,ds⟩ w:=
 wp_region_call hm c (fun k=>vals.getD k undef) R hB hD hc hstill hw f args hx hcall (fun w' hR=>by
  have h:=hQ _ rfl w' hR
  rw [fill_cont l 0 d _ L ds hC (by omega),he,hn,map_getD]
  exact h)
/-- what one operation gives, and the world it leaves; a call is one that returns -/
def Oper.gives (P:Program) (o:Oper) (a:Act) (w:World) (R:Value→World→Prop):Prop:=
 match (execOp a.eval o).run P w with
 | .ok (.value v) w'=>R v w'
 | .ok .skip w'=>R undef w'
 | .ok (.enter f args) w'=>Calls P f args w' (fun e w''=>∃ v,e=.returned v∧R v w'')
 | _=>False
theorem Oper.gives_wp {o:Oper} {a:Act} {w:World} {R:Value→World→Prop} {K:Act→World→Prop} {Q':Exit→Act→World→Prop} (h:Oper.gives P o a w R) (hK:∀ v w',R v w'→K (a.put o.dst v) w'):o.wp P a w K Q':=by
 unfold Oper.gives at h
 unfold Go.Oper.wp
 generalize (execOp a.eval o).run P w=r at *
 cases r with
 | ok n w'=>
   cases n <;> simp only at h <;> simp only [Go.Oper.upon]
   case enter f args=>
    refine h.mono fun e w'' he=>?_
    obtain ⟨v,rfl,hR⟩:=he
    exact hK _ _ hR
   all_goals first | exact hK _ _ h | exact h.elim
 | halt x w'=>exact h.elim
def EachI (F:Nat→Oper→Prop):Nat→List Oper→Prop
 | _,[]=>True
 | k,o :: l=>F k o∧EachI F (k+1) l
theorem EachI.nil {F:Nat→Oper→Prop} {k:Nat}:EachI F k []:=trivial
theorem EachI.cons {F:Nat→Oper→Prop} {k:Nat} {o:Oper} {l:List Oper} (h:F k o) (h2:EachI F (k+1) l):EachI F k (o :: l):=⟨h,h2⟩
theorem EachI.at {F:Nat→Oper→Prop}:∀ {l:List Oper} {k i:Nat} {o:Oper},EachI F k l→l[i]?=some o→F (k+i) o
 | [],_,_,_,_,h=>by simp at h
 | x :: l,k,0,o,h,hi=>by
   obtain rfl:x=o:=by simpa using hi
   exact h.1
 | x :: l,k,i+1,o,h,hi=>by
   have:=EachI.at (k:=k+1) (i:=i) h.2 (by simpa using hi)
   rwa [show k+1+i=k+(i+1) by omega] at this
theorem EachI.imp {F G:Nat→Oper→Prop} (h:∀ k o,F k o→G k o):∀ {l:List Oper} {k:Nat},EachI F k l→EachI G k l
 | [],_,_=>trivial
 | _ :: _,_,⟨h1,h2⟩=>⟨h _ _ h1,EachI.imp h h2⟩
end
end
section
section
variable {P:Program} {ops:Array Oper}
/-- one operation that turns the world -/
structure TurnOk (P:Program) (Y:Nat→Option Bool) (b:Act) (w:World) (o:Oper) (C:Value→World→Prop):Prop where
 out:if Region.wanted o Y then Oper.gives P o b w C else C undef w
theorem turn_run {o:Oper} {Y:Nat→Option Bool} {b:Act} {w:World} {C:Value→World→Prop} (hw:Region.wanted o Y=true) (v:Value) (w':World) (hr:(execOp b.eval o).run P w=.ok (.value v) w') (h:C v w'):TurnOk P Y b w o C:=by
 constructor
 rw [if_pos hw]; unfold Oper.gives; rw [hr]; exact h
theorem turn_call {o:Oper} {Y:Nat→Option Bool} {b:Act} {w:World} {C:Value→World→Prop} (hw:Region.wanted o Y=true) (f:FuncId) (args:Array Value) (hr:(execOp b.eval o).run P w=.ok (.enter f args) w) (h:Calls P f args w (fun e w'=>∃ v,e=.returned v∧C v w')):TurnOk P Y b w o C:=by
 constructor
 rw [if_pos hw]; unfold Oper.gives; rw [hr]; exact h
/-- the slots, one by one -/
def setAll:List Oper→Nat→(Nat→Value)→List Value→List Value
 | [],_,_,L=>L
 | o :: l,k,vs,L=>setAll l (k+1) vs (match o.dst with | some d=>L.set d (vs k) | none=>L)
theorem fill_set:∀ (l:List Oper) (k:Nat) (vs:Nat→Value) (L:List Value) (ds:List Deferred),fillAct l k vs ⟨L.toArray,ds⟩=⟨(setAll l k vs L).toArray,ds⟩
 | [],_,_,_,_=>rfl
 | o :: l,k,vs,L,ds=>by
   simp only [fillAct,setAll]
   rw [← fill_set l (k+1) vs _ ds]
   cases o.dst with
   | none=>rfl
   | some d=>simp only [Act.put,List.setIfInBounds_toArray]
/-- the table of what is known ahead, and the others' values -/
def mix (C:List (Option Value)) (ws:Nat→Value):Nat→Value:=fun k=>((C[k]?).join).getD (ws k)
def mixB (C:List (Option Value)) (eff:List Nat) (n:Nat):Bool:=(List.range n).all fun i=>((C[i]?).join).isNone == eff.contains i
theorem mixB_spec {C:List (Option Value)} {eff:List Nat} {n:Nat} (h:mixB C eff n=true) {i:Nat} (hi:i < n):((C[i]?).join).isNone=eff.contains i:=by
 have:=List.all_eq_true.1 h i (List.mem_range.2 hi)
 simpa using this
theorem mix_open {C:List (Option Value)} {ws:Nat→Value} {i:Nat} (h:((C[i]?).join).isNone=true) (v:Value):updV (mix C ws) i v=mix C (updV ws i v):=by
 funext k
 by_cases e:k=i
 ·subst e
  rw [updV_same]
  unfold mix
  cases hc:(C[k]?).join with
  | none=>simp [updV_same]
  | some c=>rw [hc] at h; cases h
 ·rw [updV_ne _ _ e]; unfold mix; rw [updV_ne _ _ e]
/-- what an operation of the region owes -/
structure MixOk (P:Program) (l:List Oper) (L:List Value) (ds:List Deferred) (C:List (Option Value)) (eff:List Nat) (G:List Bool→List Value→World→Prop) (i:Nat) (o:Oper):Prop where
 out:∀ (d:Nat→Bool) ws w,G (eff.map d) (eff.map ws) w→(∀ j,Region.waitsFor .any l.toArray i j=true→d j=true)→(∀ j k,Region.waitsFor .any l.toArray j k=true→d j=true→d k=true)→d i=false →
  (eff.contains i=true→TurnOk P (yielded l.toArray (fillAct l 0 (mix C ws) ⟨L.toArray,ds⟩).tmps) (fillAct l 0 (mix C ws) ⟨L.toArray,ds⟩) w o (fun v w'=>G (eff.map fun k=>if k=i then true else d k) (eff.map (updV ws i v)) w')) ∧
  (eff.contains i=false→Gv P (yielded l.toArray (fillAct l 0 (mix C ws) ⟨L.toArray,ds⟩).tmps) (fillAct l 0 (mix C ws) ⟨L.toArray,ds⟩) w o (mix C ws i))
section
variable {l:List Oper} {L:List Value} {ds:List Deferred} {C:List (Option Value)} {eff:List Nat} {G:List Bool→List Value→World→Prop} {i:Nat} {o:Oper}
/-- an operation of known operands, which asks nothing of the world -/
theorem MixOk.pure (he:eff.contains i=false) (hw:∀ ws,Region.wanted o (yielded l.toArray (fillAct l 0 (mix C ws) ⟨L.toArray,ds⟩).tmps)=true) (hr:∀ ws w,(execOp (fillAct l 0 (mix C ws) ⟨L.toArray,ds⟩).eval o).run P w=.ok (.value (mix C ws i)) w):MixOk P l L ds C eff G i o:=
 ⟨fun _ ws w _ _ _ _=>⟨fun e=>(by rw [he] at e; cases e),fun _=>Or.inl ⟨hw ws,hr ws w⟩⟩⟩
theorem MixOk.skip (he:eff.contains i=false) (hw:∀ ws,Region.wanted o (yielded l.toArray (fillAct l 0 (mix C ws) ⟨L.toArray,ds⟩).tmps)=false) (hr:∀ ws,undef=mix C ws i):MixOk P l L ds C eff G i o:=
 ⟨fun _ ws w _ _ _ _=>⟨fun e=>(by rw [he] at e; cases e),fun _=>Or.inr ⟨hw ws,hr ws⟩⟩⟩
/-- one that looks into the world -/
theorem MixOk.look (he:eff.contains i=false) (hw:∀ ws,Region.wanted o (yielded l.toArray (fillAct l 0 (mix C ws) ⟨L.toArray,ds⟩).tmps)=true)
 (hr:∀ (d:Nat→Bool) ws w,G (eff.map d) (eff.map ws) w→(∀ j,Region.waitsFor .any l.toArray i j=true→d j=true)→(∀ j k,Region.waitsFor .any l.toArray j k=true→d j=true→d k=true)→d i=false→(execOp (fillAct l 0 (mix C ws) ⟨L.toArray,ds⟩).eval o).run P w=.ok (.value (mix C ws i)) w):MixOk P l L ds C eff G i o:=
 ⟨fun d ws w h1 h2 h3 h4=>⟨fun e=>(by rw [he] at e; cases e),fun _=>Or.inl ⟨hw ws,hr d ws w h1 h2 h3 h4⟩⟩⟩
theorem MixOk.turn (he:eff.contains i=true) (h:∀ (d:Nat→Bool) ws w,G (eff.map d) (eff.map ws) w→(∀ j,Region.waitsFor .any l.toArray i j=true→d j=true)→(∀ j k,Region.waitsFor .any l.toArray j k=true→d j=true→d k=true)→d i=false →
 TurnOk P (yielded l.toArray (fillAct l 0 (mix C ws) ⟨L.toArray,ds⟩).tmps) (fillAct l 0 (mix C ws) ⟨L.toArray,ds⟩) w o (fun v w'=>G (eff.map fun k=>if k=i then true else d k) (eff.map (updV ws i v)) w')):MixOk P l L ds C eff G i o:=
 ⟨fun d ws w h1 h2 h3 h4=>⟨fun _=>h d ws w h1 h2 h3 h4,fun e=>(by rw [he] at e; cases e)⟩⟩
end
theorem wp_region_mix {id:Nat} {Q:Exit→Act→World→Prop} {L:List Value} {ds:List Deferred} {w:World} {l:List Oper} (hm:P.follows .mixedOrders=true)
 (hB:tabB .any l.toArray=true) (hD:dstB l=true) (C:List (Option Value)) (eff:List Nat) (hC:mixB C eff l.length=true) (heff:(eff.all fun i=>decide (i < l.length))=true) (G:List Bool→List Value→World→Prop)
 (hG:G (eff.map fun _=>false) (eff.map fun _=>undef) w.drew) (hstep:EachI (MixOk P l L ds C eff G) 0 l)
 (hQ:∀ ws L',setAll l 0 (mix C ws) L=L'→∀ w,G (eff.map fun _=>true) (eff.map ws) w→Q .normal ⟨L'.toArray,ds⟩ w):(Code.region id l.toArray true).wp P Q ⟨L.toArray,ds⟩ w:=by
 have heff':∀ i ∈ eff,i < l.length:=fun i hi=>by simpa using List.all_eq_true.1 heff i hi
 refine wp_region_tab hm hB (fun listed b' w'=>∃ ws,b'=fillAct l 0 (mix C ws) ⟨L.toArray,ds⟩∧G (eff.map fun i=>listed.getD i false) (eff.map ws) w'∧(∀ i oi,l[i]?=some oi→listed.getD i false=true→∀ e ∈ oi.after,Region.binds .any e=true→listed.getD e.on false=true)) (fillAct l 0 (mix C fun _=>undef) ⟨L.toArray,ds⟩) (by simpa using fill_agr l _ ⟨L.toArray,ds⟩) ⟨_,rfl,?_,fun i oi hi h=>?_⟩ ?_ ?_
 ·have e:(eff.map fun i=>(Array.replicate l.toArray.size false).getD i false)=eff.map fun _=>false:=List.map_congr_left fun i _=>getD_replicate_false _ _
  rw [e]; exact hG
 ·rw [getD_replicate_false] at h; cases h
 ·rintro listed i b2 w' hs hi ⟨ws,rfl,hG',hR⟩
  obtain ⟨hun,o,ho,haf⟩:=mem_ready.1 hi
  have ho':l[i]?=some o:=by simpa using ho
  have hil:i < listed.size:=by rw [hs]; exact (Array.getElem?_eq_some_iff.1 ho).1
  have hill:i < l.length:=(List.getElem?_eq_some_iff.1 ho').1
  have hst0:=hstep.at ho'
  rw [Nat.zero_add] at hst0
  have hst:=hst0.out (fun k=>listed.getD k false) ws w' hG' (fun j hj=>by
   obtain ⟨oj,hoj,e,he,hb,rfl⟩:=Region.waitsFor_spec hj
   obtain rfl:oj=o:=Option.some.inj (hoj.symm.trans ho)
   exact haf e he hb) (fun j k hjk hj=>by
   obtain ⟨oj,hoj,e,he,hb,rfl⟩:=Region.waitsFor_spec hjk
   exact hR j oj (by simpa using hoj) hj e he hb) (getD_both hun)
  have closed:∀ k ok,l[k]?=some ok→(listed.setIfInBounds i true).getD k false=true→∀ e ∈ ok.after,Region.binds .any e=true→(listed.setIfInBounds i true).getD e.on false=true:=by
   intro k ok hk hl e he hb
   by_cases hik:i=k
   ·subst hik
    obtain rfl:ok=o:=Option.some.inj (hk.symm.trans ho')
    exact getD_set_true (haf e he hb)
   ·rw [getD_set_ne false hik] at hl
    exact getD_set_true (hR k ok hk hl e he hb)
  have hput:∀ v,(fillAct l 0 (mix C ws) ⟨L.toArray,ds⟩).put o.dst v=fillAct l 0 (updV (mix C ws) i v) ⟨L.toArray,ds⟩:=fun v=>by rw [fill_put l 0 (mix C ws) _ i o v hD ho',Nat.zero_add]
  have hmap:(eff.map fun k=>(listed.setIfInBounds i true).getD k false)=eff.map fun k=>if k=i then true else listed.getD k false:=List.map_congr_left fun k hk=>by
   by_cases e:k=i
   ·subst e; rw [if_pos rfl]; simp [hil]
   ·rw [if_neg e,getD_set_ne false (fun h=>e h.symm)]
  have hmx:=mixB_spec hC hill
  unfold opN
  simp only [ho]
  by_cases hei:eff.contains i=true
  ·have ht:=(hst.1 hei).out
   rw [hei] at hmx
   have next:∀ v w'',G (eff.map fun k=>if k=i then true else listed.getD k false) (eff.map (updV ws i v)) w''→∃ ws',(fillAct l 0 (mix C ws) ⟨L.toArray,ds⟩).put o.dst v=fillAct l 0 (mix C ws') ⟨L.toArray,ds⟩∧G (eff.map fun k=>(listed.setIfInBounds i true).getD k false) (eff.map ws') w''∧(∀ k ok,l[k]?=some ok→(listed.setIfInBounds i true).getD k false=true→∀ e ∈ ok.after,Region.binds .any e=true→(listed.setIfInBounds i true).getD e.on false=true):=by
    intro v w'' h2
    exact ⟨updV ws i v,by rw [hput,mix_open hmx],by rw [hmap]; exact h2,closed⟩
   split
   ·rename_i hw
    simp only [hw,if_true] at ht
    exact Oper.gives_wp ht fun v w'' h=>next v w'' h
   ·rename_i hw
    simp only [hw] at ht
    exact next undef w' ht
  ·have hei':eff.contains i=false:=by simpa using hei
   have ht:=hst.2 hei'
   rw [hei'] at hmx
   have hne:∀ k ∈ eff,k ≠ i:=fun k hk e=>hei (by subst e; simpa using hk)
   have e1:(eff.map fun k=>(listed.setIfInBounds i true).getD k false)=eff.map fun k=>listed.getD k false:=List.map_congr_left fun k hk=>getD_set_ne false (fun h=>hne k hk h.symm)
   have next:∃ ws',(fillAct l 0 (mix C ws) ⟨L.toArray,ds⟩).put o.dst (mix C ws i)=fillAct l 0 (mix C ws') ⟨L.toArray,ds⟩∧G (eff.map fun k=>(listed.setIfInBounds i true).getD k false) (eff.map ws') w'∧(∀ k ok,l[k]?=some ok→(listed.setIfInBounds i true).getD k false=true→∀ e ∈ ok.after,Region.binds .any e=true→(listed.setIfInBounds i true).getD e.on false=true):=
    ⟨ws,by rw [hput,updV_self],by rw [e1]; exact hG',closed⟩
   rcases ht with ⟨hw,hr⟩ | ⟨hw,hv⟩
   ·simp only [hw,if_true,Go.Oper.wp,hr,Go.Oper.upon]
    exact next
   ·simp only [hw,Bool.false_eq_true,if_false]
    rw [hv]
    exact next
 ·rintro listed b2 w' hl ⟨ws,rfl,hG',hR⟩
  rw [fill_set]
  refine hQ ws _ rfl w' ?_
  have e:(eff.map fun i=>listed.getD i false)=eff.map fun _=>true:=List.map_congr_left fun i hi=>hl i (by simpa using heff' i hi)
  rw [← e]; exact hG'
end
end
section
open Go.RowKit SeedP Go.Maps
end
section
open Go.RowKit SeedP Go.Maps
theorem not_done {d:Nat→Bool} {i j:Nat} (h:d i=true→d j=true) (hj:d j=false):d i=false:=by
 cases hi:d i with
 | false=>rfl
 | true=>rw [h hi] at hj; cases hj
theorem own_up {w:World} {B B' n m:Nat} {e:TypeId} {v:Value} {xs:List Value} (h:w.ownsRow B e m v n xs) (hB:B'≤B):w.ownsRow B' e m v n xs:=by
 refine ⟨h.1,?_⟩
 rcases h.2 with h2 | ⟨g,cap,cur,e,hb,r⟩
 ·exact Or.inl h2
 ·exact Or.inr ⟨g,cap,cur,e,Nat.le_trans hB hb,r⟩
theorem bl_drew (w:World):Below w.heap.size w w.drew:=⟨rfl,rfl,rfl,Nat.le_refl _,fun _ _=>rfl⟩
section
variable {Y:Nat→Option Bool} {b:Act} {w:World} {C:Value→World→Prop} (d:Option Tmp) (ty:TypeId) (pos:String) (af:Array Edge) (gd:Option (Nat × Bool))
theorem turn_app (s x:Operand) (hw:Region.wanted ⟨d,.call { callee:=.builtin .append,args:=#[s,x],argTypes:=#[26,26] },ty,pos,af,gd⟩ Y=true)
 (B:Nat) (v:Value) (n:Nat) (xs:List UInt8) (hs:b.eval s=v) (hown:w.ownsRow B 5 1 v n (byts xs))
 {B':Nat} (vx:Value) (l:List UInt8) (hx:b.eval x=vx) (hr:RdB w B' vx l) (hm:n+l.length≤4294967296) (hB:B≤w.heap.size)
 (h:∀ v' w',w'.ownsRow B 5 1 v' (n+l.length) (byts (xs ++ l))→w.grownBy w' v.ownBlock→C v' w'):TurnOk Tryz.prog Y b w ⟨d,.call { callee:=.builtin .append,args:=#[s,x],argTypes:=#[26,26] },ty,pos,af,gd⟩ C:=by
 obtain ⟨v',w',hr,h2,h3⟩:=app_run ty B v n xs hown vx l hr hm hB
 refine turn_run hw v' w' ?_ (h v' w' h2 h3)
 unfold execOp
 simp only [resolve,invoke,builtin,Sem.run_bind,Sem.run_pure,Result.andThen_ok,List.map_toArray,List.map_cons,List.map_nil,hs,hx,hr]
end
end
end Go.Proofs.YtbcfpdlhieaepaaGreatDoor
