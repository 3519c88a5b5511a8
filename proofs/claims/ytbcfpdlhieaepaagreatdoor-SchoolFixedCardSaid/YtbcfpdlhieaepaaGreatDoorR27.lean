/- A submission in parts: what forbids it, and that another student's attempt changes nothing of that. No program in sight. -/
import Derived.Test.YtbcfpdlhieaepaaGreatDoorR26
namespace Go.Proofs.YtbcfpdlhieaepaaGreatDoor
section
open Go.RowKit SeedP Go.Maps
/-! ### a submission in parts -/
def subPre (id:Int) (st:List UInt8) (now:Int) (tx:List UInt8) (s:JS):Int:=
 if isNameP st=false∨now < 0∨2147483647 < now then 2 else if 4000 < tx.length then 3 else match s.taskOfP id st with
 | none=>6
 | some t=>if now < t.frm∨(∃ x,(s.attsP id st).getLast?=some x∧now < (x.1:Int)) then 372 else if t.late+s.extP id st < now then 373 else if t.tries≤(s.attsP id st).length then 374 else 0
theorem submit_pre {s:JS} (hd:s.down=false) (id:Int) (st:List UInt8) (now:Int) (tx:List UInt8):submitP id st now tx s=if subPre id st now tx s ≠ 0 then (s,0,subPre id st now tx s) else
 if (jCommit [⟨akey id.toNat st ((s.attsP id st).length+1),numB now.toNat 4 ++ tx,false⟩] s).2=0 then ((jCommit [⟨akey id.toNat st ((s.attsP id st).length+1),numB now.toNat 4 ++ tx,false⟩] s).1,(s.attsP id st).length+1,0) else ((jCommit [⟨akey id.toNat st ((s.attsP id st).length+1),numB now.toNat 4 ++ tx,false⟩] s).1,0,(jCommit [⟨akey id.toNat st ((s.attsP id st).length+1),numB now.toNat 4 ++ tx,false⟩] s).2):=by
 unfold submitP subPre
 rw [if_neg (by rw [hd]; simp)]
 by_cases h1:isNameP st=false∨now < 0∨2147483647 < now
 ·rw [if_pos h1,if_pos h1,if_pos (by simp)]
 rw [if_neg h1,if_neg h1]
 by_cases h2:4000 < tx.length
 ·rw [if_pos h2,if_pos h2,if_pos (by simp)]
 rw [if_neg h2,if_neg h2]
 cases ht:s.taskOfP id st with
 | none=>simp
 | some t=>
   simp only
   by_cases h3:now < t.frm∨(∃ x,(s.attsP id st).getLast?=some x∧now < (x.1:Int))
   ·rw [if_pos h3,if_pos h3,if_pos (by simp)]
   rw [if_neg h3,if_neg h3]
   by_cases h4:t.late+s.extP id st < now
   ·rw [if_pos h4,if_pos h4,if_pos (by simp)]
   rw [if_neg h4,if_neg h4]
   by_cases h5:t.tries≤(s.attsP id st).length
   ·rw [if_pos h5,if_pos h5,if_pos (by simp)]
   rw [if_neg h5,if_neg h5,if_neg (show ¬ (0:Int) ≠ 0 by decide)]
structure SubFit (id:Int) (st:List UInt8) (now:Int) (tx:List UInt8) (s:JS) (t:TaskP):Prop where
 name:isNameP st=true
 n0:0≤now
 n1:now≤2147483647
 tx:tx.length≤4000
 task:s.taskP id=some t
 mem:(pFind s.c.ents (mkey t.cls st)).isSome=true
 from_:t.frm≤now
 last:∀ x,(s.attsP id st).getLast?=some x→(x.1:Int)≤now
 late:now≤t.late+s.extP id st
 tries:((s.attsP id st).length:Int) < t.tries
theorem subPre_fit {id:Int} {st:List UInt8} {now:Int} {tx:List UInt8} {s:JS}:subPre id st now tx s=0 ↔ ∃ t,SubFit id st now tx s t:=by
 unfold subPre
 constructor
 ·intro h
  split at h
  ·simp at h
  rename_i h1
  split at h
  ·simp at h
  rename_i h2
  cases ht:s.taskOfP id st with
  | none=>rw [ht] at h; simp at h
  | some t=>
    rw [ht] at h
    simp only at h
    split at h
    ·simp at h
    rename_i h3
    split at h
    ·simp at h
    rename_i h4
    split at h
    ·simp at h
    rename_i h5
    obtain ⟨k1,k2⟩:=JS.taskOf_some ht
    rw [not_or,not_or] at h1
    rw [not_or] at h3
    exact ⟨t,bt h1.1,by omega,by omega,by omega,k1,k2,by omega,fun x hx=>Int.not_lt.1 (fun hlt=>h3.2 ⟨x,hx,hlt⟩),by omega,by omega⟩
 ·rintro ⟨t,h⟩
  have n0:=h.n0; have n1:=h.n1; have htx:=h.tx; have hf:=h.from_; have hl:=h.late; have hr:=h.tries
  have hto:s.taskOfP id st=some t:=by unfold JS.taskOfP; rw [h.task]; simp only [h.mem,if_true]
  rw [if_neg (by rw [not_or,not_or,h.name]; exact ⟨by simp,by omega,by omega⟩),if_neg (by omega),hto]
  simp only
  rw [if_neg (by rw [not_or]; exact ⟨by omega,fun ⟨x,hx,hlt⟩=>absurd (h.last x hx) (by omega)⟩),if_neg (by omega),if_neg (by omega)]
/-! ### another attempt beside it -/
/-- s' has one attempt of another student more -/
structure Beside (s s':JS) (st st0:List UInt8) (i m:Nat) (v:List UInt8):Prop where
 d:s.down=false
 d':s'.down=false
 ok:SchoolOk s.c.ents
 n0:isNameP st0=true
 ne:st0 ≠ st
 i9:i≤9999
 m9:m≤99
 ents:s'.c.ents=pPut s.c.ents (akey i st0 m,v)
section
variable {s s':JS} {st st0:List UInt8} {i m:Nat} {v:List UInt8}
theorem Beside.same (h:Beside s s' st st0 i m v) {k:List UInt8} (hk:akey i st0 m ≠ k):pFind s'.c.ents k=pFind s.c.ents k:=by
 rw [h.ents,pPut_find,if_neg (by simpa using hk)]
theorem akey_head {i m:Nat} {st k:List UInt8} (h:k.head? ≠ some 97):akey i st m ≠ k:=fun e=>h (by rw [← e]; rfl)
theorem Beside.task (h:Beside s s' st st0 i m v) (id:Int):s'.taskP id=s.taskP id:=by
 unfold JS.taskP
 rw [h.d,h.d',h.same (k:=tkey id.toNat) (akey_head (by simp [tkey]))]
theorem Beside.ext (h:Beside s s' st st0 i m v) (id:Int):s'.extP id st=s.extP id st:=by
 unfold JS.extP
 rw [h.d,h.d',h.same (k:=xkey id.toNat st) (akey_head (by simp [xkey]))]
theorem Beside.taskOf (h:Beside s s' st st0 i m v) (id:Int):s'.taskOfP id st=s.taskOfP id st:=by
 unfold JS.taskOfP
 rw [h.task id]
 cases s.taskP id with
 | none=>rfl
 | some t=>simp only; rw [h.same (k:=mkey t.cls st) (akey_head (by simp [mkey]))]
theorem Beside.atts (h:Beside s s' st st0 i m v) (id:Int):s'.attsP id st=s.attsP id st:=by
 unfold JS.attsP
 rw [h.task id]
 cases ht:s.taskP id with
 | none=>rfl
 | some t=>
   obtain ⟨i0,i1,hf,_⟩:=JS.taskP_some h.ok ht
   have:=hf.t0; have:=hf.t1
   simp only
   by_cases hn:isNameP st=false
   ·rw [if_pos hn,if_pos hn]
   rw [if_neg hn,if_neg hn]
   refine attsFrom_congr _ _ fun j h1 h2=>h.same fun e=>?_
   exact h.ne (akey_inj h.n0 (bt hn) h.i9 (by omega) h.m9 (by omega) e).2.1
theorem Beside.pre (h:Beside s s' st st0 i m v) (id:Int) (now:Int) (tx:List UInt8):subPre id st now tx s'=subPre id st now tx s:=by
 unfold subPre
 rw [h.taskOf id,h.ext id,h.atts id]
end
theorem pre_ents {s s':JS} (hd:s.down=false) (hd':s'.down=false) (he:s'.c.ents=s.c.ents) (id:Int) (st:List UInt8) (now:Int) (tx:List UInt8):subPre id st now tx s'=subPre id st now tx s∧s'.attsP id st=s.attsP id st:=by
 have h1:s'.taskP id=s.taskP id:=by unfold JS.taskP; rw [hd,hd',he]
 have h2:s'.extP id st=s.extP id st:=by unfold JS.extP; rw [hd,hd',he]
 have h3:s'.taskOfP id st=s.taskOfP id st:=by unfold JS.taskOfP; rw [h1,he]
 have h4:s'.attsP id st=s.attsP id st:=by unfold JS.attsP; rw [h1,he]
 exact ⟨by unfold subPre; rw [h2,h3,h4],h4⟩
/-! ### what a submission leaves -/
theorem put_code {s:JS} {g:Nat} (h:SFull s g) (hg:g+2 < 4611686018427387904) {k v:List UInt8} (hk:1≤k.length∧k.length≤40) (hv:v.length≤4096):(jCommit [⟨k,v,false⟩] s).2=0∨jCommit [⟨k,v,false⟩] s=(s,4):=by
 have hval:Valid [⟨k,v,false⟩]:=by
  refine ⟨by simpa using hk,by simpa using hv,by simp,by simp,?_⟩
  simp only [codeSize,chgSize,List.map_cons,List.map_nil,List.sum_cons,List.sum_nil,Bool.false_eq_true,if_false]
  omega
 by_cases hw:pWAfter s.c.ents s.c.wt [⟨k,v,false⟩]≤131072
 ·have hm:May s [⟨k,v,false⟩]:=⟨by simp,by simp,hval,by simp,hw⟩
  have hgen:=h.gen
  exact Or.inl ((commit_may h.live hm (by omega)).2 h.pw).1
 ·right
  unfold jCommit
  rw [if_neg (by rw [h.live.up]; simp),if_neg (by simp),if_neg (by rw [(valid_zero _).2 hval]; simp),if_neg (by simp),if_pos (Or.inl (by omega))]
/-- a submission at full power -/
inductive SubOut (id:Int) (st:List UInt8) (now:Int) (tx:List UInt8) (s:JS) (g:Nat) (r:JS × Nat × Int):Prop where
 | no (e:subPre id st now tx s ≠ 0) (h:r=(s,0,subPre id st now tx s))
 | full (e:subPre id st now tx s=0) (h:r=(s,0,4))
 | yes (e:subPre id st now tx s=0) (n:r.2.1=(s.attsP id st).length+1) (c:r.2.2=0) (ents:r.1.c.ents=pPut s.c.ents (akey id.toNat st ((s.attsP id st).length+1),numB now.toNat 4 ++ tx)) (f:SFull r.1 (g+2))
theorem SubFit.bounds {id:Int} {st:List UInt8} {now:Int} {tx:List UInt8} {s:JS} {t:TaskP} (h:SubFit id st now tx s t) (hs:SchoolOk s.c.ents):1≤id∧id≤9999∧(s.attsP id st).length+1≤99:=by
 obtain ⟨i0,i1,hf,_⟩:=JS.taskP_some hs h.task
 have:=hf.t1; have:=h.tries
 exact ⟨i0,i1,by omega⟩
theorem submit_out {s:JS} {g:Nat} (h:SFull s g) (hg:g+2 < 4611686018427387904) (id:Int) (st:List UInt8) (now:Int) (tx:List UInt8):SubOut id st now tx s g (submitP id st now tx s):=by
 have hone:=(h.submit hg id st now tx).1
 rw [submit_pre h.live.up] at hone ⊢
 by_cases hp:subPre id st now tx s ≠ 0
 ·rw [if_pos hp]; exact .no hp rfl
 rw [if_neg hp] at hone ⊢
 have hp:subPre id st now tx s=0:=by omega
 obtain ⟨t,ht⟩:=subPre_fit.1 hp
 have hn:=isNameP_len ht.name
 have htx:=ht.tx
 rcases put_code h hg (k:=akey id.toNat st ((s.attsP id st).length+1)) (v:=numB now.toNat 4 ++ tx) (by simp only [akey,List.length_cons,List.length_append,digP_len]; omega) (by rw [List.length_append,numB_length]; omega) with e | e
 ·rw [if_pos e] at hone ⊢
  refine .yes hp rfl rfl (by rw [one_ents h hg e]; rfl) ?_
  exact hone.full h
 ·rw [e]
  exact .full hp (by simp)
theorem sfind_before {P:PEnts} {k:List UInt8} (h:∀ e ∈ P,bytesBefore k e.1=true):pFind P k=none:=by
 rw [pFind_none]
 intro hm
 obtain ⟨e,he,rfl⟩:=List.mem_map.1 hm
 have:=h e he
 rw [blt_irrefl] at this; cases this
/-- entries in order are what they answer -/
theorem sord_ext:∀ {P Q:PEnts},Ordered P→Ordered Q→(∀ k,pFind P k=pFind Q k)→P=Q
 | [],[],_,_,_=>rfl
 | [],y :: t,_,_,h=>by
   have:=h y.1
   rw [pFind_cons] at this
   simp only [beq_self_eq_true,if_true] at this
   cases this
 | x :: r,[],_,_,h=>by
   have:=h x.1
   rw [pFind_cons] at this
   simp only [beq_self_eq_true,if_true] at this
   cases this
 | x :: r,y :: t,hP,hQ,h=>by
   obtain ⟨hx,hr⟩:=List.pairwise_cons.1 hP
   obtain ⟨hy,ht⟩:=List.pairwise_cons.1 hQ
   have e:x.1=y.1:=by
    apply Classical.byContradiction
    intro hne
    rcases blt_total _ _ hne with hl | hl
    ·have h1:=h x.1
     rw [sfind_before (P:=y :: t) (k:=x.1) (fun e he=>by
      rcases List.mem_cons.1 he with rfl | he
      ·exact hl
      ·exact blt_trans _ _ _ hl (hy e he)),pFind_cons] at h1
     simp only [beq_self_eq_true,if_true] at h1
     cases h1
    ·have h1:=h y.1
     rw [sfind_before (P:=x :: r) (k:=y.1) (fun e he=>by
      rcases List.mem_cons.1 he with rfl | he
      ·exact hl
      ·exact blt_trans _ _ _ hl (hx e he)),pFind_cons] at h1
     simp only [beq_self_eq_true,if_true] at h1
     cases h1
   have e2:x.2=y.2:=by
    have h1:=h x.1
    rw [pFind_cons,pFind_cons,e] at h1
    simp only [beq_self_eq_true,if_true,Option.some.injEq] at h1
    exact h1
   have e3:r=t:=by
    refine sord_ext hr ht (fun k=>?_)
    by_cases hk:k=x.1
    ·rw [hk,sfind_before hx,e,sfind_before hy]
    ·have h1:=h k
     rw [pFind_cons,pFind_cons,← e,beq_eq_false_iff_ne.2 (fun e=>hk e.symm)] at h1
     simpa using h1
   rw [Prod.ext e e2,e3]
theorem put_comm {P:PEnts} (ho:Ordered P) {x y:List UInt8 × List UInt8} (hne:x.1 ≠ y.1):pPut (pPut P x) y=pPut (pPut P y) x:=by
 refine sord_ext (pPut_ord (pPut_ord ho _) _) (pPut_ord (pPut_ord ho _) _) fun k=>?_
 simp only [pPut_find]
 by_cases h1:x.1=k
 ·have h2:¬ y.1=k:=fun e=>hne (h1.trans e.symm)
  simp [h1,h2]
 ·simp [h1]
theorem SubOut.code {id:Int} {st:List UInt8} {now:Int} {tx:List UInt8} {s:JS} {g:Nat} {r:JS × Nat × Int} (h:SubOut id st now tx s g r) (h4:r.2.2 ≠ 4):SFull s g→SFull r.1 (g+2):=by
 intro hs
 cases h with
 | no e h=>rw [h]; exact hs.le (by omega)
 | full e h=>exact absurd (by rw [h]) h4
 | yes e n c ents f=>exact f
/-- two submissions of different students, in either order -/
theorem apart {s t:JS} {g:Nat} (h:SFull s g) (h':SFull t g) (hg:g+4 < 4611686018427387904) (he:t.c.ents=s.c.ents) {i1 i2 n1 n2:Int} {s1 s2 t1 t2:List UInt8} (hne:s1 ≠ s2)
 (f1:(submitP i1 s1 n1 t1 s).2.2 ≠ 4) (f2:(submitP i2 s2 n2 t2 (submitP i1 s1 n1 t1 s).1).2.2 ≠ 4) (f3:(submitP i2 s2 n2 t2 t).2.2 ≠ 4) (f4:(submitP i1 s1 n1 t1 (submitP i2 s2 n2 t2 t).1).2.2 ≠ 4) :
 (submitP i1 s1 n1 t1 s).2=(submitP i1 s1 n1 t1 (submitP i2 s2 n2 t2 t).1).2∧(submitP i2 s2 n2 t2 (submitP i1 s1 n1 t1 s).1).2=(submitP i2 s2 n2 t2 t).2 ∧
 (submitP i2 s2 n2 t2 (submitP i1 s1 n1 t1 s).1).1.c.ents=(submitP i1 s1 n1 t1 (submitP i2 s2 n2 t2 t).1).1.c.ents:=by
 have o1:=submit_out h (by omega) i1 s1 n1 t1
 have o3:=submit_out h' (by omega) i2 s2 n2 t2
 have F1:=o1.code f1 h
 have F3:=o3.code f3 h'
 have o2:=submit_out F1 (by omega) i2 s2 n2 t2
 have o4:=submit_out F3 (by omega) i1 s1 n1 t1
 have p1:=pre_ents h.live.up h'.live.up he i1 s1 n1 t1
 have p2:=pre_ents h.live.up h'.live.up he i2 s2 n2 t2
 generalize submitP i1 s1 n1 t1 s=r1 at *
 generalize submitP i2 s2 n2 t2 t=r3 at *
 generalize submitP i2 s2 n2 t2 r1.1=r2 at *
 generalize submitP i1 s1 n1 t1 r3.1=r4 at *
 cases o1 with
 | full e h=>exact absurd (by rw [h]) f1
 | no e h1=>
   cases o3 with
   | full e h=>exact absurd (by rw [h]) f3
   | no e' h3=>
     subst h1 h3
     have q1:=p1.1
     have q2:=p2.1
     cases o2 with
     | full e h=>exact absurd (by rw [h]) f2
     | yes e2=>exact absurd (q2.trans e2) e'
     | no e2 h2=>
     cases o4 with
     | full e h=>exact absurd (by rw [h]) f4
     | yes e4=>exact absurd (q1.symm.trans e4) e
     | no e4 h4=>
     subst h2 h4
     exact ⟨by simp only [q1],by simp only [q2],he.symm⟩
   | yes e' n' c' x' F=>
     subst h1
     obtain ⟨tk,ht⟩:=subPre_fit.1 e'
     obtain ⟨b0,b1,b2⟩:=ht.bounds h'.ok
     have B:Beside t r3.1 s1 s2 _ _ _:=⟨h'.live.up,F3.live.up,h'.ok,ht.name,Ne.symm hne,(by omega:i2.toNat≤9999),b2,x'⟩
     have q1:=(B.pre i1 n1 t1).trans p1.1
     cases o2 with
     | full e h=>exact absurd (by rw [h]) f2
     | no e2=>exact absurd (p2.1.symm.trans e') e2
     | yes e2 n2 c2 x2 _=>
     cases o4 with
     | full e h=>exact absurd (by rw [h]) f4
     | yes e4=>exact absurd (q1.symm.trans e4) e
     | no e4 h4=>
     subst h4
     refine ⟨by simp only [q1],Prod.ext (by rw [n2,n',p2.2]) (by rw [c2,c']),?_⟩
     rw [x2,x',he,p2.2]
 | yes e n c x F=>
   obtain ⟨tk,ht⟩:=subPre_fit.1 e
   obtain ⟨b0,b1,b2⟩:=ht.bounds h.ok
   have B1:Beside s r1.1 s2 s1 _ _ _:=⟨h.live.up,F1.live.up,h.ok,ht.name,hne,(by omega:i1.toNat≤9999),b2,x⟩
   have q2:=(B1.pre i2 n2 t2)
   have a2:=B1.atts i2
   cases o3 with
   | full e h=>exact absurd (by rw [h]) f3
   | no e' h3=>
     subst h3
     cases o2 with
     | full e h=>exact absurd (by rw [h]) f2
     | yes e2=>exact absurd (p2.1.trans (q2.symm.trans e2)) e'
     | no e2 h2=>
     cases o4 with
     | full e h=>exact absurd (by rw [h]) f4
     | no e4=>exact absurd (p1.1.trans e) e4
     | yes e4 n4 c4 x4 _=>
     subst h2
     refine ⟨Prod.ext (by rw [n,n4,p1.2]) (by rw [c,c4]),by simp only [q2,p2.1],?_⟩
     rw [x4,x,he,p1.2]
   | yes e' n' c' x' F'=>
     obtain ⟨tk',ht'⟩:=subPre_fit.1 e'
     obtain ⟨d0,d1,d2⟩:=ht'.bounds h'.ok
     have B:Beside t r3.1 s1 s2 _ _ _:=⟨h'.live.up,F3.live.up,h'.ok,ht'.name,Ne.symm hne,(by omega:i2.toNat≤9999),d2,x'⟩
     have q1:=(B.pre i1 n1 t1).trans p1.1
     have a1:=(B.atts i1).trans p1.2
     cases o2 with
     | full e h=>exact absurd (by rw [h]) f2
     | no e2=>exact absurd (q2.trans (p2.1.symm.trans e')) e2
     | yes e2 n2 c2 x2 _=>
     cases o4 with
     | full e h=>exact absurd (by rw [h]) f4
     | no e4=>exact absurd (q1.trans e) e4
     | yes e4 n4 c4 x4 _=>
     refine ⟨Prod.ext (by rw [n,n4,a1]) (by rw [c,c4]),Prod.ext (by rw [n2,n',a2,p2.2]) (by rw [c2,c']),?_⟩
     rw [x2,x4,x,x',he,a1,a2,p2.2]
     refine put_comm h.live.ord fun e=>?_
     exact hne (akey_inj ht.name ht'.name (by omega) (by omega) b2 (by rw [← p2.2]; exact d2) e).2.1
end
section
open Go.RowKit SeedP Go.Maps
theorem put_other {P:PEnts} {x:List UInt8 × List UInt8} {k:List UInt8} (h:x.1 ≠ k):pFind (pPut P x) k=pFind P k:=by
 rw [pPut_find,if_neg (by simpa using h)]
theorem put_akey {P:PEnts} {i m:Nat} {st v k:List UInt8} (h:k.head? ≠ some 97):pFind (pPut P (akey i st m,v)) k=pFind P k:=put_other (akey_head h)
theorem attsFrom_put {P:PEnts} {id:Nat} {st v:List UInt8} (hn:isNameP st=true) (hi:id≤9999):∀ k n,n+k≤100→(attsFrom P id st n k).length < k→((attsFrom P id st n k).length+1 < k→pFind P (akey id st (n+(attsFrom P id st n k).length+1))=none) →
 attsFrom (pPut P (akey id st (n+(attsFrom P id st n k).length),v)) id st n k=attsFrom P id st n k ++ [(numV (v.take 4),v.drop 4)]
 | 0,n,_,h,_=>absurd h (by simp)
 | k+1,n,hk,h,hx=>by
   cases hf:pFind P (akey id st n) with
   | none=>
     have e:attsFrom P id st n (k+1)=[]:=by rw [attsFrom,hf]
     rw [e] at hx ⊢
     rw [attsFrom,show n+([]:List (Nat × List UInt8)).length=n by simp,put_same]
     simp only [List.nil_append]
     cases k with
     | zero=>rw [attsFrom]
     | succ k=>
       have h2:=hx (by simp)
       have h3:pFind (pPut P (akey id st n,v)) (akey id st (n+1))=none:=by
        rw [pPut_find,if_neg]
        ·simpa using h2
        ·simp only [beq_iff_eq]; intro e; have:=(akey_inj hn hn hi hi (by omega) (by omega) e).2.2; omega
       rw [attsFrom,h3]
   | some v0=>
     have e:attsFrom P id st n (k+1)=(numV (v0.take 4),v0.drop 4) :: attsFrom P id st (n+1) k:=by rw [attsFrom,hf]
     rw [e,List.length_cons] at h hx
     have ih:=attsFrom_put (P:=P) (v:=v) hn hi k (n+1) (by omega) (by omega) (fun h1=>by rw [show n+1+(attsFrom P id st (n+1) k).length+1=n+((attsFrom P id st (n+1) k).length+1)+1 by omega]; exact hx (by omega))
     rw [e,List.length_cons,List.cons_append,attsFrom,← show n+1+(attsFrom P id st (n+1) k).length=n+((attsFrom P id st (n+1) k).length+1) by omega,ih]
     have h3:pFind (pPut P (akey id st (n+1+(attsFrom P id st (n+1) k).length),v)) (akey id st n)=some v0:=by
      rw [pPut_find,if_neg,hf]
      simp only [beq_iff_eq]; intro e; have:=(akey_inj hn hn hi hi (by omega) (by omega) e).2.2; omega
     rw [h3]
theorem SchoolOk.att_next {P:PEnts} (h:SchoolOk P) {id n:Nat} {st:List UInt8} (hs:isNameP st=true) (hi:id≤9999) (hn:n+1≤99) (h1:1≤n) (hv:pFind P (akey id st n)=none):pFind P (akey id st (n+1))=none:=by
 cases hf:pFind P (akey id st (n+1)) with
 | none=>rfl
 | some v=>
   obtain ⟨e,hw,hk,hv2,hl⟩:=h _ _ hf
   cases e with
   | cls c=>exact absurd (congrArg List.head? hk) (by simp [akey,SE.key,ckey])
   | mem c s=>exact absurd (congrArg List.head? hk) (by simp [akey,SE.key,mkey])
   | tsk i t=>exact absurd (congrArg List.head? hk) (by simp [akey,SE.key,tkey])
   | ext i s m=>exact absurd (congrArg List.head? hk) (by simp [akey,SE.key,xkey])
   | att i s m tm tx=>
     obtain ⟨w1,w2,w3,w4,w5,_⟩:=hw
     obtain ⟨rfl,rfl,rfl⟩:=akey_inj hs w3 hi w2 hn w5 hk
     rcases hl.2 with h2 | ⟨tm',tx',_,h3⟩
     ·omega
     ·rw [Nat.add_sub_cancel,hv] at h3; cases h3
/-- the attempts behind a submission -/
theorem atts_after {s s':JS} {id:Int} {st tx:List UInt8} {now:Int} {t:TaskP} (hf:SubFit id st now tx s t) (hs:SchoolOk s.c.ents) (hd:s.down=false) (hd':s'.down=false) (he:s'.c.ents=pPut s.c.ents (akey id.toNat st ((s.attsP id st).length+1),numB now.toNat 4 ++ tx)) :
 s'.attsP id st=s.attsP id st ++ [(now.toNat,tx)]∧s'.taskP id=s.taskP id∧s'.extP id st=s.extP id st:=by
 obtain ⟨i0,i1,ht,_⟩:=JS.taskP_some hs hf.task
 have h0:=ht.t0; have h1:=ht.t1; have h2:=hf.tries
 have hn:=hf.name
 have e1:s'.taskP id=s.taskP id:=by
  unfold JS.taskP
  rw [hd,hd',he,put_akey (by simp [tkey])]
 have e2:s'.extP id st=s.extP id st:=by
  unfold JS.extP
  rw [hd,hd',he,put_akey (by simp [xkey])]
 refine ⟨?_,e1,e2⟩
 have ha:s.attsP id st=attsFrom s.c.ents id.toNat st 1 t.tries.toNat:=by unfold JS.attsP; rw [hf.task]; simp only [hn,Bool.true_eq_false,if_false]
 have ha':s'.attsP id st=attsFrom s'.c.ents id.toNat st 1 t.tries.toNat:=by unfold JS.attsP; rw [e1,hf.task]; simp only [hn,Bool.true_eq_false,if_false]
 rw [ha',he,ha]
 rw [ha] at h2
 have hstop:=attsFrom_stop s.c.ents id.toNat st t.tries.toNat 1 (by omega)
 rw [Nat.add_comm _ 1,attsFrom_put hn (by omega) _ _ (by omega) (by omega) (fun hlt=>hs.att_next hn (by omega) (by omega) (by omega) hstop)]
 have:=hf.n0; have:=hf.n1
 rw [(take_num now.toNat (by omega) tx).1,(take_num now.toNat (by omega) tx).2]
end
section
open Go.RowKit SeedP Go.Maps
/-- what s answers under a key is answered by s' too -/
def StaysAt (s s':JS) (k:List UInt8):Prop:=∀ v,pFind s.c.ents k=some v→pFind s'.c.ents k=some v
theorem StaysAt.refl (s:JS) (k:List UInt8):StaysAt s s k:=fun _ h=>h
theorem StaysAt.put {s s':JS} {q v:List UInt8} (he:s'.c.ents=pPut s.c.ents (q,v)) {k:List UInt8} (h:pFind s.c.ents q=none∨q ≠ k):StaysAt s s' k:=by
 intro w hw
 rw [he]
 by_cases e:q=k
 ·rcases h with h | h
  ·rw [← e,h] at hw; cases hw
  ·exact absurd e h
 ·rw [put_other e]; exact hw
theorem StaysAt.del {s s':JS} {q:List UInt8} (he:s'.c.ents=pDel s.c.ents q) {k:List UInt8} (h:q ≠ k):StaysAt s s' k:=by
 intro w hw
 rw [he,pDel_find _ _ _ (Ne.symm h)]; exact hw
/-- a commit of one change: what it leaves -/
theorem commit_put_stays {s:JS} {g:Nat} (h:SFull s g) (hg:g+2 < 4611686018427387904) {q v k:List UInt8} (hq:pFind s.c.ents q=none∨q ≠ k):StaysAt s (jCommit [⟨q,v,false⟩] s).1 k:=by
 rcases full_commit h hg ⟨q,v,false⟩ with ⟨_,h2⟩ | ⟨_,_,_,_,h5⟩
 ·rw [h2]; exact StaysAt.refl _ _
 ·exact StaysAt.put h5 hq
theorem commit_del_stays {s:JS} {g:Nat} (h:SFull s g) (hg:g+2 < 4611686018427387904) {q v k:List UInt8} (hq:q ≠ k):StaysAt s (jCommit [⟨q,v,true⟩] s).1 k:=by
 rcases full_commit h hg ⟨q,v,true⟩ with ⟨_,h2⟩ | ⟨_,_,_,_,h5⟩
 ·rw [h2]; exact StaysAt.refl _ _
 ·exact StaysAt.del h5 hq
theorem none_of {P:PEnts} {k:List UInt8} (h:¬ (pFind P k).isSome=true):pFind P k=none:=by
 cases hf:pFind P k with
 | none=>rfl
 | some v=>rw [hf] at h; exact absurd rfl h
theorem addClass_stays {s:JS} {g:Nat} (h:SFull s g) (hg:g+2 < 4611686018427387904) (c k:List UInt8):StaysAt s (addClassP c s).1 k:=by
 unfold addClassP
 split
 ·exact StaysAt.refl _ _
 split
 ·exact StaysAt.refl _ _
 split
 ·exact StaysAt.refl _ _
 rename_i h3
 exact commit_put_stays h hg (Or.inl (none_of h3))
theorem enroll_stays {s:JS} {g:Nat} (h:SFull s g) (hg:g+2 < 4611686018427387904) (c st k:List UInt8):StaysAt s (enrollP c st s).1 k:=by
 unfold enrollP
 split
 ·exact StaysAt.refl _ _
 split
 ·exact StaysAt.refl _ _
 split
 ·exact StaysAt.refl _ _
 split
 ·exact StaysAt.refl _ _
 rename_i h3
 exact commit_put_stays h hg (Or.inl (none_of h3))
theorem leave_stays {s:JS} {g:Nat} (h:SFull s g) (hg:g+2 < 4611686018427387904) (c st:List UInt8) {k:List UInt8} (hk:k.head? ≠ some 109):StaysAt s (leaveP c st s).1 k:=by
 unfold leaveP
 split
 ·exact StaysAt.refl _ _
 split
 ·exact StaysAt.refl _ _
 split
 ·exact StaysAt.refl _ _
 exact commit_del_stays h hg (fun e=>hk (by rw [← e]; rfl))
theorem extend_stays {s:JS} {g:Nat} (h:SFull s g) (hg:g+2 < 4611686018427387904) (id:Int) (st:List UInt8) (more:Int) {k:List UInt8} (hk:k.head? ≠ some 120):StaysAt s (extendP id st more s).1 k:=by
 unfold extendP
 split
 ·exact StaysAt.refl _ _
 split
 ·exact StaysAt.refl _ _
 cases s.taskOfP id st with
 | none=>exact StaysAt.refl _ _
 | some t=>
   simp only
   split
   ·exact commit_put_stays h hg (Or.inr (fun e=>hk (by rw [← e]; rfl)))
   split
   ·exact commit_del_stays h hg (fun e=>hk (by rw [← e]; rfl))
   ·exact StaysAt.refl _ _
theorem addTask_stays {s:JS} {g:Nat} (h:SFull s g) (hg:g+2 < 4611686018427387904) (t:TaskP) (k:List UInt8):StaysAt s (addTaskP t s).1 k:=by
 unfold addTaskP
 split
 ·exact StaysAt.refl _ _
 split
 ·exact StaysAt.refl _ _
 split
 ·exact StaysAt.refl _ _
 split
 ·exact StaysAt.refl _ _
 split
 ·exact StaysAt.refl _ _
 rename_i hmax
 have hn:pFind s.c.ents (tkey (tasksN s.c.ents+1))=none:=by
  refine none_of fun hf=>?_
  have:=(h.ok.t_count (ordKeys_nodup h.live.ord) (by omega) (by omega)).1 hf
  omega
 simp only
 split
 ·exact commit_put_stays h hg (Or.inl hn)
 ·exact commit_put_stays h hg (Or.inl hn)
theorem submit_stays {s:JS} {g:Nat} (h:SFull s g) (hg:g+2 < 4611686018427387904) (id:Int) (st:List UInt8) (now:Int) (tx k:List UInt8):StaysAt s (submitP id st now tx s).1 k:=by
 have ho:=submit_out h hg id st now tx
 generalize submitP id st now tx s=r at ho
 cases ho with
 | no e h=>rw [h]; exact StaysAt.refl _ _
 | full e h=>rw [h]; exact StaysAt.refl _ _
 | yes e n c ents f=>
   obtain ⟨t,ht⟩:=subPre_fit.1 e
   obtain ⟨i0,i1,hf,_⟩:=JS.taskP_some h.ok ht.task
   have h0:=hf.t0; have h1:=hf.t1; have h2:=ht.tries
   have ha:s.attsP id st=attsFrom s.c.ents id.toNat st 1 t.tries.toNat:=by unfold JS.attsP; rw [ht.task]; simp only [ht.name,Bool.true_eq_false,if_false]
   refine StaysAt.put ents (Or.inl ?_)
   rw [ha] at h2 ⊢
   rw [Nat.add_comm]
   exact attsFrom_stop s.c.ents id.toNat st t.tries.toNat 1 (by omega)
/-- what an act leaves: all, but a member under Leave and an extension under Extend -/
theorem do_stays {s:JS} {g:Nat} (h:SFull s g) (hg:g+2 < 4611686018427387904) (a:SActP) {k:List UInt8} (h2:a.kind % 10=2→k.head? ≠ some 109) (h4:a.kind % 10=4→k.head? ≠ some 120):StaysAt s (doP a s).1 k:=by
 unfold doP
 split
 ·exact addClass_stays h hg _ _
 split
 ·exact enroll_stays h hg _ _ _
 split
 ·rename_i e; exact leave_stays h hg _ _ (h2 e)
 split
 ·exact addTask_stays h hg _ _
 split
 ·rename_i e; exact extend_stays h hg _ _ _ (h4 e)
 split
 ·exact StaysAt.refl _ _
 ·exact submit_stays h hg _ _ _ _ _
/-! ### what the readers tell of it -/
theorem task_stays {s s':JS} (hd:s.down=false) (hd':s'.down=false) {id:Int} {t:TaskP} (h:∀ k,k.head?=some 116→StaysAt s s' k) (ht:s.taskP id=some t):s'.taskP id=some t:=by
 unfold JS.taskP at ht ⊢
 rw [hd] at ht; rw [hd']
 split at ht
 ·cases ht
 rename_i hi
 rw [if_neg hi]
 cases hf:pFind s.c.ents (tkey id.toNat) with
 | none=>rw [hf] at ht; cases ht
 | some v=>
   rw [hf] at ht
   rw [h (tkey id.toNat) rfl v hf]
   exact ht
theorem attsFrom_stays {P P':PEnts} {id:Nat} {st:List UInt8} (h:∀ n v,pFind P (akey id st n)=some v→pFind P' (akey id st n)=some v):∀ k n,∃ q,attsFrom P' id st n k=attsFrom P id st n k ++ q
 | 0,n=>⟨[],rfl⟩
 | k+1,n=>by
   cases hf:pFind P (akey id st n) with
   | none=>exact ⟨attsFrom P' id st n (k+1),by rw [attsFrom.eq_2 P,hf]; rfl⟩
   | some v=>
     obtain ⟨q,hq⟩:=attsFrom_stays h k (n+1)
     exact ⟨q,by rw [attsFrom.eq_2 P,attsFrom.eq_2 P',hf,h n v hf]; simp only; rw [hq,List.cons_append]⟩
theorem atts_stay {s s':JS} (hd:s.down=false) (hd':s'.down=false) {id:Int} {st:List UInt8} (h:∀ k,k.head?=some 116∨k.head?=some 97→StaysAt s s' k):∃ q,s'.attsP id st=s.attsP id st ++ q:=by
 cases ht:s.taskP id with
 | none=>exact ⟨s'.attsP id st,by rw [show s.attsP id st=[] by unfold JS.attsP; rw [ht]]; rfl⟩
 | some t=>
   have ht':=task_stays hd hd' (fun k hk=>h k (Or.inl hk)) ht
   unfold JS.attsP
   rw [ht,ht']
   simp only
   by_cases hn:isNameP st=false
   ·rw [if_pos hn,if_pos hn]; exact ⟨[],rfl⟩
   ·rw [if_neg hn,if_neg hn]; exact attsFrom_stays (fun n v hf=>h _ (Or.inr rfl) v hf) _ _
end
section
open Go.RowKit SeedP Go.Maps
inductive Plan where
 | no (e:Int)
 | nil
 | one (c:Chg) (n:Nat)
def runPlan:Plan→JS→JS × Nat × Int
 | .no e,s=>(s,0,e)
 | .nil,s=>(s,0,0)
 | .one c n,s=>if (jCommit [c] s).2=0 then ((jCommit [c] s).1,n,0) else ((jCommit [c] s).1,0,(jCommit [c] s).2)
def planP (a:SActP) (s:JS):Plan:=
 if a.kind % 10=0 then (if isNameP a.cls=false then .no 2 else if (pFind s.c.ents (ckey a.cls)).isSome then .no 371 else .one ⟨ckey a.cls,[],false⟩ 0)
 else if a.kind % 10=1 then (if (isNameP a.cls && isNameP a.stu)=false then .no 2 else if (pFind s.c.ents (ckey a.cls)).isSome=false then .no 6 else if (pFind s.c.ents (mkey a.cls a.stu)).isSome then .no 371 else .one ⟨mkey a.cls a.stu,[],false⟩ 0)
 else if a.kind % 10=2 then (if (isNameP a.cls && isNameP a.stu)=false then .no 2 else if (pFind s.c.ents (mkey a.cls a.stu)).isSome=false then .no 6 else .one ⟨mkey a.cls a.stu,[],true⟩ 0)
 else if a.kind % 10=3 then (if timelyB a.task=false then .no 2 else if 4000 < a.task.body.length then .no 3 else if (pFind s.c.ents (ckey a.task.cls)).isSome=false then .no 6 else if 9999 < tasksN s.c.ents+1 then .no 5 else .one ⟨tkey (tasksN s.c.ents+1),taskVal a.task,false⟩ (tasksN s.c.ents+1))
 else if a.kind % 10=4 then (if isNameP a.stu=false∨a.n < 0∨1048576 < a.n then .no 2 else if (s.taskOfP a.id a.stu).isSome=false then .no 6 else if 0 < a.n then .one ⟨xkey a.id.toNat a.stu,numB a.n.toNat 4,false⟩ 0 else if (pFind s.c.ents (xkey a.id.toNat a.stu)).isSome then .one ⟨xkey a.id.toNat a.stu,[],true⟩ 0 else .nil)
 else if a.kind % 10=9 then .nil
 else if subPre a.id a.stu a.n a.text s ≠ 0 then .no (subPre a.id a.stu a.n a.text s) else .one ⟨akey a.id.toNat a.stu ((s.attsP a.id a.stu).length+1),numB a.n.toNat 4 ++ a.text,false⟩ ((s.attsP a.id a.stu).length+1)
theorem run_one (c:Chg) (n:Nat) (s:JS):runPlan (.one c n) s=if (jCommit [c] s).2=0 then ((jCommit [c] s).1,n,0) else ((jCommit [c] s).1,0,(jCommit [c] s).2):=rfl
theorem one_zero (c:Chg) (s:JS):((jCommit [c] s).1,0,(jCommit [c] s).2)=runPlan (.one c 0) s:=by
 rw [run_one]
 by_cases h:(jCommit [c] s).2=0
 ·rw [if_pos h,h]
 ·rw [if_neg h]
theorem do_plan (a:SActP) {s:JS} (hd:s.down=false):doP a s=runPlan (planP a s) s:=by
 have hdn:¬ s.down=true:=by rw [hd]; simp
 unfold doP planP
 split
 ·unfold addClassP
  rw [if_neg hdn]
  split
  ·rfl
  split
  ·rfl
  ·exact one_zero _ _
 split
 ·unfold enrollP
  rw [if_neg hdn]
  split
  ·rfl
  split
  ·rfl
  split
  ·rfl
  ·exact one_zero _ _
 split
 ·unfold leaveP
  rw [if_neg hdn]
  split
  ·rfl
  split
  ·rfl
  ·exact one_zero _ _
 split
 ·unfold addTaskP
  rw [if_neg hdn]
  split
  ·rfl
  split
  ·rfl
  split
  ·rfl
  split
  ·rfl
  ·rfl
 split
 ·unfold extendP
  rw [if_neg hdn]
  split
  ·rfl
  cases s.taskOfP a.id a.stu with
  | none=>rfl
  | some t=>
    simp only [Option.isSome_some,Bool.true_eq_false,if_false]
    split
    ·exact one_zero _ _
    split
    ·exact one_zero _ _
    ·rfl
 split
 ·rfl
 ·rw [submit_pre hd]
  split
  ·rfl
  ·rfl
theorem plan_ents {s s':JS} (hd:s.down=false) (hd':s'.down=false) (he:s'.c.ents=s.c.ents) (a:SActP):planP a s'=planP a s:=by
 have h1:s'.taskOfP a.id a.stu=s.taskOfP a.id a.stu:=by
  have h1:s'.taskP a.id=s.taskP a.id:=by unfold JS.taskP; rw [hd,hd',he]
  unfold JS.taskOfP; rw [h1,he]
 obtain ⟨h2,h3⟩:=pre_ents hd hd' he a.id a.stu a.n a.text
 unfold planP
 rw [he,h1,h2,h3]
/-! ### the journal at two schools of the same entries -/
end
section
open Go.RowKit SeedP Go.Maps
def DS.full (d:DS):DS:=⟨-1,d.f0,d.f1⟩
def JS.power (s:JS) (p:Int):JS:=⟨⟨p,s.d.f0,s.d.f1⟩,s.down,s.file,s.c⟩
theorem Has.again {d:DS} {P:PEnts} {g:Nat} (h:Has d P g):Has d.full P g:=
 ⟨⟨by show (-1:Int)≤ -1; decide,by show (-1:Int)≤_; decide,h.ok.f0,h.ok.f1⟩,h.ents,h.gen⟩
theorem Has.open_ {d:DS} {P:PEnts} {g:Nat} (h:Has d P g) (hs:SchoolOk P) (hp:d.pw= -1):SFull (jOpen d) g∧(jOpen d).c.ents=P:=
 ⟨⟨open_live h.ok,by show SchoolOk (openP d).2.ents; rw [h.ents]; exact hs,hp,h.gen⟩,h.ents⟩
/-- the empty disk -/
theorem open_empty:SFull (jOpen ⟨-1,[],[]⟩) 0∧(jOpen ⟨-1,[],[]⟩).c.ents=[]:=by
 have hok:DS.Ok ⟨-1,[],[]⟩:=⟨by decide,by decide,by decide,by decide⟩
 have hl:=open_live hok
 have he:openP ⟨-1,[],[]⟩=(false,zeroC):=openP_zero readF_nil readF_nil
 have hc:(jOpen ⟨-1,[],[]⟩).c=zeroC:=by show (openP _).2=_; rw [he]
 refine ⟨⟨hl,by rw [hc]; exact SchoolOk.nil,rfl,by rw [hc]; exact Nat.le_refl _⟩,by rw [hc]; rfl⟩
def doAll:List SActP→JS→JS
 | [],s=>s
 | a :: l,s=>doAll l (doP a s).1
theorem SFull.all {g:Nat}:∀ {l:List SActP} {s:JS} {n:Nat},SFull s n→n+2 * l.length≤g→g < 4611686018427387904→SFull (doAll l s) (n+2 * l.length)
 | [],_,_,h,_,_=>h
 | a :: l,s,n,h,h1,h2=>by
   rw [List.length_cons] at h1 ⊢
   have:=((h.do_ (by omega) a).1).full h
   exact (SFull.all (l:=l) this (by omega) h2).le (by omega)
end
end Go.Proofs.YtbcfpdlhieaepaaGreatDoor
