/- A submission in parts: what forbids it, and that another student's attempt changes nothing of that. No program in sight. -/
import Derived.Test.YtbcfpdlhieaepaaGreatDoorO26
import Derived.Test.YtbcfpdlhieaepaaGreatDoorO24
import Derived.Test.YtbcfpdlhieaepaaGreatDoorO18
import Derived.Test.YtbcfpdlhieaepaaGreatDoorO17
namespace Go.Proofs.YtbcfpdlhieaepaaGreatDoor
section
open Go.RowKit SeedP Go.Maps
/-! ### a submission in parts -/
def subPre (id:Int) (st:List UInt8) (now:Int) (tx:List UInt8) (s:JS):Int:=
 if isNameP st=false∨now < 0∨2147483647 < now then 2 else if 4000 < tx.length then 3 else match s.taskOfP id st with
 | none=>6
 | some t=>if now < t.frm∨(∃ x,(s.attsP id st).getLast?=some x∧now < (x.1:Int)) then 372 else if t.late+s.extP id st < now then 373 else if t.tries≤(s.attsP id st).length then 374 else 0
theorem submit_pre {s:JS} (hd:s.down=false) (id:Int) (st:List UInt8) (now:Int) (tx:List UInt8):submitP id st now tx s=if subPre id st now tx s ≠ 0 then (s,0,subPre id st now tx s) else
 if (jCommit [⟨akey id.toNat st ((s.attsP id st).length+1),numB now.toNat 4 ++ tx,false⟩] s).2=0 then ((jCommit [⟨akey id.toNat st ((s.attsP id st).length+1),numB now.toNat 4 ++ tx,false⟩] s).1,(s.attsP id st).length+1,0) else ((jCommit [⟨akey id.toNat st ((s.attsP id st).length+1),numB now.toNat 4 ++ tx,false⟩] s).1,0,(jCommit [⟨akey id.toNat st ((s.attsP id st).length+1),numB now.toNat 4 ++ tx,false⟩] s).2):=by
 unfold submitP subPre
 rw [if_neg (by rw [hd]; simp)]
 by_cases h1:isNameP st=false∨now < 0∨2147483647 < now
 ·rw [if_pos h1,if_pos h1,if_pos (by simp)]
 rw [if_neg h1,if_neg h1]
 by_cases h2:4000 < tx.length
 ·rw [if_pos h2,if_pos h2,if_pos (by simp)]
 rw [if_neg h2,if_neg h2]
 cases ht:s.taskOfP id st with
 | none=>simp
 | some t=>
   simp only
   by_cases h3:now < t.frm∨(∃ x,(s.attsP id st).getLast?=some x∧now < (x.1:Int))
   ·rw [if_pos h3,if_pos h3,if_pos (by simp)]
   rw [if_neg h3,if_neg h3]
   by_cases h4:t.late+s.extP id st < now
   ·rw [if_pos h4,if_pos h4,if_pos (by simp)]
   rw [if_neg h4,if_neg h4]
   by_cases h5:t.tries≤(s.attsP id st).length
   ·rw [if_pos h5,if_pos h5,if_pos (by simp)]
   rw [if_neg h5,if_neg h5,if_neg (show ¬ (0:Int) ≠ 0 by decide)]
structure SubFit (id:Int) (st:List UInt8) (now:Int) (tx:List UInt8) (s:JS) (t:TaskP):Prop where
 name:isNameP st=true
 n0:0≤now
 n1:now≤2147483647
 tx:tx.length≤4000
 task:s.taskP id=some t
 mem:(pFind s.c.ents (mkey t.cls st)).isSome=true
 from_:t.frm≤now
 last:∀ x,(s.attsP id st).getLast?=some x→(x.1:Int)≤now
 late:now≤t.late+s.extP id st
 tries:((s.attsP id st).length:Int) < t.tries
theorem subPre_fit {id:Int} {st:List UInt8} {now:Int} {tx:List UInt8} {s:JS}:subPre id st now tx s=0 ↔ ∃ t,SubFit id st now tx s t:=by
 unfold subPre
 constructor
 ·intro h
  split at h
  ·simp at h
  rename_i h1
  split at h
  ·simp at h
  rename_i h2
  cases ht:s.taskOfP id st with
  | none=>rw [ht] at h; simp at h
  | some t=>
    rw [ht] at h
    simp only at h
    split at h
    ·simp at h
    rename_i h3
    split at h
    ·simp at h
    rename_i h4
    split at h
    ·simp at h
    rename_i h5
    obtain ⟨k1,k2⟩:=JS.taskOf_some ht
    rw [not_or,not_or] at h1
    rw [not_or] at h3
    exact ⟨t,bt h1.1,by omega,by omega,by omega,k1,k2,by omega,fun x hx=>Int.not_lt.1 (fun hlt=>h3.2 ⟨x,hx,hlt⟩),by omega,by omega⟩
 ·rintro ⟨t,h⟩
  have n0:=h.n0; have n1:=h.n1; have htx:=h.tx; have hf:=h.from_; have hl:=h.late; have hr:=h.tries
  have hto:s.taskOfP id st=some t:=by unfold JS.taskOfP; rw [h.task]; simp only [h.mem,if_true]
  rw [if_neg (by rw [not_or,not_or,h.name]; exact ⟨by simp,by omega,by omega⟩),if_neg (by omega),hto]
  simp only
  rw [if_neg (by rw [not_or]; exact ⟨by omega,fun ⟨x,hx,hlt⟩=>absurd (h.last x hx) (by omega)⟩),if_neg (by omega),if_neg (by omega)]
/-! ### another attempt beside it -/
/-- s' has one attempt of another student more -/
structure Beside (s s':JS) (st st0:List UInt8) (i m:Nat) (v:List UInt8):Prop where
 d:s.down=false
 d':s'.down=false
 ok:SchoolOk s.c.ents
 n0:isNameP st0=true
 ne:st0 ≠ st
 i9:i≤9999
 m9:m≤99
 ents:s'.c.ents=pPut s.c.ents (akey i st0 m,v)
section
variable {s s':JS} {st st0:List UInt8} {i m:Nat} {v:List UInt8}
theorem Beside.same (h:Beside s s' st st0 i m v) {k:List UInt8} (hk:akey i st0 m ≠ k):pFind s'.c.ents k=pFind s.c.ents k:=by
 rw [h.ents,pPut_find,if_neg (by simpa using hk)]
theorem akey_head {i m:Nat} {st k:List UInt8} (h:k.head? ≠ some 97):akey i st m ≠ k:=fun e=>h (by rw [← e]; rfl)
theorem Beside.task (h:Beside s s' st st0 i m v) (id:Int):s'.taskP id=s.taskP id:=by
 unfold JS.taskP
 rw [h.d,h.d',h.same (k:=tkey id.toNat) (akey_head (by simp [tkey]))]
theorem Beside.ext (h:Beside s s' st st0 i m v) (id:Int):s'.extP id st=s.extP id st:=by
 unfold JS.extP
 rw [h.d,h.d',h.same (k:=xkey id.toNat st) (akey_head (by simp [xkey]))]
theorem Beside.taskOf (h:Beside s s' st st0 i m v) (id:Int):s'.taskOfP id st=s.taskOfP id st:=by
 unfold JS.taskOfP
 rw [h.task id]
 cases s.taskP id with
 | none=>rfl
 | some t=>simp only; rw [h.same (k:=mkey t.cls st) (akey_head (by simp [mkey]))]
theorem Beside.atts (h:Beside s s' st st0 i m v) (id:Int):s'.attsP id st=s.attsP id st:=by
 unfold JS.attsP
 rw [h.task id]
 cases ht:s.taskP id with
 | none=>rfl
 | some t=>
   obtain ⟨i0,i1,hf,_⟩:=JS.taskP_some h.ok ht
   have:=hf.t0; have:=hf.t1
   simp only
   by_cases hn:isNameP st=false
   ·rw [if_pos hn,if_pos hn]
   rw [if_neg hn,if_neg hn]
   refine attsFrom_congr _ _ fun j h1 h2=>h.same fun e=>?_
   exact h.ne (akey_inj h.n0 (bt hn) h.i9 (by omega) h.m9 (by omega) e).2.1
theorem Beside.pre (h:Beside s s' st st0 i m v) (id:Int) (now:Int) (tx:List UInt8):subPre id st now tx s'=subPre id st now tx s:=by
 unfold subPre
 rw [h.taskOf id,h.ext id,h.atts id]
end
theorem pre_ents {s s':JS} (hd:s.down=false) (hd':s'.down=false) (he:s'.c.ents=s.c.ents) (id:Int) (st:List UInt8) (now:Int) (tx:List UInt8):subPre id st now tx s'=subPre id st now tx s∧s'.attsP id st=s.attsP id st:=by
 have h1:s'.taskP id=s.taskP id:=by unfold JS.taskP; rw [hd,hd',he]
 have h2:s'.extP id st=s.extP id st:=by unfold JS.extP; rw [hd,hd',he]
 have h3:s'.taskOfP id st=s.taskOfP id st:=by unfold JS.taskOfP; rw [h1,he]
 have h4:s'.attsP id st=s.attsP id st:=by unfold JS.attsP; rw [h1,he]
 exact ⟨by unfold subPre; rw [h2,h3,h4],h4⟩
/-! ### what a submission leaves -/
theorem put_code {s:JS} {g:Nat} (h:SFull s g) (hg:g+2 < 4611686018427387904) {k v:List UInt8} (hk:1≤k.length∧k.length≤40) (hv:v.length≤4096):(jCommit [⟨k,v,false⟩] s).2=0∨jCommit [⟨k,v,false⟩] s=(s,4):=by
 have hval:Valid [⟨k,v,false⟩]:=by
  refine ⟨by simpa using hk,by simpa using hv,by simp,by simp,?_⟩
  simp only [codeSize,chgSize,List.map_cons,List.map_nil,List.sum_cons,List.sum_nil,Bool.false_eq_true,if_false]
  omega
 by_cases hw:pWAfter s.c.ents s.c.wt [⟨k,v,false⟩]≤131072
 ·have hm:May s [⟨k,v,false⟩]:=⟨by simp,by simp,hval,by simp,hw⟩
  have hgen:=h.gen
  exact Or.inl ((commit_may h.live hm (by omega)).2 h.pw).1
 ·right
  unfold jCommit
  rw [if_neg (by rw [h.live.up]; simp),if_neg (by simp),if_neg (by rw [(valid_zero _).2 hval]; simp),if_neg (by simp),if_pos (Or.inl (by omega))]
/-- a submission at full power -/
inductive SubOut (id:Int) (st:List UInt8) (now:Int) (tx:List UInt8) (s:JS) (g:Nat) (r:JS × Nat × Int):Prop where
 | no (e:subPre id st now tx s ≠ 0) (h:r=(s,0,subPre id st now tx s))
 | full (e:subPre id st now tx s=0) (h:r=(s,0,4))
 | yes (e:subPre id st now tx s=0) (n:r.2.1=(s.attsP id st).length+1) (c:r.2.2=0) (ents:r.1.c.ents=pPut s.c.ents (akey id.toNat st ((s.attsP id st).length+1),numB now.toNat 4 ++ tx)) (f:SFull r.1 (g+2))
theorem SubFit.bounds {id:Int} {st:List UInt8} {now:Int} {tx:List UInt8} {s:JS} {t:TaskP} (h:SubFit id st now tx s t) (hs:SchoolOk s.c.ents):1≤id∧id≤9999∧(s.attsP id st).length+1≤99:=by
 obtain ⟨i0,i1,hf,_⟩:=JS.taskP_some hs h.task
 have:=hf.t1; have:=h.tries
 exact ⟨i0,i1,by omega⟩
theorem submit_out {s:JS} {g:Nat} (h:SFull s g) (hg:g+2 < 4611686018427387904) (id:Int) (st:List UInt8) (now:Int) (tx:List UInt8):SubOut id st now tx s g (submitP id st now tx s):=by
 have hone:=(h.submit hg id st now tx).1
 rw [submit_pre h.live.up] at hone ⊢
 by_cases hp:subPre id st now tx s ≠ 0
 ·rw [if_pos hp]; exact .no hp rfl
 rw [if_neg hp] at hone ⊢
 have hp:subPre id st now tx s=0:=by omega
 obtain ⟨t,ht⟩:=subPre_fit.1 hp
 have hn:=isNameP_len ht.name
 have htx:=ht.tx
 rcases put_code h hg (k:=akey id.toNat st ((s.attsP id st).length+1)) (v:=numB now.toNat 4 ++ tx) (by simp only [akey,List.length_cons,List.length_append,digP_len]; omega) (by rw [List.length_append,numB_length]; omega) with e | e
 ·rw [if_pos e] at hone ⊢
  refine .yes hp rfl rfl (by rw [one_ents h hg e]; rfl) ?_
  exact hone.full h
 ·rw [e]
  exact .full hp (by simp)
theorem sfind_before {P:PEnts} {k:List UInt8} (h:∀ e ∈ P,bytesBefore k e.1=true):pFind P k=none:=by
 rw [pFind_none]
 intro hm
 obtain ⟨e,he,rfl⟩:=List.mem_map.1 hm
 have:=h e he
 rw [blt_irrefl] at this; cases this
/-- entries in order are what they answer -/
theorem sord_ext:∀ {P Q:PEnts},Ordered P→Ordered Q→(∀ k,pFind P k=pFind Q k)→P=Q
 | [],[],_,_,_=>rfl
 | [],y :: t,_,_,h=>by
   have:=h y.1
   rw [pFind_cons] at this
   simp only [beq_self_eq_true,if_true] at this
   cases this
 | x :: r,[],_,_,h=>by
   have:=h x.1
   rw [pFind_cons] at this
   simp only [beq_self_eq_true,if_true] at this
   cases this
 | x :: r,y :: t,hP,hQ,h=>by
   obtain ⟨hx,hr⟩:=List.pairwise_cons.1 hP
   obtain ⟨hy,ht⟩:=List.pairwise_cons.1 hQ
   have e:x.1=y.1:=by
    apply Classical.byContradiction
    intro hne
    rcases blt_total _ _ hne with hl | hl
    ·have h1:=h x.1
     rw [sfind_before (P:=y :: t) (k:=x.1) (fun e he=>by
      rcases List.mem_cons.1 he with rfl | he
      ·exact hl
      ·exact blt_trans _ _ _ hl (hy e he)),pFind_cons] at h1
     simp only [beq_self_eq_true,if_true] at h1
     cases h1
    ·have h1:=h y.1
     rw [sfind_before (P:=x :: r) (k:=y.1) (fun e he=>by
      rcases List.mem_cons.1 he with rfl | he
      ·exact hl
      ·exact blt_trans _ _ _ hl (hx e he)),pFind_cons] at h1
     simp only [beq_self_eq_true,if_true] at h1
     cases h1
   have e2:x.2=y.2:=by
    have h1:=h x.1
    rw [pFind_cons,pFind_cons,e] at h1
    simp only [beq_self_eq_true,if_true,Option.some.injEq] at h1
    exact h1
   have e3:r=t:=by
    refine sord_ext hr ht (fun k=>?_)
    by_cases hk:k=x.1
    ·rw [hk,sfind_before hx,e,sfind_before hy]
    ·have h1:=h k
     rw [pFind_cons,pFind_cons,← e,beq_eq_false_iff_ne.2 (fun e=>hk e.symm)] at h1
     simpa using h1
   rw [Prod.ext e e2,e3]
theorem put_comm {P:PEnts} (ho:Ordered P) {x y:List UInt8 × List UInt8} (hne:x.1 ≠ y.1):pPut (pPut P x) y=pPut (pPut P y) x:=by
 refine sord_ext (pPut_ord (pPut_ord ho _) _) (pPut_ord (pPut_ord ho _) _) fun k=>?_
 simp only [pPut_find]
 by_cases h1:x.1=k
 ·have h2:¬ y.1=k:=fun e=>hne (h1.trans e.symm)
  simp [h1,h2]
 ·simp [h1]
theorem SubOut.code {id:Int} {st:List UInt8} {now:Int} {tx:List UInt8} {s:JS} {g:Nat} {r:JS × Nat × Int} (h:SubOut id st now tx s g r) (h4:r.2.2 ≠ 4):SFull s g→SFull r.1 (g+2):=by
 intro hs
 cases h with
 | no e h=>rw [h]; exact hs.le (by omega)
 | full e h=>exact absurd (by rw [h]) h4
 | yes e n c ents f=>exact f
/-- two submissions of different students, in either order -/
theorem apart {s t:JS} {g:Nat} (h:SFull s g) (h':SFull t g) (hg:g+4 < 4611686018427387904) (he:t.c.ents=s.c.ents) {i1 i2 n1 n2:Int} {s1 s2 t1 t2:List UInt8} (hne:s1 ≠ s2)
 (f1:(submitP i1 s1 n1 t1 s).2.2 ≠ 4) (f2:(submitP i2 s2 n2 t2 (submitP i1 s1 n1 t1 s).1).2.2 ≠ 4) (f3:(submitP i2 s2 n2 t2 t).2.2 ≠ 4) (f4:(submitP i1 s1 n1 t1 (submitP i2 s2 n2 t2 t).1).2.2 ≠ 4) :
 (submitP i1 s1 n1 t1 s).2=(submitP i1 s1 n1 t1 (submitP i2 s2 n2 t2 t).1).2∧(submitP i2 s2 n2 t2 (submitP i1 s1 n1 t1 s).1).2=(submitP i2 s2 n2 t2 t).2 ∧
 (submitP i2 s2 n2 t2 (submitP i1 s1 n1 t1 s).1).1.c.ents=(submitP i1 s1 n1 t1 (submitP i2 s2 n2 t2 t).1).1.c.ents:=by
 have o1:=submit_out h (by omega) i1 s1 n1 t1
 have o3:=submit_out h' (by omega) i2 s2 n2 t2
 have F1:=o1.code f1 h
 have F3:=o3.code f3 h'
 have o2:=submit_out F1 (by omega) i2 s2 n2 t2
 have o4:=submit_out F3 (by omega) i1 s1 n1 t1
 have p1:=pre_ents h.live.up h'.live.up he i1 s1 n1 t1
 have p2:=pre_ents h.live.up h'.live.up he i2 s2 n2 t2
 generalize submitP i1 s1 n1 t1 s=r1 at *
 generalize submitP i2 s2 n2 t2 t=r3 at *
 generalize submitP i2 s2 n2 t2 r1.1=r2 at *
 generalize submitP i1 s1 n1 t1 r3.1=r4 at *
 cases o1 with
 | full e h=>exact absurd (by rw [h]) f1
 | no e h1=>
   cases o3 with
   | full e h=>exact absurd (by rw [h]) f3
   | no e' h3=>
     subst h1 h3
     have q1:=p1.1
     have q2:=p2.1
     cases o2 with
     | full e h=>exact absurd (by rw [h]) f2
     | yes e2=>exact absurd (q2.trans e2) e'
     | no e2 h2=>
     cases o4 with
     | full e h=>exact absurd (by rw [h]) f4
     | yes e4=>exact absurd (q1.symm.trans e4) e
     | no e4 h4=>
     subst h2 h4
     exact ⟨by simp only [q1],by simp only [q2],he.symm⟩
   | yes e' n' c' x' F=>
     subst h1
     obtain ⟨tk,ht⟩:=subPre_fit.1 e'
     obtain ⟨b0,b1,b2⟩:=ht.bounds h'.ok
     have B:Beside t r3.1 s1 s2 _ _ _:=⟨h'.live.up,F3.live.up,h'.ok,ht.name,Ne.symm hne,(by omega:i2.toNat≤9999),b2,x'⟩
     have q1:=(B.pre i1 n1 t1).trans p1.1
     cases o2 with
     | full e h=>exact absurd (by rw [h]) f2
     | no e2=>exact absurd (p2.1.symm.trans e') e2
     | yes e2 n2 c2 x2 _=>
     cases o4 with
     | full e h=>exact absurd (by rw [h]) f4
     | yes e4=>exact absurd (q1.symm.trans e4) e
     | no e4 h4=>
     subst h4
     refine ⟨by simp only [q1],Prod.ext (by rw [n2,n',p2.2]) (by rw [c2,c']),?_⟩
     rw [x2,x',he,p2.2]
 | yes e n c x F=>
   obtain ⟨tk,ht⟩:=subPre_fit.1 e
   obtain ⟨b0,b1,b2⟩:=ht.bounds h.ok
   have B1:Beside s r1.1 s2 s1 _ _ _:=⟨h.live.up,F1.live.up,h.ok,ht.name,hne,(by omega:i1.toNat≤9999),b2,x⟩
   have q2:=(B1.pre i2 n2 t2)
   have a2:=B1.atts i2
   cases o3 with
   | full e h=>exact absurd (by rw [h]) f3
   | no e' h3=>
     subst h3
     cases o2 with
     | full e h=>exact absurd (by rw [h]) f2
     | yes e2=>exact absurd (p2.1.trans (q2.symm.trans e2)) e'
     | no e2 h2=>
     cases o4 with
     | full e h=>exact absurd (by rw [h]) f4
     | no e4=>exact absurd (p1.1.trans e) e4
     | yes e4 n4 c4 x4 _=>
     subst h2
     refine ⟨Prod.ext (by rw [n,n4,p1.2]) (by rw [c,c4]),by simp only [q2,p2.1],?_⟩
     rw [x4,x,he,p1.2]
   | yes e' n' c' x' F'=>
     obtain ⟨tk',ht'⟩:=subPre_fit.1 e'
     obtain ⟨d0,d1,d2⟩:=ht'.bounds h'.ok
     have B:Beside t r3.1 s1 s2 _ _ _:=⟨h'.live.up,F3.live.up,h'.ok,ht'.name,Ne.symm hne,(by omega:i2.toNat≤9999),d2,x'⟩
     have q1:=(B.pre i1 n1 t1).trans p1.1
     have a1:=(B.atts i1).trans p1.2
     cases o2 with
     | full e h=>exact absurd (by rw [h]) f2
     | no e2=>exact absurd (q2.trans (p2.1.symm.trans e')) e2
     | yes e2 n2 c2 x2 _=>
     cases o4 with
     | full e h=>exact absurd (by rw [h]) f4
     | no e4=>exact absurd (q1.trans e) e4
     | yes e4 n4 c4 x4 _=>
     refine ⟨Prod.ext (by rw [n,n4,a1]) (by rw [c,c4]),Prod.ext (by rw [n2,n',a2,p2.2]) (by rw [c2,c']),?_⟩
     rw [x2,x4,x,x',he,a1,a2,p2.2]
     refine put_comm h.live.ord fun e=>?_
     exact hne (akey_inj ht.name ht'.name (by omega) (by omega) b2 (by rw [← p2.2]; exact d2) e).2.1
end
section
open Go.RowKit SeedP Go.Maps
theorem put_other {P:PEnts} {x:List UInt8 × List UInt8} {k:List UInt8} (h:x.1 ≠ k):pFind (pPut P x) k=pFind P k:=by
 rw [pPut_find,if_neg (by simpa using h)]
end
section
open Go.RowKit SeedP Go.Maps
/-- what s answers under a key is answered by s' too -/
def StaysAt (s s':JS) (k:List UInt8):Prop:=∀ v,pFind s.c.ents k=some v→pFind s'.c.ents k=some v
theorem StaysAt.refl (s:JS) (k:List UInt8):StaysAt s s k:=fun _ h=>h
theorem StaysAt.put {s s':JS} {q v:List UInt8} (he:s'.c.ents=pPut s.c.ents (q,v)) {k:List UInt8} (h:pFind s.c.ents q=none∨q ≠ k):StaysAt s s' k:=by
 intro w hw
 rw [he]
 by_cases e:q=k
 ·rcases h with h | h
  ·rw [← e,h] at hw; cases hw
  ·exact absurd e h
 ·rw [put_other e]; exact hw
theorem StaysAt.del {s s':JS} {q:List UInt8} (he:s'.c.ents=pDel s.c.ents q) {k:List UInt8} (h:q ≠ k):StaysAt s s' k:=by
 intro w hw
 rw [he,pDel_find _ _ _ (Ne.symm h)]; exact hw
/-! ### what the readers tell of it -/
end
section
open Go.RowKit SeedP Go.Maps
inductive Plan where
 | no (e:Int)
 | nil
 | one (c:Chg) (n:Nat)
def runPlan:Plan→JS→JS × Nat × Int
 | .no e,s=>(s,0,e)
 | .nil,s=>(s,0,0)
 | .one c n,s=>if (jCommit [c] s).2=0 then ((jCommit [c] s).1,n,0) else ((jCommit [c] s).1,0,(jCommit [c] s).2)
def planP (a:SActP) (s:JS):Plan:=
 if a.kind % 10=0 then (if isNameP a.cls=false then .no 2 else if (pFind s.c.ents (ckey a.cls)).isSome then .no 371 else .one ⟨ckey a.cls,[],false⟩ 0)
 else if a.kind % 10=1 then (if (isNameP a.cls && isNameP a.stu)=false then .no 2 else if (pFind s.c.ents (ckey a.cls)).isSome=false then .no 6 else if (pFind s.c.ents (mkey a.cls a.stu)).isSome then .no 371 else .one ⟨mkey a.cls a.stu,[],false⟩ 0)
 else if a.kind % 10=2 then (if (isNameP a.cls && isNameP a.stu)=false then .no 2 else if (pFind s.c.ents (mkey a.cls a.stu)).isSome=false then .no 6 else .one ⟨mkey a.cls a.stu,[],true⟩ 0)
 else if a.kind % 10=3 then (if timelyB a.task=false then .no 2 else if 4000 < a.task.body.length then .no 3 else if (pFind s.c.ents (ckey a.task.cls)).isSome=false then .no 6 else if 9999 < tasksN s.c.ents+1 then .no 5 else .one ⟨tkey (tasksN s.c.ents+1),taskVal a.task,false⟩ (tasksN s.c.ents+1))
 else if a.kind % 10=4 then (if isNameP a.stu=false∨a.n < 0∨1048576 < a.n then .no 2 else if (s.taskOfP a.id a.stu).isSome=false then .no 6 else if 0 < a.n then .one ⟨xkey a.id.toNat a.stu,numB a.n.toNat 4,false⟩ 0 else if (pFind s.c.ents (xkey a.id.toNat a.stu)).isSome then .one ⟨xkey a.id.toNat a.stu,[],true⟩ 0 else .nil)
 else if a.kind % 10=9 then .nil
 else if subPre a.id a.stu a.n a.text s ≠ 0 then .no (subPre a.id a.stu a.n a.text s) else .one ⟨akey a.id.toNat a.stu ((s.attsP a.id a.stu).length+1),numB a.n.toNat 4 ++ a.text,false⟩ ((s.attsP a.id a.stu).length+1)
theorem run_one (c:Chg) (n:Nat) (s:JS):runPlan (.one c n) s=if (jCommit [c] s).2=0 then ((jCommit [c] s).1,n,0) else ((jCommit [c] s).1,0,(jCommit [c] s).2):=rfl
theorem one_zero (c:Chg) (s:JS):((jCommit [c] s).1,0,(jCommit [c] s).2)=runPlan (.one c 0) s:=by
 rw [run_one]
 by_cases h:(jCommit [c] s).2=0
 ·rw [if_pos h,h]
 ·rw [if_neg h]
theorem do_plan (a:SActP) {s:JS} (hd:s.down=false):doP a s=runPlan (planP a s) s:=by
 have hdn:¬ s.down=true:=by rw [hd]; simp
 unfold doP planP
 split
 ·unfold addClassP
  rw [if_neg hdn]
  split
  ·rfl
  split
  ·rfl
  ·exact one_zero _ _
 split
 ·unfold enrollP
  rw [if_neg hdn]
  split
  ·rfl
  split
  ·rfl
  split
  ·rfl
  ·exact one_zero _ _
 split
 ·unfold leaveP
  rw [if_neg hdn]
  split
  ·rfl
  split
  ·rfl
  ·exact one_zero _ _
 split
 ·unfold addTaskP
  rw [if_neg hdn]
  split
  ·rfl
  split
  ·rfl
  split
  ·rfl
  split
  ·rfl
  ·rfl
 split
 ·unfold extendP
  rw [if_neg hdn]
  split
  ·rfl
  cases s.taskOfP a.id a.stu with
  | none=>rfl
  | some t=>
    simp only [Option.isSome_some,Bool.true_eq_false,if_false]
    split
    ·exact one_zero _ _
    split
    ·exact one_zero _ _
    ·rfl
 split
 ·rfl
 ·rw [submit_pre hd]
  split
  ·rfl
  ·rfl
theorem plan_ents {s s':JS} (hd:s.down=false) (hd':s'.down=false) (he:s'.c.ents=s.c.ents) (a:SActP):planP a s'=planP a s:=by
 have h1:s'.taskOfP a.id a.stu=s.taskOfP a.id a.stu:=by
  have h1:s'.taskP a.id=s.taskP a.id:=by unfold JS.taskP; rw [hd,hd',he]
  unfold JS.taskOfP; rw [h1,he]
 obtain ⟨h2,h3⟩:=pre_ents hd hd' he a.id a.stu a.n a.text
 unfold planP
 rw [he,h1,h2,h3]
/-! ### the journal at two schools of the same entries -/
end
section
open Go.RowKit SeedP Go.Maps
def DS.full (d:DS):DS:=⟨-1,d.f0,d.f1⟩
def JS.power (s:JS) (p:Int):JS:=⟨⟨p,s.d.f0,s.d.f1⟩,s.down,s.file,s.c⟩
theorem Has.again {d:DS} {P:PEnts} {g:Nat} (h:Has d P g):Has d.full P g:=
 ⟨⟨by show (-1:Int)≤ -1; decide,by show (-1:Int)≤_; decide,h.ok.f0,h.ok.f1⟩,h.ents,h.gen⟩
theorem Has.open_ {d:DS} {P:PEnts} {g:Nat} (h:Has d P g) (hs:SchoolOk P) (hp:d.pw= -1):SFull (jOpen d) g∧(jOpen d).c.ents=P:=
 ⟨⟨open_live h.ok,by show SchoolOk (openP d).2.ents; rw [h.ents]; exact hs,hp,h.gen⟩,h.ents⟩
/-- the empty disk -/
theorem open_empty:SFull (jOpen ⟨-1,[],[]⟩) 0∧(jOpen ⟨-1,[],[]⟩).c.ents=[]:=by
 have hok:DS.Ok ⟨-1,[],[]⟩:=⟨by decide,by decide,by decide,by decide⟩
 have hl:=open_live hok
 have he:openP ⟨-1,[],[]⟩=(false,zeroC):=openP_zero readF_nil readF_nil
 have hc:(jOpen ⟨-1,[],[]⟩).c=zeroC:=by show (openP _).2=_; rw [he]
 refine ⟨⟨hl,by rw [hc]; exact SchoolOk.nil,rfl,by rw [hc]; exact Nat.le_refl _⟩,by rw [hc]; rfl⟩
def doAll:List SActP→JS→JS
 | [],s=>s
 | a :: l,s=>doAll l (doP a s).1
theorem SFull.all {g:Nat}:∀ {l:List SActP} {s:JS} {n:Nat},SFull s n→n+2 * l.length≤g→g < 4611686018427387904→SFull (doAll l s) (n+2 * l.length)
 | [],_,_,h,_,_=>h
 | a :: l,s,n,h,h1,h2=>by
   rw [List.length_cons] at h1 ⊢
   have:=((h.do_ (by omega) a).1).full h
   exact (SFull.all (l:=l) this (by omega) h2).le (by omega)
end
section
open Go.RowKit SeedP Go.Maps
/-! ### the lists are in order -/
end
section
open Go.RowKit SeedP Go.Maps
/-- block sb is a school over the journal jb -/
structure SW (w:World) (sb jb db mb:Nat) (p:Nat→Prop) (s:JS):Prop where
 jw:JW w jb db mb p s
 sc:Blk w sb 54 [.pointer (some ⟨jb,0,none⟩)]
/-- the blocks that an act of a journal turns -/
abbrev Sj (jb db mb:Nat):Nat→Prop:=fun k=>k=jb∨k=db∨k=mb
theorem SW.out {w:World} {sb jb db mb:Nat} {p:Nat→Prop} {s:JS} (h:SW w sb jb db mb p s):¬ Sj jb db mb sb:=fun e=>by
 have:=h.jw.other h.sc (by decide) (by decide)
 rcases e with e | e | e
 ·exact this.1 e
 ·exact this.2.1 e
 ·exact this.2.2 e
theorem SW.below {w w':World} {sb jb db mb:Nat} {p:Nat→Prop} {s:JS} (h:SW w sb jb db mb p s) (hb:Below w.heap.size w w'):SW w' sb jb db mb p s:=⟨h.jw.below hb,h.sc.below hb⟩
theorem SW.act {w w':World} {sb jb db mb:Nat} {p p':Nat→Prop} {s s':JS} (h:SW w sb jb db mb p s) (h':JW w' jb db mb p' s') (hg:Grown (Sj jb db mb) w w'):SW w' sb jb db mb p' s':=⟨h',h.sc.grown hg h.out⟩
theorem SW.cell {w:World} {sb jb db mb:Nat} {p:Nat→Prop} {s:JS} (h:SW w sb jb db mb p s):w.cell? ⟨sb,0,none⟩=some (.pointer (some ⟨jb,0,none⟩)):=h.sc.cell 0 (by simp)
theorem SW.lt {w:World} {sb jb db mb:Nat} {p:Nat→Prop} {s:JS} (h:SW w sb jb db mb p s):sb < w.heap.size:=h.sc.lt
abbrev sv (sb:Nat):Value:=.pointer (some ⟨sb,0,none⟩)
def refP (s:JS):Int:=if s.down then 360 else 0
set_option maxRecDepth 100000 in
/-- refused -/
theorem sref_c {sb jb db mb:Nat} {p:Nat→Prop} {s:JS} (w:World) (h:SW w sb jb db mb p s) :
 Calls Tryz.prog 44 #[sv sb] w fun e w'=>e=.returned (.int .i64 (refP s))∧Below w.heap.size w w':=by
 have hun:undef=Value.tuple #[]:=rfl
 have k0:=h.cell
 have HC:=Lib.hid (commit_early (.slice none 0 0) [] w h.jw ⟨none,0,rfl,Nat.le_refl _,Nat.zero_le _,Or.inl rfl⟩ (by simp) (fun c hc=>by cases hc) (Or.inr (Or.inl rfl)))
 have HP:Hid ((jCommit [] s).2=if s.down then 360 else 5):=Lib.hid (by
  unfold jCommit
  cases s.down <;> simp)
 unfold refP
 rw [HP.out] at HC
 clear h HP
 generalize s.down=d at *
 cases d with
 | true=>
   simp only [if_true] at HC ⊢
   go_enter Tryz.func44,Tryz.ntmps44
   go_wp2_with fail
   refine HC.out.mono ?_
   rintro e w1 ⟨rfl, -,hb⟩
   go_wp2
   go_ret
   exact ⟨rfl,hb⟩
 | false=>
   simp only [Bool.false_eq_true,if_false] at HC ⊢
   go_enter Tryz.func44,Tryz.ntmps44
   go_wp2_with fail
   refine HC.out.mono ?_
   rintro e w1 ⟨rfl, -,hb⟩
   go_wp2
   go_ret
   exact ⟨rfl,hb⟩
/-- Get, while the power lasts -/
theorem sget_c {jb db mb:Nat} {p:Nat→Prop} {s:JS} (k:List UInt8) (w:World) (h:JW w jb db mb p s) (hd:s.down=false) (hk:k.length≤140737488351232) :
 Calls Tryz.prog 40 #[.pointer (some ⟨jb,0,none⟩),strV k] w fun e w'=>(∃ a c,e=.returned (.tuple #[.slice a ((pFind s.c.ents k).getD []).length c,.bool (pFind s.c.ents k).isSome])∧RdB w' w'.heap.size (.slice a ((pFind s.c.ents k).getD []).length c) ((pFind s.c.ents k).getD []))∧Below w.heap.size w w':=by
 refine (get_c k w h hk).mono ?_
 rintro e w' ⟨⟨v,rfl,hv⟩,hb⟩
 rw [hd] at hv ⊢
 simp only [Bool.false_eq_true,if_false] at hv
 have hr:=RdB.of_own hv
 obtain ⟨a,c,rfl,_,_,_⟩:=hr.open_
 exact ⟨⟨a,c,rfl,hr⟩,hb⟩
set_option maxRecDepth 100000 in
/-- there -/
theorem there_c {sb jb db mb:Nat} {p:Nat→Prop} {s:JS} (k:List UInt8) (w:World) (h:SW w sb jb db mb p s) (hd:s.down=false) (hk:k.length≤140737488351232) :
 Calls Tryz.prog 57 #[sv sb,strV k] w fun e w'=>e=.returned (.bool (pFind s.c.ents k).isSome)∧Below w.heap.size w w':=by
 have k0:=h.cell
 have HG:=Lib.hid (sget_c k w h.jw hd hk)
 clear h hd
 generalize (pFind s.c.ents k).isSome=b at *
 generalize (pFind s.c.ents k).getD []=l at *
 go_enter Tryz.func57,Tryz.ntmps57
 go_wp2_with fail
 refine HG.out.mono ?_
 rintro e w1 ⟨⟨a,c,rfl, -⟩,hb⟩
 go_wp2
 go_ret
 exact ⟨rfl,hb⟩
/-- names in memory, of the call's own -/
def ownS (w:World) (B:Nat) (v:Value) (L:List (List UInt8)):Prop:=w.ownsRow B 9 1 v L.length (L.map strV)
end
section
open Go.RowKit SeedP Go.Maps
/-- the cells of an act -/
def actCells (a:SActP) (vb vt:Value):List Value:=
 [.int .i64 a.kind,strV a.cls,strV a.stu,strV a.task.cls,strV a.task.name,.int .i64 a.task.frm,.int .i64 a.task.due,.int .i64 a.task.late,.int .i64 a.task.tries,vb,.int .i64 a.id,.int .i64 a.n,vt]
def SActIn (w:World) (B g off:Nat) (a:SActP):Prop:=∃ vb vt,(∀ o,o < 13→w.cell? ⟨g,off+o,none⟩=(actCells a vb vt)[o]?)∧RdB w B vb a.task.body∧RdB w B vt a.text
def SActsAt (w:World) (B:Nat) (v:Value) (L:List SActP):Prop:=
 ∃ a cap,v=.slice a L.length cap∧L.length≤cap∧cap≤maxLen∧(L=[]∨∃ g off,a=some ⟨g,off,none⟩∧g < B∧∀ j (h:j < L.length),SActIn w B g (off+j * 13) L[j])
theorem SActIn.below {w w':World} {B g off:Nat} {a:SActP} (h:SActIn w B g off a) (hg:g < B) (hb:Below B w w'):SActIn w' B g off a:=by
 obtain ⟨vb,vt,h0,h1,h2⟩:=h
 exact ⟨vb,vt,fun o ho=>(hb.cell (p:=⟨g,off+o,none⟩) hg).trans (h0 o ho),h1.below hb,h2.below hb⟩
theorem SActsAt.below {w w':World} {B:Nat} {v:Value} {L:List SActP} (h:SActsAt w B v L) (hb:Below B w w'):SActsAt w' B v L:=by
 obtain ⟨a,cap,e,h1,h2,h3⟩:=h
 refine ⟨a,cap,e,h1,h2,?_⟩
 rcases h3 with h3 | ⟨g,off,e2,hg,h4⟩
 ·exact Or.inl h3
 ·exact Or.inr ⟨g,off,e2,hg,fun j hj=>(h4 j hj).below hg hb⟩
theorem SActsAt.raise {w:World} {B B':Nat} {v:Value} {L:List SActP} (h:SActsAt w B v L) (hB:B≤B'):SActsAt w B' v L:=by
 obtain ⟨a,cap,e,h1,h2,h3⟩:=h
 refine ⟨a,cap,e,h1,h2,?_⟩
 rcases h3 with h3 | ⟨g,off,e2,hg,h4⟩
 ·exact Or.inl h3
 ·refine Or.inr ⟨g,off,e2,by omega,fun j hj=>?_⟩
  obtain ⟨vb,vt,k0,k1,k2⟩:=h4 j hj
  exact ⟨vb,vt,k0,k1.mono hB,k2.mono hB⟩
/-- an act's numbers are those of a machine -/
structure SActP.Nums (a:SActP):Prop where
 k0: -9223372036854775808≤a.kind
 k1:a.kind≤9223372036854775807
 i0: -9223372036854775808≤a.id
 i1:a.id≤9223372036854775807
 n0: -9223372036854775808≤a.n
 n1:a.n≤9223372036854775807
 f0: -9223372036854775808≤a.task.frm
 f1:a.task.frm≤9223372036854775807
 d0: -9223372036854775808≤a.task.due
 d1:a.task.due≤9223372036854775807
 l0: -9223372036854775808≤a.task.late
 l1:a.task.late≤9223372036854775807
 t0: -9223372036854775808≤a.task.tries
 t1:a.task.tries≤9223372036854775807
/-- an act that is examined -/
structure SActP.Small (a:SActP):Prop where
 cls:a.cls.length≤40
 stu:a.stu.length≤40
 tcls:a.task.cls.length≤40
 tname:a.task.name.length≤40
 body:a.task.body.length≤4010
 text:a.text.length≤4010
/-- the j-th act's cells -/
theorem SActsAt.at {w:World} {B:Nat} {v:Value} {L:List SActP} (h:SActsAt w B v L) {j:Nat} (hj:j < L.length) :
 ∃ g off cap ab cb ax cx,v=.slice (some ⟨g,off,none⟩) L.length cap∧L.length≤cap∧cap≤maxLen∧g < B ∧
   (w.cell? ⟨g,off+j * 13,none⟩=some (.int .i64 L[j].kind)∧w.cell? ⟨g,off+j * 13+1,none⟩=some (strV L[j].cls)∧w.cell? ⟨g,off+j * 13+2,none⟩=some (strV L[j].stu) ∧
    w.cell? ⟨g,off+j * 13+3,none⟩=some (strV L[j].task.cls)∧w.cell? ⟨g,off+j * 13+4,none⟩=some (strV L[j].task.name)∧w.cell? ⟨g,off+j * 13+5,none⟩=some (.int .i64 L[j].task.frm)∧w.cell? ⟨g,off+j * 13+6,none⟩=some (.int .i64 L[j].task.due)∧w.cell? ⟨g,off+j * 13+7,none⟩=some (.int .i64 L[j].task.late)∧w.cell? ⟨g,off+j * 13+8,none⟩=some (.int .i64 L[j].task.tries) ∧
    w.cell? ⟨g,off+j * 13+9,none⟩=some (.slice ab L[j].task.body.length cb)∧w.cell? ⟨g,off+j * 13+10,none⟩=some (.int .i64 L[j].id)∧w.cell? ⟨g,off+j * 13+11,none⟩=some (.int .i64 L[j].n)∧w.cell? ⟨g,off+j * 13+12,none⟩=some (.slice ax L[j].text.length cx)) ∧
   RdB w B (.slice ab L[j].task.body.length cb) L[j].task.body∧RdB w B (.slice ax L[j].text.length cx) L[j].text:=by
 obtain ⟨a,cap,rfl,h1,h2,h3⟩:=h
 rcases h3 with rfl | ⟨g,off,rfl,hg,h4⟩
 ·simp at hj
 obtain ⟨vb,vt,h0,hb,ht⟩:=h4 j hj
 obtain ⟨ab,cb,rfl, -, -, -⟩:=hb.open_
 obtain ⟨ax,cx,rfl, -, -, -⟩:=ht.open_
 exact ⟨g,off,cap,ab,cb,ax,cx,rfl,h1,h2,hg,⟨h0 0 (by omega),h0 1 (by omega),h0 2 (by omega),h0 3 (by omega),h0 4 (by omega),h0 5 (by omega),h0 6 (by omega),h0 7 (by omega),h0 8 (by omega),h0 9 (by omega),h0 10 (by omega),h0 11 (by omega),h0 12 (by omega)⟩,hb,ht⟩
end
section
open Go.RowKit SeedP Go.Maps
theorem snumV_inj:∀ {a b:List UInt8},a.length=b.length→numV a=numV b→a=b
 | [],[],_,_=>rfl
 | [],_ :: _,h,_=>by cases h
 | _ :: _,[],h,_=>by cases h
 | x :: r,y :: t,h,e=>by
   have hl:r.length=t.length:=by simpa using h
   rw [numV_cons,numV_cons,hl] at e
   have h1:=numV_lt r
   have h2:=numV_lt t
   rw [hl] at h1
   have h3:x.toNat=y.toNat:=by
    rcases Nat.lt_trichotomy x.toNat y.toNat with g | g | g
    ·have:=Nat.mul_le_mul_right (256 ^ t.length) (show x.toNat+1≤y.toNat from g)
     rw [Nat.add_mul] at this; omega
    ·exact g
    ·have:=Nat.mul_le_mul_right (256 ^ t.length) (show y.toNat+1≤x.toNat from g)
     rw [Nat.add_mul] at this; omega
   rw [h3] at e
   rw [UInt8.toNat_inj.1 h3,snumV_inj hl (by omega)]
theorem numB_numV (l:List UInt8):numB (numV l) l.length=l:=by
 refine snumV_inj (numB_length _ _) ?_
 rw [numV_numB]
 exact Nat.mod_eq_of_lt (numV_lt l)
theorem num4 {l:List UInt8} (h:l.length=4):numB (numV l) 4=l:=by
 have:=numB_numV l
 rwa [h] at this
theorem rName_inv {b n r:List UInt8} (h:rName b=some (n,r)):b=UInt8.ofNat n.length :: (n ++ r):=by
 unfold rName at h
 cases b with
 | nil=>cases h
 | cons x q=>
   simp only at h
   split at h
   ·cases h
   ·rename_i hl
    simp only [Option.some.injEq,Prod.mk.injEq] at h
    obtain ⟨rfl,rfl⟩:=h
    rw [List.take_append_drop,List.length_take,Nat.min_eq_left (by omega)]
    simp
theorem readTask_inv {v:List UInt8} {t:TaskP} (h:readTaskP v=some t):t.Fine∧t.body.length≤4000∧v=taskVal t:=by
 unfold readTaskP at h
 split at h
 ·cases h
 rename_i hlen
 cases h1:rName (v.drop 13) with
 | none=>rw [h1] at h; cases h
 | some p=>
   obtain ⟨c,r⟩:=p
   rw [h1] at h
   simp only at h
   cases h2:rName r with
   | none=>rw [h2] at h; cases h
   | some q=>
     obtain ⟨n,body⟩:=q
     rw [h2] at h
     simp only at h
     split at h
     ·rename_i hc
      simp only [Bool.and_eq_true,decide_eq_true_eq] at hc
      cases Option.some.inj h
      refine ⟨(timelyB_iff _).1 hc.1,hc.2,?_⟩
      have e1:=rName_inv h1
      have e2:=rName_inv h2
      have d12:v.drop 12=v.getD 12 0 :: v.drop 13:=by
       rw [List.getD_eq_getElem?_getD,List.getElem?_eq_getElem (by omega),Option.getD_some]
       exact List.drop_eq_getElem_cons (by omega)
      have d8:v.drop 8=(v.drop 8).take 4 ++ v.drop 12:=by
       conv=>lhs; rw [← List.take_append_drop 4 (v.drop 8)]
       rw [List.drop_drop]
      have d4:v.drop 4=(v.drop 4).take 4 ++ v.drop 8:=by
       conv=>lhs; rw [← List.take_append_drop 4 (v.drop 4)]
       rw [List.drop_drop]
      have d0:v=v.take 4 ++ v.drop 4:=(List.take_append_drop 4 v).symm
      have n0:=num4 (l:=v.take 4) (by rw [List.length_take]; omega)
      have n4:=num4 (l:=(v.drop 4).take 4) (by rw [List.length_take,List.length_drop]; omega)
      have n8:=num4 (l:=(v.drop 8).take 4) (by rw [List.length_take,List.length_drop]; omega)
      have hb:UInt8.ofNat (v.getD 12 0).toNat=v.getD 12 0:=by simp
      unfold taskVal
      simp only [Int.toNat_natCast,n0,n4,n8,hb]
      conv=>lhs; rw [d0,d4,d8,d12,e1,e2]
      simp [List.append_assoc]
     ·cases h
end
end Go.Proofs.YtbcfpdlhieaepaaGreatDoor
