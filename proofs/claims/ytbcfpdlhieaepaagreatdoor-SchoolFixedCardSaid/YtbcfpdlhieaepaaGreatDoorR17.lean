/- The school's methods keep a school. No program in sight. -/
import Derived.Test.YtbcfpdlhieaepaaGreatDoorR16
namespace Go.Proofs.YtbcfpdlhieaepaaGreatDoor
section
open Go.RowKit SeedP Go.Maps
theorem bt {b:Bool} (h:¬ b=false):b=true:=by
 cases b
 ·exact absurd rfl h
 ·rfl
theorem ordKeys_nodup {P:PEnts} (h:Ordered P):(keysOf P).Nodup:=by
 unfold keysOf
 rw [List.nodup_iff_pairwise_ne,List.pairwise_map]
 refine h.imp ?_
 intro a b hab e
 rw [e,blt_irrefl] at hab; cases hab
/-! ### the numbers of the tasks -/
theorem find_keys {P:PEnts} {k:List UInt8}:(pFind P k).isSome=true ↔ k ∈ keysOf P:=by
 have h:=pFind_none P k
 cases hf:pFind P k with
 | none=>simp only [Option.isSome_none,Bool.false_eq_true,false_iff]; exact h.1 hf
 | some v=>
   simp only [Option.isSome_some,true_iff]
   exact Decidable.byContradiction fun hn=>by rw [h.2 hn] at hf; cases hf
theorem isPref_t (k:List UInt8):isPref [116] k=true ↔ k.head?=some 116:=by
 cases k with
 | nil=>simp [isPref]
 | cons x r=>simp [isPref]
theorem SchoolOk.t_key {P:PEnts} (h:SchoolOk P) {k:List UInt8} (hk:k ∈ keysOf P) (ht:k.head?=some 116):∃ id,1≤id∧id≤9999∧k=tkey id:=by
 obtain ⟨v,hv⟩:=Option.isSome_iff_exists.1 (find_keys.2 hk)
 obtain ⟨e,hw,he,_,_⟩:=h k v hv
 subst he
 cases e with
 | cls c=>simp [SE.key,ckey] at ht
 | mem c s=>simp [SE.key,mkey] at ht
 | tsk id t=>exact ⟨id,hw.1,hw.2.1,rfl⟩
 | ext id s m=>simp [SE.key,xkey] at ht
 | att id s n tm tx=>simp [SE.key,akey] at ht
theorem SchoolOk.t_down {P:PEnts} (h:SchoolOk P) {id:Nat} (h1:2≤id) (h2:id≤9999) (hf:(pFind P (tkey id)).isSome=true):(pFind P (tkey (id - 1))).isSome=true:=by
 obtain ⟨v,hv⟩:=Option.isSome_iff_exists.1 hf
 obtain ⟨e,hw,he,_,hl⟩:=h _ v hv
 cases e with
 | cls c=>simp [SE.key,ckey,tkey] at he
 | mem c s=>simp [SE.key,mkey,tkey] at he
 | tsk id2 t=>
   have e2:id=id2:=tkey_inj h2 hw.2.1 he
   subst e2
   rcases hl.2 with h3 | h3
   ·omega
   ·exact h3
 | ext id s m=>simp [SE.key,xkey,tkey] at he
 | att id s n tm tx=>simp [SE.key,akey,tkey] at he
theorem SchoolOk.t_all {P:PEnts} (h:SchoolOk P) {id:Nat} (h2:id≤9999) (hf:(pFind P (tkey id)).isSome=true):∀ d j,1≤j→j+d=id→(pFind P (tkey j)).isSome=true
 | 0,j,_,e=>by rw [show j=id by omega]; exact hf
 | d+1,j,hj,e=>by
   have h3:=h.t_all h2 hf d (j+1) (by omega) (by omega)
   have:=h.t_down (id:=j+1) (by omega) (by omega) h3
   rwa [Nat.add_sub_cancel] at this
/-- the tasks have the numbers 1 .. tasksN -/
theorem SchoolOk.t_count {P:PEnts} (h:SchoolOk P) (hn:(keysOf P).Nodup) {id:Nat} (h1:1≤id) (h2:id≤9999):(pFind P (tkey id)).isSome=true ↔ id≤tasksN P:=by
 have hnd:((keysOf P).filter (isPref [116])).Nodup:=hn.filter _
 have hmap:∀ m,m≤9999→((List.range m).map (fun i=>tkey (i+1))).Nodup:=fun m hm=>by
  rw [List.nodup_iff_pairwise_ne,List.pairwise_map]
  refine List.Pairwise.imp_of_mem ?_ (List.nodup_iff_pairwise_ne.1 List.nodup_range)
  intro i j hi hj hij e
  rw [List.mem_range] at hi hj
  exact hij (Nat.succ.inj (tkey_inj (by omega) (by omega) e))
 constructor
 ·intro hf
  have hle:=List.Nodup.length_le_of_subset (hmap id h2) (l₂:=(keysOf P).filter (isPref [116])) (fun k hk=>by
   obtain ⟨i,hi,rfl⟩:=List.mem_map.1 hk
   rw [List.mem_range] at hi
   rw [List.mem_filter]
   exact ⟨find_keys.1 (h.t_all h2 hf (id - (i+1)) (i+1) (by omega) (by omega)),by rw [isPref_t]; rfl⟩)
  rw [List.length_map,List.length_range] at hle
  exact hle
 ·intro hle
  refine Decidable.byContradiction fun hno=>?_
  have hle2:=List.Nodup.length_le_of_subset hnd (l₂:=(List.range (id - 1)).map (fun i=>tkey (i+1))) (fun k hk=>by
   rw [List.mem_filter,isPref_t] at hk
   obtain ⟨j,hj1,hj2,rfl⟩:=h.t_key hk.1 hk.2
   refine List.mem_map.2 ⟨j - 1,?_,by rw [Nat.sub_add_cancel hj1]⟩
   rw [List.mem_range]
   refine Decidable.byContradiction fun hge=>hno ?_
   exact h.t_all hj2 (find_keys.2 hk.1) (j - id) id h1 (by omega))
  rw [List.length_map,List.length_range] at hle2
  unfold tasksN at hle
  omega
/-! ### attempts -/
theorem attsFrom_stop (P:PEnts) (id:Nat) (st:List UInt8):∀ k n,(attsFrom P id st n k).length < k→pFind P (akey id st (n+(attsFrom P id st n k).length))=none
 | 0,n,h=>by simp at h
 | k+1,n,h=>by
   rw [attsFrom] at h ⊢
   cases hf:pFind P (akey id st n) with
   | none=>rw [hf] at h; simpa using hf
   | some v=>
     rw [hf] at h
     simp only [List.length_cons] at h ⊢
     have:=attsFrom_stop P id st k (n+1) (by omega)
     rw [show n+((attsFrom P id st (n+1) k).length+1)=n+1+(attsFrom P id st (n+1) k).length by omega]
     exact this
theorem attsFrom_at (P:PEnts) (id:Nat) (st:List UInt8):∀ k n j x,(attsFrom P id st n k)[j]?=some x→∃ v,pFind P (akey id st (n+j))=some v∧x=(numV (v.take 4),v.drop 4)
 | 0,n,j,x,h=>by simp [attsFrom] at h
 | k+1,n,j,x,h=>by
   rw [attsFrom] at h
   cases hf:pFind P (akey id st n) with
   | none=>rw [hf] at h; simp at h
   | some v=>
     rw [hf] at h
     cases j with
     | zero=>exact ⟨v,hf,by simpa using h.symm⟩
     | succ j=>
       simp only [List.getElem?_cons_succ] at h
       obtain ⟨v2,h2,h3⟩:=attsFrom_at P id st k (n+1) j x h
       exact ⟨v2,by rw [show n+(j+1)=n+1+j by omega]; exact h2,h3⟩
theorem attsFrom_le (P:PEnts) (id:Nat) (st:List UInt8):∀ k n,(attsFrom P id st n k).length≤k
 | 0,n=>by simp [attsFrom]
 | k+1,n=>by
   rw [attsFrom]
   split
   ·simp
   ·simp only [List.length_cons]; have:=attsFrom_le P id st k (n+1); omega
/-- what a task's entry tells -/
theorem SchoolOk.task_at {P:PEnts} (h:SchoolOk P) {id:Nat} {v:List UInt8} (hv:pFind P (tkey id)=some v):∃ t:TaskP,t.Fine∧t.body.length≤4000∧v=taskVal t∧readTaskP v=some t∧(pFind P (ckey t.cls)).isSome=true:=by
 obtain ⟨e,hw,he,hval,hl⟩:=h _ v hv
 cases e with
 | cls c=>simp [SE.key,ckey,tkey] at he
 | mem c s=>simp [SE.key,mkey,tkey] at he
 | tsk id2 t=>
   have hval:v=taskVal t:=hval
   exact ⟨t,hw.2.2.1,hw.2.2.2,hval,by rw [hval]; exact readTask_val hw.2.2.1 hw.2.2.2,hl.1⟩
 | ext id s m=>simp [SE.key,xkey,tkey] at he
 | att id s n tm tx=>simp [SE.key,akey,tkey] at he
theorem SchoolOk.att_at {P:PEnts} (h:SchoolOk P) {id n:Nat} {st:List UInt8} (hs:isNameP st=true) (h2:id≤9999) (hn:n≤99) {v:List UInt8} (hv:pFind P (akey id st n)=some v):∃ tm tx,v=numB tm 4 ++ tx∧tm≤2147483647∧tx.length≤4000∧(SE.att id st n tm tx).Links P:=by
 obtain ⟨e,hw,he,hval,hl⟩:=h _ v hv
 cases e with
 | cls c=>simp [SE.key,ckey,akey] at he
 | mem c s=>simp [SE.key,mkey,akey] at he
 | tsk id2 t=>simp [SE.key,tkey,akey] at he
 | ext id s m=>simp [SE.key,xkey,akey] at he
 | att id2 s2 n2 tm tx=>
   obtain ⟨rfl,rfl,rfl⟩:=akey_inj hs hw.2.2.1 h2 hw.2.1 hn hw.2.2.2.2.1 he
   exact ⟨tm,tx,hval,hw.2.2.2.2.2.1,hw.2.2.2.2.2.2,hl⟩
theorem take_num (n:Nat) (h:n < 4294967296) (tx:List UInt8):numV ((numB n 4 ++ tx).take 4)=n∧(numB n 4 ++ tx).drop 4=tx:=by
 have hl:(numB n 4).length=4:=numB_length _ _
 exact ⟨by rw [List.take_left' hl]; exact numV_num n h,List.drop_left' hl⟩
/-! ### the methods -/
/-- a journal whose entries are a school, if it is up -/
def SOk (s:JS):Prop:=s.down=false→Live s∧SchoolOk s.c.ents
theorem one_keep {s:JS} {c:Chg} (h:Live s) (hs:SchoolOk s.c.ents) (hc:(jCommit [c] s).2=0→SchoolOk (pChg s.c.ents c)):SOk (jCommit [c] s).1:=by
 intro hd
 obtain ⟨_,h0,h1,h2⟩:=commit_live (cs:=[c]) h
 by_cases e0:(jCommit [c] s).2=0
 ·obtain ⟨_,hl,he,_⟩:=h0 e0
  refine ⟨hl,?_⟩
  rw [he]
  exact hc e0
 by_cases e1:(jCommit [c] s).2=360
 ·rw [(h1 e1).2.2.1] at hd; cases hd
 ·rw [h2 e0 e1]; exact ⟨h,hs⟩
theorem SOk.addClass {s:JS} (h:SOk s) (c:List UInt8):SOk (addClassP c s).1:=by
 unfold addClassP
 split
 ·exact h
 rename_i hd
 obtain ⟨hl,hs⟩:=h (by simpa using hd)
 split
 ·exact h
 split
 ·exact h
 rename_i hn ht
 exact one_keep hl hs fun _=>hs.cls (by simpa using hn) (by simpa using ht)
theorem SOk.enroll {s:JS} (h:SOk s) (c st:List UInt8):SOk (enrollP c st s).1:=by
 unfold enrollP
 split
 ·exact h
 rename_i hd
 obtain ⟨hl,hs⟩:=h (by simpa using hd)
 split
 ·exact h
 split
 ·exact h
 split
 ·exact h
 rename_i hn hc ht
 simp only [Bool.not_eq_false,Bool.and_eq_true] at hn
 exact one_keep hl hs fun _=>hs.mem hn.1 hn.2 (bt hc) (by simpa using ht)
theorem SOk.leave {s:JS} (h:SOk s) (c st:List UInt8):SOk (leaveP c st s).1:=by
 unfold leaveP
 split
 ·exact h
 rename_i hd
 obtain ⟨hl,hs⟩:=h (by simpa using hd)
 split
 ·exact h
 split
 ·exact h
 exact one_keep hl hs fun _=>hs.del _ (Or.inl rfl)
theorem SOk.addTask {s:JS} (h:SOk s) (t:TaskP):SOk (addTaskP t s).1:=by
 unfold addTaskP
 split
 ·exact h
 rename_i hd
 obtain ⟨hl,hs⟩:=h (by simpa using hd)
 split
 ·exact h
 split
 ·exact h
 split
 ·exact h
 split
 ·exact h
 rename_i hf hb hc hn
 have hf:t.Fine:=(timelyB_iff t).1 (by simpa using hf)
 have hc:(pFind s.c.ents (ckey t.cls)).isSome=true:=bt hc
 have hcount:∀ id,1≤id→id≤9999→((pFind s.c.ents (tkey id)).isSome=true ↔ id≤tasksN s.c.ents):=fun id h1 h2=>hs.t_count (ordKeys_nodup hl.ord) h1 h2
 have hk:SOk (jCommit [⟨tkey (tasksN s.c.ents+1),taskVal t,false⟩] s).1:=one_keep hl hs fun _=>by
  refine hs.tsk (id:=tasksN s.c.ents+1) ⟨by omega,by omega,hf,by omega⟩ hc ?_ ?_
  ·by_cases h0:tasksN s.c.ents=0
   ·exact Or.inl (by omega)
   ·refine Or.inr ?_
    rw [Nat.add_sub_cancel]
    exact (hcount (tasksN s.c.ents) (by omega) (by omega)).2 (Nat.le_refl _)
  ·cases hx:pFind s.c.ents (tkey (tasksN s.c.ents+1)) with
   | none=>rfl
   | some v=>have:=(hcount (tasksN s.c.ents+1) (by omega) (by omega)).1 (by rw [hx]; rfl); omega
 simp only
 split
 ·exact hk
 ·exact hk
theorem JS.taskP_some {s:JS} {id:Int} {t:TaskP} (hs:SchoolOk s.c.ents) (h:s.taskP id=some t):1≤id∧id≤9999∧t.Fine∧t.body.length≤4000∧pFind s.c.ents (tkey id.toNat)=some (taskVal t)∧(pFind s.c.ents (ckey t.cls)).isSome=true:=by
 unfold JS.taskP at h
 split at h
 ·cases h
 rename_i hid
 rw [not_or,not_or] at hid
 cases hf:pFind s.c.ents (tkey id.toNat) with
 | none=>rw [hf] at h; cases h
 | some v=>
   rw [hf] at h
   obtain ⟨t2,h1,h2,h3,h4,h5⟩:=hs.task_at hf
   have h:readTaskP v=some t:=h
   rw [h4] at h
   obtain rfl:=Option.some.inj h
   exact ⟨by omega,by omega,h1,h2,by rw [h3],h5⟩
theorem JS.taskOf_some {s:JS} {id:Int} {st:List UInt8} {t:TaskP} (h:s.taskOfP id st=some t):s.taskP id=some t∧(pFind s.c.ents (mkey t.cls st)).isSome=true:=by
 unfold JS.taskOfP at h
 cases ht:s.taskP id with
 | none=>rw [ht] at h; cases h
 | some t2=>
   rw [ht] at h
   simp only at h
   split at h
   ·rename_i hm
    obtain rfl:=Option.some.inj h
    exact ⟨rfl,hm⟩
   ·cases h
theorem SOk.extend {s:JS} (h:SOk s) (id:Int) (st:List UInt8) (more:Int):SOk (extendP id st more s).1:=by
 unfold extendP
 split
 ·exact h
 rename_i hd
 obtain ⟨hl,hs⟩:=h (by simpa using hd)
 split
 ·exact h
 rename_i hb
 rw [not_or,not_or] at hb
 cases ht:s.taskOfP id st with
 | none=>exact h
 | some t=>
   obtain ⟨h1,_⟩:=JS.taskOf_some ht
   obtain ⟨i0,i1,_,_,hf,_⟩:=JS.taskP_some hs h1
   simp only
   split
   ·refine one_keep hl hs fun _=>hs.ext (id:=id.toNat) ⟨by omega,by omega,by simpa using hb.1,by omega,by omega⟩ (by rw [hf]; rfl)
   split
   ·exact one_keep hl hs fun _=>hs.del _ (Or.inr rfl)
   ·exact h
theorem SOk.submit {s:JS} (h:SOk s) (id:Int) (st:List UInt8) (now:Int) (tx:List UInt8):SOk (submitP id st now tx s).1:=by
 unfold submitP
 split
 ·exact h
 rename_i hd
 obtain ⟨hl,hs⟩:=h (by simpa using hd)
 split
 ·exact h
 rename_i hb
 rw [not_or,not_or] at hb
 split
 ·exact h
 rename_i htx
 cases ht:s.taskOfP id st with
 | none=>exact h
 | some t=>
   obtain ⟨h1,_⟩:=JS.taskOf_some ht
   obtain ⟨i0,i1,hf,hbody,hv,_⟩:=JS.taskP_some hs h1
   have hname:isNameP st=true:=by simpa using hb.1
   have hat:s.attsP id st=attsFrom s.c.ents id.toNat st 1 t.tries.toNat:=by
    unfold JS.attsP
    rw [h1]
    simp only [hname,Bool.true_eq_false,if_false]
   simp only
   split
   ·exact h
   rename_i hearly
   split
   ·exact h
   split
   ·exact h
   rename_i htr
   rw [not_or] at hearly
   rw [hat] at hearly htr ⊢
   have hlen:=attsFrom_le s.c.ents id.toNat st t.tries.toNat 1
   have ht0:=hf.t0
   have ht1:=hf.t1
   have hstop:=attsFrom_stop s.c.ents id.toNat st t.tries.toNat 1 (by omega)
   have hatx:=attsFrom_at s.c.ents id.toNat st t.tries.toNat 1
   generalize attsFrom s.c.ents id.toNat st 1 t.tries.toNat=l at *
   have hk:SOk (jCommit [⟨akey id.toNat st (l.length+1),numB now.toNat 4 ++ tx,false⟩] s).1:=one_keep hl hs fun _=>by
    refine hs.att (id:=id.toNat) (n:=l.length+1) (tm:=now.toNat) ⟨by omega,by omega,hname,by omega,by omega,by omega,by omega⟩ ⟨⟨t,hf,hbody,hv,by omega⟩,?_⟩ (by rw [Nat.add_comm]; exact hstop)
    by_cases h0:l.length=0
    ·exact Or.inl (by omega)
    ·refine Or.inr ?_
     obtain ⟨x,hx⟩:∃ x,l[l.length - 1]?=some x:=⟨l[l.length - 1],List.getElem?_eq_getElem (by omega)⟩
     obtain ⟨v,hv2,hx2⟩:=hatx _ _ hx
     rw [show 1+(l.length - 1)=l.length+1 - 1 by omega] at hv2
     obtain ⟨tm,tx',e1,e2,e3,_⟩:=hs.att_at hname (by omega) (by omega) hv2
     refine ⟨tm,tx',?_,by rw [hv2,e1]⟩
     have hlast:l.getLast?=some x:=by rw [List.getLast?_eq_getElem?]; exact hx
     have hnow:¬ now < (x.1:Int):=fun hlt=>hearly.2 ⟨x,hlast,hlt⟩
     rw [e1] at hx2
     rw [(take_num tm (by omega) tx').1] at hx2
     rw [hx2] at hnow
     simp only at hnow
     omega
   split
   ·exact hk
   ·exact hk
end
section
open Go.RowKit SeedP Go.Maps
/-! ### reading a key -/
/-- what stands ahead of the first space, what behind it -/
def cutP:List UInt8→List UInt8 × List UInt8 × Bool
 | []=>([],[],false)
 | c :: r=>if c=32 then ([],r,true) else (c :: (cutP r).1,(cutP r).2.1,(cutP r).2.2)
theorem cutP_at {a:List UInt8} (h:(32:UInt8) ∉ a) (b:List UInt8):cutP (a ++ 32 :: b)=(a,b,true):=by
 induction a with
 | nil=>rfl
 | cons x r ih=>
   have h1:x ≠ 32:=fun e=>h (by rw [e]; exact List.mem_cons_self ..)
   have h2:=ih (fun hm=>h (List.mem_cons_of_mem _ hm))
   rw [List.cons_append,cutP,if_neg h1,h2]
theorem cutP_no {a:List UInt8} (h:(32:UInt8) ∉ a):cutP a=(a,[],false):=by
 induction a with
 | nil=>rfl
 | cons x r ih=>
   have h1:x ≠ 32:=fun e=>h (by rw [e]; exact List.mem_cons_self ..)
   have h2:=ih (fun hm=>h (List.mem_cons_of_mem _ hm))
   rw [cutP,if_neg h1,h2]
def rdGo:Nat→List UInt8→Option Nat
 | n,[]=>some n
 | n,c :: r=>if 48≤c.toNat∧c.toNat≤57 then rdGo (min (10 * n+(c.toNat - 48)) 1048576) r else none
def rdDig (s:List UInt8) (size:Nat):Nat × Bool:=match rdGo 0 s with
 | none=>(0,false)
 | some n=>(n,s.length == size)
theorem rdGo_app:∀ (a b:List UInt8) (n:Nat),rdGo n (a ++ b)=(rdGo n a).bind (fun m=>rdGo m b)
 | [],b,n=>rfl
 | c :: r,b,n=>by
   rw [List.cons_append,rdGo,rdGo]
   split
   ·exact rdGo_app r b _
   ·rfl
theorem rdGo_dig:∀ (k n:Nat),n < 10 ^ k→n < 1048576→rdGo 0 (digP n k)=some n
 | 0,n,h,_=>by simp at h; subst h; rfl
 | k+1,n,h,h2=>by
   rw [digP,rdGo_app,rdGo_dig k (n / 10) (by rw [Nat.pow_succ] at h; omega) (by omega)]
   simp only [Option.bind_some,rdGo,dig_byte]
   rw [if_pos (by omega)]
   congr 1
   omega
theorem rdDig_dig (k n:Nat) (h:n < 10 ^ k) (h2:n < 1048576):rdDig (digP n k) k=(n,true):=by
 unfold rdDig
 rw [rdGo_dig k n h h2]
 simp [digP_len]
/-! ### reading the entries -/
structure ContP where
 classes:List (List UInt8)
 tasks:List TaskP
 inClass:List (List UInt8)
 ofTask:List Nat
 atts:List UInt8→List Nat
 tries:List (List UInt8 × Nat)
def contZ:ContP:=⟨[],[],[],[],fun _=>[],[]⟩
def updA (f:List UInt8→List Nat) (k:List UInt8) (l:List Nat):List UInt8→List Nat:=fun x=>if x=k then l else f x
/-- a map's entry is set -/
def setT (l:List (List UInt8 × Nat)) (k:List UInt8) (n:Nat):List (List UInt8 × Nat):=if l.any (fun e=>e.1 == k) then l.map (fun e=>if e.1 == k then (k,n) else e) else l ++ [(k,n)]
def zeroT:TaskP:=⟨[],[],0,0,0,0,[]⟩
def clsStep (c:ContP) (rest v:List UInt8):ContP × Bool:=({ c with classes:=rest :: c.classes },isNameP rest && v.isEmpty)
def memStep (c:ContP) (rest v:List UInt8):ContP × Bool:=
 ({ c with inClass:=c.inClass ++ [(cutP rest).1] },(cutP rest).2.2 && isNameP (cutP rest).1 && isNameP (cutP rest).2.1 && v.isEmpty)
def tskStep (c:ContP) (rest v:List UInt8):ContP × Bool:=
 let t:=(readTaskP v).getD zeroT
 ({ c with tasks:=c.tasks ++ [t],inClass:=c.inClass ++ [t.cls] },(readTaskP v).isSome && decide (c.tasks.length+1≤9999) && (rest == digP (c.tasks.length+1) 4))
/-- a task's number, a student, and what stands behind -/
structure OfSt where
 id:Nat
 student:List UInt8
 behind:List UInt8
 ok:Bool
def ofStP (rest:List UInt8):OfSt:=
 let a:=cutP rest
 let d:=rdDig a.1 4
 let b:=cutP a.2.1
 ⟨d.1,b.1,b.2.1,a.2.2 && d.2 && isNameP b.1⟩
def extStep (c:ContP) (rest v:List UInt8):ContP × Bool:=
 let o:=ofStP rest
 ({ c with ofTask:=c.ofTask ++ [o.id] },o.ok && decide (rest.length=5+o.student.length) && decide (v.length=4) && decide (1≤numV v∧numV v≤1048576))
def attStep (c:ContP) (rest v:List UInt8):ContP × Bool:=
 let o:=ofStP rest
 let d:=rdDig o.behind 2
 let c1:={ c with ofTask:=c.ofTask ++ [o.id] }
 if (o.ok && d.2 && decide (4≤v.length) && decide (v.length≤4004))=false then (c1,false) else
 let tm:=numV (v.take 4)
 let whose:=digP o.id 4 ++ o.student
 let l:=c.atts whose
 if ¬ tm≤2147483647∨d.1 ≠ l.length+1∨(1 < d.1∧tm < l.getD (d.1 - 2) 0) then (c1,false) else
 ({ c1 with atts:=updA c.atts whose (l ++ [tm]),tries:=setT c.tries whose o.id },true)
def entStep (c:ContP) (e:List UInt8 × List UInt8):ContP × Bool:=
 match e.1 with
 | []=>(c,false)
 | k :: rest=>if k=99 then clsStep c rest e.2 else if k=109 then memStep c rest e.2 else if k=116 then tskStep c rest e.2 else if k=120 then extStep c rest e.2 else if k=97 then attStep c rest e.2 else (c,false)
def entsGo:ContP→PEnts→Option ContP
 | c,[]=>some c
 | c,e :: r=>if (entStep c e).2 then entsGo (entStep c e).1 r else none
def wholeP (c:ContP):Bool:=(c.inClass.all fun x=>decide (x ∈ c.classes)) && (c.ofTask.all fun i=>decide (1≤i∧i≤c.tasks.length)) && (c.tries.all fun e=>decide (((c.atts e.1).length:Int)≤(c.tasks.getD (e.2 - 1) zeroT).tries))
def isSchoolP (P:PEnts):Bool:=match entsGo contZ P with
 | none=>false
 | some c=>wholeP c
theorem ofSt_x (id:Nat) (hi:id≤9999) {s:List UInt8} (hs:isNameP s=true):ofStP (digP id 4 ++ 32 :: s)=⟨id,s,[],true⟩:=by
 unfold ofStP
 rw [cutP_at (digP_space _ _)]
 simp only
 rw [rdDig_dig 4 id (by omega) (by omega),cutP_no (isNameP_space hs)]
 simp [hs]
theorem ofSt_a (id n:Nat) (hi:id≤9999) {s:List UInt8} (hs:isNameP s=true):ofStP (digP id 4 ++ 32 :: (s ++ 32 :: digP n 2))=⟨id,s,digP n 2,true⟩:=by
 unfold ofStP
 rw [cutP_at (digP_space _ _)]
 simp only
 rw [rdDig_dig 4 id (by omega) (by omega),cutP_at (isNameP_space hs)]
 simp [hs]
end
end Go.Proofs.YtbcfpdlhieaepaaGreatDoor
