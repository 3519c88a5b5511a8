/- The school in plain words: names, keys, values; which entries are a school; what keeps them one. No program in sight. -/
import Derived.Test.YtbcfpdlhieaepaaGreatDoorR10
namespace Go.Proofs.YtbcfpdlhieaepaaGreatDoor
open Go.RowKit SeedP Go.Maps
/-! ### names and digits -/
def isAl (c:UInt8):Bool:=decide (97≤c.toNat) && decide (c.toNat≤122) || decide (65≤c.toNat) && decide (c.toNat≤90) || decide (48≤c.toNat) && decide (c.toNat≤57)
def isNameP (s:List UInt8):Bool:=decide (1≤s.length) && decide (s.length≤16) && s.all isAl
theorem isNameP_len {s:List UInt8} (h:isNameP s=true):1≤s.length∧s.length≤16:=by
 unfold isNameP at h
 simp only [Bool.and_eq_true,decide_eq_true_eq] at h
 exact h.1
theorem isNameP_space {s:List UInt8} (h:isNameP s=true):(32:UInt8) ∉ s:=by
 unfold isNameP at h
 simp only [Bool.and_eq_true,List.all_eq_true] at h
 intro hm
 have:=h.2 32 hm
 exact absurd this (by decide)
/-- a number in so many decimal digits -/
def digP:Nat→Nat→List UInt8
 | _,0=>[]
 | n,k+1=>digP (n / 10) k ++ [UInt8.ofNat (48+n % 10)]
theorem digP_len:∀ (n k:Nat),(digP n k).length=k
 | _,0=>rfl
 | n,k+1=>by rw [digP,List.length_append,digP_len (n / 10) k]; rfl
theorem dig_byte (n:Nat):(UInt8.ofNat (48+n % 10)).toNat=48+n % 10:=by rw [UInt8.toNat_ofNat']; omega
theorem digP_inj:∀ (k n m:Nat),n < 10 ^ k→m < 10 ^ k→digP n k=digP m k→n=m
 | 0,n,m,hn,hm,_=>by simp at hn hm; omega
 | k+1,n,m,hn,hm,h=>by
   rw [digP,digP] at h
   have h1:=List.append_inj h (by rw [digP_len,digP_len])
   rw [Nat.pow_succ] at hn hm
   have h2:=digP_inj k (n / 10) (m / 10) (by omega) (by omega) h1.1
   have h3:UInt8.ofNat (48+n % 10)=UInt8.ofNat (48+m % 10):=(List.cons.inj h1.2).1
   have h4:=congrArg UInt8.toNat h3
   rw [dig_byte,dig_byte] at h4
   omega
theorem digP_space:∀ (k n:Nat),(32:UInt8) ∉ digP n k
 | 0,_=>by simp [digP]
 | k+1,n=>by
   rw [digP,List.mem_append]
   rintro (h | h)
   ·exact digP_space k _ h
   ·have h:=List.mem_singleton.1 h
    have h2:=congrArg UInt8.toNat h
    rw [dig_byte] at h2
    have:(32:UInt8).toNat=32:=rfl
    omega
/-- what stands ahead of a space -/
theorem cut_inj {a a' b b':List UInt8} (ha:(32:UInt8) ∉ a) (ha':(32:UInt8) ∉ a') (h:a ++ 32 :: b=a' ++ 32 :: b'):a=a'∧b=b':=by
 induction a generalizing a' with
 | nil=>
   cases a' with
   | nil=>exact ⟨rfl,(List.cons.inj h).2⟩
   | cons x r=>
     have:=(List.cons.inj h).1
     exact absurd (by rw [this]; exact List.mem_cons_self ..) ha'
 | cons x r ih=>
   cases a' with
   | nil=>
     have:=(List.cons.inj h).1
     exact absurd (by rw [← this]; exact List.mem_cons_self ..) ha
   | cons y q=>
     obtain ⟨rfl,h2⟩:=List.cons.inj h
     obtain ⟨rfl,h3⟩:=ih (fun hm=>ha (List.mem_cons_of_mem _ hm)) (fun hm=>ha' (List.mem_cons_of_mem _ hm)) h2
     exact ⟨rfl,h3⟩
/-! ### keys and values -/
def ckey (c:List UInt8):List UInt8:=99 :: c
def mkey (c s:List UInt8):List UInt8:=109 :: (c ++ 32 :: s)
def tkey (id:Nat):List UInt8:=116 :: digP id 4
def xkey (id:Nat) (s:List UInt8):List UInt8:=120 :: (digP id 4 ++ 32 :: s)
def akey (id:Nat) (s:List UInt8) (n:Nat):List UInt8:=97 :: (digP id 4 ++ 32 :: (s ++ 32 :: digP n 2))
structure TaskP where
 cls:List UInt8
 name:List UInt8
 frm:Int
 due:Int
 late:Int
 tries:Int
 body:List UInt8
structure TaskP.Fine (t:TaskP):Prop where
 cls:isNameP t.cls=true
 name:isNameP t.name=true
 f0:0≤t.frm
 f1:t.frm≤t.due
 f2:t.due≤t.late
 f3:t.late≤2147483647
 t0:1≤t.tries
 t1:t.tries≤99
def taskVal (t:TaskP):List UInt8:=numB t.frm.toNat 4 ++ numB t.due.toNat 4 ++ numB t.late.toNat 4 ++ [UInt8.ofNat t.tries.toNat,UInt8.ofNat t.cls.length] ++ t.cls ++ UInt8.ofNat t.name.length :: (t.name ++ t.body)
/-- an entry of a school -/
inductive SE where
 | cls (c:List UInt8)
 | mem (c s:List UInt8)
 | tsk (id:Nat) (t:TaskP)
 | ext (id:Nat) (s:List UInt8) (more:Nat)
 | att (id:Nat) (s:List UInt8) (n tm:Nat) (tx:List UInt8)
def SE.key:SE→List UInt8
 | .cls c=>ckey c
 | .mem c s=>mkey c s
 | .tsk id _=>tkey id
 | .ext id s _=>xkey id s
 | .att id s n _ _=>akey id s n
def SE.val:SE→List UInt8
 | .cls _=>[]
 | .mem _ _=>[]
 | .tsk _ t=>taskVal t
 | .ext _ _ m=>numB m 4
 | .att _ _ _ tm tx=>numB tm 4 ++ tx
def SE.Wf:SE→Prop
 | .cls c=>isNameP c=true
 | .mem c s=>isNameP c=true∧isNameP s=true
 | .tsk id t=>1≤id∧id≤9999∧t.Fine∧t.body.length≤4000
 | .ext id s m=>1≤id∧id≤9999∧isNameP s=true∧1≤m∧m≤1048576
 | .att id s n tm tx=>1≤id∧id≤9999∧isNameP s=true∧1≤n∧n≤99∧tm≤2147483647∧tx.length≤4000
def SE.Links (P:PEnts):SE→Prop
 | .cls _=>True
 | .mem c _=>(pFind P (ckey c)).isSome=true
 | .tsk id t=>(pFind P (ckey t.cls)).isSome=true∧(id=1∨(pFind P (tkey (id - 1))).isSome=true)
 | .ext id _ _=>(pFind P (tkey id)).isSome=true
 | .att id s n tm _=>(∃ t:TaskP,t.Fine∧t.body.length≤4000∧pFind P (tkey id)=some (taskVal t)∧(n:Int)≤t.tries)∧(n=1∨∃ tm' tx',tm'≤tm∧pFind P (akey id s (n - 1))=some (numB tm' 4 ++ tx'))
/-- the entries are a school -/
def SchoolOk (P:PEnts):Prop:=∀ k v,pFind P k=some v→∃ e:SE,e.Wf∧k=e.key∧v=e.val∧e.Links P
theorem SchoolOk.nil:SchoolOk []:=fun k v h=>by cases h
theorem akey_inj {id id' n n':Nat} {s s':List UInt8} (hs:isNameP s=true) (hs':isNameP s'=true) (hi:id≤9999) (hi':id'≤9999) (hn:n≤99) (hn':n'≤99) (h:akey id s n=akey id' s' n'):id=id'∧s=s'∧n=n':=by
 have h1:=(List.cons.inj h).2
 obtain ⟨h2,h3⟩:=cut_inj (digP_space _ _) (digP_space _ _) h1
 obtain ⟨h4,h5⟩:=cut_inj (isNameP_space hs) (isNameP_space hs') h3
 exact ⟨digP_inj 4 _ _ (by omega) (by omega) h2,h4,digP_inj 2 _ _ (by omega) (by omega) h5⟩
theorem tkey_inj {id id':Nat} (hi:id≤9999) (hi':id'≤9999) (h:tkey id=tkey id'):id=id':=
 digP_inj 4 _ _ (by omega) (by omega) (List.cons.inj h).2
theorem mkey_inj {c c' s s':List UInt8} (hc:isNameP c=true) (hc':isNameP c'=true) (h:mkey c s=mkey c' s'):c=c'∧s=s':=
 cut_inj (isNameP_space hc) (isNameP_space hc') (List.cons.inj h).2
/-- the links of an entry want only classes, tasks and attempts -/
theorem SE.Links.mono {P P':PEnts} (hc:∀ c,(pFind P (ckey c)).isSome=true→(pFind P' (ckey c)).isSome=true) (ht:∀ id v,pFind P (tkey id)=some v→pFind P' (tkey id)=some v) (ha:∀ id s n v,pFind P (akey id s n)=some v→pFind P' (akey id s n)=some v) {e:SE} (h:e.Links P):e.Links P':=by
 have ht2:∀ id,(pFind P (tkey id)).isSome=true→(pFind P' (tkey id)).isSome=true:=fun id h=>by
  obtain ⟨v,hv⟩:=Option.isSome_iff_exists.1 h
  rw [ht id v hv]; rfl
 cases e with
 | cls c=>trivial
 | mem c s=>exact hc c h
 | tsk id t=>exact ⟨hc _ h.1,h.2.imp_right (fun h=>ht2 _ h)⟩
 | ext id s m=>exact ht2 id h
 | att id s n tm tx=>
   obtain ⟨⟨t,h1,h2,h3,h4⟩,h5⟩:=h
   refine ⟨⟨t,h1,h2,ht _ _ h3,h4⟩,h5.imp_right ?_⟩
   rintro ⟨tm',tx',h6,h7⟩
   exact ⟨tm',tx',h6,ha _ _ _ _ h7⟩
/-- an entry is set: a new one, or an extension -/
theorem SchoolOk.put {P:PEnts} (h:SchoolOk P) (e:SE) (hw:e.Wf) (hl:e.Links (pPut P (e.key,e.val))) (hnew:pFind P e.key=none∨∃ id s m,e=.ext id s m):SchoolOk (pPut P (e.key,e.val)):=by
 have hkeep:∀ k v,(k.head? ≠ some 120∨pFind P e.key=none)→pFind P k=some v→pFind (pPut P (e.key,e.val)) k=some v:=fun k v hk hf=>by
  rw [pPut_find]
  by_cases he:(e.key == k)=true
  ·have he:e.key=k:=by simpa using he
   rcases hnew with hn | ⟨id,s,m,rfl⟩
   ·rw [he,hf] at hn; cases hn
   ·rcases hk with hk | hk
    ·rw [← he] at hk; exact absurd rfl hk
    ·rw [he,hf] at hk; cases hk
  ·rw [if_neg he]; exact hf
 intro k v hf
 rw [pPut_find] at hf
 by_cases he:(e.key == k)=true
 ·rw [if_pos he] at hf
  exact ⟨e,hw,(by simpa using he:e.key=k).symm,(Option.some.inj hf).symm,hl⟩
 ·rw [if_neg he] at hf
  obtain ⟨e2,h1,h2,h3,h4⟩:=h k v hf
  refine ⟨e2,h1,h2,h3,h4.mono (fun c hc=>?_) (fun id v hv=>hkeep _ _ (Or.inl (by simp [tkey])) hv) (fun id s n v hv=>hkeep _ _ (Or.inl (by simp [akey])) hv)⟩
  obtain ⟨v2,hv2⟩:=Option.isSome_iff_exists.1 hc
  rw [hkeep _ _ (Or.inl (by simp [ckey])) hv2]; rfl
/-- a student, or an extension, is dropped -/
theorem SchoolOk.del {P:PEnts} (h:SchoolOk P) (k0:List UInt8) (hk:k0.head?=some 109∨k0.head?=some 120):SchoolOk (pDel P k0):=by
 have hkeep:∀ k v,k.head? ≠ some 109→k.head? ≠ some 120→pFind P k=some v→pFind (pDel P k0) k=some v:=fun k v h1 h2 hf=>by
  rw [pDel_find P k0 k (fun e=>by subst e; rcases hk with hk | hk; exact h1 hk; exact h2 hk)]
  exact hf
 intro k v hf
 by_cases he:k=k0
 ·subst he; rw [pDel_find_same] at hf; cases hf
 ·rw [pDel_find P k0 k he] at hf
  obtain ⟨e2,h1,h2,h3,h4⟩:=h k v hf
  refine ⟨e2,h1,h2,h3,h4.mono (fun c hc=>?_) (fun id v hv=>hkeep _ _ (by simp [tkey]) (by simp [tkey]) hv) (fun id s n v hv=>hkeep _ _ (by simp [akey]) (by simp [akey]) hv)⟩
  obtain ⟨v2,hv2⟩:=Option.isSome_iff_exists.1 hc
  rw [hkeep _ _ (by simp [ckey]) (by simp [ckey]) hv2]; rfl
/-! ### the acts that keep a school -/
theorem SchoolOk.cls {P:PEnts} (h:SchoolOk P) {c:List UInt8} (hc:isNameP c=true) (hn:pFind P (ckey c)=none):SchoolOk (pPut P (ckey c,[])):=
 h.put (.cls c) hc trivial (Or.inl hn)
theorem SchoolOk.mem {P:PEnts} (h:SchoolOk P) {c s:List UInt8} (hc:isNameP c=true) (hs:isNameP s=true) (h1:(pFind P (ckey c)).isSome=true) (hn:pFind P (mkey c s)=none):SchoolOk (pPut P (mkey c s,[])):=by
 refine h.put (.mem c s) ⟨hc,hs⟩ ?_ (Or.inl hn)
 show (pFind (pPut P (mkey c s,[])) (ckey c)).isSome=true
 rw [pPut_find,if_neg (by simp [mkey,ckey])]; exact h1
theorem SchoolOk.ext {P:PEnts} (h:SchoolOk P) {id m:Nat} {s:List UInt8} (hw:(SE.ext id s m).Wf) (h1:(pFind P (tkey id)).isSome=true):SchoolOk (pPut P (xkey id s,numB m 4)):=by
 refine h.put (.ext id s m) hw ?_ (Or.inr ⟨_,_,_,rfl⟩)
 show (pFind (pPut P (xkey id s,numB m 4)) (tkey id)).isSome=true
 rw [pPut_find,if_neg (by simp [xkey,tkey])]; exact h1
theorem SchoolOk.tsk {P:PEnts} (h:SchoolOk P) {id:Nat} {t:TaskP} (hw:(SE.tsk id t).Wf) (h1:(pFind P (ckey t.cls)).isSome=true) (h2:id=1∨(pFind P (tkey (id - 1))).isSome=true) (hn:pFind P (tkey id)=none):SchoolOk (pPut P (tkey id,taskVal t)):=by
 refine h.put (.tsk id t) hw ⟨?_,?_⟩ (Or.inl hn)
 ·show (pFind (pPut P (tkey id,taskVal t)) (ckey t.cls)).isSome=true
  rw [pPut_find,if_neg (by simp [tkey,ckey])]; exact h1
 ·refine h2.imp_right fun h2=>?_
  show (pFind (pPut P (tkey id,taskVal t)) (tkey (id - 1))).isSome=true
  rw [pPut_find]
  split
  ·rfl
  ·exact h2
theorem SchoolOk.att {P:PEnts} (h:SchoolOk P) {id n tm:Nat} {s tx:List UInt8} (hw:(SE.att id s n tm tx).Wf) (hl:(SE.att id s n tm tx).Links P) (hn:pFind P (akey id s n)=none):SchoolOk (pPut P (akey id s n,numB tm 4 ++ tx)):=by
 refine h.put (.att id s n tm tx) hw ?_ (Or.inl hn)
 have hk:∀ k v,k ≠ akey id s n→pFind P k=some v→pFind (pPut P (akey id s n,numB tm 4 ++ tx)) k=some v:=fun k v hne hf=>by
  rw [pPut_find,if_neg (by simpa using fun e=>hne (Eq.symm e))]; exact hf
 obtain ⟨⟨t,h1,h2,h3,h4⟩,h5⟩:=hl
 refine ⟨⟨t,h1,h2,hk _ _ (by simp [tkey,akey]) h3,h4⟩,h5.imp_right ?_⟩
 rintro ⟨tm',tx',h6,h7⟩
 exact ⟨tm',tx',h6,hk _ _ (fun e=>by rw [e,hn] at h7; cases h7) h7⟩
end Go.Proofs.YtbcfpdlhieaepaaGreatDoor
