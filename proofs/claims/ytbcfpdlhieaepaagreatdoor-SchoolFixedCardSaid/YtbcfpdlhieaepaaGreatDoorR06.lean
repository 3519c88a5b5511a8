/- Plain laws: weights of entries, keys that are apart. -/
import Derived.Test.YtbcfpdlhieaepaaGreatDoorR05
namespace Go.Proofs.YtbcfpdlhieaepaaGreatDoor
section
open Go.RowKit SeedP Go.Maps
def pFind (P:PEnts) (k:List UInt8):Option (List UInt8):=(P.find? (fun e=>e.1 == k)).map (·.2)
def eWt (e:List UInt8 × List UInt8):Int:=3+(e.1.length:Int)+e.2.length
def pWt (P:PEnts):Int:=(P.map eWt).sum
def pCw (P:PEnts) (c:Chg):Int:=(if c.drop then 0 else 3+(c.key.length:Int)+c.val.length) - match pFind P c.key with | some v=>3+(c.key.length:Int)+v.length | none=>0
def pWAfter (P:PEnts) (wt:Int) (cs:List Chg):Int:=wt+(cs.map (pCw P)).sum
def pPoss (P:PEnts) (wt:Int) (cs:List Chg):Bool:=!(cs.any fun c=>c.drop && !(pFind P c.key).isSome) && decide (pWAfter P wt cs≤131072)
def keysOf (P:PEnts):List (List UInt8):=P.map (·.1)
theorem EB_find (L:List Ent) (k:List UInt8):pFind (EB L) k=(eFind L k).map (·.bytes):=by
 unfold pFind EB eFind
 rw [List.find?_map,Option.map_map]; rfl
theorem EB_cw (L:List Ent) (c:Chg):chgWeight L c=pCw (EB L) c:=by
 unfold chgWeight pCw; rw [EB_find]; cases eFind L c.key <;> rfl
theorem EB_wAfter (L:List Ent) (wt:Int) (cs:List Chg):wAfter L wt cs=pWAfter (EB L) wt cs:=by
 unfold wAfter pWAfter
 congr 2
 exact List.map_congr_left (fun c _=>EB_cw L c)
theorem EB_poss (L:List Ent) (wt:Int) (cs:List Chg):possP L wt cs=pPoss (EB L) wt cs:=by
 unfold possP pPoss
 rw [EB_wAfter]
 congr 2
 congr 1
 funext c
 rw [EB_find]; cases eFind L c.key <;> rfl
theorem pWt_nonneg (P:PEnts):0≤pWt P:=by
 unfold pWt
 induction P with
 | nil=>simp
 | cons x r ih=>rw [List.map_cons,List.sum_cons]; unfold eWt at *; omega
theorem pWt_cons (x:List UInt8 × List UInt8) (P:PEnts):pWt (x :: P)=eWt x+pWt P:=by simp [pWt]
theorem pWt_mem {P:PEnts} {e:List UInt8 × List UInt8} (h:e ∈ P):eWt e≤pWt P:=by
 induction P with
 | nil=>cases h
 | cons x r ih=>
   rw [pWt_cons]
   have h1:=pWt_nonneg r
   rcases List.mem_cons.1 h with rfl | h
   ·omega
   ·have:=ih h
    have h2:0≤eWt x:=by unfold eWt; omega
    omega
theorem pWt_len (P:PEnts):3 * (P.length:Int)≤pWt P:=by
 induction P with
 | nil=>simp [pWt]
 | cons x r ih=>rw [pWt_cons,List.length_cons]; unfold eWt; omega
theorem pIns_perm (x:List UInt8 × List UInt8) (P:PEnts):(pIns x P).Perm (x :: P):=by
 induction P with
 | nil=>exact List.Perm.refl _
 | cons y r ih=>
   simp only [pIns]
   split
   ·exact List.Perm.refl _
   ·exact (List.Perm.cons y ih).trans (List.Perm.swap x y r)
theorem pWt_perm {P Q:PEnts} (h:P.Perm Q):pWt P=pWt Q:=by
 induction h with
 | nil=>rfl
 | cons x _ ih=>rw [pWt_cons,pWt_cons,ih]
 | swap x y l=>rw [pWt_cons,pWt_cons,pWt_cons,pWt_cons]; omega
 | trans _ _ h1 h2=>exact h1.trans h2
theorem pFind_cons (x:List UInt8 × List UInt8) (P:PEnts) (k:List UInt8):pFind (x :: P) k=if x.1 == k then some x.2 else pFind P k:=by
 unfold pFind; rw [List.find?_cons]; cases x.1 == k <;> rfl
theorem pFind_none (P:PEnts) (k:List UInt8):pFind P k=none ↔ k ∉ keysOf P:=by
 unfold keysOf
 induction P with
 | nil=>simp [pFind]
 | cons x r ih=>
   rw [pFind_cons]
   by_cases h:x.1=k
   ·simp [h]
   ·have h2:(x.1 == k)=false:=by simpa using h
    rw [h2]
    simp only [Bool.false_eq_true,if_false,ih,List.map_cons,List.mem_cons,not_or]
    exact ⟨fun h3=>⟨fun e=>h e.symm,h3⟩,fun h3=>h3.2⟩
theorem pDel_not (P:PEnts) (k:List UInt8) (h:k ∉ keysOf P):pDel P k=P:=by
 unfold pDel
 rw [List.filter_eq_self]
 intro e he
 have:e.1 ≠ k:=fun e2=>h (by unfold keysOf; rw [← e2]; exact List.mem_map_of_mem he)
 simpa using this
theorem pDel_cons (x:List UInt8 × List UInt8) (P:PEnts) (k:List UInt8):pDel (x :: P) k=if x.1 == k then pDel P k else x :: pDel P k:=by
 unfold pDel; rw [List.filter_cons]; cases x.1 == k <;> rfl
theorem pDel_wt (P:PEnts) (k:List UInt8) (h:(keysOf P).Nodup):pWt (pDel P k)=pWt P - match pFind P k with | some v=>3+(k.length:Int)+v.length | none=>0:=by
 induction P with
 | nil=>simp [pDel,pFind,pWt]
 | cons x r ih=>
   have hn:=List.nodup_cons.1 (show (x.1 :: keysOf r).Nodup from h)
   rw [pDel_cons,pFind_cons,pWt_cons]
   by_cases e:x.1=k
   ·subst e
    simp only [beq_self_eq_true,if_true]
    rw [pDel_not r x.1 hn.1]
    show pWt r=eWt x+pWt r - (3+(x.1.length:Int)+x.2.length)
    unfold eWt; omega
   ·have h2:(x.1 == k)=false:=by simpa using e
    rw [h2]
    simp only [Bool.false_eq_true,if_false]
    rw [pWt_cons,ih hn.2]; omega
theorem keys_pDel (P:PEnts) (k:List UInt8):keysOf (pDel P k)=(keysOf P).filter (fun x=>!(x == k)):=by
 unfold keysOf pDel; rw [List.filter_map]; rfl
theorem keys_perm {P Q:PEnts} (h:P.Perm Q):(keysOf P).Perm (keysOf Q):=h.map _
theorem pDel_find (P:PEnts) (k k':List UInt8) (h:k' ≠ k):pFind (pDel P k) k'=pFind P k':=by
 induction P with
 | nil=>rfl
 | cons x r ih=>
   rw [pDel_cons,pFind_cons]
   by_cases e:x.1=k
   ·have e1:(x.1 == k)=true:=by simpa using e
    have e2:(x.1 == k')=false:=by simp; intro e3; exact h (e3.symm.trans e)
    rw [e1,e2]; simpa using ih
   ·have e1:(x.1 == k)=false:=by simpa using e
    rw [e1]; simp only [Bool.false_eq_true,if_false]; rw [pFind_cons,ih]
theorem pDel_find_same (P:PEnts) (k:List UInt8):pFind (pDel P k) k=none:=by
 rw [pFind_none,keys_pDel]; simp
theorem pIns_find (x:List UInt8 × List UInt8) (P:PEnts) (k:List UInt8) (hx:x.1 ∉ keysOf P):pFind (pIns x P) k=if x.1 == k then some x.2 else pFind P k:=by
 induction P with
 | nil=>rw [pIns,pFind_cons]
 | cons y r ih=>
   have hx':x.1 ≠ y.1∧x.1 ∉ keysOf r:=by simpa [keysOf] using hx
   simp only [pIns]
   split
   ·rw [pFind_cons]
   ·rw [pFind_cons,pFind_cons,ih hx'.2]
    by_cases e:x.1=k
    ·have e2:(y.1 == k)=false:=by simp; intro e3; exact hx'.1 (e.trans e3.symm)
     rw [e2]; simp [e]
    ·have e1:(x.1 == k)=false:=by simpa using e
     rw [e1]; simp
theorem pDel_notin (P:PEnts) (k:List UInt8):k ∉ keysOf (pDel P k):=by rw [keys_pDel]; simp
theorem pPut_find (P:PEnts) (x:List UInt8 × List UInt8) (k:List UInt8):pFind (pPut P x) k=if x.1 == k then some x.2 else pFind P k:=by
 unfold pPut
 rw [pIns_find _ _ _ (pDel_notin P x.1)]
 by_cases e:x.1=k
 ·simp [e]
 ·have e1:(x.1 == k)=false:=by simpa using e
  rw [e1]; simp only [Bool.false_eq_true,if_false]; exact pDel_find P x.1 k (fun e2=>e e2.symm)
theorem pPut_nodup (P:PEnts) (x:List UInt8 × List UInt8) (h:(keysOf P).Nodup):(keysOf (pPut P x)).Nodup:=by
 unfold pPut
 refine (keys_perm (pIns_perm x (pDel P x.1))).nodup_iff.2 (List.nodup_cons.2 ⟨pDel_notin P x.1,?_⟩)
 show (keysOf (pDel P x.1)).Nodup
 rw [keys_pDel]; exact h.filter _
theorem pDel_nodup (P:PEnts) (k:List UInt8) (h:(keysOf P).Nodup):(keysOf (pDel P k)).Nodup:=by rw [keys_pDel]; exact h.filter _
theorem pPut_wt (P:PEnts) (x:List UInt8 × List UInt8) (h:(keysOf P).Nodup):pWt (pPut P x)=eWt x+pWt P - match pFind P x.1 with | some v=>3+(x.1.length:Int)+v.length | none=>0:=by
 unfold pPut
 rw [pWt_perm (pIns_perm x _),pWt_cons,pDel_wt P x.1 h]; omega
theorem pChg_nodup (P:PEnts) (c:Chg) (h:(keysOf P).Nodup):(keysOf (pChg P c)).Nodup:=by
 unfold pChg; split
 ·exact pDel_nodup P _ h
 ·exact pPut_nodup P _ h
theorem pChg_find (P:PEnts) (c:Chg) (k:List UInt8) (h:k ≠ c.key):pFind (pChg P c) k=pFind P k:=by
 unfold pChg; split
 ·exact pDel_find P _ _ h
 ·rw [pPut_find]
  have e1:(c.key == k)=false:=by simp; exact fun e=>h e.symm
  rw [e1]; rfl
theorem pChg_wt (P:PEnts) (c:Chg) (h:(keysOf P).Nodup):pWt (pChg P c)=pWt P+pCw P c:=by
 unfold pChg pCw; split
 ·rename_i hd; rw [pDel_wt P _ h]; omega
 ·rename_i hd; rw [pPut_wt P _ h]
  show eWt (c.key,c.val)+pWt P - _=_
  unfold eWt; simp only; omega
theorem pChgs_wt (P:PEnts) (cs:List Chg) (hP:(keysOf P).Nodup) (hc:(cs.map (·.key)).Nodup):(keysOf (pChgs P cs)).Nodup∧pWt (pChgs P cs)=pWAfter P (pWt P) cs:=by
 induction cs generalizing P with
 | nil=>exact ⟨hP,by simp [pChgs,pWAfter]⟩
 | cons c r ih=>
   have hn:=List.nodup_cons.1 (show (c.key :: r.map (·.key)).Nodup from hc)
   have h:=ih (pChg P c) (pChg_nodup P c hP) hn.2
   refine ⟨h.1,h.2.trans ?_⟩
   unfold pWAfter
   rw [pChg_wt P c hP,List.map_cons,List.sum_cons]
   have e:r.map (pCw (pChg P c))=r.map (pCw P):=by
    refine List.map_congr_left (fun c' hc'=>?_)
    unfold pCw
    rw [pChg_find P c c'.key (fun e=>hn.1 (by rw [← e]; exact List.mem_map_of_mem hc'))]
   rw [e]; omega
/-! ### changes that are valid -/
structure Valid (cs:List Chg):Prop where
 key:∀ c ∈ cs,1≤c.key.length∧c.key.length≤40
 val:∀ c ∈ cs,c.val.length≤4096
 drop:∀ c ∈ cs,c.drop=true→c.val=[]
 apart:(cs.map (·.key)).Nodup
 size:codeSize cs≤65536
theorem valid_zero (cs:List Chg):validP cs=0 ↔ Valid cs:=by
 have hbad:∀ j (h:j < cs.length),badAt cs j=false ↔ (1≤cs[j].key.length∧cs[j].key.length≤40∧cs[j].key ∉ (cs.take j).map (·.key)∧(cs[j].drop=true→cs[j].val=[])):=by
  intro j h
  rw [badAt_eq cs j h]
  unfold bad1
  simp only [Bool.or_eq_false_iff,decide_eq_false_iff_not,Bool.and_eq_false_imp,List.contains_eq_mem]
  constructor
  ·rintro ⟨⟨⟨h1,h2⟩,h3⟩,h4⟩
   exact ⟨by omega,by omega,h3,fun hd=>List.eq_nil_of_length_eq_zero (by have:=h4 hd; omega)⟩
  ·rintro ⟨h1,h2,h3,h4⟩
   exact ⟨⟨⟨by omega,by omega⟩,h3⟩,fun hd=>by rw [h4 hd]; simp⟩
 have hnd:∀ n,n≤cs.length→(∀ j (h:j < cs.length),j < n→cs[j].key ∉ (cs.take j).map (·.key))→((cs.take n).map (·.key)).Nodup:=by
  intro n
  induction n with
  | zero=>intro _ _; simp
  | succ n ih=>
    intro hn hh
    rw [List.take_succ_eq_append_getElem (by omega),List.map_append,List.map_cons,List.map_nil]
    refine List.nodup_append.2 ⟨ih (by omega) (fun j h hj=>hh j h (by omega)),by simp,?_⟩
    intro a ha b hb
    rcases List.mem_singleton.1 hb with rfl
    intro e
    exact hh n (by omega) (by omega) (by rw [← e]; exact ha)
 constructor
 ·intro h
  have h1:∀ j,j < cs.length→badAt cs j=false:=by
   intro j hj
   cases hb:badAt cs j with
   | false=>rfl
   | true=>rw [valid_bad cs j hj hb] at h; cases h
  have h2:(cs.any (fun c=>decide (4096 < c.val.length)) || decide (65536 < codeSize cs))=false:=by
   cases hb:(cs.any (fun c=>decide (4096 < c.val.length)) || decide (65536 < codeSize cs)) with
   | false=>rfl
   | true=>rw [valid_long cs h1 hb] at h; cases h
  simp only [Bool.or_eq_false_iff,List.any_eq_false,decide_eq_true_eq,decide_eq_false_iff_not] at h2
  refine ⟨fun c hc=>?_,fun c hc=>by have:=h2.1 c hc; omega,fun c hc hd=>?_,?_,by omega⟩
  ·obtain ⟨j,hj,rfl⟩:=List.getElem_of_mem hc
   have:=(hbad j hj).1 (h1 j hj)
   exact ⟨this.1,this.2.1⟩
  ·obtain ⟨j,hj,rfl⟩:=List.getElem_of_mem hc
   exact ((hbad j hj).1 (h1 j hj)).2.2.2 hd
  ·have:=hnd cs.length (Nat.le_refl _) (fun j h _=>((hbad j h).1 (h1 j h)).2.2.1)
   rwa [List.take_of_length_le (Nat.le_refl _)] at this
 ·intro h
  refine valid_fine cs (fun j hj=>?_) ?_
  ·rw [hbad j hj]
   have hm:=List.getElem_mem hj
   refine ⟨(h.key _ hm).1,(h.key _ hm).2,fun hin=>?_,h.drop _ hm⟩
   have hap:=h.apart
   have e:cs=cs.take j ++ cs[j] :: cs.drop (j+1):=by rw [← List.drop_eq_getElem_cons hj,List.take_append_drop]
   rw [e,List.map_append,List.map_cons] at hap
   exact (List.nodup_append.1 hap).2.2 _ hin _ (List.mem_cons_self ..) rfl
  ·simp only [Bool.or_eq_false_iff,List.any_eq_false,decide_eq_true_eq,decide_eq_false_iff_not]
   exact ⟨fun c hc=>by have:=h.val c hc; omega,by have:=h.size; omega⟩
end
section
open Go.RowKit SeedP Go.Maps
abbrev RSt:=List UInt8 × Bool
def rChg (s:RSt):Option (Chg × RSt):=
 if (rNum 1 s).1=0 then (if (rVal (rKey (rNum 1 s).2).2).2.2=true then none else some (⟨(rKey (rNum 1 s).2).1,(rVal (rKey (rNum 1 s).2).2).1,false⟩,(rVal (rKey (rNum 1 s).2).2).2))
 else if (rNum 1 s).1=1 then (if (rKey (rNum 1 s).2).2.2=true then none else some (⟨(rKey (rNum 1 s).2).1,[],true⟩,(rKey (rNum 1 s).2).2))
 else none
def rChgs:Nat→RSt→Option (List Chg × RSt)
 | 0,s=>some ([],s)
 | n+1,s=>match rChgs n s with
   | none=>none
   | some (l,s')=>match rChg s' with
     | none=>none
     | some (c,s'')=>some (l ++ [c],s'')
def rComm (code:List UInt8):Option (List Chg):=
 if 65536 < code.length∨(rNum 1 (code,false)).1 < 1∨64 < (rNum 1 (code,false)).1 then none
 else match rChgs (rNum 1 (code,false)).1 (rNum 1 (code,false)).2 with
  | none=>none
  | some (l,s)=>if s.2=false∧s.1=[]∧validP l=0 then some l else none
theorem rChgs_none {s:RSt} {j:Nat}:∀ n,j≤n→rChgs j s=none→rChgs n s=none:=by
 intro n h hj
 induction n with
 | zero=>obtain rfl:j=0:=by omega
         exact hj
 | succ n ih=>
   by_cases he:j=n+1
   ·rw [← he]; exact hj
   ·rw [rChgs,ih (by omega)]
theorem rNum_lt (k:Nat) (s:RSt):(rNum k s).1 < 256 ^ k:=
 Nat.lt_of_lt_of_le (numV_lt _) (Nat.pow_le_pow_right (by decide) (rTake_len k s))
theorem rKey_len (s:RSt):(rKey s).1.length≤255:=by
 have h1:=rTake_len (rNum 1 s).1 (if (rNum 1 s).1 < 1∨40 < (rNum 1 s).1 then ((rNum 1 s).2.1,true) else (rNum 1 s).2)
 have h2:=rNum_lt 1 s
 unfold rKey; omega
theorem rVal_len (s:RSt):(rVal s).1.length≤65535:=by
 have h1:=rTake_len (rNum 2 s).1 (if 4096 < (rNum 2 s).1 then ((rNum 2 s).2.1,true) else (rNum 2 s).2)
 have h2:=rNum_lt 2 s
 unfold rVal; omega
/-! ### a row of changes that a call makes -/
def chgCells (p:Chg × Value):List Value:=[strV p.1.key,p.2,.bool p.1.drop]
def crow (xs:List (Chg × Value)):List Value:=xs.flatMap chgCells
theorem crow_get (xs:List (Chg × Value)) (j o:Nat) (h:j < xs.length) (ho:o < 3):(crow xs)[j * 3+o]?=(chgCells xs[j])[o]?:=by
 induction xs generalizing j with
 | nil=>simp at h
 | cons x r ih=>
   rw [crow,List.flatMap_cons,← crow]
   have hl:(chgCells x).length=3:=rfl
   cases j with
   | zero=>rw [List.getElem?_append_left (by omega)]; simp
   | succ j=>
     rw [List.getElem?_append_right (by omega),hl]
     have e:(j+1) * 3+o - 3=j * 3+o:=by omega
     rw [e,ih j (by simpa using h)]; rfl
theorem own_grown {w w':World} {S:Nat→Prop} {B n m:Nat} {e:TypeId} {v:Value} {xs:List Value} (h:w.ownsRow B e m v n xs) (hg:Grown S w w') (hn:∀ g,B≤g→g < w.heap.size→¬ S g):w'.ownsRow B e m v n xs:=by
 obtain ⟨hl,h2⟩:=h
 rcases h2 with h2 | ⟨g,cap,cur,e,hB,h3,r⟩
 ·exact ⟨hl,Or.inl h2⟩
 ·have hlt:=(Array.getElem?_eq_some_iff.1 h3).1
  exact ⟨hl,Or.inr ⟨g,cap,cur,e,hB,(hg.block g hlt (hn g hB hlt)).trans h3,r⟩⟩
structure ChgRow (w:World) (B:Nat) (v:Value) (xs:List (Chg × Value)):Prop where
 row:w.ownsRow B 73 3 v xs.length (crow xs)
 val:∀ p ∈ xs,w.ownsRow B 5 1 p.2 p.1.val.length (byts p.1.val)
theorem ChgRow.nil (w:World) (B:Nat):ChgRow w B (.slice none 0 0) []:=⟨World.ownsRow_nil w B _ 3,fun p hp=>by cases hp⟩
theorem ChgRow.grown {w w':World} {S:Nat→Prop} {B:Nat} {v:Value} {xs:List (Chg × Value)} (h:ChgRow w B v xs) (hg:Grown S w w') (hn:∀ g,B≤g→g < w.heap.size→¬ S g):ChgRow w' B v xs:=
 ⟨own_grown h.row hg hn,fun p hp=>own_grown (h.val p hp) hg hn⟩
theorem ChgRow.toP {w:World} {B:Nat} {v:Value} {xs:List (Chg × Value)} (h:ChgRow w B v xs) (hn:xs.length≤1000000):ChgsP w (fun g=>B≤g) v (xs.map (·.1)):=by
 have hr:=h.row
 obtain ⟨hl,h2⟩:=h.row
 rcases h2 with ⟨rfl,h0⟩ | ⟨g,cap,cur,rfl,hB,hg,hn,hc,_⟩
 ·obtain rfl:=List.eq_nil_of_length_eq_zero h0
  exact ⟨none,0,by simp,Nat.le_refl _,Nat.zero_le _,Or.inl rfl⟩
 ·refine ⟨_,cap,by rw [List.length_map],by rw [List.length_map]; exact hn,hc,Or.inr ⟨g,0,rfl,hB,fun j hj=>?_⟩⟩
  have hj':j < xs.length:=by simpa using hj
  have hc3:∀ o u,o < 3→(chgCells xs[j])[o]?=some u→w.cell? ⟨g,0+j * 3+o,none⟩=some u:=fun o u ho hu=>by
   have:=hr.cells (g:=g) rfl (j * 3+o) u (by rw [crow_get xs j o hj' ho]; exact hu)
   have e:(⟨g,0,none⟩:Addr).add (j * 3+o)=⟨g,0+j * 3+o,none⟩:=by unfold Addr.add; split <;> simp_all
   rw [← e]; exact this
  refine ⟨xs[j].2,?_,?_,?_,?_⟩
  ·rw [List.getElem_map]; exact hc3 0 _ (by omega) rfl
  ·exact hc3 1 _ (by omega) rfl
  ·rw [List.getElem_map]; exact hc3 2 _ (by omega) rfl
  ·rw [List.getElem_map]; exact RdP.own (h.val xs[j] (List.getElem_mem hj')) (fun g hg _=>hg)
theorem crow_snoc (xs:List (Chg × Value)) (x:Chg × Value):crow (xs ++ [x])=crow xs ++ chgCells x:=by simp [crow]
theorem infoC:(Tryz.prog.info? 73).map (fun i=>(i.zero,i.size,i.bytes))=some (some (.agg #[.string ⟨#[]⟩,.slice none 0 0,.bool false]),3,48):=by kernel_rfl
theorem wpList_chg {w:World} {ops:Array Oper} {rest:List Oper} {o:Oper} {a:Act} {Q:Exit→Act→World→Prop} (hgd:o.guard=none) (s x:Operand)
 (ho:o.op=.call { callee:=.builtin .append,args:=#[s,x],argTypes:=#[69,69] })
 (B:Nat) (v:Value) (xs:List (Chg × Value)) (hs:a.eval s=v) (h:ChgRow w B v xs) (g c:Nat) (y:Chg × Value) (hx:a.eval x=.slice (some ⟨g,0,none⟩) 1 c)
 (hg:Blk w g 73 (chgCells y)) (hy:w.ownsRow B 5 1 y.2 y.1.val.length (byts y.1.val)) (h1:y.2.oneCell'=true) (hn:xs.length≤1000000) (hB:B≤w.heap.size)
 (hK:∀ v' w',ChgRow w' B v' (xs ++ [y])→Below B w w'→(∀ k,k < B→w'.heap[k]?=w.heap[k]?)→wpList Tryz.prog ops Q rest (a.put o.dst v') w'):wpList Tryz.prog ops Q (o :: rest) a w:=by
 have hi:=infoC
 obtain ⟨i,hi,hz⟩:=Option.map_eq_some_iff.1 hi
 simp only [Prod.mk.injEq] at hz
 obtain ⟨hz1,hz2,hz3⟩:=hz
 refine wpList_append_own (P:=Tryz.prog) _ hgd s x 69 ho B 73 i _ 3 48 Tryz.underlying69 hi hz1 hz2 hz3 rfl (by decide) v xs.length (crow xs) hs h.row ⟨g,0,none⟩ 1 c (chgCells y) hx rfl ?_ ?_ ?_ ?_ hB ?_
 ·intro j u hu
  have e0:(⟨g,0,none⟩:Addr).add j=⟨g,j,none⟩:=by unfold Addr.add; split <;> simp_all
  have hj:=(List.getElem?_eq_some_iff.1 hu).1
  rw [e0,hg.cell j hj,List.getD_eq_getElem?_getD,hu]; rfl
 ·intro u hu
  simp only [chgCells,List.mem_cons,List.not_mem_nil,or_false] at hu
  rcases hu with rfl | rfl | rfl
  ·rfl
  ·exact h1
  ·rfl
 ·unfold maxLen; omega
 ·omega
 ·intro v' w' hown hgr _
  have hb:Below B w w':=(Below.refl _ _).grown hgr hB (fun k e=>(h.row.lt k e).1)
  refine hK v' w' ⟨?_,fun p hp=>?_⟩ hb (fun k hk=>hb.block k hk)
  ·rw [List.length_append,crow_snoc]; exact hown
  ·have hne:∀ q:Value,∀ m zs,w.ownsRow B 5 1 q m zs→w'.ownsRow B 5 1 q m zs:=fun q m zs hq=>by
    refine hq.kept hgr ?_
    cases hq0:q.ownBlock with
    | none=>exact Or.inl rfl
    | some k=>
      refine Or.inr (fun e=>?_)
      rcases hq.2 with ⟨rfl,_⟩ | ⟨g1,c1,cur1,rfl,_,hh1,_⟩
      ·simp [Value.ownBlock] at hq0
      rcases h.row.2 with ⟨rfl,_⟩ | ⟨g2,c2,cur2,rfl,_,hh2,_⟩
      ·simp [Value.ownBlock] at e
      simp only [Value.ownBlock,Option.some.injEq] at hq0 e
      rw [hq0] at hh1
      rw [← e] at hh2
      rw [hh1] at hh2
      cases hh2
   rcases List.mem_append.1 hp with hp | hp
   ·exact hne _ _ _ (h.val p hp)
   ·obtain rfl:=List.mem_singleton.1 hp
    exact hne _ _ _ hy
end
end Go.Proofs.YtbcfpdlhieaepaaGreatDoor
