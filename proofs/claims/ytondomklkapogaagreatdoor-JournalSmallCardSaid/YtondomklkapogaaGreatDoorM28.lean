/- Plain laws: the reference's way of reading commits and states, and the program's. -/
import Derived.Test.YtondomklkapogaaGreatDoorM27
import Derived.Test.YtondomklkapogaaGreatDoorM17
import Derived.Test.YtondomklkapogaaGreatDoorM26
namespace Go.Proofs.YtondomklkapogaaGreatDoor
open Go.RowKit SeedP Go.Maps
theorem rChgs_front:∀ (n:Nat) (s:RSt),rChgs (n+1) s=match rChg s with
 | none=>none
 | some (c,s1)=>match rChgs n s1 with
   | none=>none
   | some (l,s2)=>some (c :: l,s2):=by
 intro n
 induction n with
 | zero=>
   intro s
   simp only [rChgs]
   cases rChg s with
   | none=>rfl
   | some p=>rfl
 | succ n ih=>
   intro s
   rw [rChgs,ih s]
   cases rChg s with
   | none=>rfl
   | some p=>
     obtain ⟨c,s1⟩:=p
     simp only [rChgs]
     cases rChgs n s1 with
     | none=>rfl
     | some q=>
       obtain ⟨l,s2⟩:=q
       simp only []
       cases rChg s2 with
       | none=>rfl
       | some q2=>rfl
/-- the change at the front of bytes, and how many it has -/
def rC1 (b:List UInt8):Option (Chg × Nat):=
 if b.getD 0 0=0 then (rOne (b.drop 1)).map (fun p=>(⟨p.1.1,p.1.2,false⟩,1+p.2))
 else if 1 < (b.getD 0 0).toNat∨b.length < 2∨b.length < 2+(b.getD 1 0).toNat then none
 else some (⟨(b.drop 2).take (b.getD 1 0).toNat,[],true⟩,2+(b.getD 1 0).toNat)
theorem rChs_one (n:Nat) (b:List UInt8):rChs (n+1) b=if b.length < 1 then some [] else match rC1 b with
 | none=>none
 | some (c,m)=>(rChs n (b.drop m)).map (c :: ·):=by
 rw [rChs]
 unfold rC1
 by_cases h1:b.length < 1
 ·rw [if_pos h1,if_pos h1]
 ·rw [if_neg h1,if_neg h1]
  by_cases h2:b.getD 0 0=0
  ·rw [if_pos h2,if_pos h2]
   cases rOne (b.drop 1) with
   | none=>rfl
   | some p=>obtain ⟨e,m⟩:=p; rfl
  ·rw [if_neg h2,if_neg h2]
   split <;> rfl
def fineC (c:Chg):Prop:=1≤c.key.length∧c.key.length≤40∧c.val.length≤4096
theorem rC1_some {b:List UInt8} {c:Chg} {n:Nat} (h:rC1 b=some (c,n)) (hb:1≤b.length):n=chgSize c∧n≤b.length:=by
 unfold rC1 at h
 split at h
 ·cases ho:rOne (b.drop 1) with
  | none=>rw [ho] at h; cases h
  | some p=>
    obtain ⟨e,m⟩:=p
    rw [ho] at h
    simp only [Option.map_some,Option.some.injEq,Prod.mk.injEq] at h
    obtain ⟨rfl,rfl⟩:=h
    have:=rOne_some ho
    rw [List.length_drop] at this
    unfold chgSize
    simp only [Bool.false_eq_true,if_false]
    omega
 ·split at h
  ·cases h
  ·simp only [Option.some.injEq,Prod.mk.injEq] at h
   obtain ⟨rfl,rfl⟩:=h
   unfold chgSize
   simp only [if_true,List.length_take,List.length_drop]
   omega
theorem rNum_bad (k:Nat) (l:List UInt8):rNum k (l,true)=(0,l,true):=by unfold rNum; rw [rTake_bad]; rfl
theorem rKey_bad (l:List UInt8):rKey (l,true)=([],l,true):=by
 unfold rKey
 rw [rNum_bad]
 simp only []
 rw [if_pos (Or.inl (by omega)),rTake_bad]
theorem rVal_bad (l:List UInt8):rVal (l,true)=([],l,true):=by
 unfold rVal
 rw [rNum_bad]
 simp only []
 rw [if_neg (by omega),rTake_bad]
theorem key_step (b:List UInt8):(1≤(b.getD 0 0).toNat∧(b.getD 0 0).toNat≤40∧1+(b.getD 0 0).toNat≤b.length∧rKey (b,false)=((b.drop 1).take (b.getD 0 0).toNat,b.drop (1+(b.getD 0 0).toNat),false)) ∨
 ((rKey (b,false)).2.2=true∧((b.getD 0 0).toNat < 1∨40 < (b.getD 0 0).toNat∨b.length < 1+(b.getD 0 0).toNat)):=by
 by_cases h1:b.length < 1
 ·right
  have e1:rNum 1 (b,false)=(0,b,true):=by unfold rNum; rw [rTake_short (by omega)]; rfl
  refine ⟨?_,Or.inr (Or.inr (by omega))⟩
  unfold rKey
  rw [e1]
  simp only []
  rw [if_pos (Or.inl (by omega)),rTake_bad]
 ·have e1:=rNum1 (b:=b) (by omega)
  generalize hk:(b.getD 0 0).toNat=k at *
  by_cases hkk:k < 1∨40 < k
  ·right
   refine ⟨?_,by omega⟩
   unfold rKey
   rw [e1]
   simp only []
   rw [if_pos hkk,rTake_bad]
  ·have ek:rKey (b,false)=rTake k (b.drop 1,false):=by unfold rKey; rw [e1]; simp only []; rw [if_neg hkk]
   by_cases hs:(b.drop 1).length < k
   ·right
    rw [List.length_drop] at hs
    refine ⟨by rw [ek,rTake_short (by rw [List.length_drop]; omega)],by omega⟩
   ·left
    rw [List.length_drop] at hs
    refine ⟨by omega,by omega,by omega,?_⟩
    rw [ek,rTake_ok (by rw [List.length_drop]; omega),List.drop_drop]
/-- the reader at one change -/
theorem chg_step (b:List UInt8):(∃ c n,1≤b.length∧rC1 b=some (c,n)∧fineC c∧rChg (b,false)=some (c,b.drop n,false))∨(rChg (b,false)=none∧(b.length < 1∨∀ c n,rC1 b=some (c,n)→¬ fineC c)):=by
 by_cases h1:b.length < 1
 ·right
  have e1:rNum 1 (b,false)=(0,b,true):=by unfold rNum; rw [rTake_short (by omega)]; rfl
  refine ⟨?_,Or.inl h1⟩
  unfold rChg
  simp only [e1,rKey_bad,rVal_bad,if_true]
 ·have e1:=rNum1 (b:=b) (by omega)
  by_cases hz:b.getD 0 0=0
  ·have hz2:(b.getD 0 0).toNat=0:=by rw [hz]; rfl
   rw [hz2] at e1
   rcases kv_step (b.drop 1) with ⟨e,n,ho,hf,hk,hv⟩ | ⟨hbad,hno⟩
   ·left
    refine ⟨⟨e.1,e.2,false⟩,1+n,by omega,?_,hf,?_⟩
    ·unfold rC1; rw [if_pos hz,ho]; rfl
    ·unfold rChg
     simp only [e1,if_true]
     rw [hv]
     simp only [hk,Bool.false_eq_true,if_false,List.drop_drop]
   ·right
    refine ⟨?_,Or.inr (fun c n h hf=>?_)⟩
    ·unfold rChg
     simp only [e1,hbad,if_true]
    ·unfold rC1 at h
     rw [if_pos hz] at h
     cases ho:rOne (b.drop 1) with
     | none=>rw [ho] at h; cases h
     | some p=>
       obtain ⟨e,m⟩:=p
       rw [ho] at h
       simp only [Option.map_some,Option.some.injEq,Prod.mk.injEq] at h
       obtain ⟨rfl,rfl⟩:=h
       exact hno e m ho hf
  ·have hz2:(b.getD 0 0).toNat ≠ 0:=fun h=>hz (UInt8.toNat_inj.1 h)
   by_cases ht:(b.getD 0 0).toNat=1
   ·have hg:(b.drop 1).getD 0 0=b.getD 1 0:=by simp [List.getD_eq_getElem?_getD]
    have hks:=key_step (b.drop 1)
    rw [hg,List.length_drop] at hks
    rcases hks with ⟨k1,k2,k3,k4⟩ | ⟨k1,k2⟩
    ·left
     refine ⟨⟨(b.drop 2).take (b.getD 1 0).toNat,[],true⟩,2+(b.getD 1 0).toNat,by omega,?_,⟨?_,?_,?_⟩,?_⟩
     ·unfold rC1; rw [if_neg hz,if_neg (by omega)]
     ·simp only [List.length_take,List.length_drop]; omega
     ·simp only [List.length_take,List.length_drop]; omega
     ·simp
     ·unfold rChg
      simp only [e1,ht,k4,if_true,Bool.false_eq_true,if_false,List.drop_drop]
      rw [if_neg (by decide)]
      rw [show 1+(1+(b.getD 1 0).toNat)=2+(b.getD 1 0).toNat by omega]
    ·right
     refine ⟨?_,Or.inr (fun c n h hf=>?_)⟩
     ·unfold rChg
      simp only [e1,ht,k1,if_true]
      rw [if_neg (by decide)]
     ·unfold rC1 at h
      rw [if_neg hz] at h
      split at h
      ·cases h
      ·simp only [Option.some.injEq,Prod.mk.injEq] at h
       obtain ⟨rfl,rfl⟩:=h
       unfold fineC at hf
       simp only [List.length_take,List.length_drop] at hf
       omega
   ·right
    refine ⟨?_,Or.inr (fun c n h hf=>?_)⟩
    ·unfold rChg
     simp only [e1]
     rw [if_neg hz2,if_neg ht]
    ·unfold rC1 at h
     rw [if_neg hz,if_pos (by omega)] at h
     cases h
theorem chgSize_pos (c:Chg):2≤chgSize c:=by unfold chgSize; omega
theorem rChs_nil:∀ fuel,rChs fuel []=some []:=by
 intro fuel
 cases fuel with
 | zero=>rfl
 | succ n=>rw [rChs_one,if_pos (by simp)]
theorem chs_of_chgs:∀ (n fuel:Nat) (b:List UInt8) (cs:List Chg),b.length≤fuel→rChgs n (b,false)=some (cs,[],false)→rChs fuel b=some cs:=by
 intro n
 induction n with
 | zero=>
   intro fuel b cs hf h
   simp only [rChgs,Option.some.injEq,Prod.mk.injEq] at h
   obtain ⟨rfl,rfl,_⟩:=h
   exact rChs_nil _
 | succ n ih=>
   intro fuel b cs hf h
   rw [rChgs_front] at h
   rcases chg_step b with ⟨c,m,h1,h2,h3,h4⟩ | ⟨h4,_⟩
   ·rw [h4] at h
    simp only [] at h
    obtain ⟨hm,hmb⟩:=rC1_some h2 h1
    have hp:=chgSize_pos c
    split at h
    ·cases h
    ·rename_i l s2 hl
     simp only [Option.some.injEq,Prod.mk.injEq] at h
     obtain ⟨rfl,rfl⟩:=h
     cases fuel with
     | zero=>omega
     | succ f=>
       rw [rChs_one,if_neg (by omega),h2]
       simp only []
       rw [ih f _ _ (by rw [List.length_drop]; omega) hl]
       rfl
   ·rw [h4] at h; cases h
theorem chgs_of_chs:∀ (fuel:Nat) (b:List UInt8) (cs:List Chg),b.length≤fuel→rChs fuel b=some cs→(∀ c ∈ cs,fineC c)→rChgs cs.length (b,false)=some (cs,[],false):=by
 intro fuel
 induction fuel with
 | zero=>
   intro b cs hf h _
   obtain rfl:b=[]:=List.eq_nil_of_length_eq_zero (by omega)
   simp only [rChs,Option.some.injEq] at h
   subst h
   rfl
 | succ f ih=>
   intro b cs hf h hfine
   rw [rChs_one] at h
   by_cases h1:b.length < 1
   ·obtain rfl:b=[]:=List.eq_nil_of_length_eq_zero (by omega)
    rw [if_pos h1] at h
    simp only [Option.some.injEq] at h
    subst h
    rfl
   ·rw [if_neg h1] at h
    cases h2:rC1 b with
    | none=>rw [h2] at h; cases h
    | some p=>
      obtain ⟨c,m⟩:=p
      rw [h2] at h
      simp only [] at h
      obtain ⟨hm,hmb⟩:=rC1_some h2 (by omega)
      have hp:=chgSize_pos c
      cases hr:rChs f (b.drop m) with
      | none=>rw [hr] at h; cases h
      | some l=>
        rw [hr] at h
        simp only [Option.map_some,Option.some.injEq] at h
        subst h
        have hi:=ih (b.drop m) l (by rw [List.length_drop]; omega) hr (fun c hc=>hfine c (List.mem_cons_of_mem _ hc))
        rcases chg_step b with ⟨c2,m2,_,q2,q3,q4⟩ | ⟨_,q⟩
        ·rw [h2] at q2
         simp only [Option.some.injEq,Prod.mk.injEq] at q2
         obtain ⟨rfl,rfl⟩:=q2
         rw [List.length_cons,rChgs_front,q4]
         simp only []
         rw [hi]
        ·rcases q with q | q
         ·omega
         ·exact absurd (hfine c List.mem_cons_self) (q c m h2)
theorem chs_size:∀ (fuel:Nat) (b:List UInt8) (cs:List Chg),b.length≤fuel→rChs fuel b=some cs→(cs.map chgSize).sum=b.length:=by
 intro fuel
 induction fuel with
 | zero=>
   intro b cs hf h
   simp only [rChs,Option.some.injEq] at h
   subst h
   simp
   omega
 | succ f ih=>
   intro b cs hf h
   rw [rChs_one] at h
   by_cases h1:b.length < 1
   ·rw [if_pos h1] at h
    simp only [Option.some.injEq] at h
    subst h
    simp
    omega
   ·rw [if_neg h1] at h
    cases h2:rC1 b with
    | none=>rw [h2] at h; cases h
    | some p=>
      obtain ⟨c,m⟩:=p
      rw [h2] at h
      simp only [] at h
      obtain ⟨hm,hmb⟩:=rC1_some h2 (by omega)
      have hp:=chgSize_pos c
      cases hr:rChs f (b.drop m) with
      | none=>rw [hr] at h; cases h
      | some l=>
        rw [hr] at h
        simp only [Option.map_some,Option.some.injEq] at h
        subst h
        have hi:=ih (b.drop m) l (by rw [List.length_drop]; omega) hr
        rw [List.length_drop] at hi
        simp only [List.map_cons,List.sum_cons]
        omega
/-- readCommit, by the reference's changes -/
theorem rComm_iff (code:List UInt8) (cs:List Chg):rComm code=some cs ↔ (rChanges code=some cs∧validP cs=0∧1≤cs.length∧cs.length≤64):=by
 constructor
 ·intro h
  have hok:=rComm_ok h
  unfold rComm at h
  split at h
  ·cases h
  ·rename_i hc
   have h1:1≤code.length:=by
    cases code with
    | nil=>exact absurd (show 65536 < ([]:List UInt8).length∨(rNum 1 ([],false)).1 < 1∨64 < (rNum 1 ([],false)).1 from Or.inr (Or.inl (by decide))) hc
    | cons x r=>simp
   have e1:=rNum1 h1
   rw [e1] at h hc
   split at h
   ·cases h
   ·rename_i l s hE
    split at h
    ·rename_i hd
     simp only [Option.some.injEq] at h
     subst h
     obtain ⟨s1,s2⟩:=s
     obtain ⟨rfl,rfl,hv⟩:=hd
     have hl:=rChgs_len _ hE
     simp only [] at hl hE
     have hch:=chs_of_chgs _ code.length _ _ (by rw [List.length_drop]; omega) hE
     refine ⟨?_,hv,hok.2.1,hok.2.2.1⟩
     unfold rChanges
     rw [if_neg (by omega),hch]
     simp only []
     rw [if_pos hl]
    ·cases h
 ·rintro ⟨h,hv,hl1,hl2⟩
  have hval:=(valid_zero cs).1 hv
  unfold rChanges at h
  split at h
  ·cases h
  ·rename_i h1
   split at h
   ·cases h
   ·rename_i l hE
    split at h
    ·rename_i hlen
     simp only [Option.some.injEq] at h
     subst h
     have hsz:=chs_size _ _ _ (by rw [List.length_drop]; omega) hE
     rw [List.length_drop] at hsz
     have hcs:=hval.size
     unfold codeSize at hcs
     have hg:=chgs_of_chs _ _ _ (by rw [List.length_drop]; omega) hE (fun c hc=>⟨(hval.key c hc).1,(hval.key c hc).2,hval.val c hc⟩)
     have e1:=rNum1 (b:=code) (by omega)
     unfold rComm
     rw [e1]
     simp only []
     rw [if_neg (by omega),← hlen,hg]
     simp only []
     rw [if_pos ⟨trivial,trivial,hv⟩]
    ·cases h
theorem rcheck_zero {P:PEnts} {cs:List Chg} (hP:(keysOf P).Nodup):rCheckN P cs=0 ↔ (1≤cs.length∧cs.length≤64∧validP cs=0∧pPoss P (pWt P) cs=true):=by
 by_cases h1:cs.length=0∨64 < cs.length
 ·rw [rck_many h1]
  exact ⟨fun h=>absurd h (by decide),fun h=>by omega⟩
 by_cases h2:validP cs=0
 ·have hval:=(valid_zero cs).1 h2
  cases h3:(cs.any fun c=>c.drop && !(pFind P c.key).isSome) with
  | true=>
    rw [rck_none h1 h2 h3]
    refine ⟨fun h=>absurd h (by decide),fun h=>?_⟩
    have:=h.2.2.2
    unfold pPoss at this
    rw [h3] at this
    simp at this
  | false=>
    rw [rck_rest h1 h2 h3,(pChgs_wt P cs hP hval.apart).2]
    unfold pPoss
    rw [h3]
    by_cases h4:131072 < pWAfter P (pWt P) cs
    ·rw [if_pos h4]
     refine ⟨fun h=>absurd h (by decide),fun h=>?_⟩
     have:=h.2.2.2
     simp at this
     omega
    ·rw [if_neg h4]
     refine ⟨fun _=>⟨by omega,by omega,h2,?_⟩,fun _=>rfl⟩
     simp
     omega
 ·rw [rck_valid h1 rfl h2]
  exact ⟨fun h=>absurd h h2,fun h=>absurd h.2.2.1 h2⟩
/-- a commit that is read: the reference's two questions, and the program's two -/
theorem commit_same {code:List UInt8} {P:PEnts} (hP:(keysOf P).Nodup) (cs:List Chg):(rComm code=some cs∧pPoss P (pWt P) cs=true) ↔ (rChanges code=some cs∧rCheckN P cs=0):=by
 rw [rComm_iff,rcheck_zero hP]
 constructor
 ·rintro ⟨⟨a,b,c,d⟩,e⟩; exact ⟨a,c,d,b,e⟩
 ·rintro ⟨a,c,d,b,e⟩; exact ⟨⟨a,b,c,d⟩,e⟩
/-! ### states -/
theorem rStGo_pre:∀ (n:Nat) (b:List UInt8) (P Q:PEnts),rStGo n b P=some Q→∃ R,Q=P ++ R:=by
 intro n
 induction n with
 | zero=>intro b P Q h; simp only [rStGo,Option.some.injEq] at h; exact ⟨[],by rw [h]; simp⟩
 | succ n ih=>
   intro b P Q h
   rw [rStGo] at h
   split at h
   ·simp only [Option.some.injEq] at h; exact ⟨[],by rw [h]; simp⟩
   ·split at h
    ·cases h
    ·rename_i e m _
     split at h
     ·obtain ⟨R,hR⟩:=ih _ _ _ h
      exact ⟨e :: R,by rw [hR]; simp⟩
     ·cases h
theorem okE_ok {P:PEnts} {e:List UInt8 × List UInt8} {last:List UInt8} (hl:last=lastKey P P.length) (hf:fineE e):okE P e=!leB e.1 last:=by
 unfold okE
 unfold fineE at hf
 have d1:decide (e.1.length < 1)=false:=decide_eq_false (by omega)
 have d2:decide (40 < e.1.length)=false:=decide_eq_false (by omega)
 have d3:decide (4096 < e.2.length)=false:=decide_eq_false (by omega)
 rw [d1,d2,d3]
 simp only [Bool.not_false,Bool.true_and]
 rcases List.eq_nil_or_concat P with rfl | ⟨L,x,rfl⟩
 ·have:leB e.1 last=false:=by
   cases hb:leB e.1 last with
   | false=>rfl
   | true=>
     rw [leB_iff] at hb
     rw [hl] at hb
     simp only [List.length_nil,lastKey] at hb
     cases hk:e.1 with
     | nil=>rw [hk] at hf; simp at hf
     | cons a r=>rw [hk] at hb; simp [bytesBefore] at hb
  rw [this]; rfl
 ·have e0:lastKey (L ++ [x]) (L ++ [x]).length=x.1:=by simp [lastKey]
  rw [List.concat_eq_append] at *
  rw [e0] at hl
  subst hl
  simp only [List.getLast?_append,List.getLast?_singleton,Option.some_or]
  rw [bl_eq]
  cases hb:leB e.1 x.1 with
  | true=>
    rw [leB_iff] at hb
    cases hc:bytesBefore x.1 e.1 with
    | false=>rfl
    | true=>
      rcases hb with hb | hb
      ·have:=blt_trans _ _ _ hb hc; rw [blt_irrefl] at this; cases this
      ·rw [hb,blt_irrefl] at hc; cases hc
  | false=>rw [leB_not _ _ hb]; rfl
theorem okE_bad {P:PEnts} {e:List UInt8 × List UInt8} (hf:¬ fineE e):okE P e=false:=by
 unfold okE fineE at *
 by_cases h1:e.1.length < 1
 ·simp [h1]
 by_cases h2:40 < e.1.length
 ·simp [h2]
 have h3:4096 < e.2.length:=by omega
 simp [h3]
/-- after j entries: how the reader and the reference stand -/
structure EntsRel (b:List UInt8) (j:Nat) (P:PEnts) (last:List UInt8) (wt:Int) (i:Nat):Prop where
 prog:rEnts j (b,false)=some (P,last,wt,b.drop i,false)
 len:P.length=j
 last:last=lastKey P P.length
 wt:wt=pWt P
 go:∃ f,rStGo b.length b []=rStGo f (b.drop i) P∧(b.drop i).length≤f
theorem EntsRel.start (b:List UInt8):EntsRel b 0 [] [] 0 0:=⟨rfl,rfl,rfl,rfl,⟨b.length,by simp,by simp⟩⟩
theorem EntsRel.step {b:List UInt8} {j:Nat} {P:PEnts} {last:List UInt8} {wt:Int} {i:Nat} (h:EntsRel b j P last wt i) :
 (∃ e i',EntsRel b (j+1) (P ++ [e]) e.1 (wt+eWt e) i')∨(rEnts (j+1) (b,false)=none∧((b.drop i).length < 1∨rStGo b.length b []=none)):=by
 obtain ⟨h1,h2,h3,h4,f,h5,h6⟩:=h
 have hst:rEnts (j+1) (b,false)=if (rVal (rKey (b.drop i,false)).2).2.2=true∨leB (rKey (b.drop i,false)).1 last=true then none else some (pPut P ((rKey (b.drop i,false)).1,(rVal (rKey (b.drop i,false)).2).1),(rKey (b.drop i,false)).1,wt+(3+((rKey (b.drop i,false)).1.length:Int)+(rVal (rKey (b.drop i,false)).2).1.length),(rVal (rKey (b.drop i,false)).2).2):=by
  rw [rEnts,h1]
 have hord:Ordered P:=(rEnts_ord _ h1).1
 by_cases hb1:(b.drop i).length < 1
 ·right
  refine ⟨?_,Or.inl hb1⟩
  rcases kv_step (b.drop i) with ⟨e,n,ho,hf,_,_⟩ | ⟨hbad,_⟩
  ·unfold rOne at ho; rw [if_pos hb1] at ho; cases ho
  ·rw [hst,if_pos (Or.inl hbad)]
 ·cases f with
  | zero=>omega
  | succ f=>
    rw [rStGo,if_neg hb1] at h5
    rcases kv_step (b.drop i) with ⟨e,n,ho,hf,hk,hv⟩ | ⟨hbad,hno⟩
    ·rw [ho] at h5
     simp only [] at h5
     rw [okE_ok h3 hf] at h5
     rw [hv] at hst
     rw [hk] at hst
     simp only [Bool.false_eq_true,false_or] at hst
     cases hle:leB e.1 last with
     | true=>
       right
       rw [hle] at h5 hst
       refine ⟨by rw [hst,if_pos rfl],Or.inr (by rw [h5]; rfl)⟩
     | false=>
       left
       rw [hle] at h5 hst
       simp only [Bool.not_false,if_true,Bool.false_eq_true,if_false] at h5 hst
       have hn:=rOne_some ho
       have hput:pPut P (e.1,e.2)=P ++ [e]:=by
        refine pPut_last (x:=e) (fun y hy=>?_)
        have hbf:=leB_not _ _ hle
        have hle2:=(rEnts_ok _ h1).2.2.1 y.1 (List.mem_map_of_mem hy)
        rw [leB_iff] at hle2
        rcases hle2 with q | q
        ·exact blt_trans _ _ _ q hbf
        ·rw [q]; exact hbf
       rw [hput,List.drop_drop] at hst
       rw [List.drop_drop] at h5
       refine ⟨e,i+n,?_,by simp [h2],by simp [lastKey],?_,⟨f,h5,?_⟩⟩
       ·rw [hst]; unfold eWt; rfl
       ·rw [pWt_snoc,h4]; unfold eWt; omega
       ·rw [List.length_drop] at h6 ⊢
        omega
    ·right
     refine ⟨by rw [hst,if_pos (Or.inl hbad)],Or.inr ?_⟩
     rw [h5]
     cases ho:rOne (b.drop i) with
     | none=>rfl
     | some p=>
       obtain ⟨e,n⟩:=p
       simp only []
       rw [okE_bad (hno e n ho)]
       rfl
theorem rStGo_done {n:Nat} {b:List UInt8} {P:PEnts} (h:rStGo n b P=some P) (hn:b.length≤n):b=[]:=by
 cases n with
 | zero=>exact List.eq_nil_of_length_eq_zero (by omega)
 | succ n=>
   rw [rStGo] at h
   by_cases h1:b.length < 1
   ·exact List.eq_nil_of_length_eq_zero (by omega)
   ·rw [if_neg h1] at h
    split at h
    ·cases h
    ·rename_i e m _
     split at h
     ·obtain ⟨R,hR⟩:=rStGo_pre _ _ _ _ h
      have:=congrArg List.length hR
      simp at this
     ·cases h
theorem rStGo_short {n:Nat} {b:List UInt8} {P:PEnts} (h:b.length < 1):rStGo n b P=some P:=by
 cases n with
 | zero=>rfl
 | succ n=>rw [rStGo,if_pos h]
/-- all entries: either the reader gets through so many, or it does not, and then nor does the reference with so many -/
theorem ents_rel (b:List UInt8):∀ n,(∃ P last wt i,EntsRel b n P last wt i)∨(rEnts n (b,false)=none∧∀ Q,rStGo b.length b []=some Q→Q.length < n):=by
 intro n
 induction n with
 | zero=>exact Or.inl ⟨_,_,_,_,EntsRel.start b⟩
 | succ n ih=>
   rcases ih with ⟨P,last,wt,i,h⟩ | ⟨h1,h2⟩
   ·rcases h.step with ⟨e,i',h'⟩ | ⟨h1,h2⟩
    ·exact Or.inl ⟨_,_,_,_,h'⟩
    ·refine Or.inr ⟨h1,fun Q hQ=>?_⟩
     rcases h2 with h2 | h2
     ·obtain ⟨f,h5,_⟩:=h.go
      rw [rStGo_short h2] at h5
      rw [h5] at hQ
      simp only [Option.some.injEq] at hQ
      rw [← hQ,h.len]; omega
     ·rw [h2] at hQ; cases hQ
   ·exact Or.inr ⟨rEnts_none (n+1) (by omega) h1,fun Q hQ=>by have:=h2 Q hQ; omega⟩
/-- readState, by the reference's state -/
theorem rState_same (code:List UInt8):rStateR code=(rState code).map (fun x=>(x.1,x.2.1)):=by
 unfold rStateR rState
 by_cases h12:code.length < 12
 ·rw [if_pos (Or.inl h12),if_pos]
  ·rfl
  ·left
   by_cases h8:code.length < 8
   ·have e:rNum 8 (code,false)=(0,code,true):=by unfold rNum; rw [rTake_short h8]; rfl
    rw [e,rNum_bad]
   ·have e:rNum 8 (code,false)=(numV (code.take 8),code.drop 8,false):=by unfold rNum; rw [rTake_ok (by omega)]
    rw [e]
    have e2:rNum 4 (code.drop 8,false)=(0,code.drop 8,true):=by unfold rNum; rw [rTake_short (by rw [List.length_drop]; omega)]; rfl
    rw [e2]
 ·have e:rNum 8 (code,false)=(numV (code.take 8),code.drop 8,false):=by unfold rNum; rw [rTake_ok (by omega)]
  have e2:rNum 4 (code.drop 8,false)=(numV ((code.drop 8).take 4),code.drop 12,false):=by
   unfold rNum; rw [rTake_ok (by rw [List.length_drop]; omega),List.drop_drop]
  rw [e]
  simp only [e2]
  generalize numV (code.take 8)=gen
  generalize numV ((code.drop 8).take 4)=many
  by_cases hg:gen < 1∨4611686018427387904 < gen
  ·rw [if_pos (Or.inr hg),if_pos (Or.inr hg)]; rfl
  ·rw [if_neg (fun h=>h.elim h12 hg),if_neg (fun h=>h.elim (by simp) hg)]
   have hfu:rStGo code.length (code.drop 12) []=rStGo (code.drop 12).length (code.drop 12) []:=by
    have key:∀ (m n:Nat) (b:List UInt8) (P:PEnts),b.length≤m→b.length≤n→rStGo m b P=rStGo n b P:=by
     intro m
     induction m with
     | zero=>intro n b P h1 h2; rw [rStGo_short (by omega),rStGo_short (by omega)]
     | succ m ih=>
       intro n b P h1 h2
       by_cases hb:b.length < 1
       ·rw [rStGo_short hb,rStGo_short hb]
       ·cases n with
        | zero=>omega
        | succ n=>
          rw [rStGo,rStGo,if_neg hb,if_neg hb]
          cases ho:rOne b with
          | none=>rfl
          | some p=>
            obtain ⟨e,k⟩:=p
            have hk:=rOne_some ho
            simp only []
            rw [ih n _ _ (by rw [List.length_drop]; omega) (by rw [List.length_drop]; omega)]
    exact key _ _ _ _ (by rw [List.length_drop]; omega) (Nat.le_refl _)
   rw [hfu]
   generalize code.drop 12=b
   rcases ents_rel b many with ⟨P,last,wt,i,h⟩ | ⟨h1,h2⟩
   ·rw [h.prog]
    simp only []
    obtain ⟨f,h5,h6⟩:=h.go
    rw [h5]
    by_cases hd:b.drop i=[]
    ·rw [hd,rStGo_short (by simp)]
     simp only [true_and]
     unfold rStEnd
     rw [h.wt]
     by_cases hw:pWt P≤131072
     ·rw [if_pos ⟨h.len,hw⟩,if_pos hw]; rfl
     ·rw [if_neg (fun q=>hw q.2),if_neg hw]; rfl
    ·rw [if_neg (fun q=>hd q.2.1)]
     cases hr:rStGo f (b.drop i) P with
     | none=>rfl
     | some Q=>
       simp only []
       unfold rStEnd
       rw [if_neg]
       ·rfl
       ·rintro ⟨hq,_⟩
        obtain ⟨R,hR⟩:=rStGo_pre _ _ _ _ hr
        have hl:=congrArg List.length hR
        rw [List.length_append,h.len,hq] at hl
        obtain rfl:R=[]:=List.eq_nil_of_length_eq_zero (by omega)
        rw [List.append_nil] at hR
        subst hR
        exact hd (rStGo_done hr h6)
   ·rw [h1]
    cases hr:rStGo b.length b [] with
    | none=>rfl
    | some Q=>
      simp only []
      unfold rStEnd
      rw [if_neg (fun q=>by have:=h2 Q hr; omega)]
      rfl
/-! ### files -/
/-- how far the reading of a file is -/
structure RdRel (file:List UInt8) (c:Cont):Prop where
 go:∃ n,readF file=some (readGo file n c)∧file.length < n+c.ed
 good:c.Good file
theorem RdRel.start {file code:List UInt8} {s:Int} {gen:Nat} {P:PEnts} (hn:nextB file 0=some (code,s)) (hr:rStateR code=some (gen,P)):RdRel file ⟨gen,P,pWt P,s,12+code.length⟩:=by
 rw [rState_same] at hr
 obtain ⟨⟨g0,P0,w0⟩,h1,h2⟩:=Option.map_eq_some_iff.1 hr
 simp only [Prod.mk.injEq] at h2
 obtain ⟨rfl,rfl⟩:=h2
 have h3:=(rState_ok h1).2.1
 subst h3
 have hg:=Good.start hn h1
 refine ⟨⟨file.length,?_,?_⟩,hg⟩
 ·unfold readF; rw [hn]; simp only []; rw [h1]
 ·have:=hg.ed; simp only [] at this ⊢; omega
theorem readF_no {file code:List UInt8} {s:Int} (hn:nextB file 0=some (code,s)) (hr:rStateR code=none):readF file=none:=by
 rw [rState_same] at hr
 have h1:=Option.map_eq_none_iff.1 hr
 unfold readF; rw [hn]; simp only []; rw [h1]
theorem readF_none0 {file:List UInt8} (hn:nextB file 0=none):readF file=none:=by unfold readF; rw [hn]
theorem RdRel.step {file:List UInt8} {c:Cont} (h:RdRel file c) :
 (nextB (file.drop c.ed) c.sum=none→readF file=some c)∧∀ code s,nextB (file.drop c.ed) c.sum=some (code,s) →
  (rChanges code=none→readF file=some c)∧∀ cs,rChanges code=some cs→(rCheckN c.ents cs ≠ 0→readF file=some c) ∧
   (rCheckN c.ents cs=0→RdRel file ⟨c.gen,pChgs c.ents cs,pWAfter c.ents c.wt cs,s,c.ed+12+code.length⟩):=by
 obtain ⟨⟨n,h1,h2⟩,hg⟩:=h
 have he:=hg.ed
 cases n with
 | zero=>omega
 | succ n=>
   refine ⟨fun hn=>by rw [h1,readGo_stop hn],fun code s hn=>?_⟩
   have hwt:=hg.wt
   have hs:=fun cs=>commit_same (code:=code) hg.apart cs
   rw [← hwt] at hs
   have stop:(∀ cs,¬ (rComm code=some cs∧pPoss c.ents c.wt cs=true))→readF file=some c:=fun hno=>by
    rw [h1]
    cases hc:rComm code with
    | none=>rw [readGo_stop2 hn hc]
    | some cs=>
      cases hp:pPoss c.ents c.wt cs with
      | false=>rw [readGo_stop3 hn hc hp]
      | true=>exact absurd ⟨hc,hp⟩ (hno cs)
   refine ⟨fun hr=>stop (fun cs hc=>?_),fun cs hr=>⟨fun hk=>stop (fun cs' hc=>?_),fun hk=>?_⟩⟩
   ·have:=((hs cs).1 hc).1
    rw [hr] at this; cases this
   ·have h3:=(hs cs').1 hc
    rw [hr] at h3
    obtain ⟨h4,h5⟩:=h3
    cases h4
    exact hk h5
   ·obtain ⟨hc,hp⟩:=(hs cs).2 ⟨hr,hk⟩
    refine ⟨⟨n,?_,?_⟩,Good.next hg hn hc hp⟩
    ·rw [h1,readGo_step hn hc hp]
    ·have:=(nextB_some hn).1
     simp only [] at this ⊢
     omega
end Go.Proofs.YtondomklkapogaaGreatDoor
