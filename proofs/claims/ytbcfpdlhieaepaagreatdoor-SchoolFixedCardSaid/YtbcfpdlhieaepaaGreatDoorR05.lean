/- The walks of weigh, weightAfter, possible. -/
import Derived.Test.YtbcfpdlhieaepaaGreatDoorR04
import Derived.Deep.RegionHeld3
namespace Go.Proofs.YtbcfpdlhieaepaaGreatDoor
section
open Go.RowKit SeedP Go.Maps
theorem Grown.map_drew {w:World} {mb:Nat} {p:Nat→Prop} {L:List Ent} (h:MapAt w mb p L):MapAt w.drew mb p L:=⟨h.own,h.val⟩
/-- weigh -/
theorem weigh_c (k:ByteArray) (a:Option Addr) (n c:Nat) (w:World) (hk:k.size≤4294967296) (hn:n≤4294967296) :
 Calls Tryz.prog 133 #[.string k,.slice a n c] w fun e w'=>e=.returned (.int .i64 (3+k.size+n))∧w=w':=by
 go_enter Tryz.func133,Tryz.ntmps133
 go_wp2
 go_ret
 exact ⟨rfl,rfl⟩
/-- the change of the weight by one change -/
def chgWeight (L:List Ent) (c:Chg):Int:=(if c.drop then 0 else 3+(c.key.length:Int)+c.val.length) - match eFind L c.key with | some e=>3+(c.key.length:Int)+e.bytes.length | none=>0
def wAfter (L:List Ent) (wt:Int) (cs:List Chg):Int:=wt+(cs.map (chgWeight L)).sum
theorem wAfter_take (L:List Ent) (wt:Int) (cs:List Chg) (j:Nat) (h:j < cs.length):wAfter L wt (cs.take (j+1))=wAfter L wt (cs.take j)+chgWeight L cs[j]:=by
 unfold wAfter; rw [List.take_succ_eq_append_getElem h,List.map_append,List.sum_append]; simp; omega
theorem chgWeight_bd (L:List Ent) (c:Chg) (hk:c.key.length≤4294967296) (hv:c.val.length≤4294967296) (hL:∀ e ∈ L,e.bytes.length≤4294967296): -8589934600≤chgWeight L c∧chgWeight L c≤8589934600:=by
 unfold chgWeight
 cases hf:eFind L c.key with
 | none=>simp only; split <;> omega
 | some e=>have:=hL e (eFind_mem hf).1; simp only; split <;> omega
set_option maxRecDepth 100000 in
/-- weightAfter -/
theorem weightAfter_c (cb co mb:Nat) (wt:Int) (v:Value) (cs:List Chg) (L:List Ent) (p:Nat→Prop) (w:World) (hm:w.cell? ⟨cb,co+1,none⟩=some (.map (some mb))) (hw:w.cell? ⟨cb,co+2,none⟩=some (.int .i64 wt))
 (hM:MapAt w mb p L) (hv:ChgsAt w w.heap.size v cs) (hn:cs.length≤1000000) (hb:∀ c ∈ cs,c.key.length≤4294967296∧c.val.length≤4294967296) (hL:∀ e ∈ L,e.bytes.length≤4294967296) (hw0: -4294967296≤wt) (hw1:wt≤4294967296) :
 Calls Tryz.prog 97 #[.pointer (some ⟨cb,co,none⟩),v] w fun e w'=>e=.returned (.int .i64 (wAfter L wt cs))∧Below w.heap.size w w':=by
 obtain ⟨a,cap,rfl,hcap,hcm,hc⟩:=hv
 have HC:=Lib.hid hc
 have HB:=Lib.hid hb
 have HL:=Lib.hid hL
 have HM:=Lib.hid hM
 clear hc hb hL hM
 go_enter Tryz.func97,Tryz.ntmps97
 go_wp2
 go_loopw [5,16] (fun z i wr=>∃ j:Nat,j≤cs.length∧i=.int .i64 j∧z=.int .i64 (wAfter L wt (cs.take j))∧ -4294967296 - (j:Int) * 8589934600≤wAfter L wt (cs.take j)∧wAfter L wt (cs.take j)≤4294967296+(j:Int) * 8589934600∧Below w.heap.size w wr) (fun _ i _=>cs.length - (intOf i).toNat)
 case atStart=>exact ⟨0,Nat.zero_le _,rfl,by simp [wAfter],by simp [wAfter]; omega,by simp [wAfter]; omega,Below.refl _ _⟩
 case round=>
  obtain ⟨j,hj,rfl,rfl,z0,z1,hB⟩:=hrel
  by_cases hlt:j < cs.length
  ·rcases HC.out with h | ⟨g,off,rfl,hg,hch⟩
   ·rw [h] at hlt; simp at hlt
   obtain ⟨vv,h0,h1,h2,h3⟩:=(hch j hlt).below hB hg
   have b1:(j:Int) < cs.length:=by omega
   have hbd:=HB.out cs[j] (List.getElem_mem hlt)
   obtain ⟨hbd1,hbd2⟩:=hbd
   have HST:=Lib.hid (wAfter_take L wt cs j hlt)
   have hcw:=chgWeight_bd L cs[j] hbd1 hbd2 HL.out
   generalize cs[j]=c at *
   obtain ⟨key,val,drop⟩:=c
   simp only at h0 h1 h2 hbd1 hbd2 h3
   obtain ⟨av,capv,rfl,_,_,_⟩:=h3.open_
   clear hch h3
   have hks:(⟨key.toArray⟩:ByteArray).size=key.length:=by show key.toArray.size=_; simp
   have HBB:=hB.alloc hB.size (.cells #[.string ⟨key.toArray⟩,.slice av val.length capv,.bool drop] 73)
   have HM1:=HM.out.grown (S:=fun _=>False) (Grown.of_below HBB) (by simp) (by simp)
   have hm1:=keep_cell HBB hm
   have hbk:=Blk.new wr 73 [.string ⟨key.toArray⟩,.slice av val.length capv,.bool drop]
   clear hB
   go_upto_region 5 with (fail)
   clear h0 h1 h2
   have hbk:Blk (wr.alloc (.cells #[.string ⟨key.toArray⟩,.slice av val.length capv,.bool drop] 73)) wr.heap.size 73 [.string ⟨key.toArray⟩,.slice av val.length capv,.bool drop]:=hbk
   generalize wr.alloc (.cells #[.string ⟨key.toArray⟩,.slice av val.length capv,.bool drop] 73)=w1 at *
   generalize wr.heap.size=gb at *
   have c0:=hbk.cell 0 (by simp)
   have c1:=hbk.cell 1 (by simp)
   have c2:=hbk.cell 2 (by simp)
   simp only [List.getD_cons_zero,List.getD_cons_succ] at c0 c1 c2
   have hlk:=(Grown.map_drew HM1).look key (by unfold maxLen; omega)
   have HBW:=Lib.hid HBB.drew
   have HCW:Hid (chgWeight L ⟨key,val,drop⟩=(if drop then 0 else 3+(key.length:Int)+val.length) - match eFind L key with | some e=>3+(key.length:Int)+e.bytes.length | none=>0):=Lib.hid rfl
   have HVV:=Lib.hid (fun e (he:eFind L key=some e)=>And.intro (HL.out e (eFind_mem he).1) (HM1.val e (eFind_mem he).1))
   clear HM1 HBB hbk
   generalize hf:eFind L key=fnd at *
   have HFD:=Lib.hid hf
   clear hf
   generalize wAfter L wt (cs.take j)=z at *
   cases fnd with
   | none=>
     simp only at hlk
     have HCW:Hid (chgWeight L ⟨key,val,drop⟩=(if drop then 0 else 3+(key.length:Int)+val.length) - 0):=HCW
     clear HVV HFD
     go_region_held3 (fun w'=>w'.cell? ⟨cb,co+1,none⟩=some (.map (some mb))∧w'.cell? ⟨gb,0,none⟩=some (.string ⟨key.toArray⟩))
      (exact ⟨hm1,c0⟩) (fail)
     clear hlk
     cases drop with
     | true=>
       have HCZ:=Lib.hid HCW.out
       simp only [if_true] at HCZ
       go_wp2
       go_roundw
       case rel=>exact ⟨j+1,by omega,by go_num,by rw [HST.out,HCZ.out]; congr 1 <;> omega,by rw [HST.out]; omega,by rw [HST.out]; omega,HBW.out⟩
       case measure=>simp [intOf]; omega
     | false=>
       have HCZ:=Lib.hid HCW.out
       simp only [Bool.false_eq_true,if_false] at HCZ
       go_wp2_with fail
       refine (weigh_c ⟨key.toArray⟩ av val.length capv _ (by omega) (by omega)).mono ?_
       rintro e3 w3 ⟨rfl,rfl⟩
       rw [hks]
       go_wp2
       go_roundw
       case rel=>exact ⟨j+1,by omega,by go_num,by rw [HST.out,HCZ.out]; congr 1 <;> omega,by rw [HST.out]; omega,by rw [HST.out]; omega,HBW.out⟩
       case measure=>simp [intOf]; omega
   | some e=>
     obtain ⟨heb,hev⟩:=HVV.out e rfl
     obtain ⟨ea,ec,hev2,_,_,_⟩:=hev.toB.open_
     simp only at hlk
     rw [hev2] at hlk
     have HCW:Hid (chgWeight L ⟨key,val,drop⟩=(if drop then 0 else 3+(key.length:Int)+val.length) - (3+(key.length:Int)+e.bytes.length)):=HCW
     clear HVV HFD hev hev2
     go_region_held3 (fun w'=>w'.cell? ⟨cb,co+1,none⟩=some (.map (some mb))∧w'.cell? ⟨gb,0,none⟩=some (.string ⟨key.toArray⟩))
      (exact ⟨hm1,c0⟩) (fail)
     clear hlk
     cases drop with
     | true=>
       have HCZ:=Lib.hid HCW.out
       simp only [if_true] at HCZ
       go_wp2_with fail
       refine (weigh_c ⟨key.toArray⟩ ea e.bytes.length ec _ (by omega) (by omega)).mono ?_
       rintro e2 w2 ⟨rfl,rfl⟩
       rw [hks]
       go_wp2
       go_roundw
       case rel=>exact ⟨j+1,by omega,by go_num,by rw [HST.out,HCZ.out]; congr 1 <;> omega,by rw [HST.out]; omega,by rw [HST.out]; omega,HBW.out⟩
       case measure=>simp [intOf]; omega
     | false=>
       have HCZ:=Lib.hid HCW.out
       simp only [Bool.false_eq_true,if_false] at HCZ
       go_wp2_with fail
       refine (weigh_c ⟨key.toArray⟩ ea e.bytes.length ec _ (by omega) (by omega)).mono ?_
       rintro e2 w2 ⟨rfl,rfl⟩
       rw [hks]
       go_wp2_with fail
       refine (weigh_c ⟨key.toArray⟩ av val.length capv _ (by omega) (by omega)).mono ?_
       rintro e3 w3 ⟨rfl,rfl⟩
       rw [hks]
       go_wp2
       go_roundw
       case rel=>exact ⟨j+1,by omega,by go_num,by rw [HST.out,HCZ.out]; congr 1 <;> omega,by rw [HST.out]; omega,by rw [HST.out]; omega,HBW.out⟩
       case measure=>simp [intOf]; omega
  ·obtain rfl:j=cs.length:=by omega
   have hcs:wAfter L wt (cs.take cs.length)=wAfter L wt cs:=by rw [List.take_of_length_le (Nat.le_refl _)]
   rw [hcs] at z0 z1 ⊢
   clear hcs
   go_wp2
   go_ret
   exact ⟨rfl,hB⟩
/-- can the changes be made -/
def possP (L:List Ent) (wt:Int) (cs:List Chg):Bool:=!(cs.any fun c=>c.drop && !(eFind L c.key).isSome) && decide (wAfter L wt cs≤131072)
theorem ChgsAt.up {w w':World} {v:Value} {cs:List Chg} (h:ChgsAt w w.heap.size v cs) (hb:Below w.heap.size w w'):ChgsAt w' w'.heap.size v cs:=by
 obtain ⟨a,cap,e,h1,h2,h3⟩:=h.below hb
 refine ⟨a,cap,e,h1,h2,?_⟩
 rcases h3 with h3 | ⟨g,off,e2,hg,h4⟩
 ·exact Or.inl h3
 ·refine Or.inr ⟨g,off,e2,Nat.lt_of_lt_of_le hg hb.size,fun j hj=>?_⟩
  obtain ⟨vv,q0,q1,q2,q3⟩:=h4 j hj
  exact ⟨vv,q0,q1,q2,q3.mono hb.size⟩
set_option maxRecDepth 100000 in
/-- possible -/
theorem possible_c (cb co mb:Nat) (wt:Int) (v:Value) (cs:List Chg) (L:List Ent) (p:Nat→Prop) (w:World) (hm:w.cell? ⟨cb,co+1,none⟩=some (.map (some mb))) (hw:w.cell? ⟨cb,co+2,none⟩=some (.int .i64 wt))
 (hM:MapAt w mb p L) (hv:ChgsAt w w.heap.size v cs) (hn:cs.length≤1000000) (hb:∀ c ∈ cs,c.key.length≤4294967296∧c.val.length≤4294967296) (hL:∀ e ∈ L,e.bytes.length≤4294967296) (hw0: -4294967296≤wt) (hw1:wt≤4294967296) :
 Calls Tryz.prog 92 #[.pointer (some ⟨cb,co,none⟩),v] w fun e w'=>e=.returned (.bool (possP L wt cs))∧Below w.heap.size w w':=by
 have HV:=Lib.hid hv
 obtain ⟨a,cap,rfl,hcap,hcm,hc⟩:=hv
 have HC:=Lib.hid hc
 have HB:=Lib.hid hb
 have HL:=Lib.hid hL
 have HM:=Lib.hid hM
 clear hc hb hL hM
 go_enter Tryz.func92,Tryz.ntmps92
 go_wp2
 go_loopw [11] (fun i wr=>∃ j:Nat,j≤cs.length∧i=.int .i64 j∧(∀ q (h:q < j) (h2:q < cs.length),(cs[q].drop && !(eFind L cs[q].key).isSome)=false)∧Below w.heap.size w wr) (fun i _=>cs.length - (intOf i).toNat)
 case atStart=>exact ⟨0,Nat.zero_le _,rfl,fun q hq=>by omega,Below.refl _ _⟩
 case round=>
  obtain ⟨j,hj,rfl,hok,hB⟩:=hrel
  have HOK:=Lib.hid hok
  clear hok
  by_cases hlt:j < cs.length
  ·rcases HC.out with h | ⟨g,off,rfl,hg,hch⟩
   ·rw [h] at hlt; simp at hlt
   obtain ⟨vv,h0,h1,h2,h3⟩:=(hch j hlt).below hB hg
   have b1:(j:Int) < cs.length:=by omega
   have hbd:=HB.out cs[j] (List.getElem_mem hlt)
   obtain ⟨hbd1,hbd2⟩:=hbd
   have HNO:=Lib.hid (show (cs[j].drop && !(eFind L cs[j].key).isSome)=true→possP L wt cs=false from fun h=>by
    unfold possP
    rw [show (cs.any fun c=>c.drop && !(eFind L c.key).isSome)=true from List.any_eq_true.2 ⟨cs[j],List.getElem_mem hlt,h⟩]; rfl)
   have HNX:=Lib.hid (show (cs[j].drop && !(eFind L cs[j].key).isSome)=false→∀ q (h:q < j+1) (h2:q < cs.length),(cs[q].drop && !(eFind L cs[q].key).isSome)=false from fun h q hq h2=>by
    by_cases e:q=j
    ·subst e; exact h
    ·exact HOK.out q (by omega) h2)
   generalize cs[j]=c at *
   obtain ⟨key,val,drop⟩:=c
   simp only at h0 h1 h2 hbd1 hbd2 h3
   obtain ⟨av,capv,rfl,_,_,_⟩:=h3.open_
   clear hch h3
   have hks:(⟨key.toArray⟩:ByteArray).size=key.length:=by show key.toArray.size=_; simp
   have HBB:=hB.alloc hB.size (.cells #[.string ⟨key.toArray⟩,.slice av val.length capv,.bool drop] 73)
   have HM1:=HM.out.grown (S:=fun _=>False) (Grown.of_below HBB) (by simp) (by simp)
   have hm1:=keep_cell HBB hm
   have hbk:=Blk.new wr 73 [.string ⟨key.toArray⟩,.slice av val.length capv,.bool drop]
   clear hB
   go_upto_region 4 with (fail)
   clear h0 h1 h2
   have hbk:Blk (wr.alloc (.cells #[.string ⟨key.toArray⟩,.slice av val.length capv,.bool drop] 73)) wr.heap.size 73 [.string ⟨key.toArray⟩,.slice av val.length capv,.bool drop]:=hbk
   generalize wr.alloc (.cells #[.string ⟨key.toArray⟩,.slice av val.length capv,.bool drop] 73)=w1 at *
   generalize wr.heap.size=gb at *
   have c0:=hbk.cell 0 (by simp)
   have c2:=hbk.cell 2 (by simp)
   simp only [List.getD_cons_zero,List.getD_cons_succ] at c0 c2
   have hlk:=(Grown.map_drew HM1).look key (by unfold maxLen; omega)
   have HBW:=Lib.hid HBB.drew
   have HNO:Hid ((drop && !(eFind L key).isSome)=true→possP L wt cs=false):=HNO
   have HNX:Hid ((drop && !(eFind L key).isSome)=false→∀ q (h:q < j+1) (h2:q < cs.length),(cs[q].drop && !(eFind L cs[q].key).isSome)=false):=HNX
   have HVV:=Lib.hid (fun e (he:eFind L key=some e)=>HM1.val e (eFind_mem he).1)
   clear HM1 HBB hbk
   generalize hf:eFind L key=fnd at *
   clear hf
   cases fnd with
   | none=>
     simp only at hlk
     clear HVV
     go_region_held3 (fun w'=>w'.cell? ⟨cb,co+1,none⟩=some (.map (some mb))∧w'.cell? ⟨gb,0,none⟩=some (.string ⟨key.toArray⟩))
      (exact ⟨hm1,c0⟩) (fail)
     clear hlk
     cases drop with
     | true=>
       have HR:=Lib.hid (HNO.out rfl)
       go_wp2
       go_ret
       exact ⟨ret_bool HR.out.symm,HBW.out⟩
     | false=>
       go_wp2
       go_roundw
       case rel=>exact ⟨j+1,by omega,by go_num,HNX.out rfl,HBW.out⟩
       case measure=>simp [intOf]; omega
   | some e=>
     have hev:=HVV.out e rfl
     obtain ⟨ea,ec,hev2,_,_,_⟩:=hev.toB.open_
     simp only at hlk
     rw [hev2] at hlk
     clear HVV hev hev2
     go_region_held3 (fun w'=>w'.cell? ⟨cb,co+1,none⟩=some (.map (some mb))∧w'.cell? ⟨gb,0,none⟩=some (.string ⟨key.toArray⟩))
      (exact ⟨hm1,c0⟩) (fail)
     clear hlk
     have HR:=Lib.hid (HNX.out (by cases drop <;> rfl))
     clear HNX HNO
     cases drop with
     | true=>
       go_wp2
       go_roundw
       case rel=>exact ⟨j+1,by omega,by go_num,HR.out,HBW.out⟩
       case measure=>simp [intOf]; omega
     | false=>
       go_wp2
       go_roundw
       case rel=>exact ⟨j+1,by omega,by go_num,HR.out,HBW.out⟩
       case measure=>simp [intOf]; omega
  ·obtain rfl:j=cs.length:=by omega
   have HPP:=Lib.hid (show possP L wt cs=decide (wAfter L wt cs≤131072) by
    unfold possP
    rw [show (cs.any fun c=>c.drop && !(eFind L c.key).isSome)=false from by
     rw [Bool.eq_false_iff]; intro h
     obtain ⟨c,hc,h2⟩:=List.any_eq_true.1 h
     obtain ⟨q,hq,rfl⟩:=List.mem_iff_getElem.1 hc
     rw [HOK.out q hq hq] at h2; cases h2]; rfl)
   have HW:=Lib.hid (weightAfter_c cb co mb wt _ cs L p wr (keep_cell hB hm) (keep_cell hB hw) (HM.out.grown (S:=fun _=>False) (Grown.of_below hB) (by simp) (by simp)) (HV.out.up hB) hn HB.out HL.out hw0 hw1)
   generalize wAfter L wt cs=z at *
   go_wp2_with fail
   refine HW.out.mono ?_
   rintro e w2 ⟨rfl,hb2⟩
   go_wp2
   go_ret
   exact ⟨ret_bool HPP.out.symm,hB.trans (hb2.mono hB.size)⟩
end
section
open Go.RowKit SeedP Go.Maps
/-- entries without memory: keys and values -/
abbrev PEnts:=List (List UInt8 × List UInt8)
def EB (L:List Ent):PEnts:=L.map fun e=>(e.key,e.bytes)
def pDel (P:PEnts) (k:List UInt8):PEnts:=P.filter (fun e=>!(e.1 == k))
def pIns (x:List UInt8 × List UInt8):PEnts→PEnts
 | []=>[x]
 | y :: r=>if (Lit.string x.1).before (Lit.string y.1) then x :: y :: r else y :: pIns x r
def pPut (P:PEnts) (x:List UInt8 × List UInt8):PEnts:=pIns x (pDel P x.1)
def pChg (P:PEnts) (c:Chg):PEnts:=if c.drop then pDel P c.key else pPut P (c.key,c.val)
def pChgs (P:PEnts) (cs:List Chg):PEnts:=cs.foldl pChg P
theorem EB_del (L:List Ent) (k:List UInt8):EB (eDel L k)=pDel (EB L) k:=by unfold EB eDel pDel; rw [List.filter_map]; rfl
theorem EB_ins (x:Ent) (L:List Ent):EB (eIns x L)=pIns (x.key,x.bytes) (EB L):=by
 induction L with
 | nil=>rfl
 | cons y r ih=>
   unfold EB at *
   simp only [eIns,List.map_cons,pIns]
   split
   ·rfl
   ·rw [List.map_cons,ih]
theorem EB_put (L:List Ent) (x:Ent):EB (ePut L x)=pPut (EB L) (x.key,x.bytes):=by unfold ePut pPut; rw [EB_ins,EB_del]
theorem EB_length (L:List Ent):(EB L).length=L.length:=by simp [EB]
theorem pIns_length (x:List UInt8 × List UInt8) (P:PEnts):(pIns x P).length=P.length+1:=by
 induction P with
 | nil=>rfl
 | cons y r ih=>simp only [pIns]; split <;> simp [ih]
theorem pDel_length (P:PEnts) (k:List UInt8):(pDel P k).length≤P.length:=List.length_filter_le _ _
theorem pChg_length (P:PEnts) (c:Chg):(pChg P c).length≤P.length+1:=by
 unfold pChg; split
 ·have:=pDel_length P c.key; omega
 ·unfold pPut; rw [pIns_length]; have:=pDel_length P (c.key,c.val).1; omega
theorem pChgs_take (P:PEnts) (cs:List Chg) (j:Nat) (h:j < cs.length):pChgs P (cs.take (j+1))=pChg (pChgs P (cs.take j)) cs[j]:=by
 unfold pChgs; rw [List.take_succ_eq_append_getElem h,List.foldl_append]; rfl
theorem MapAt.put {w:World} {mb:Nat} {p:Nat→Prop} {L:List Ent} (h:MapAt w mb p L) (x:Ent) (hk:x.key.length≤maxLen) (hn:L.length < maxLen) (hv:RdP w p x.val x.bytes) (hp:∀ g,p g→g ≠ mb) :
 ∃ w',(Instr.mapUpdate 98 (.map (some mb)) (strV x.key) x.val).run Tryz.prog w=.ok () w'∧MapAt w' mb p (ePut L x)∧Grown (·=mb) w w':=by
 obtain ⟨w',hr,ho,ht⟩:=h.own.store keyed Tryz.underlying98 hn (d:=.held x.val) (ps:=[]) (keyOf_str x.key hk) (show tokR x.val=_ from rfl)
 rw [toD_put] at ho
 have hg:=turned_grown ht
 refine ⟨w',hr,⟨own_exact ho,fun e he=>?_⟩,hg⟩
 rcases (ePut_mem L x e).1 he with rfl | ⟨h1,_⟩
 ·exact hv.grown hg hp
 ·exact (h.val e h1).grown hg hp
/-- 'delete(m, k)', in a region that draws its order -/
theorem step_del {w:World} {ops:Array Oper} {o:Oper} {a:Act} {K:Act→World→Prop} {Q:Exit→Act→World→Prop} {E:Prop} (hg:o.guard=none) (m x:Operand) (hop:o.op=Op.call { callee:=Callee.builtin Builtin.delete,args:=#[m,x],argTypes:=#[98,9] })
 {mb:Nat} {p:Nat→Prop} {L:List Ent} (h:MapAt w mb p L) (hm:a.eval m=.map (some mb)) (k:List UInt8) (hk:k.length≤maxLen) (hx:a.eval x=strV k) (hp:∀ g,p g→g ≠ mb)
 (hK:∀ w',MapAt w' mb p (eDel L k)→Grown (·=mb) w w'→K (a.put o.dst (.tuple #[])) w'):if Region.wanted o (yielded ops a.tmps)=true then Oper.wp Tryz.prog o a w K Q else E:=by
 rw [if_pos (by simp [Region.wanted,hg])]
 obtain ⟨w',hr,h4,h5⟩:=h.own.drop keyed Tryz.underlying98 (keyOf_str k hk) o.type
 rw [toD_del] at h4
 have hgr:=turned_grown h5
 unfold Oper.wp execOp
 simp only [hop,resolve,invoke,builtin,Sem.run_bind,Sem.run_pure,Result.andThen_ok,List.map_toArray,List.map_cons,List.map_nil,hm,hx,hr]
 exact hK w' ⟨own_exact h4,fun e he=>(h.val e ((eDel_mem L k e).1 he).1).grown hgr hp⟩ hgr
/-! changes away from some blocks -/
def ChgInP (w:World) (q:Nat→Prop) (g off:Nat) (c:Chg):Prop:=
 ∃ vv,w.cell? ⟨g,off,none⟩=some (strV c.key)∧w.cell? ⟨g,off+1,none⟩=some vv∧w.cell? ⟨g,off+2,none⟩=some (.bool c.drop)∧RdP w q vv c.val
def ChgsP (w:World) (q:Nat→Prop) (v:Value) (cs:List Chg):Prop:=
 ∃ a cap,v=.slice a cs.length cap∧cs.length≤cap∧cap≤maxLen∧(cs=[]∨∃ g off,a=some ⟨g,off,none⟩∧q g∧∀ j (h:j < cs.length),ChgInP w q g (off+j * 3) cs[j])
theorem ChgInP.grown {w w':World} {q S:Nat→Prop} {g off:Nat} {c:Chg} (h:ChgInP w q g off c) (hg:Grown S w w') (hq:∀ g,q g→¬ S g) (hgq:q g):ChgInP w' q g off c:=by
 obtain ⟨vv,h0,h1,h2,h3⟩:=h
 have e:∀ o v,w.cell? ⟨g,o,none⟩=some v→w'.cell? ⟨g,o,none⟩=some v:=fun o v hc=>(World.cell?_of_block (hg.block g (World.block_lt_of_cell? w ⟨g,o,none⟩ hc) (hq g hgq))).trans hc
 exact ⟨vv,e _ _ h0,e _ _ h1,e _ _ h2,h3.grown hg hq⟩
theorem ChgsP.grown {w w':World} {q S:Nat→Prop} {v:Value} {cs:List Chg} (h:ChgsP w q v cs) (hg:Grown S w w') (hq:∀ g,q g→¬ S g):ChgsP w' q v cs:=by
 obtain ⟨a,cap,e,h1,h2,h3⟩:=h
 refine ⟨a,cap,e,h1,h2,?_⟩
 rcases h3 with h3 | ⟨g,off,e2,hgq,h4⟩
 ·exact Or.inl h3
 ·exact Or.inr ⟨g,off,e2,hgq,fun j hj=>(h4 j hj).grown hg hq hgq⟩
theorem ChgsP.toB {w:World} {q:Nat→Prop} {v:Value} {cs:List Chg} (h:ChgsP w q v cs):ChgsAt w w.heap.size v cs:=by
 obtain ⟨a,cap,e,h1,h2,h3⟩:=h
 refine ⟨a,cap,e,h1,h2,?_⟩
 rcases cs with _ | ⟨c,r⟩
 ·exact Or.inl rfl
 ·rcases h3 with h3 | ⟨g,off,e2,hgq,h4⟩
  ·cases h3
  ·refine Or.inr ⟨g,off,e2,?_,fun j hj=>?_⟩
   ·obtain ⟨vv,h0,_⟩:=h4 0 (by simp)
    exact World.block_lt_of_cell? w _ h0
   ·obtain ⟨vv,q0,q1,q2,q3⟩:=h4 j hj
    exact ⟨vv,q0,q1,q2,q3.toB⟩
theorem setCell_block {w w1:World} {b o:Nat} {v:Value} (h:w1.heap[b]?=w.heap[b]?):(w1.setCell ⟨b,o,none⟩ v).heap[b]?=(w.setCell ⟨b,o,none⟩ v).heap[b]?:=by
 simp [World.setCell,Array.getElem?_modify,h]
theorem cell_other (w:World) (b o o':Nat) (v:Value) (h:o ≠ o'):(w.setCell ⟨b,o,none⟩ v).cell? ⟨b,o',none⟩=w.cell? ⟨b,o',none⟩:=by
 apply World.cell?_setCell_other; intro e; cases e; exact h rfl
set_option maxRecDepth 100000 in
/-- change -/
theorem change_c (cb co mb:Nat) (wt:Int) (v:Value) (cs:List Chg) (L:List Ent) (p q:Nat→Prop) (w:World) (hm:w.cell? ⟨cb,co+1,none⟩=some (.map (some mb))) (hw:w.cell? ⟨cb,co+2,none⟩=some (.int .i64 wt)) (hfz:w.frozen? ⟨cb,co+2,none⟩=false)
 (hM:MapAt w mb p L) (hv:ChgsP w q v cs) (hn:cs.length≤1000000) (hb:∀ c ∈ cs,c.key.length≤1073741824∧c.val.length≤1073741824) (hL:∀ e ∈ L,e.bytes.length≤4294967296) (hw0: -4294967296≤wt) (hw1:wt≤4294967296)
 (hne:cb ≠ mb) (hp:∀ g,p g→g ≠ cb∧g ≠ mb) (hp2:∀ g,w.heap.size≤g→p g) (hq:∀ g,q g→g ≠ cb∧g ≠ mb) (hll:L.length≤4294967296) :
 Calls Tryz.prog 93 #[.pointer (some ⟨cb,co,none⟩),v] w fun e w'=>e=.returned (.tuple #[])∧Grown (fun k=>k=cb∨k=mb) w w'∧w'.heap[cb]?=(w.setCell ⟨cb,co+2,none⟩ (.int .i64 (wAfter L wt cs))).heap[cb]?∧∃ L',MapAt w' mb p L'∧EB L'=pChgs (EB L) cs:=by
 have HW:=Lib.hid (weightAfter_c cb co mb wt v cs L p w hm hw hM hv.toB hn (fun c hc=>by have:=hb c hc; omega) hL hw0 hw1)
 have HV:=Lib.hid hv
 obtain ⟨a,cap,rfl,hcap,hcm,_⟩:=hv
 have HB:=Lib.hid hb
 have HM:=Lib.hid hM
 have HP:=Lib.hid (And.intro hp (And.intro hp2 hq))
 clear hb hL hM hp hp2 hq
 generalize wAfter L wt cs=z at *
 have hcbl:=World.block_lt_of_cell? w ⟨cb,co+1,none⟩ hm
 go_enter Tryz.func93,Tryz.ntmps93
 go_wp2_with fail
 refine HW.out.mono ?_
 rintro e w1 ⟨rfl,hb1⟩
 have hw2:=keep_cell hb1 hw
 have hf2:=keep_frozen hb1 hcbl hfz
 have hmS:(w.setCell ⟨cb,co+2,none⟩ (.int .i64 z)).cell? ⟨cb,co+1,none⟩=some (.map (some mb)):=(cell_other w cb (co+2) (co+1) _ (by omega)).trans hm
 have G2:Grown (fun k=>k=cb∨k=mb) w (w1.setCell ⟨cb,co+2,none⟩ (.int .i64 z)):=(Grown.of_below hb1).setCell (Or.inl rfl) _
 have E2:(w1.setCell ⟨cb,co+2,none⟩ (.int .i64 z)).heap[cb]?=(w.setCell ⟨cb,co+2,none⟩ (.int .i64 z)).heap[cb]?:=setCell_block (hb1.block cb hcbl)
 have M2:MapAt (w1.setCell ⟨cb,co+2,none⟩ (.int .i64 z)) mb p L:=HM.out.grown (S:=fun k=>k=cb) (show Grown (fun k=>k=cb) w (w1.setCell ⟨cb,co+2,none⟩ (.int .i64 z)) from Grown.setCell (S:=fun k=>k=cb) (Grown.of_below hb1) (a:=⟨cb,co+2,none⟩) rfl _) (fun e=>hne e.symm) (fun g hg=>(HP.out.1 g hg).1)
 have HS:=Lib.hid (And.intro G2 (And.intro E2 M2))
 clear G2 E2 M2 HW hw hb1
 go_wp2
 generalize w1.setCell ⟨cb,co+2,none⟩ (.int .i64 z)=w2 at *
 generalize hws:w.setCell ⟨cb,co+2,none⟩ (.int .i64 z)=wS at *
 have HWS:=Lib.hid hws
 clear hws hw2 hf2
 go_loopw [14] (fun i wr=>∃ (j:Nat) (L':List Ent),j≤cs.length∧i=.int .i64 j∧MapAt wr mb p L'∧EB L'=pChgs (EB L) (cs.take j)∧L'.length≤L.length+j∧Grown (fun k=>k=cb∨k=mb) w wr∧wr.heap[cb]?=wS.heap[cb]?) (fun i _=>cs.length - (intOf i).toNat)
 case atStart=>exact ⟨0,L,Nat.zero_le _,rfl,HS.out.2.2,rfl,by omega,HS.out.1,HS.out.2.1⟩
 case round=>
  obtain ⟨j,L',hj,rfl,hM',hE,hlen,hG,hcbe⟩:=hrel
  have hvr:=HV.out.grown hG (fun g hg hs=>by have:=HP.out.2.2 g hg; rcases hs with h | h <;> omega)
  have hmr:wr.cell? ⟨cb,co+1,none⟩=some (.map (some mb)):=(World.cell?_of_block (w:=wS) (a:=⟨cb,co+1,none⟩) hcbe).trans hmS
  by_cases hlt:j < cs.length
  ·obtain ⟨a',cap',e1,_,_,hch⟩:=hvr
   simp only [Value.slice.injEq] at e1
   obtain ⟨rfl,_,rfl⟩:=e1
   rcases hch with h | ⟨g,off,rfl,hgq,hch⟩
   ·rw [h] at hlt; simp at hlt
   obtain ⟨vv,h0,h1,h2,h3⟩:=hch j hlt
   have b1:(j:Int) < cs.length:=by omega
   have hbd:=HB.out cs[j] (List.getElem_mem hlt)
   obtain ⟨hbd1,hbd2⟩:=hbd
   have HST:=Lib.hid ((pChgs_take (EB L) cs j hlt).trans (by rw [← hE]))
   generalize cs[j]=c at *
   obtain ⟨key,val,drop⟩:=c
   simp only at h0 h1 h2 hbd1 hbd2 h3
   obtain ⟨av,capv,rfl,_,_,_⟩:=h3.toB.open_
   have hks:(⟨key.toArray⟩:ByteArray).size=key.length:=by show key.toArray.size=_; simp
   have HBB:=(Below.refl _ wr).alloc (Nat.le_refl _) (.cells #[.string ⟨key.toArray⟩,.slice av val.length capv,.bool drop] 73)
   have HM1:=hM'.grown (S:=fun _=>False) (Grown.of_below HBB) (by simp) (by simp)
   have HV1:=h3.toB.below HBB
   have hm1:=keep_cell HBB hmr
   have hbk:=Blk.new wr 73 [.string ⟨key.toArray⟩,.slice av val.length capv,.bool drop]
   have HG1:=hG.trans (Grown.of_below HBB)
   have hcbw:cb < wr.heap.size:=World.block_lt_of_cell? wr ⟨cb,co+1,none⟩ hmr
   have hcb1:=(HBB.block cb hcbw).trans hcbe
   have hsz1:w.heap.size≤wr.heap.size:=hG.size
   have hmbl:=hM'.lt
   clear hch h3 hM' hE hG hcbe HBB
   go_upto_region 4 with (fail)
   clear h0 h1 h2 hmr
   have hbk:Blk (wr.alloc (.cells #[.string ⟨key.toArray⟩,.slice av val.length capv,.bool drop] 73)) wr.heap.size 73 [.string ⟨key.toArray⟩,.slice av val.length capv,.bool drop]:=hbk
   have hs1:wr.heap.size < (wr.alloc (.cells #[.string ⟨key.toArray⟩,.slice av val.length capv,.bool drop] 73)).heap.size:=by simp
   generalize wr.alloc (.cells #[.string ⟨key.toArray⟩,.slice av val.length capv,.bool drop] 73)=w3 at *
   generalize wr.heap.size=gb at *
   have c0:=hbk.cell 0 (by simp)
   have c1:=hbk.cell 1 (by simp)
   have c2:=hbk.cell 2 (by simp)
   simp only [List.getD_cons_zero,List.getD_cons_succ] at c0 c1 c2
   have HH:=Lib.hid (And.intro HM1 (And.intro HV1 (And.intro HG1 hcb1)))
   clear HM1 HV1 HG1 hcb1
   cases drop with
   | true=>
     have HST:Hid (pChgs (EB L) (cs.take (j+1))=pDel (EB L') key):=HST
     go_upto_region 5 with (fail)
     go_region_held3 (fun w'=>w'.cell? ⟨cb,co+1,none⟩=some (.map (some mb))∧w'.cell? ⟨gb,0,none⟩=some (.string ⟨key.toArray⟩))
      (first | exact ⟨q1,q2⟩ | exact ⟨hm1,c0⟩)
      (first | (go_must (refine step_del rfl _ _ rfl (Grown.map_drew HH.out.1) rfl key (by unfold maxLen; omega) rfl (fun g hg=>(HP.out.1 g hg).2) ?_); intro w4 hM4 hG4
                have q1:=(World.cell?_of_block (a:=⟨cb,co+1,none⟩) (hG4.block cb (by show cb < w3.heap.size; omega) (fun e=>hne e))).trans hm1
                have q2:=(World.cell?_of_block (a:=⟨gb,0,none⟩) (hG4.block gb hs1 (fun e=>by omega))).trans c0))
     go_wp2
     go_roundw
     case rel=>
      refine ⟨j+1,eDel L' key,by omega,by go_num,hM4,by rw [HST.out,EB_del],?_,HH.out.2.2.1.drew.trans (hG4.mono (fun k _ e=>Or.inr e)),(hG4.block cb (by show cb < w3.heap.size; omega) (fun e=>hne e)).trans HH.out.2.2.2⟩
      have:(eDel L' key).length≤L'.length:=List.length_filter_le _ _
      omega
     case measure=>simp [intOf]; omega
   | false=>
     have HST:Hid (pChgs (EB L) (cs.take (j+1))=pPut (EB L') (key,val)):=HST
     go_upto_region 6 with (fail)
     go_region_held3 (fun w'=>w'.cell? ⟨cb,co+1,none⟩=some (.map (some mb))∧w'.cell? ⟨gb,0,none⟩=some (.string ⟨key.toArray⟩)∧w'.cell? ⟨gb,1,none⟩=some (.slice av val.length capv))
      (first | exact ⟨r1,r2,r3⟩ | exact ⟨q1,q2,q3⟩ | exact ⟨hm1,c0,c1⟩)
      (first | (go_at_call 77; go_must (refine (clone_c _ val gb _ (RdB.drew HH.out.2.1) (by omega) (by show gb≤w3.heap.size; omega)).mono ?_); rintro e w4 ⟨⟨v4,rfl,hy4⟩,hb4⟩
                have q1:=keep_cell (W:=w3.drew) hb4 hm1
                have q2:=keep_cell (W:=w3.drew) hb4 c0
                have q3:=keep_cell (W:=w3.drew) hb4 c1
                have M4:=(Grown.map_drew HH.out.1).grown (S:=fun _=>False) (Grown.of_below hb4) (by simp) (by simp)
                have hw4:w3.heap.size≤w4.heap.size:=hb4.size
                obtain ⟨w5,hup,hM5,hG5⟩:=M4.put ⟨key,v4,val⟩ (by unfold maxLen; show key.length≤_; omega) (by unfold maxLen; omega) (RdP.own hy4 (fun g hg _=>HP.out.2.1 g (by have:w3.heap.size≤g:=hg; omega))) (fun g hg=>(HP.out.1 g hg).2)
                have hup:(Instr.mapUpdate 98 (.map (some mb)) (.string ⟨key.toArray⟩) v4).run Tryz.prog w4=.ok () w5:=hup
                have r1:=(World.cell?_of_block (a:=⟨cb,co+1,none⟩) (hG5.block cb (by omega) (fun e=>hne e))).trans q1
                have r2:=(World.cell?_of_block (a:=⟨gb,0,none⟩) (hG5.block gb (by omega) (fun e=>by omega))).trans q2
                have r3:=(World.cell?_of_block (a:=⟨gb,1,none⟩) (hG5.block gb (by omega) (fun e=>by omega))).trans q3
                have HH5:=Lib.hid (And.intro hM5 (And.intro (show Grown (fun k=>k=cb∨k=mb) w w5 from (HH.out.2.2.1.drew.trans (Grown.of_below hb4)).trans (hG5.mono (fun k _ e=>Or.inr e))) ((hG5.block cb (by omega) (fun e=>hne e)).trans ((hb4.block cb (by show cb < w3.heap.size; omega)).trans HH.out.2.2.2))))
                clear hM5 hG5 M4 hy4 hb4))
     all_goals
      go_wp2
      go_roundw
      case rel=>
       refine ⟨j+1,ePut L' ⟨key,v4,val⟩,by omega,by go_num,HH5.out.1,by rw [HST.out,EB_put],?_,HH5.out.2.1,HH5.out.2.2⟩
       have h1:(ePut L' ⟨key,v4,val⟩).length=(EB (ePut L' ⟨key,v4,val⟩)).length:=(EB_length _).symm
       rw [h1,EB_put]
       have:=pChg_length (EB L') ⟨key,val,false⟩
       have h2:pChg (EB L') ⟨key,val,false⟩=pPut (EB L') (key,val):=rfl
       rw [h2,EB_length] at this
       show (pPut (EB L') (key,val)).length≤_
       omega
      case measure=>simp [intOf]; omega
  ·obtain rfl:j=cs.length:=by omega
   go_wp2
   go_end0
   refine ⟨rfl,hG,by rw [HWS.out]; exact hcbe,L',hM',?_⟩
   rw [hE,List.take_of_length_le (Nat.le_refl _)]
end
end Go.Proofs.YtbcfpdlhieaepaaGreatDoor
