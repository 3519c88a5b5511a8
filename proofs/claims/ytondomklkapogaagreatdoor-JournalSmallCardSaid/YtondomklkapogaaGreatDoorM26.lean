/- The reference's Check. -/
import Derived.Test.YtondomklkapogaaGreatDoorM22
import Derived.Test.YtondomklkapogaaGreatDoorM25
namespace Go.Proofs.YtondomklkapogaaGreatDoor
section
open Go.RowKit SeedP Go.Maps
/-- the number that Check gives -/
def rCheckN (P:PEnts) (cs:List Chg):Int:=
 if cs.length=0∨64 < cs.length then 5
 else if validP cs ≠ 0 then validP cs
 else if (cs.any fun c=>c.drop && !(pFind P c.key).isSome)=true then 6
 else if 131072 < pWt (pChgs P cs) then 4 else 0
theorem rck_many {P:PEnts} {cs:List Chg} (h:cs.length=0∨64 < cs.length):rCheckN P cs=5:=by unfold rCheckN; rw [if_pos h]
theorem rck_valid {P:PEnts} {cs:List Chg} (h:¬ (cs.length=0∨64 < cs.length)) {n:Int} (hn:validP cs=n) (h0:n ≠ 0):rCheckN P cs=n:=by unfold rCheckN; rw [if_neg h,if_pos (by rw [hn]; exact h0),hn]
theorem rck_none {P:PEnts} {cs:List Chg} (h:¬ (cs.length=0∨64 < cs.length)) (hv:validP cs=0) (ha:(cs.any fun c=>c.drop && !(pFind P c.key).isSome)=true):rCheckN P cs=6:=by unfold rCheckN; rw [if_neg h,if_neg (by rw [hv]; decide),if_pos ha]
theorem rck_rest {P:PEnts} {cs:List Chg} (h:¬ (cs.length=0∨64 < cs.length)) (hv:validP cs=0) (ha:(cs.any fun c=>c.drop && !(pFind P c.key).isSome)=false):rCheckN P cs=if 131072 < pWt (pChgs P cs) then 4 else 0:=by unfold rCheckN; rw [if_neg h,if_neg (by rw [hv]; decide),if_neg (by rw [ha]; decide)]
theorem xr_eqlS (ρ:Operand→Value) (d:Option Tmp) (ty:TypeId) (pos:String) (af:Array Edge) (gd:Option (Nat × Bool)) (x y:Operand) (a b:List UInt8) (w:World) (hx:ρ x=strV a) (hy:ρ y=strV b) :
 (execOp ρ ⟨d,.binOp .eql 9 x y 9,ty,pos,af,gd⟩).run Tryz.prog w=.ok (.value (.bool (a == b))) w:=by
 simp [go_sem,hx,hy]
theorem ChgsAt.raise {w:World} {B B':Nat} {v:Value} {cs:List Chg} (h:ChgsAt w B v cs) (hB:B≤B'):ChgsAt w B' v cs:=by
 obtain ⟨a,cap,e,h1,h2,h3⟩:=h
 refine ⟨a,cap,e,h1,h2,?_⟩
 rcases h3 with h3 | ⟨g,off,e2,hg,h4⟩
 ·exact Or.inl h3
 ·refine Or.inr ⟨g,off,e2,by omega,fun j hj=>?_⟩
  obtain ⟨vv,d0,d1,d2,dv⟩:=h4 j hj
  exact ⟨vv,d0,d1,d2,dv.mono hB⟩
theorem code_len (cs:List Chg):(codeOf cs).length=codeSize cs:=by
 unfold codeOf codeSize
 rw [List.length_cons]
 have h:∀ L:List Chg,(L.flatMap chgCode).length=(L.map chgSize).sum:=by
  intro L
  induction L with
  | nil=>rfl
  | cons x L ih=>
    rw [List.flatMap_cons,List.length_append,ih,List.map_cons,List.sum_cons]
    congr 1
    unfold chgCode chgSize
    cases x.drop
    ·simp only [Bool.false_eq_true,if_false,List.length_cons,List.length_append,numB_length]; omega
    ·simp only [if_true,List.length_cons]; omega
 rw [h]; omega
set_option maxRecDepth 100000 in
set_option maxHeartbeats 4000000 in
/-- Check -/
theorem rcheck_c (v:Value) (P:PEnts) (vc:Value) (cs:List Chg) (W:World) (hv:EntsAt W W.heap.size v P) (hc:ChgsAt W W.heap.size vc cs) (hP:P.length≤1000000) (hn:cs.length≤1000000) (hb:∀ c ∈ cs,c.key.length≤1000000∧c.val.length≤1000000) (hw:pWt (pChgs P cs)≤4611686018427387904) :
 Calls Tryz.prog 54 #[v,vc] W fun e w'=>e=.returned (.int .i64 (rCheckN P cs))∧Below W.heap.size W w':=by
 have HV:=Lib.hid hv
 have HC:=Lib.hid hc
 have HBD:=Lib.hid hb
 have HW:=Lib.hid hw
 obtain ⟨ac,cap,rfl,_,hcm,hcc⟩:=hc
 obtain ⟨al,cl,rfl,_,hlm,_⟩:=hv
 unfold maxLen at hcm hlm
 have HCC:=Lib.hid hcc
 clear hcc hb hw
 have hcl:(cs.length:Int)≤1000000:=by omega
 by_cases hmany:cs.length=0∨64 < cs.length
 ·have HN:Hid (Ending.returned (.int .i64 5)=.returned (.int .i64 (rCheckN P cs))):=Lib.hid (by rw [rck_many hmany])
  by_cases h0:cs.length=0
  ·have t1:decide ((cs.length:Int) < 1)=true:=decide_eq_true (by omega)
   clear hmany h0
   go_enter Tryz.func54,Tryz.ntmps54
   go_wp2
   go_ret
   exact ⟨HN.out,Below.refl _ _⟩
  ·have t1:decide ((cs.length:Int) < 1)=false:=decide_eq_false (by omega)
   have t2:decide ((64:Int) < (cs.length:Int))=true:=decide_eq_true (by omega)
   clear hmany h0
   go_enter Tryz.func54,Tryz.ntmps54
   go_wp2
   go_ret
   exact ⟨HN.out,Below.refl _ _⟩
 have HM:=Lib.hid hmany
 have hn64:cs.length≤64:=by omega
 have hn1:1≤cs.length:=by omega
 have t1:decide ((cs.length:Int) < 1)=false:=decide_eq_false (by omega)
 have t2:decide ((64:Int) < (cs.length:Int))=false:=decide_eq_false (by omega)
 rcases HCC.out with h | ⟨g,off,rfl,hg,hcell⟩
 ·rw [h] at hn1; simp at hn1
 have HALL:Hid (∀ (j:Nat) (hj:j < cs.length),∃ av cv,∀ wx,Below W.heap.size W wx→wx.cell? ⟨g,off+j * 3,none⟩=some (strV cs[j].key)∧wx.cell? ⟨g,off+j * 3+1,none⟩=some (.slice av cs[j].val.length cv)∧wx.cell? ⟨g,off+j * 3+2,none⟩=some (.bool cs[j].drop)):=Lib.hid (fun j hj=>by
  obtain ⟨vv,d0,d1,d2,dv⟩:=hcell j hj
  obtain ⟨av,cv,rfl,_⟩:=dv.open_
  exact ⟨av,cv,fun wx hbx=>⟨(hbx.cell (p:=⟨g,off+j * 3,none⟩) hg).trans d0,(hbx.cell (p:=⟨g,off+j * 3+1,none⟩) hg).trans d1,(hbx.cell (p:=⟨g,off+j * 3+2,none⟩) hg).trans d2⟩⟩)
 clear hcell HCC hmany
 go_enter Tryz.func54,Tryz.ntmps54
 go_wp2_with fail
 go_loopw [5] (fun iv wx=>∃ i:Nat,i≤cs.length∧iv=.int .i64 i∧Hid (∀ q,q < i→badAt cs q=false)∧Below W.heap.size W wx) (fun i _=>cs.length - (intOf i).toNat)
 case atStart=>exact ⟨0,Nat.zero_le _,rfl,Lib.hid (fun q hq=>by omega),Below.refl _ _⟩
 case round=>
  obtain ⟨i,hi,rfl,HF,hbw⟩:=hrel
  have HBW:=Lib.hid hbw
  clear hbw
  by_cases hlt:i < cs.length
  ·have t3:decide ((i:Int) < (cs.length:Int))=true:=decide_eq_true (by omega)
   have HBA:=Lib.hid (badAt_eq cs i hlt)
   obtain ⟨av,cv,hcw⟩:=HALL.out i hlt
   have HCW:=Lib.hid hcw
   have hbd:=HBD.out cs[i] (List.getElem_mem hlt)
   obtain ⟨c0,c1,c2⟩:=hcw wr HBW.out
   clear hcw
   generalize cs[i]=ci at *
   obtain ⟨key,val,drop⟩:=ci
   simp only at c0 c1 c2 hbd
   obtain ⟨hb1,hb2⟩:=hbd
   have HBA2:Hid (badAt cs i=(decide (key.length < 1) || decide (40 < key.length) || ((cs.take i).map (·.key)).contains key || (drop && decide (0 < val.length)))):=HBA
   clear HBA
   have HRET:Hid (∀ wx,badAt cs i=true→Below W.heap.size W wx→Ending.returned (.int .i64 2)=.returned (.int .i64 (rCheckN P cs))∧Below W.heap.size W wx):=Lib.hid (fun wx h hbx=>⟨by rw [rck_valid HM.out (valid_bad cs i hlt h) (by decide)],hbx⟩)
   by_cases k1:key.length < 1
   ·have s1:decide ((key.length:Int) < 1)=true:=decide_eq_true (by omega)
    go_wp2
    go_ret
    exact HRET.out _ (by rw [HBA2.out]; simp [k1]) HBW.out
   have s1:decide ((key.length:Int) < 1)=false:=decide_eq_false (by omega)
   by_cases k2:40 < key.length
   ·have s2:decide ((40:Int) < (key.length:Int))=true:=decide_eq_true (by omega)
    go_wp2
    go_ret
    exact HRET.out _ (by rw [HBA2.out]; simp [k2]) HBW.out
   have s2:decide ((40:Int) < (key.length:Int))=false:=decide_eq_false (by omega)
   by_cases k3:drop=true∧0 < val.length
   ·obtain ⟨rfl,k3⟩:=k3
    have s3:decide ((0:Int) < (val.length:Int))=true:=decide_eq_true (by omega)
    go_wp2
    go_ret
    exact HRET.out _ (by rw [HBA2.out]; simp [k3]) HBW.out
   have HK3:Hid ((drop && decide (0 < val.length))=false):=Lib.hid (by
    cases drop with
    | false=>rfl
    | true=>
      have h:¬ 0 < val.length:=fun h=>k3 ⟨rfl,h⟩
      simp only [Bool.true_and]; exact decide_eq_false h)
   have s3:drop=true→decide ((0:Int) < (val.length:Int))=false:=fun h=>by
    subst h
    have h2:=HK3.out
    simp only [Bool.true_and] at h2
    have h3:=of_decide_eq_false h2
    exact decide_eq_false (by omega)
   have HT2:Hid (∀ wx,Below W.heap.size W wx→wx.cell? ⟨g,off+i * 3,none⟩=some (strV key)):=Lib.hid (fun wx hbx=>(HCW.out wx hbx).1)
   cases drop with
   | false=>
     clear s3
     go_wp2_with fail
     go_loopw [6] (fun kv wx=>∃ k:Nat,k≤i∧kv=.int .i64 k∧Hid (∀ q,q < k→∀ (h:q < cs.length),cs[q].key ≠ key)∧Below W.heap.size W wx) (fun k _=>i - (intOf k).toNat)
     case atStart=>exact ⟨0,by omega,rfl,Lib.hid (fun q hq=>by omega),HBW.out⟩
     case round=>
      obtain ⟨k,hki,rfl,HKS,hbk⟩:=hrel
      have HBK:=Lib.hid hbk
      have HBKD:=Lib.hid (hbk.trans ((bl_drew wr).mono hbk.size))
      clear hbk c0 c1 c2
      by_cases hk:k < i
      ·have t4:decide ((k:Int) < (i:Int))=true:=decide_eq_true (by omega)
       have hkn:k < cs.length:=by omega
       obtain ⟨av2,cv2,hc2⟩:=HALL.out k hkn
       have x0:=(hc2 _ HBKD.out).1
       have y0:=HT2.out _ HBKD.out
       clear hc2
       obtain ⟨kk,hkk⟩:∃ x,cs[k].key=x:=⟨_,rfl⟩
       rw [hkk] at x0
       have HKK:=Lib.hid hkk
       clear hkk
       go_upto_region 11 with (fail)
       refine wp_region_mix (by kernel_rfl) (by kernel_rfl) (by kernel_rfl) [some (.slice (some ⟨g,off,none⟩) cs.length cap),some (.int .i64 (k:Int)),some (.pointer (some ⟨g,off+k * 3,none⟩)),some (.pointer (some ⟨g,off+k * 3,none⟩)),some (strV kk),some (.slice (some ⟨g,off,none⟩) cs.length cap),some (.int .i64 (i:Int)),some (.pointer (some ⟨g,off+i * 3,none⟩)),some (.pointer (some ⟨g,off+i * 3,none⟩)),some (strV key),some (.bool (kk == key))] [] (by kernel_rfl) (by kernel_rfl) (fun _ _ wx=>wx=wr.drew) rfl ?_ ?_
       ·refine EachI.cons (MixOk.pure (by kernel_rfl) (fun _=>by kernel_rfl) (fun _ _=>by kernel_rfl)) ?_
        refine EachI.cons (MixOk.pure (by kernel_rfl) (fun _=>by kernel_rfl) (fun _ _=>by kernel_rfl)) ?_
        refine EachI.cons (MixOk.pure (by kernel_rfl) (fun _=>by kernel_rfl) (fun _ wx=>xr_atC _ _ _ _ _ _ _ _ g off cs.length cap k wx (by kernel_rfl) (by kernel_rfl) hkn)) ?_
        refine EachI.cons (MixOk.pure (by kernel_rfl) (fun _=>by kernel_rfl) (fun _ _=>by kernel_rfl)) ?_
        refine EachI.cons (MixOk.look (by kernel_rfl) (fun _=>by kernel_rfl) (fun dn ws wx hG hdep hcl hni=>xr_str _ _ _ _ _ _ _ ⟨g,off+k * 3,none⟩ _ wx (by kernel_rfl) (by subst hG; exact x0))) ?_
        refine EachI.cons (MixOk.pure (by kernel_rfl) (fun _=>by kernel_rfl) (fun _ _=>by kernel_rfl)) ?_
        refine EachI.cons (MixOk.pure (by kernel_rfl) (fun _=>by kernel_rfl) (fun _ _=>by kernel_rfl)) ?_
        refine EachI.cons (MixOk.pure (by kernel_rfl) (fun _=>by kernel_rfl) (fun _ wx=>xr_atC _ _ _ _ _ _ _ _ g off cs.length cap i wx (by kernel_rfl) (by kernel_rfl) hlt)) ?_
        refine EachI.cons (MixOk.pure (by kernel_rfl) (fun _=>by kernel_rfl) (fun _ _=>by kernel_rfl)) ?_
        refine EachI.cons (MixOk.look (by kernel_rfl) (fun _=>by kernel_rfl) (fun dn ws wx hG hdep hcl hni=>xr_str _ _ _ _ _ _ _ ⟨g,off+i * 3,none⟩ _ wx (by kernel_rfl) (by subst hG; exact y0))) ?_
        refine EachI.cons (MixOk.pure (by kernel_rfl) (fun _=>by kernel_rfl) (fun _ wx=>xr_eqlS _ _ _ _ _ _ _ _ kk key wx (by kernel_rfl) (by kernel_rfl))) ?_
        exact EachI.nil
       intro ws L' hL' w7 hG7
       subst hG7
       simp only [setAll,mix,List.set_cons_succ,List.set_cons_zero,List.getElem?_cons_succ,List.getElem?_cons_zero,Option.join_some,Option.getD_some,Nat.reduceAdd] at hL'
       subst hL'
       cases hq:(kk == key) with
       | true=>
         have hm:((cs.take i).map (·.key)).contains key=true:=by
          have e:cs[k].key=key:=by rw [HKK.out]; exact eq_of_beq hq
          have h:key ∈ (cs.take i).map (·.key):=List.mem_map.2 ⟨cs[k],List.mem_take_iff_getElem.2 ⟨k,by omega,rfl⟩,e⟩
          simpa using h
         go_wp2
         go_ret
         exact HRET.out _ (by rw [HBA2.out,hm]; simp) HBKD.out
       | false=>
         go_wp2
         go_roundw
         case rel=>exact ⟨k+1,by omega,by go_num,Lib.hid (fun q hq2 h=>by
          by_cases e:q=k
          ·subst e; rw [HKK.out]; exact fun e=>by rw [e] at hq; simp at hq
          ·exact HKS.out q (by omega) h),HBKD.out⟩
         case measure=>simp [intOf]; omega
      ·obtain rfl:k=i:=by omega
       have t4:decide ((k:Int) < (k:Int))=false:=by simp
       have HNB:Hid (badAt cs k=false):=Lib.hid (by
        rw [HBA2.out,HK3.out]
        have hm:((cs.take k).map (·.key)).contains key=false:=by
         cases h:((cs.take k).map (·.key)).contains key with
         | false=>rfl
         | true=>
           have h2:key ∈ (cs.take k).map (·.key):=by simpa using h
           obtain ⟨c,hc,e⟩:=List.mem_map.1 h2
           obtain ⟨q,hq,e2⟩:=List.mem_take_iff_getElem.1 hc
           exact absurd (by rw [e2]; exact e) (HKS.out q (by omega) (by omega))
        rw [hm]; simp [k1,k2])
       go_wp2
       go_roundw
       case rel=>exact ⟨k+1,by omega,by go_num,Lib.hid (fun q hq=>by
        by_cases e:q=k
        ·rw [e]; exact HNB.out
        ·exact HF.out q (by omega)),HBK.out⟩
       case measure=>simp [intOf]; omega
   | true=>
     have hv0:val.length=0:=by have h:=of_decide_eq_false (s3 rfl); omega
     rw [hv0] at c1
     clear s3 k3
     go_wp2_with fail
     go_loopw [6] (fun kv wx=>∃ k:Nat,k≤i∧kv=.int .i64 k∧Hid (∀ q,q < k→∀ (h:q < cs.length),cs[q].key ≠ key)∧Below W.heap.size W wx) (fun k _=>i - (intOf k).toNat)
     case atStart=>exact ⟨0,by omega,rfl,Lib.hid (fun q hq=>by omega),HBW.out⟩
     case round=>
      obtain ⟨k,hki,rfl,HKS,hbk⟩:=hrel
      have HBK:=Lib.hid hbk
      have HBKD:=Lib.hid (hbk.trans ((bl_drew wr).mono hbk.size))
      clear hbk c0 c1 c2
      by_cases hk:k < i
      ·have t4:decide ((k:Int) < (i:Int))=true:=decide_eq_true (by omega)
       have hkn:k < cs.length:=by omega
       obtain ⟨av2,cv2,hc2⟩:=HALL.out k hkn
       have x0:=(hc2 _ HBKD.out).1
       have y0:=HT2.out _ HBKD.out
       clear hc2
       obtain ⟨kk,hkk⟩:∃ x,cs[k].key=x:=⟨_,rfl⟩
       rw [hkk] at x0
       have HKK:=Lib.hid hkk
       clear hkk
       go_upto_region 11 with (fail)
       refine wp_region_mix (by kernel_rfl) (by kernel_rfl) (by kernel_rfl) [some (.slice (some ⟨g,off,none⟩) cs.length cap),some (.int .i64 (k:Int)),some (.pointer (some ⟨g,off+k * 3,none⟩)),some (.pointer (some ⟨g,off+k * 3,none⟩)),some (strV kk),some (.slice (some ⟨g,off,none⟩) cs.length cap),some (.int .i64 (i:Int)),some (.pointer (some ⟨g,off+i * 3,none⟩)),some (.pointer (some ⟨g,off+i * 3,none⟩)),some (strV key),some (.bool (kk == key))] [] (by kernel_rfl) (by kernel_rfl) (fun _ _ wx=>wx=wr.drew) rfl ?_ ?_
       ·refine EachI.cons (MixOk.pure (by kernel_rfl) (fun _=>by kernel_rfl) (fun _ _=>by kernel_rfl)) ?_
        refine EachI.cons (MixOk.pure (by kernel_rfl) (fun _=>by kernel_rfl) (fun _ _=>by kernel_rfl)) ?_
        refine EachI.cons (MixOk.pure (by kernel_rfl) (fun _=>by kernel_rfl) (fun _ wx=>xr_atC _ _ _ _ _ _ _ _ g off cs.length cap k wx (by kernel_rfl) (by kernel_rfl) hkn)) ?_
        refine EachI.cons (MixOk.pure (by kernel_rfl) (fun _=>by kernel_rfl) (fun _ _=>by kernel_rfl)) ?_
        refine EachI.cons (MixOk.look (by kernel_rfl) (fun _=>by kernel_rfl) (fun dn ws wx hG hdep hcl hni=>xr_str _ _ _ _ _ _ _ ⟨g,off+k * 3,none⟩ _ wx (by kernel_rfl) (by subst hG; exact x0))) ?_
        refine EachI.cons (MixOk.pure (by kernel_rfl) (fun _=>by kernel_rfl) (fun _ _=>by kernel_rfl)) ?_
        refine EachI.cons (MixOk.pure (by kernel_rfl) (fun _=>by kernel_rfl) (fun _ _=>by kernel_rfl)) ?_
        refine EachI.cons (MixOk.pure (by kernel_rfl) (fun _=>by kernel_rfl) (fun _ wx=>xr_atC _ _ _ _ _ _ _ _ g off cs.length cap i wx (by kernel_rfl) (by kernel_rfl) hlt)) ?_
        refine EachI.cons (MixOk.pure (by kernel_rfl) (fun _=>by kernel_rfl) (fun _ _=>by kernel_rfl)) ?_
        refine EachI.cons (MixOk.look (by kernel_rfl) (fun _=>by kernel_rfl) (fun dn ws wx hG hdep hcl hni=>xr_str _ _ _ _ _ _ _ ⟨g,off+i * 3,none⟩ _ wx (by kernel_rfl) (by subst hG; exact y0))) ?_
        refine EachI.cons (MixOk.pure (by kernel_rfl) (fun _=>by kernel_rfl) (fun _ wx=>xr_eqlS _ _ _ _ _ _ _ _ kk key wx (by kernel_rfl) (by kernel_rfl))) ?_
        exact EachI.nil
       intro ws L' hL' w7 hG7
       subst hG7
       simp only [setAll,mix,List.set_cons_succ,List.set_cons_zero,List.getElem?_cons_succ,List.getElem?_cons_zero,Option.join_some,Option.getD_some,Nat.reduceAdd] at hL'
       subst hL'
       cases hq:(kk == key) with
       | true=>
         have hm:((cs.take i).map (·.key)).contains key=true:=by
          have e:cs[k].key=key:=by rw [HKK.out]; exact eq_of_beq hq
          have h:key ∈ (cs.take i).map (·.key):=List.mem_map.2 ⟨cs[k],List.mem_take_iff_getElem.2 ⟨k,by omega,rfl⟩,e⟩
          simpa using h
         go_wp2
         go_ret
         exact HRET.out _ (by rw [HBA2.out,hm]; simp) HBKD.out
       | false=>
         go_wp2
         go_roundw
         case rel=>exact ⟨k+1,by omega,by go_num,Lib.hid (fun q hq2 h=>by
          by_cases e:q=k
          ·subst e; rw [HKK.out]; exact fun e=>by rw [e] at hq; simp at hq
          ·exact HKS.out q (by omega) h),HBKD.out⟩
         case measure=>simp [intOf]; omega
      ·obtain rfl:k=i:=by omega
       have t4:decide ((k:Int) < (k:Int))=false:=by simp
       have HNB:Hid (badAt cs k=false):=Lib.hid (by
        rw [HBA2.out,HK3.out]
        have hm:((cs.take k).map (·.key)).contains key=false:=by
         cases h:((cs.take k).map (·.key)).contains key with
         | false=>rfl
         | true=>
           have h2:key ∈ (cs.take k).map (·.key):=by simpa using h
           obtain ⟨c,hc,e⟩:=List.mem_map.1 h2
           obtain ⟨q,hq,e2⟩:=List.mem_take_iff_getElem.1 hc
           exact absurd (by rw [e2]; exact e) (HKS.out q (by omega) (by omega))
        rw [hm]; simp [k1,k2])
       go_wp2
       go_roundw
       case rel=>exact ⟨k+1,by omega,by go_num,Lib.hid (fun q hq=>by
        by_cases e:q=k
        ·rw [e]; exact HNB.out
        ·exact HF.out q (by omega)),HBK.out⟩
       case measure=>simp [intOf]; omega
  ·obtain rfl:i=cs.length:=by omega
   have t3:decide ((cs.length:Int) < (cs.length:Int))=false:=by simp
   have HKEY:Hid (∀ (q:Nat) (h:q < cs.length),cs[q].key.length≤40):=Lib.hid (fun q h=>by
    have h1:=HF.out q h
    rw [badAt_eq cs q h] at h1
    unfold bad1 at h1
    simp only [Bool.or_eq_false_iff,decide_eq_false_iff_not] at h1
    omega)
   go_wp2_with fail
   go_loopw [7] (fun kv wx=>∃ k:Nat,k≤cs.length∧kv=.int .i64 k∧Hid (∀ q,q < k→∀ (h:q < cs.length),cs[q].val.length≤4096)∧Below W.heap.size W wx) (fun k _=>cs.length - (intOf k).toNat)
   case atStart=>exact ⟨0,Nat.zero_le _,rfl,Lib.hid (fun q hq=>by omega),HBW.out⟩
   case round=>
    obtain ⟨k,hkn,rfl,HVL,hbk⟩:=hrel
    have HBK:=Lib.hid hbk
    clear hbk
    by_cases hk:k < cs.length
    ·have t4:decide ((k:Int) < (cs.length:Int))=true:=decide_eq_true (by omega)
     obtain ⟨av,cv,hcw⟩:=HALL.out k hk
     obtain ⟨_,c1,_⟩:=hcw wr HBK.out
     clear hcw
     have hbd:=(HBD.out cs[k] (List.getElem_mem hk)).2
     obtain ⟨vl,hvl⟩:∃ n,cs[k].val.length=n:=⟨_,rfl⟩
     rw [hvl] at c1 hbd
     have HVK:=Lib.hid hvl
     clear hvl
     by_cases h4:4096 < vl
     ·have s1:decide ((4096:Int) < (vl:Int))=true:=decide_eq_true (by omega)
      have HR3:Hid (Ending.returned (.int .i64 3)=.returned (.int .i64 (rCheckN P cs))):=Lib.hid (by
       rw [rck_valid HM.out (valid_long cs HF.out (by
        have h:(cs.any fun c=>decide (4096 < c.val.length))=true:=List.any_eq_true.2 ⟨cs[k],List.getElem_mem hk,decide_eq_true (by rw [HVK.out]; exact h4)⟩
        rw [h]; rfl)) (by decide)])
      go_wp2
      go_ret
      exact ⟨HR3.out,HBK.out⟩
     ·have s1:decide ((4096:Int) < (vl:Int))=false:=decide_eq_false (by omega)
      go_wp2
      go_roundw
      case rel=>exact ⟨k+1,by omega,by go_num,Lib.hid (fun q hq h=>by
       by_cases e:q=k
       ·subst e; rw [HVK.out]; omega
       ·exact HVL.out q (by omega) h),HBK.out⟩
      case measure=>simp [intOf]; omega
    ·obtain rfl:k=cs.length:=by omega
     have t4:decide ((cs.length:Int) < (cs.length:Int))=false:=by simp
     have HCD:=Lib.hid (rcode_c (.slice (some ⟨g,off,none⟩) cs.length cap) cs wr ((HC.out.below HBK.out).raise HBK.out.size) (by omega) (fun c hc=>by
      obtain ⟨q,hq,rfl⟩:=List.mem_iff_getElem.1 hc
      have h1:=HKEY.out q hq
      have h2:=HVL.out q hq hq
      omega))
     go_wp2_with fail
     refine HCD.out.mono ?_
     rintro e w2 ⟨⟨v2,rfl,hown⟩,hb2⟩
     obtain ⟨a2,c2,rfl,_⟩:=(RdB.of_own hown).open_
     have HB2:=Lib.hid (HBK.out.trans (hb2.mono HBK.out.size))
     clear HCD hown hb2
     have hcs:(codeOf cs).length=codeSize cs:=code_len cs
     obtain ⟨cn,hcn⟩:∃ n,(codeOf cs).length=n:=⟨_,rfl⟩
     rw [hcn] at hcs
     rw [hcn]
     have HCS:=Lib.hid hcs
     have hcb:cn≤10000000:=by
      rw [hcs]
      have h:∀ L:List Chg,(∀ c ∈ L,c.key.length≤40∧c.val.length≤4096)→(L.map chgSize).sum≤L.length * 5000:=by
       intro L
       induction L with
       | nil=>intro _; simp
       | cons x L ih=>
         intro h
         have h1:=ih (fun c hc=>h c (List.mem_cons_of_mem _ hc))
         have h2:=h x List.mem_cons_self
         rw [List.map_cons,List.sum_cons,List.length_cons]
         have h3:chgSize x≤5000:=by unfold chgSize; split <;> omega
         omega
      have h2:=h cs (fun c hc=>by
       obtain ⟨q,hq,rfl⟩:=List.mem_iff_getElem.1 hc
       exact ⟨HKEY.out q hq,HVL.out q hq hq⟩)
      unfold codeSize
      have h4:cs.length * 5000≤64 * 5000:=Nat.mul_le_mul_right _ hn64
      omega
     clear hcs hcn
     have HAV:Hid ((cs.any fun c=>decide (4096 < c.val.length))=false):=Lib.hid (by
      rw [List.any_eq_false]
      intro c hc
      obtain ⟨q,hq,rfl⟩:=List.mem_iff_getElem.1 hc
      have h2:=HVL.out q hq hq
      simp; omega)
     by_cases hlong:65536 < cn
     ·have s1:decide ((65536:Int) < (cn:Int))=true:=decide_eq_true (by omega)
      have HR3:Hid (Ending.returned (.int .i64 3)=.returned (.int .i64 (rCheckN P cs))):=Lib.hid (by
       rw [rck_valid HM.out (valid_long cs HF.out (by rw [← HCS.out,decide_eq_true hlong]; simp)) (by decide)])
      go_wp2
      go_ret
      exact ⟨HR3.out,HB2.out⟩
     have s1:decide ((65536:Int) < (cn:Int))=false:=decide_eq_false (by omega)
     have HVAL:Hid (validP cs=0):=Lib.hid (valid_fine cs HF.out (by rw [HAV.out,← HCS.out,decide_eq_false hlong]; rfl))
     go_wp2_with fail
     go_loopw [8] (fun kv wx=>∃ k:Nat,k≤cs.length∧kv=.int .i64 k∧Hid (∀ q,q < k→∀ (h:q < cs.length),(cs[q].drop && !(pFind P cs[q].key).isSome)=false)∧Below W.heap.size W wx) (fun k _=>cs.length - (intOf k).toNat)
     case atStart=>exact ⟨0,Nat.zero_le _,rfl,Lib.hid (fun q hq=>by omega),HB2.out⟩
     case round=>
      obtain ⟨k,hkn,rfl,HMS,hbk⟩:=hrel
      have HBQ:=Lib.hid hbk
      clear hbk
      by_cases hk:k < cs.length
      ·have t5:decide ((k:Int) < (cs.length:Int))=true:=decide_eq_true (by omega)
       obtain ⟨av,cv,hcw⟩:=HALL.out k hk
       obtain ⟨x0,_,x2⟩:=hcw wr HBQ.out
       clear hcw
       obtain ⟨ck,hck⟩:∃ c,cs[k]=c:=⟨_,rfl⟩
       rw [hck] at x0 x2
       have HCK:=Lib.hid hck
       clear hck
       obtain ⟨key,val,drop⟩:=ck
       simp only at x0 x2
       cases drop with
       | false=>
         go_wp2
         go_roundw
         case rel=>exact ⟨k+1,by omega,by go_num,Lib.hid (fun q hq h=>by
          by_cases e:q=k
          ·subst e; rw [HCK.out]; rfl
          ·exact HMS.out q (by omega) h),HBQ.out⟩
         case measure=>simp [intOf]; omega
       | true=>
         have HFD:=Lib.hid (rfind_c (.slice al P.length cl) P key W.heap.size wr (HV.out.below HBQ.out))
         go_wp2_with fail
         refine HFD.out.mono ?_
         rintro e w3 ⟨⟨n,rfl,hn1,hn2⟩,rfl⟩
         clear HFD
         cases hs:(pFind P key).isSome with
         | true=>
           rw [hs] at hn2
           have hn3:decide (n < 0)=false:=hn2
           clear hn2
           go_wp2
           go_roundw
           case rel=>exact ⟨k+1,by omega,by go_num,Lib.hid (fun q hq h=>by
            by_cases e:q=k
            ·subst e; rw [HCK.out]; simp only [hs]; rfl
            ·exact HMS.out q (by omega) h),HBQ.out⟩
           case measure=>simp [intOf]; omega
         | false=>
           rw [hs] at hn2
           have hn3:decide (n < 0)=true:=hn2
           have HR6:Hid (Ending.returned (.int .i64 6)=.returned (.int .i64 (rCheckN P cs))):=Lib.hid (by
            rw [rck_none HM.out HVAL.out (List.any_eq_true.2 ⟨cs[k],List.getElem_mem hk,by rw [HCK.out]; simp only [hs]; rfl⟩)])
           clear hn2
           go_wp2
           go_ret
           exact ⟨HR6.out,HBQ.out⟩
      ·obtain rfl:k=cs.length:=by omega
       have t5:decide ((cs.length:Int) < (cs.length:Int))=false:=by simp
       have HRS:Hid (rCheckN P cs=if 131072 < pWt (pChgs P cs) then 4 else 0):=Lib.hid (rck_rest HM.out HVAL.out (by
        rw [List.any_eq_false]
        intro c hc
        obtain ⟨q,hq,rfl⟩:=List.mem_iff_getElem.1 hc
        have h2:=HMS.out q hq hq
        rw [h2]; simp))
       have HCH:=Lib.hid (rchanged_c (.slice al P.length cl) P (.slice (some ⟨g,off,none⟩) cs.length cap) cs wr ((HV.out.below HBQ.out).mono HBQ.out.size) ((HC.out.below HBQ.out).raise HBQ.out.size) hP (by omega))
       go_wp2_with fail
       refine HCH.out.mono ?_
       rintro e w5 ⟨⟨v5,rfl,he5⟩,hb5⟩
       have HB5:=Lib.hid (HBQ.out.trans (hb5.mono HBQ.out.size))
       have HWT:=Lib.hid (rweight_c v5 (pChgs P cs) w5.heap.size w5 he5 HW.out)
       clear HCH hb5 he5
       go_wp2_with fail
       refine HWT.out.mono ?_
       rintro e w6 ⟨rfl,hb6⟩
       have HB6:=Lib.hid (HB5.out.trans (hb6.mono HB5.out.size))
       clear HWT hb6
       obtain ⟨wt,hwt⟩:∃ n,pWt (pChgs P cs)=n:=⟨_,rfl⟩
       rw [hwt]
       rw [hwt] at HRS
       clear hwt
       by_cases hf:131072 < wt
       ·have s2:decide ((131072:Int) < wt)=true:=decide_eq_true hf
        have HR4:Hid (Ending.returned (.int .i64 4)=.returned (.int .i64 (rCheckN P cs))):=Lib.hid (by rw [HRS.out,if_pos hf])
        go_wp2
        go_ret
        exact ⟨HR4.out,HB6.out⟩
       ·have s2:decide ((131072:Int) < wt)=false:=decide_eq_false hf
        have HR0:Hid (Ending.returned (.int .i64 0)=.returned (.int .i64 (rCheckN P cs))):=Lib.hid (by rw [HRS.out,if_neg hf])
        go_wp2
        go_ret
        exact ⟨HR0.out,HB6.out⟩
end
section
open Go.RowKit SeedP Go.Maps
structure RcRow (w:World) (B:Nat) (v:Value) (xs:List (Chg × Value)):Prop where
 row:w.ownsRow B 104 3 v xs.length (crow xs)
 val:∀ p ∈ xs,w.ownsRow B 5 1 p.2 p.1.val.length (byts p.1.val)
theorem RcRow.nil (w:World) (B:Nat):RcRow w B (.slice none 0 0) []:=⟨World.ownsRow_nil w B _ 3,fun p hp=>by cases hp⟩
theorem RcRow.grown {w w':World} {S:Nat→Prop} {B:Nat} {v:Value} {xs:List (Chg × Value)} (h:RcRow w B v xs) (hg:Grown S w w') (hn:∀ g,B≤g→g < w.heap.size→¬ S g):RcRow w' B v xs:=
 ⟨own_grown h.row hg hn,fun p hp=>own_grown (h.val p hp) hg hn⟩
theorem RcRow.below {w w':World} {B:Nat} {v:Value} {xs:List (Chg × Value)} (h:RcRow w B v xs) (hb:Below w.heap.size w w'):RcRow w' B v xs:=h.grown (Grown.of_below hb) (fun _ _ _ h=>h)
theorem RcRow.toAt {w:World} {B:Nat} {v:Value} {xs:List (Chg × Value)} (h:RcRow w B v xs):ChgsAt w w.heap.size v (xs.map (·.1)):=by
 have hr:=h.row
 obtain ⟨hl,h2⟩:=h.row
 rcases h2 with ⟨rfl,h0⟩ | ⟨g,cap,cur,rfl,hB,hg,hn,hc,_⟩
 ·obtain rfl:=List.eq_nil_of_length_eq_zero h0
  exact ⟨none,0,by simp,Nat.le_refl _,Nat.zero_le _,Or.inl rfl⟩
 ·refine ⟨_,cap,by rw [List.length_map],by rw [List.length_map]; exact hn,hc,Or.inr ⟨g,0,rfl,(hr.lt g (by simp [Value.ownBlock])).2,fun j hj=>?_⟩⟩
  have hj':j < xs.length:=by simpa using hj
  have hc3:∀ o u,o < 3→(chgCells xs[j])[o]?=some u→w.cell? ⟨g,0+j * 3+o,none⟩=some u:=fun o u ho hu=>by
   have:=hr.cells (g:=g) rfl (j * 3+o) u (by rw [crow_get xs j o hj' ho]; exact hu)
   have e:(⟨g,0,none⟩:Addr).add (j * 3+o)=⟨g,0+j * 3+o,none⟩:=by unfold Addr.add; split <;> simp_all
   rw [← e]; exact this
  refine ⟨xs[j].2,?_,?_,?_,?_⟩
  ·rw [List.getElem_map]; exact hc3 0 _ (by omega) rfl
  ·exact hc3 1 _ (by omega) rfl
  ·rw [List.getElem_map]; exact hc3 2 _ (by omega) rfl
  ·rw [List.getElem_map]; exact RdB.of_own (h.val xs[j] (List.getElem_mem hj'))
theorem infoRC:(Tryz.prog.info? 104).map (fun i=>(i.zero,i.size,i.bytes))=some (some (.agg #[.string ⟨#[]⟩,.slice none 0 0,.bool false]),3,48):=by kernel_rfl
theorem wpList_rc {w:World} {ops:Array Oper} {rest:List Oper} {o:Oper} {a:Act} {Q:Exit→Act→World→Prop} (hgd:o.guard=none) (s x:Operand)
 (ho:o.op=.call { callee:=.builtin .append,args:=#[s,x],argTypes:=#[64,64] })
 (B:Nat) (v:Value) (xs:List (Chg × Value)) (hs:a.eval s=v) (h:RcRow w B v xs) (g c:Nat) (y:Chg × Value) (hx:a.eval x=.slice (some ⟨g,0,none⟩) 1 c)
 (hg:Blk w g 104 (chgCells y)) (hy:w.ownsRow B 5 1 y.2 y.1.val.length (byts y.1.val)) (h1:y.2.oneCell'=true) (hn:xs.length≤1000000) (hB:B≤w.heap.size)
 (hK:∀ v' w',RcRow w' B v' (xs ++ [y])→Below B w w'→wpList Tryz.prog ops Q rest (a.put o.dst v') w'):wpList Tryz.prog ops Q (o :: rest) a w:=by
 have hi:=infoRC
 obtain ⟨i,hi,hz⟩:=Option.map_eq_some_iff.1 hi
 simp only [Prod.mk.injEq] at hz
 obtain ⟨hz1,hz2,hz3⟩:=hz
 refine wpList_append_own (P:=Tryz.prog) _ hgd s x 64 ho B 104 i _ 3 48 Tryz.underlying64 hi hz1 hz2 hz3 rfl (by decide) v xs.length (crow xs) hs h.row ⟨g,0,none⟩ 1 c (chgCells y) hx rfl ?_ ?_ ?_ ?_ hB ?_
 ·intro j u hu
  have e0:(⟨g,0,none⟩:Addr).add j=⟨g,j,none⟩:=by unfold Addr.add; split <;> simp_all
  have hj:=(List.getElem?_eq_some_iff.1 hu).1
  rw [e0,hg.cell j hj,List.getD_eq_getElem?_getD,hu]; rfl
 ·intro u hu
  simp only [chgCells,List.mem_cons,List.not_mem_nil,or_false] at hu
  rcases hu with rfl | rfl | rfl
  ·rfl
  ·exact h1
  ·rfl
 ·unfold maxLen; omega
 ·omega
 ·intro v' w' hown hgr _
  have hb:Below B w w':=(Below.refl _ _).grown hgr hB (fun k e=>(h.row.lt k e).1)
  refine hK v' w' ⟨?_,fun p hp=>?_⟩ hb
  ·rw [List.length_append,crow_snoc]; exact hown
  ·have hne:∀ q:Value,∀ m zs,w.ownsRow B 5 1 q m zs→w'.ownsRow B 5 1 q m zs:=fun q m zs hq=>by
    refine hq.kept hgr ?_
    cases hq0:q.ownBlock with
    | none=>exact Or.inl rfl
    | some k=>
      refine Or.inr (fun e=>?_)
      rcases hq.2 with ⟨rfl,_⟩ | ⟨g1,c1,cur1,rfl,_,hh1,_⟩
      ·simp [Value.ownBlock] at hq0
      rcases h.row.2 with ⟨rfl,_⟩ | ⟨g2,c2,cur2,rfl,_,hh2,_⟩
      ·simp [Value.ownBlock] at e
      simp only [Value.ownBlock,Option.some.injEq] at hq0 e
      rw [hq0] at hh1
      rw [← e] at hh2
      rw [hh1] at hh2
      cases hh2
   rcases List.mem_append.1 hp with hp | hp
   ·exact hne _ _ _ (h.val p hp)
   ·obtain rfl:p=y:=by simpa using hp
    exact hne _ _ _ hy
theorem rowV_form {w:World} {B n m:Nat} {e:TypeId} {v:Value} {xs:List Value} (h:w.ownsRow B e m v n xs):∃ a cap,v=.slice a n cap∧v.oneCell'=true:=by
 rcases h.2 with ⟨rfl,rfl⟩ | ⟨g,cap,cur,rfl,_⟩
 ·exact ⟨_,_,rfl,rfl⟩
 ·exact ⟨_,_,rfl,rfl⟩
/-- the changes that bytes tell -/
def rChs:Nat→List UInt8→Option (List Chg)
 | 0,_=>some []
 | n+1,b=>if b.length < 1 then some []
   else if b.getD 0 0=0 then match rOne (b.drop 1) with
    | none=>none
    | some (e,m)=>(rChs n (b.drop (1+m))).map (⟨e.1,e.2,false⟩ :: ·)
   else if 1 < (b.getD 0 0).toNat∨b.length < 2∨b.length < 2+(b.getD 1 0).toNat then none
   else (rChs n (b.drop (2+(b.getD 1 0).toNat))).map (⟨(b.drop 2).take (b.getD 1 0).toNat,[],true⟩ :: ·)
def rChanges (b:List UInt8):Option (List Chg):=
 if b.length < 1 then none
 else match rChs b.length (b.drop 1) with
  | none=>none
  | some cs=>if cs.length=(b.getD 0 0).toNat then some cs else none
/-- what changes returns -/
def ChsRes (R:Option (List Chg)) (e:Ending) (w:World):Prop:=
 match R with
 | none=>∃ v,e=.returned (.tuple #[v,.bool false])
 | some cs=>∃ v,e=.returned (.tuple #[v,.bool true])∧ChgsAt w w.heap.size v cs
/-- how far it is -/
structure ChsAt (b:List UInt8) (xs:List (Chg × Value)) (i:Nat):Prop where
 tell:∃ n,rChs b.length (b.drop 1)=(rChs n (b.drop i)).map (xs.map (·.1) ++ ·)∧b.length≤n+i
 len:xs.length≤i
theorem ChsAt.start (b:List UInt8):ChsAt b [] 1:=⟨⟨b.length,by simp,by omega⟩,by simp⟩
theorem map_snoc (xs:List (Chg × Value)) (y:Chg × Value) (o:Option (List Chg)):(o.map (y.1 :: ·)).map (xs.map (·.1) ++ ·)=o.map ((xs ++ [y]).map (·.1) ++ ·):=by
 cases o <;> simp
theorem ChsAt.step {b:List UInt8} {xs:List (Chg × Value)} {i:Nat} (h:ChsAt b xs i) (hi:i < b.length) :
 (b.getD i 0=0→match rOne (b.drop (i+1)) with
  | none=>rChanges b=none
  | some (e,m)=>∀ v,ChsAt b (xs ++ [(⟨e.1,e.2,false⟩,v)]) (i+1+m)) ∧
 (b.getD i 0 ≠ 0→(1 < (b.getD i 0).toNat∨b.length < i+2∨b.length < i+2+(b.getD (i+1) 0).toNat)→rChanges b=none) ∧
 (b.getD i 0 ≠ 0→¬ (1 < (b.getD i 0).toNat∨b.length < i+2∨b.length < i+2+(b.getD (i+1) 0).toNat)→∀ v,ChsAt b (xs ++ [(⟨(b.drop (i+2)).take (b.getD (i+1) 0).toNat,[],true⟩,v)]) (i+2+(b.getD (i+1) 0).toNat)):=by
 obtain ⟨⟨n,h1,h2⟩,h3⟩:=h
 cases n with
 | zero=>omega
 | succ n=>
   have hl:(b.drop i).length=b.length - i:=by rw [List.length_drop]
   have g0:(b.drop i).getD 0 0=b.getD i 0:=by simp [List.getD_eq_getElem?_getD]
   have g1:(b.drop i).getD 1 0=b.getD (i+1) 0:=by simp [List.getD_eq_getElem?_getD]
   have hno:∀ {o:Option (List Chg)},rChs b.length (b.drop 1)=o→o=none→rChanges b=none:=fun {o} h e=>by
    unfold rChanges
    rw [h,e,if_neg (by omega)]
   rw [rChs,if_neg (by omega),g0,g1] at h1
   simp only [List.drop_drop] at h1
   refine ⟨fun hz=>?_,fun hz hb=>?_,fun hz hb v=>?_⟩
   ·rw [if_pos hz] at h1
    cases ho:rOne (b.drop (i+1)) with
    | none=>
      rw [ho] at h1
      exact hno h1 rfl
    | some p=>
      obtain ⟨e,m⟩:=p
      rw [ho] at h1
      dsimp only at h1
      intro v
      refine ⟨⟨n,?_,by omega⟩,by simp; omega⟩
      rw [h1,← map_snoc,show i+(1+m)=i+1+m by omega]
   ·rw [if_neg hz,if_pos (by omega)] at h1
    exact hno h1 rfl
   ·rw [if_neg hz,if_neg (by omega)] at h1
    refine ⟨⟨n,?_,by omega⟩,by simp; omega⟩
    rw [h1,← map_snoc,show i+(2+(b.getD (i+1) 0).toNat)=i+2+(b.getD (i+1) 0).toNat by omega]
theorem ChsAt.done {b:List UInt8} {xs:List (Chg × Value)} {i:Nat} (h:ChsAt b xs i) (hi:b.length≤i) (h1:1≤b.length):rChanges b=if xs.length=(b.getD 0 0).toNat then some (xs.map (·.1)) else none:=by
 obtain ⟨⟨n,h2,_⟩,_⟩:=h
 have e:rChs n (b.drop i)=some []:=by
  cases n with
  | zero=>rfl
  | succ n=>rw [rChs,if_pos (by rw [List.length_drop]; omega)]
 rw [e] at h2
 unfold rChanges
 rw [if_neg (by omega),h2]
 simp
end
end Go.Proofs.YtondomklkapogaaGreatDoor
