/- The reference's Changed. -/
import Derived.Test.YtondomklkapogaaGreatDoorM21
import Derived.Deep.CutBlock
namespace Go.Proofs.YtondomklkapogaaGreatDoor
open Go.RowKit SeedP Go.Maps
set_option maxRecDepth 100000 in
set_option maxHeartbeats 4000000 in
/-- Changed -/
theorem rchanged_c (v:Value) (P:PEnts) (vc:Value) (cs:List Chg) (W:World) (hv:EntsAt W W.heap.size v P) (hc:ChgsAt W W.heap.size vc cs) (hP:P.length≤1000000) (hn:cs.length≤1000) :
 Calls Tryz.prog 59 #[v,vc] W fun e w'=>(∃ v',e=.returned v'∧EntsAt w' w'.heap.size v' (pChgs P cs))∧Below W.heap.size W w':=by
 have HC:=Lib.hid hc
 have HV:=Lib.hid hv
 obtain ⟨ac,cc,rfl,_,hccm,hcc⟩:=hc
 have HCC:=Lib.hid hcc
 clear hcc hv
 unfold maxLen at hccm
 have hcl:(cs.length:Int)≤1000:=by omega
 go_enter Tryz.func59,Tryz.ntmps59
 go_wp2_with fail
 go_loopw [0,5] (fun lv iv wx=>∃ i:Nat,i≤cs.length∧iv=.int .i64 i∧EntsAt wx wx.heap.size lv (pChgs P (cs.take i))∧Below W.heap.size W wx) (fun _ i _=>cs.length - (intOf i).toNat)
 case atStart=>exact ⟨0,Nat.zero_le _,rfl,HV.out,Below.refl _ _⟩
 case round=>
  obtain ⟨i,hi,rfl,hl,hbw⟩:=hrel
  clear HV
  have HL:=Lib.hid hl
  have HBW:=Lib.hid hbw
  clear hl hbw
  by_cases hlt:i < cs.length
  ·have t1:decide ((i:Int) < (cs.length:Int))=true:=decide_eq_true (by omega)
   rcases HCC.out with h | ⟨g,off,rfl,hg,hcell⟩
   ·rw [h] at hlt; simp at hlt
   have hch:=hcell i hlt
   clear hcell HCC
   have HNX:=Lib.hid (show pChgs P (cs.take (i+1))=pChg (pChgs P (cs.take i)) cs[i] by
    rw [List.take_succ_eq_append_getElem hlt]; unfold pChgs; rw [List.foldl_append]; rfl)
   have hql:(pChgs P (cs.take i)).length≤1001000:=by
    have h:∀ (L:List Chg) (Q:PEnts),(pChgs Q L).length≤Q.length+L.length:=by
     intro L
     induction L with
     | nil=>intro Q; simp [pChgs]
     | cons x L ih=>
       intro Q
       have h1:=ih (pChg Q x)
       have h2:=pChg_length Q x
       unfold pChgs at h1 ⊢
       rw [List.foldl_cons,List.length_cons]
       omega
    have h2:=h (cs.take i) P
    have h3:(cs.take i).length≤1000:=by rw [List.length_take]; omega
    omega
   generalize pChgs P (cs.take i)=E at *
   obtain ⟨vv,d0,d1,d2,dv⟩:=hch
   have HALL:Hid (∀ wx,Below W.heap.size W wx→wx.cell? ⟨g,off+i * 3,none⟩=some (strV cs[i].key)∧wx.cell? ⟨g,off+i * 3+1,none⟩=some vv∧wx.cell? ⟨g,off+i * 3+2,none⟩=some (.bool cs[i].drop)∧RdB wx W.heap.size vv cs[i].val):=Lib.hid (fun wx hbx=>
    ⟨(hbx.cell (p:=⟨g,off+i * 3,none⟩) hg).trans d0,(hbx.cell (p:=⟨g,off+i * 3+1,none⟩) hg).trans d1,(hbx.cell (p:=⟨g,off+i * 3+2,none⟩) hg).trans d2,dv.below hbx⟩)
   obtain ⟨c0,c1,c2,hvv⟩:=HALL.out wr HBW.out
   clear d0 d1 d2 dv
   generalize cs[i]=cg at *
   obtain ⟨key,val,drop⟩:=cg
   simp only at c0 c1 c2 hvv
   obtain ⟨av,cv,rfl,_⟩:=hvv.open_
   clear hvv
   obtain ⟨al,cl,rfl,hll,hlm,_⟩:=HL.out
   unfold maxLen at hlm
   have hel:(E.length:Int)≤1001000:=by omega
   go_wp2_with fail
   generalize wr=W0 at *
   have hW0:=HBW.out.size
   go_loopw [6,7,8] (fun ov pv kv wx=>∃ (j:Nat) (put:Bool) (xs:List EV),j≤E.length∧kv=.int .i64 j∧pv=.bool put∧xs.length≤2 * j∧wx.ownsRow W0.heap.size 96 2 ov xs.length (rowR xs)∧(∀ p ∈ xs,RdB wx W0.heap.size p.2 p.1.2)∧Hid (xs.map (·.1) ++ rGo key val put (E.drop j)=rGo key val drop E)∧Below W0.heap.size W0 wx) (fun _ _ k _=>E.length - (intOf k).toNat)
   case atStart=>exact ⟨0,drop,[],Nat.zero_le _,rfl,rfl,by simp,World.ownsRow_nil _ _ _ _,(fun p hp=>by cases hp),Lib.hid (by rw [List.drop_zero]; rfl),Below.refl _ _⟩
   case round=>
    obtain ⟨j,put,xs,hje,rfl,rfl,hxl,hown,hvs,HGO,hb⟩:=hrel
    have HOWN:=Lib.hid hown
    have HVS:=Lib.hid hvs
    have HB:=Lib.hid hb
    have HBD:=Lib.hid (hb.trans ((bl_drew wr).mono hb.size))
    clear hown hvs hb c0 c1 c2
    by_cases hj:j < E.length
    ·have t2:decide ((j:Int) < (E.length:Int))=true:=decide_eq_true (by omega)
     obtain ⟨al2,cl2,e2,_,_,h2⟩:=HL.out
     simp only [Value.slice.injEq] at e2
     obtain ⟨rfl,_,rfl⟩:=e2
     rcases h2 with h2 | ⟨g2,off2,rfl,hg2,hcell⟩
     ·rw [h2] at hj; simp at hj
     obtain ⟨ve,d0,d1,dv⟩:=hcell j hj
     have HENT:Hid (∀ wx,Below W0.heap.size W0 wx→wx.cell? ⟨g2,off2+j * 2,none⟩=some (strV E[j].1)∧wx.cell? ⟨g2,off2+j * 2+1,none⟩=some ve∧RdB wx W0.heap.size ve E[j].2):=Lib.hid (fun wx hbx=>
      ⟨(hbx.cell (p:=⟨g2,off2+j * 2,none⟩) hg2).trans d0,(hbx.cell (p:=⟨g2,off2+j * 2+1,none⟩) hg2).trans d1,dv.below hbx⟩)
     have hgo:=HGO.out
     rw [List.drop_eq_getElem_cons hj,rGo] at hgo
     have HG2:=Lib.hid hgo
     clear hcell d0 d1 hgo HGO
     generalize E[j]=en at *
     obtain ⟨ave,cve,rfl,_⟩:=dv.open_
     clear dv
     cases put with
     | true=>
       go_upto_region 9 with (fail)
       refine wp_region_mix (by kernel_rfl) (by kernel_rfl) (by kernel_rfl) [some (.bool true),some (.bool false),some (.bool false),some undef,some undef,some undef,some undef,some undef,some undef,some undef,some undef,some undef,some undef,some undef,some (.bool false)] [] (by kernel_rfl) (by kernel_rfl) (fun _ _ wx=>wx=wr.drew) rfl ?_ ?_
       ·refine EachI.cons (MixOk.pure (by kernel_rfl) (fun _=>by kernel_rfl) (fun _ _=>by kernel_rfl)) ?_
        refine EachI.cons (MixOk.pure (by kernel_rfl) (fun _=>by kernel_rfl) (fun _ _=>by kernel_rfl)) ?_
        refine EachI.cons (MixOk.pure (by kernel_rfl) (fun _=>by kernel_rfl) (fun _ _=>by kernel_rfl)) ?_
        refine EachI.cons (MixOk.skip (by kernel_rfl) (fun _=>by kernel_rfl) (fun _=>by kernel_rfl)) ?_
        refine EachI.cons (MixOk.skip (by kernel_rfl) (fun _=>by kernel_rfl) (fun _=>by kernel_rfl)) ?_
        refine EachI.cons (MixOk.skip (by kernel_rfl) (fun _=>by kernel_rfl) (fun _=>by kernel_rfl)) ?_
        refine EachI.cons (MixOk.skip (by kernel_rfl) (fun _=>by kernel_rfl) (fun _=>by kernel_rfl)) ?_
        refine EachI.cons (MixOk.skip (by kernel_rfl) (fun _=>by kernel_rfl) (fun _=>by kernel_rfl)) ?_
        refine EachI.cons (MixOk.skip (by kernel_rfl) (fun _=>by kernel_rfl) (fun _=>by kernel_rfl)) ?_
        refine EachI.cons (MixOk.skip (by kernel_rfl) (fun _=>by kernel_rfl) (fun _=>by kernel_rfl)) ?_
        refine EachI.cons (MixOk.skip (by kernel_rfl) (fun _=>by kernel_rfl) (fun _=>by kernel_rfl)) ?_
        refine EachI.cons (MixOk.skip (by kernel_rfl) (fun _=>by kernel_rfl) (fun _=>by kernel_rfl)) ?_
        refine EachI.cons (MixOk.skip (by kernel_rfl) (fun _=>by kernel_rfl) (fun _=>by kernel_rfl)) ?_
        refine EachI.cons (MixOk.skip (by kernel_rfl) (fun _=>by kernel_rfl) (fun _=>by kernel_rfl)) ?_
        refine EachI.cons (MixOk.pure (by kernel_rfl) (fun _=>by kernel_rfl) (fun _ _=>by kernel_rfl)) ?_
        exact EachI.nil
       intro ws L' hL' w7 hG7
       subst hG7
       simp only [setAll,mix,List.set_cons_succ,List.set_cons_zero,List.getElem?_cons_succ,List.getElem?_cons_zero,Option.join_some,Option.getD_some,Nat.reduceAdd] at hL'
       subst hL'
       have HO:=Lib.hid HOWN.out.drew
       have HV:Hid (∀ p ∈ xs,RdB wr.drew W0.heap.size p.2 p.1.2):=Lib.hid (fun p hp=>(HVS.out p hp).drew)
       have HBx:=HBD
       clear HOWN HVS HB HBD
       generalize wr.drew=wa at *
       go_upto_region 12 with (fail)
       have HBD2:=Lib.hid (HBx.out.trans ((bl_drew wa).mono HBx.out.size))
       refine wp_region_mix (by kernel_rfl) (by kernel_rfl) (by kernel_rfl) [some (.slice (some ⟨g2,off2,none⟩) E.length cl),some (.int .i64 (j:Int)),some (.pointer (some ⟨g2,off2+j * 2,none⟩)),some (.pointer (some ⟨g2,off2+j * 2,none⟩)),some (strV en.1),some (.slice (some ⟨g,off,none⟩) cs.length cc),some (.int .i64 (i:Int)),some (.pointer (some ⟨g,off+i * 3,none⟩)),some (.pointer (some ⟨g,off+i * 3,none⟩)),some (strV key),some (.bool (!(en.1 == key)))] [] (by kernel_rfl) (by kernel_rfl) (fun _ _ wx=>wx=wa.drew) rfl ?_ ?_
       ·refine EachI.cons (MixOk.pure (by kernel_rfl) (fun _=>by kernel_rfl) (fun _ _=>by kernel_rfl)) ?_
        refine EachI.cons (MixOk.pure (by kernel_rfl) (fun _=>by kernel_rfl) (fun _ _=>by kernel_rfl)) ?_
        refine EachI.cons (MixOk.pure (by kernel_rfl) (fun _=>by kernel_rfl) (fun _ wx=>xr_atE _ _ _ _ _ _ _ _ g2 off2 E.length cl j wx (by kernel_rfl) (by kernel_rfl) hj)) ?_
        refine EachI.cons (MixOk.pure (by kernel_rfl) (fun _=>by kernel_rfl) (fun _ _=>by kernel_rfl)) ?_
        refine EachI.cons (MixOk.look (by kernel_rfl) (fun _=>by kernel_rfl) (fun dn ws wx hG hdep hcl hni=>xr_str _ _ _ _ _ _ _ ⟨g2,off2+j * 2,none⟩ _ wx (by kernel_rfl) (HENT.out wx (by subst hG; exact HBD2.out)).1)) ?_
        refine EachI.cons (MixOk.pure (by kernel_rfl) (fun _=>by kernel_rfl) (fun _ _=>by kernel_rfl)) ?_
        refine EachI.cons (MixOk.pure (by kernel_rfl) (fun _=>by kernel_rfl) (fun _ _=>by kernel_rfl)) ?_
        refine EachI.cons (MixOk.pure (by kernel_rfl) (fun _=>by kernel_rfl) (fun _ wx=>xr_atC _ _ _ _ _ _ _ _ g off cs.length cc i wx (by kernel_rfl) (by kernel_rfl) hlt)) ?_
        refine EachI.cons (MixOk.pure (by kernel_rfl) (fun _=>by kernel_rfl) (fun _ _=>by kernel_rfl)) ?_
        refine EachI.cons (MixOk.look (by kernel_rfl) (fun _=>by kernel_rfl) (fun dn ws wx hG hdep hcl hni=>xr_str _ _ _ _ _ _ _ ⟨g,off+i * 3,none⟩ _ wx (by kernel_rfl) (HALL.out wx (HBW.out.trans (Below.mono (by subst hG; exact HBD2.out) HBW.out.size))).1)) ?_
        refine EachI.cons (MixOk.pure (by kernel_rfl) (fun _=>by kernel_rfl) (fun _ wx=>xr_neqS _ _ _ _ _ _ _ _ en.1 key wx (by kernel_rfl) (by kernel_rfl))) ?_
        exact EachI.nil
       intro ws L' hL' w7 hG7
       subst hG7
       simp only [setAll,mix,List.set_cons_succ,List.set_cons_zero,List.getElem?_cons_succ,List.getElem?_cons_zero,Option.join_some,Option.getD_some,Nat.reduceAdd] at hL'
       subst hL'
       have HO2:=Lib.hid HO.out.drew
       have HV2:Hid (∀ p ∈ xs,RdB wa.drew W0.heap.size p.2 p.1.2):=Lib.hid (fun p hp=>(HV.out p hp).drew)
       clear HO HV HBx
       generalize wa.drew=wb at *
       cases hk:(en.1 == key) with
       | true=>
         go_wp2
         go_roundw
         case rel=>exact ⟨j+1,true,xs,by omega,by go_num,rfl,by omega,HO2.out,HV2.out,Lib.hid (by have h:=HG2.out; simpa [hk] using h),HBD2.out⟩
         case measure=>simp [intOf]; omega
       | false=>
         obtain ⟨x0,x1,xv⟩:=HENT.out wb HBD2.out
         have hba:=(Below.refl wb.heap.size wb).alloc (Nat.le_refl _) (.cells #[strV en.1,.slice ave en.2.length cve] 96)
         have HO3:=Lib.hid (own_grown HO2.out (Grown.of_below hba (S:=fun _=>False)) (fun _ _ _ h=>h))
         have HN3:=Lib.hid (Blk.new wb 96 [strV en.1,.slice ave en.2.length cve])
         have HB3:=Lib.hid (HBD2.out.alloc HBD2.out.size (.cells #[strV en.1,.slice ave en.2.length cve] 96))
         have hxl3:(xs).length+1≤4294967296:=by have h:(xs).length≤2 * j+1:=(by omega); omega
         clear hba xv
         go_wp2_with (at_builtin; go_must (refine wpList_appR rfl _ _ rfl W0.heap.size u6 (xs) rfl HO3.out wb.heap.size en.1 en.2 (.slice ave en.2.length cve) rfl rfl (HN3.out.cell 0 (by simp)) (HN3.out.cell 1 (by simp)) hxl3 HB3.out.size ?_); intro v9 w9 hown9 hb9)
         have HF:=Lib.hid (And.intro hown9 (HB3.out.trans hb9))
         have HVF:Hid (∀ p ∈ xs ++ [((en.1,en.2),.slice ave en.2.length cve)],RdB w9 W0.heap.size p.2 p.1.2):=Lib.hid (fun p hp=>by
          have hal:Below W0.heap.size wb w9:=(Below.refl W0.heap.size wb).alloc HBD2.out.size (.cells #[strV en.1,.slice ave en.2.length cve] 96) |>.trans hb9
          rcases List.mem_append.1 hp with hp | hp
          ·exact (HV2.out p hp).below hal
          ·obtain rfl:=List.mem_singleton.1 hp
           exact (HENT.out w9 (HBD2.out.trans hal)).2.2)
         clear hown9 hb9 HO2 HV2 HO3 HN3 HB3 HBD2
         go_wp2
         go_roundw
         case rel=>exact ⟨j+1,true,xs ++ [((en.1,en.2),.slice ave en.2.length cve)],by omega,by go_num,rfl,by simp; omega,HF.out.1,HVF.out,Lib.hid (by have h:=HG2.out; simpa [hk] using h),HF.out.2⟩
         case measure=>simp [intOf]; omega
     | false=>
       cases hbb:bytesBefore key en.1 with
       | true=>
         go_upto_region 9 with (fail)
         refine wp_region_mix (by kernel_rfl) (by kernel_rfl) (by kernel_rfl) [some (.bool false),some (.bool true),some (.bool true),some (.slice (some ⟨g2,off2,none⟩) E.length cl),some (.int .i64 (j:Int)),some (.pointer (some ⟨g2,off2+j * 2,none⟩)),some (.pointer (some ⟨g2,off2+j * 2,none⟩)),some (strV en.1),some (.slice (some ⟨g,off,none⟩) cs.length cc),some (.int .i64 (i:Int)),some (.pointer (some ⟨g,off+i * 3,none⟩)),some (.pointer (some ⟨g,off+i * 3,none⟩)),some (strV key),some (.bool (bytesBefore key en.1)),some (.bool (bytesBefore key en.1))] [] (by kernel_rfl) (by kernel_rfl) (fun _ _ wx=>wx=wr.drew) rfl ?_ ?_
         ·refine EachI.cons (MixOk.pure (by kernel_rfl) (fun _=>by kernel_rfl) (fun _ _=>by kernel_rfl)) ?_
          refine EachI.cons (MixOk.pure (by kernel_rfl) (fun _=>by kernel_rfl) (fun _ _=>by kernel_rfl)) ?_
          refine EachI.cons (MixOk.pure (by kernel_rfl) (fun _=>by kernel_rfl) (fun _ _=>by kernel_rfl)) ?_
          refine EachI.cons (MixOk.pure (by kernel_rfl) (fun _=>by kernel_rfl) (fun _ _=>by kernel_rfl)) ?_
          refine EachI.cons (MixOk.pure (by kernel_rfl) (fun _=>by kernel_rfl) (fun _ _=>by kernel_rfl)) ?_
          refine EachI.cons (MixOk.pure (by kernel_rfl) (fun _=>by kernel_rfl) (fun _ wx=>xr_atE _ _ _ _ _ _ _ _ g2 off2 E.length cl j wx (by kernel_rfl) (by kernel_rfl) hj)) ?_
          refine EachI.cons (MixOk.pure (by kernel_rfl) (fun _=>by kernel_rfl) (fun _ _=>by kernel_rfl)) ?_
          refine EachI.cons (MixOk.look (by kernel_rfl) (fun _=>by kernel_rfl) (fun dn ws wx hG hdep hcl hni=>xr_str _ _ _ _ _ _ _ ⟨g2,off2+j * 2,none⟩ _ wx (by kernel_rfl) (HENT.out wx (by subst hG; exact HBD.out)).1)) ?_
          refine EachI.cons (MixOk.pure (by kernel_rfl) (fun _=>by kernel_rfl) (fun _ _=>by kernel_rfl)) ?_
          refine EachI.cons (MixOk.pure (by kernel_rfl) (fun _=>by kernel_rfl) (fun _ _=>by kernel_rfl)) ?_
          refine EachI.cons (MixOk.pure (by kernel_rfl) (fun _=>by kernel_rfl) (fun _ wx=>xr_atC _ _ _ _ _ _ _ _ g off cs.length cc i wx (by kernel_rfl) (by kernel_rfl) hlt)) ?_
          refine EachI.cons (MixOk.pure (by kernel_rfl) (fun _=>by kernel_rfl) (fun _ _=>by kernel_rfl)) ?_
          refine EachI.cons (MixOk.look (by kernel_rfl) (fun _=>by kernel_rfl) (fun dn ws wx hG hdep hcl hni=>xr_str _ _ _ _ _ _ _ ⟨g,off+i * 3,none⟩ _ wx (by kernel_rfl) (HALL.out wx (HBW.out.trans (Below.mono (by subst hG; exact HBD.out) HBW.out.size))).1)) ?_
          refine EachI.cons (MixOk.pure (by kernel_rfl) (fun _=>by kernel_rfl) (fun _ wx=>xr_gtr _ _ _ _ _ _ _ _ en.1 key wx (by kernel_rfl) (by kernel_rfl))) ?_
          refine EachI.cons (MixOk.pure (by kernel_rfl) (fun _=>by kernel_rfl) (fun _ _=>by kernel_rfl)) ?_
          exact EachI.nil
         intro ws L' hL' w7 hG7
         subst hG7
         simp only [setAll,mix,List.set_cons_succ,List.set_cons_zero,List.getElem?_cons_succ,List.getElem?_cons_zero,Option.join_some,Option.getD_some,Nat.reduceAdd] at hL'
         subst hL'
         rw [hbb]
         have HO:=Lib.hid HOWN.out.drew
         have HV:Hid (∀ p ∈ xs,RdB wr.drew W0.heap.size p.2 p.1.2):=Lib.hid (fun p hp=>(HVS.out p hp).drew)
         have HBx:=HBD
         clear HOWN HVS HB HBD
         generalize wr.drew=wa at *
         go_upto_region 10 with (fail)
         refine wp_region_mixL (by kernel_rfl) 14 6 _ rfl rfl (by kernel_rfl) (by kernel_rfl) (Nat.le_of_ble_eq_true (by kernel_rfl)) [some u6,some (.slice (some ⟨g,off,none⟩) cs.length cc),some (.int .i64 (i:Int)),some (.pointer (some ⟨g,off+i * 3,none⟩)),some (.pointer (some ⟨g,off+i * 3,none⟩)),some (strV key),some (.slice (some ⟨g,off,none⟩) cs.length cc),some (.int .i64 (i:Int)),some (.pointer (some ⟨g,off+i * 3,none⟩)),some (.pointer (some ⟨g,off+i * 3+1,none⟩)),some (Value.slice av val.length cv),some (.agg #[strV key,Value.slice av val.length cv]),none,none,none] [12,13,14] (by kernel_rfl) (by kernel_rfl) (by kernel_rfl) (ChG W0 u6 xs key val (Value.slice av val.length cv)) ⟨HBx.out.trans ((bl_drew wa).mono HBx.out.size),fun _=>HO.out.drew,(fun h=>by cases h),(fun h=>by cases h),(fun h=>by cases h)⟩ ?_ ?_
         ·refine EachI.cons (MixOkL.pure (by kernel_rfl) (fun _=>by kernel_rfl) (fun _ _=>by kernel_rfl)) ?_
          refine EachI.cons (MixOkL.pure (by kernel_rfl) (fun _=>by kernel_rfl) (fun _ _=>by kernel_rfl)) ?_
          refine EachI.cons (MixOkL.pure (by kernel_rfl) (fun _=>by kernel_rfl) (fun _ _=>by kernel_rfl)) ?_
          refine EachI.cons (MixOkL.pure (by kernel_rfl) (fun _=>by kernel_rfl) (fun _ wx=>xr_atC _ _ _ _ _ _ _ _ g off cs.length cc i wx (by kernel_rfl) (by kernel_rfl) hlt)) ?_
          refine EachI.cons (MixOkL.pure (by kernel_rfl) (fun _=>by kernel_rfl) (fun _ _=>by kernel_rfl)) ?_
          refine EachI.cons (MixOkL.look (by kernel_rfl) (fun _=>by kernel_rfl) (fun dn ws wx hG hdep hcl hni=>xr_str _ _ _ _ _ _ _ ⟨g,off+i * 3,none⟩ _ wx (by kernel_rfl) (HALL.out wx (HBW.out.trans (hG.gb.mono hW0))).1)) ?_
          refine EachI.cons (MixOkL.pure (by kernel_rfl) (fun _=>by kernel_rfl) (fun _ _=>by kernel_rfl)) ?_
          refine EachI.cons (MixOkL.pure (by kernel_rfl) (fun _=>by kernel_rfl) (fun _ _=>by kernel_rfl)) ?_
          refine EachI.cons (MixOkL.pure (by kernel_rfl) (fun _=>by kernel_rfl) (fun _ wx=>xr_atC _ _ _ _ _ _ _ _ g off cs.length cc i wx (by kernel_rfl) (by kernel_rfl) hlt)) ?_
          refine EachI.cons (MixOkL.pure (by kernel_rfl) (fun _=>by kernel_rfl) (fun _ _=>by kernel_rfl)) ?_
          refine EachI.cons (MixOkL.look (by kernel_rfl) (fun _=>by kernel_rfl) (fun dn ws wx hG hdep hcl hni=>xr_byt _ _ _ _ _ _ _ ⟨g,off+i * 3+1,none⟩ _ wx (by kernel_rfl) (HALL.out wx (HBW.out.trans (hG.gb.mono hW0))).2.1)) ?_
          refine EachI.cons (MixOkL.pure (by kernel_rfl) (fun _=>by kernel_rfl) (fun _ wx=>xr_entry _ _ _ _ _ _ _ _ ⟨key.toArray⟩ av val.length cv wx (by kernel_rfl) (by kernel_rfl))) ?_
          refine EachI.cons (MixOkL.turn (by kernel_rfl) (fun dn ws wx hG hdep hcl hni=>?_)) ?_
          ·have h13:=not_done (hcl 13 12 (by kernel_rfl)) hni
           have h14:=not_done (hcl 14 13 (by kernel_rfl)) h13
           have hba:=(Below.refl wx.heap.size wx).alloc (Nat.le_refl _) (.cells #[strV key,Value.slice av val.length cv] 96)
           have hn:=Blk.new wx 96 [strV key,Value.slice av val.length cv]
           exact turn_run (by kernel_rfl) (.slice (some ⟨wx.heap.size,0,none⟩) 1 1) (wx.alloc (.cells #[strV key,Value.slice av val.length cv] 96)) (xr_bsE _ _ _ _ _ _ _ ⟨key.toArray⟩ av val.length cv wx (by kernel_rfl)) ⟨hG.gb.trans (hba.mono hG.gb.size),fun h=>own_grown (hG.g0 h) (Grown.of_below hba (S:=fun _=>False)) (fun _ _ _ h=>h),fun _ _=>⟨wx.heap.size,rfl,hn.cell 0 (by simp),hn.cell 1 (by simp)⟩,(fun h=>by have h:dn 13=true:=h; rw [h13] at h; cases h),(fun h=>by have h:dn 14=true:=h; rw [h14] at h; cases h)⟩
          refine EachI.cons (MixOkL.turn (by kernel_rfl) (fun dn ws wx hG hdep hcl hni=>?_)) ?_
          ·have h14:=not_done (hcl 14 13 (by kernel_rfl)) hni
           obtain ⟨q,eq,x0,x1⟩:=hG.g1 (hdep 12 (by kernel_rfl)) hni
           have eq:ws 12=.slice (some ⟨q,0,none⟩) 1 1:=eq
           have ho:=hG.g0 hni
           refine turn_appR _ _ _ _ _ _ _ (by kernel_rfl) W0.heap.size u6 xs (by kernel_rfl) ho q key val (Value.slice av val.length cv) (Eq.trans (b:=ws 12) (by kernel_rfl) eq) rfl x0 x1 (by omega) hG.gb.size (fun v' w' hown hgr=>?_)
           exact ⟨hG.gb.trans ((Below.refl _ _).grown hgr hG.gb.size (fun k hk=>(ho.lt k hk).1)),(fun h=>by cases h),(fun _ h=>by cases h),fun _=>hown,(fun h=>by have h:dn 14=true:=h; rw [h14] at h; cases h)⟩
          refine EachI.cons (MixOkL.turn (by kernel_rfl) (fun dn ws wx hG hdep hcl hni=>?_)) ?_
          ·refine turn_run (by kernel_rfl) (ws 13) wx (by kernel_rfl) ⟨hG.gb,hG.g0,hG.g1,hG.g2,fun _=>rfl⟩
          exact EachI.nil
         intro ws L' hL' w7 hG7
         have e5:ws 14=ws 13:=hG7.g3 rfl
         have HOq:Hid (w7.ownsRow W0.heap.size 96 2 (ws 13) (xs ++ [((key,val),Value.slice av val.length cv)]).length (rowR (xs ++ [((key,val),Value.slice av val.length cv)]))):=Lib.hid (hG7.g2 rfl)
         have HVq:Hid (∀ p ∈ xs ++ [((key,val),Value.slice av val.length cv)],RdB w7 W0.heap.size p.2 p.1.2):=Lib.hid (fun p hp=>by
          rcases List.mem_append.1 hp with hp | hp
          ·exact (HV.out p hp).swap HBx.out hG7.gb
          ·obtain rfl:=List.mem_singleton.1 hp
           exact ((HALL.out w7 (HBW.out.trans (hG7.gb.mono hW0))).2.2.2).mono hW0)
         have HBq:=Lib.hid hG7.gb
         simp only [List.set_cons_succ,List.set_cons_zero,setAll,mix,List.getElem?_cons_succ,List.getElem?_cons_zero,Option.join_some,Option.getD_some,Option.getD_none,Nat.reduceAdd,e5] at hL'
         subst hL'
         clear hG7 e5 HO HV HBx
         generalize ws 13=vq at *
         have HO:=HOq
         have HV:=HVq
         have HBx:=HBq
         clear HOq HVq HBq
         go_upto_region 12 with (fail)
         have HBD2:=Lib.hid (HBx.out.trans ((bl_drew w7).mono HBx.out.size))
         refine wp_region_mix (by kernel_rfl) (by kernel_rfl) (by kernel_rfl) [some (.slice (some ⟨g2,off2,none⟩) E.length cl),some (.int .i64 (j:Int)),some (.pointer (some ⟨g2,off2+j * 2,none⟩)),some (.pointer (some ⟨g2,off2+j * 2,none⟩)),some (strV en.1),some (.slice (some ⟨g,off,none⟩) cs.length cc),some (.int .i64 (i:Int)),some (.pointer (some ⟨g,off+i * 3,none⟩)),some (.pointer (some ⟨g,off+i * 3,none⟩)),some (strV key),some (.bool (!(en.1 == key)))] [] (by kernel_rfl) (by kernel_rfl) (fun _ _ wx=>wx=w7.drew) rfl ?_ ?_
         ·refine EachI.cons (MixOk.pure (by kernel_rfl) (fun _=>by kernel_rfl) (fun _ _=>by kernel_rfl)) ?_
          refine EachI.cons (MixOk.pure (by kernel_rfl) (fun _=>by kernel_rfl) (fun _ _=>by kernel_rfl)) ?_
          refine EachI.cons (MixOk.pure (by kernel_rfl) (fun _=>by kernel_rfl) (fun _ wx=>xr_atE _ _ _ _ _ _ _ _ g2 off2 E.length cl j wx (by kernel_rfl) (by kernel_rfl) hj)) ?_
          refine EachI.cons (MixOk.pure (by kernel_rfl) (fun _=>by kernel_rfl) (fun _ _=>by kernel_rfl)) ?_
          refine EachI.cons (MixOk.look (by kernel_rfl) (fun _=>by kernel_rfl) (fun dn ws wx hG hdep hcl hni=>xr_str _ _ _ _ _ _ _ ⟨g2,off2+j * 2,none⟩ _ wx (by kernel_rfl) (HENT.out wx (by subst hG; exact HBD2.out)).1)) ?_
          refine EachI.cons (MixOk.pure (by kernel_rfl) (fun _=>by kernel_rfl) (fun _ _=>by kernel_rfl)) ?_
          refine EachI.cons (MixOk.pure (by kernel_rfl) (fun _=>by kernel_rfl) (fun _ _=>by kernel_rfl)) ?_
          refine EachI.cons (MixOk.pure (by kernel_rfl) (fun _=>by kernel_rfl) (fun _ wx=>xr_atC _ _ _ _ _ _ _ _ g off cs.length cc i wx (by kernel_rfl) (by kernel_rfl) hlt)) ?_
          refine EachI.cons (MixOk.pure (by kernel_rfl) (fun _=>by kernel_rfl) (fun _ _=>by kernel_rfl)) ?_
          refine EachI.cons (MixOk.look (by kernel_rfl) (fun _=>by kernel_rfl) (fun dn ws wx hG hdep hcl hni=>xr_str _ _ _ _ _ _ _ ⟨g,off+i * 3,none⟩ _ wx (by kernel_rfl) (HALL.out wx (HBW.out.trans (Below.mono (by subst hG; exact HBD2.out) HBW.out.size))).1)) ?_
          refine EachI.cons (MixOk.pure (by kernel_rfl) (fun _=>by kernel_rfl) (fun _ wx=>xr_neqS _ _ _ _ _ _ _ _ en.1 key wx (by kernel_rfl) (by kernel_rfl))) ?_
          exact EachI.nil
         intro ws L' hL' w7 hG7
         subst hG7
         simp only [setAll,mix,List.set_cons_succ,List.set_cons_zero,List.getElem?_cons_succ,List.getElem?_cons_zero,Option.join_some,Option.getD_some,Nat.reduceAdd] at hL'
         subst hL'
         have HO2:=Lib.hid HO.out.drew
         have HV2:Hid (∀ p ∈ (xs ++ [((key,val),Value.slice av val.length cv)]),RdB w7.drew W0.heap.size p.2 p.1.2):=Lib.hid (fun p hp=>(HV.out p hp).drew)
         clear HO HV HBx
         generalize w7.drew=wb at *
         cases hk:(en.1 == key) with
         | true=>
           have ek:=eq_of_beq hk
           rw [ek,blt_irrefl] at hbb
           cases hbb
         | false=>
           obtain ⟨x0,x1,xv⟩:=HENT.out wb HBD2.out
           have hba:=(Below.refl wb.heap.size wb).alloc (Nat.le_refl _) (.cells #[strV en.1,.slice ave en.2.length cve] 96)
           have HO3:=Lib.hid (own_grown HO2.out (Grown.of_below hba (S:=fun _=>False)) (fun _ _ _ h=>h))
           have HN3:=Lib.hid (Blk.new wb 96 [strV en.1,.slice ave en.2.length cve])
           have HB3:=Lib.hid (HBD2.out.alloc HBD2.out.size (.cells #[strV en.1,.slice ave en.2.length cve] 96))
           have hxl3:((xs ++ [((key,val),Value.slice av val.length cv)])).length+1≤4294967296:=by have h:((xs ++ [((key,val),Value.slice av val.length cv)])).length≤2 * j+1:=(by simp; omega); omega
           clear hba xv
           go_wp2_with (at_builtin; go_must (refine wpList_appR rfl _ _ rfl W0.heap.size vq ((xs ++ [((key,val),Value.slice av val.length cv)])) rfl HO3.out wb.heap.size en.1 en.2 (.slice ave en.2.length cve) rfl rfl (HN3.out.cell 0 (by simp)) (HN3.out.cell 1 (by simp)) hxl3 HB3.out.size ?_); intro v9 w9 hown9 hb9)
           have HF:=Lib.hid (And.intro hown9 (HB3.out.trans hb9))
           have HVF:Hid (∀ p ∈ (xs ++ [((key,val),Value.slice av val.length cv)]) ++ [((en.1,en.2),.slice ave en.2.length cve)],RdB w9 W0.heap.size p.2 p.1.2):=Lib.hid (fun p hp=>by
            have hal:Below W0.heap.size wb w9:=(Below.refl W0.heap.size wb).alloc HBD2.out.size (.cells #[strV en.1,.slice ave en.2.length cve] 96) |>.trans hb9
            rcases List.mem_append.1 hp with hp | hp
            ·exact (HV2.out p hp).below hal
            ·obtain rfl:=List.mem_singleton.1 hp
             exact (HENT.out w9 (HBD2.out.trans hal)).2.2)
           clear hown9 hb9 HO2 HV2 HO3 HN3 HB3 HBD2
           go_wp2
           go_roundw
           case rel=>exact ⟨j+1,true,(xs ++ [((key,val),Value.slice av val.length cv)]) ++ [((en.1,en.2),.slice ave en.2.length cve)],by omega,by go_num,rfl,by simp; omega,HF.out.1,HVF.out,Lib.hid (by have h:=HG2.out; simpa [hk,hbb] using h),HF.out.2⟩
           case measure=>simp [intOf]; omega
       | false=>
         go_upto_region 9 with (fail)
         refine wp_region_mix (by kernel_rfl) (by kernel_rfl) (by kernel_rfl) [some (.bool false),some (.bool true),some (.bool true),some (.slice (some ⟨g2,off2,none⟩) E.length cl),some (.int .i64 (j:Int)),some (.pointer (some ⟨g2,off2+j * 2,none⟩)),some (.pointer (some ⟨g2,off2+j * 2,none⟩)),some (strV en.1),some (.slice (some ⟨g,off,none⟩) cs.length cc),some (.int .i64 (i:Int)),some (.pointer (some ⟨g,off+i * 3,none⟩)),some (.pointer (some ⟨g,off+i * 3,none⟩)),some (strV key),some (.bool (bytesBefore key en.1)),some (.bool (bytesBefore key en.1))] [] (by kernel_rfl) (by kernel_rfl) (fun _ _ wx=>wx=wr.drew) rfl ?_ ?_
         ·refine EachI.cons (MixOk.pure (by kernel_rfl) (fun _=>by kernel_rfl) (fun _ _=>by kernel_rfl)) ?_
          refine EachI.cons (MixOk.pure (by kernel_rfl) (fun _=>by kernel_rfl) (fun _ _=>by kernel_rfl)) ?_
          refine EachI.cons (MixOk.pure (by kernel_rfl) (fun _=>by kernel_rfl) (fun _ _=>by kernel_rfl)) ?_
          refine EachI.cons (MixOk.pure (by kernel_rfl) (fun _=>by kernel_rfl) (fun _ _=>by kernel_rfl)) ?_
          refine EachI.cons (MixOk.pure (by kernel_rfl) (fun _=>by kernel_rfl) (fun _ _=>by kernel_rfl)) ?_
          refine EachI.cons (MixOk.pure (by kernel_rfl) (fun _=>by kernel_rfl) (fun _ wx=>xr_atE _ _ _ _ _ _ _ _ g2 off2 E.length cl j wx (by kernel_rfl) (by kernel_rfl) hj)) ?_
          refine EachI.cons (MixOk.pure (by kernel_rfl) (fun _=>by kernel_rfl) (fun _ _=>by kernel_rfl)) ?_
          refine EachI.cons (MixOk.look (by kernel_rfl) (fun _=>by kernel_rfl) (fun dn ws wx hG hdep hcl hni=>xr_str _ _ _ _ _ _ _ ⟨g2,off2+j * 2,none⟩ _ wx (by kernel_rfl) (HENT.out wx (by subst hG; exact HBD.out)).1)) ?_
          refine EachI.cons (MixOk.pure (by kernel_rfl) (fun _=>by kernel_rfl) (fun _ _=>by kernel_rfl)) ?_
          refine EachI.cons (MixOk.pure (by kernel_rfl) (fun _=>by kernel_rfl) (fun _ _=>by kernel_rfl)) ?_
          refine EachI.cons (MixOk.pure (by kernel_rfl) (fun _=>by kernel_rfl) (fun _ wx=>xr_atC _ _ _ _ _ _ _ _ g off cs.length cc i wx (by kernel_rfl) (by kernel_rfl) hlt)) ?_
          refine EachI.cons (MixOk.pure (by kernel_rfl) (fun _=>by kernel_rfl) (fun _ _=>by kernel_rfl)) ?_
          refine EachI.cons (MixOk.look (by kernel_rfl) (fun _=>by kernel_rfl) (fun dn ws wx hG hdep hcl hni=>xr_str _ _ _ _ _ _ _ ⟨g,off+i * 3,none⟩ _ wx (by kernel_rfl) (HALL.out wx (HBW.out.trans (Below.mono (by subst hG; exact HBD.out) HBW.out.size))).1)) ?_
          refine EachI.cons (MixOk.pure (by kernel_rfl) (fun _=>by kernel_rfl) (fun _ wx=>xr_gtr _ _ _ _ _ _ _ _ en.1 key wx (by kernel_rfl) (by kernel_rfl))) ?_
          refine EachI.cons (MixOk.pure (by kernel_rfl) (fun _=>by kernel_rfl) (fun _ _=>by kernel_rfl)) ?_
          exact EachI.nil
         intro ws L' hL' w7 hG7
         subst hG7
         simp only [setAll,mix,List.set_cons_succ,List.set_cons_zero,List.getElem?_cons_succ,List.getElem?_cons_zero,Option.join_some,Option.getD_some,Nat.reduceAdd] at hL'
         subst hL'
         rw [hbb]
         have HO:=Lib.hid HOWN.out.drew
         have HV:Hid (∀ p ∈ xs,RdB wr.drew W0.heap.size p.2 p.1.2):=Lib.hid (fun p hp=>(HVS.out p hp).drew)
         have HBx:=HBD
         clear HOWN HVS HB HBD
         generalize wr.drew=wa at *
         go_upto_region 12 with (fail)
         have HBD2:=Lib.hid (HBx.out.trans ((bl_drew wa).mono HBx.out.size))
         refine wp_region_mix (by kernel_rfl) (by kernel_rfl) (by kernel_rfl) [some (.slice (some ⟨g2,off2,none⟩) E.length cl),some (.int .i64 (j:Int)),some (.pointer (some ⟨g2,off2+j * 2,none⟩)),some (.pointer (some ⟨g2,off2+j * 2,none⟩)),some (strV en.1),some (.slice (some ⟨g,off,none⟩) cs.length cc),some (.int .i64 (i:Int)),some (.pointer (some ⟨g,off+i * 3,none⟩)),some (.pointer (some ⟨g,off+i * 3,none⟩)),some (strV key),some (.bool (!(en.1 == key)))] [] (by kernel_rfl) (by kernel_rfl) (fun _ _ wx=>wx=wa.drew) rfl ?_ ?_
         ·refine EachI.cons (MixOk.pure (by kernel_rfl) (fun _=>by kernel_rfl) (fun _ _=>by kernel_rfl)) ?_
          refine EachI.cons (MixOk.pure (by kernel_rfl) (fun _=>by kernel_rfl) (fun _ _=>by kernel_rfl)) ?_
          refine EachI.cons (MixOk.pure (by kernel_rfl) (fun _=>by kernel_rfl) (fun _ wx=>xr_atE _ _ _ _ _ _ _ _ g2 off2 E.length cl j wx (by kernel_rfl) (by kernel_rfl) hj)) ?_
          refine EachI.cons (MixOk.pure (by kernel_rfl) (fun _=>by kernel_rfl) (fun _ _=>by kernel_rfl)) ?_
          refine EachI.cons (MixOk.look (by kernel_rfl) (fun _=>by kernel_rfl) (fun dn ws wx hG hdep hcl hni=>xr_str _ _ _ _ _ _ _ ⟨g2,off2+j * 2,none⟩ _ wx (by kernel_rfl) (HENT.out wx (by subst hG; exact HBD2.out)).1)) ?_
          refine EachI.cons (MixOk.pure (by kernel_rfl) (fun _=>by kernel_rfl) (fun _ _=>by kernel_rfl)) ?_
          refine EachI.cons (MixOk.pure (by kernel_rfl) (fun _=>by kernel_rfl) (fun _ _=>by kernel_rfl)) ?_
          refine EachI.cons (MixOk.pure (by kernel_rfl) (fun _=>by kernel_rfl) (fun _ wx=>xr_atC _ _ _ _ _ _ _ _ g off cs.length cc i wx (by kernel_rfl) (by kernel_rfl) hlt)) ?_
          refine EachI.cons (MixOk.pure (by kernel_rfl) (fun _=>by kernel_rfl) (fun _ _=>by kernel_rfl)) ?_
          refine EachI.cons (MixOk.look (by kernel_rfl) (fun _=>by kernel_rfl) (fun dn ws wx hG hdep hcl hni=>xr_str _ _ _ _ _ _ _ ⟨g,off+i * 3,none⟩ _ wx (by kernel_rfl) (HALL.out wx (HBW.out.trans (Below.mono (by subst hG; exact HBD2.out) HBW.out.size))).1)) ?_
          refine EachI.cons (MixOk.pure (by kernel_rfl) (fun _=>by kernel_rfl) (fun _ wx=>xr_neqS _ _ _ _ _ _ _ _ en.1 key wx (by kernel_rfl) (by kernel_rfl))) ?_
          exact EachI.nil
         intro ws L' hL' w7 hG7
         subst hG7
         simp only [setAll,mix,List.set_cons_succ,List.set_cons_zero,List.getElem?_cons_succ,List.getElem?_cons_zero,Option.join_some,Option.getD_some,Nat.reduceAdd] at hL'
         subst hL'
         have HO2:=Lib.hid HO.out.drew
         have HV2:Hid (∀ p ∈ xs,RdB wa.drew W0.heap.size p.2 p.1.2):=Lib.hid (fun p hp=>(HV.out p hp).drew)
         clear HO HV HBx
         generalize wa.drew=wb at *
         cases hk:(en.1 == key) with
         | true=>
           go_wp2
           go_roundw
           case rel=>exact ⟨j+1,false,xs,by omega,by go_num,rfl,by omega,HO2.out,HV2.out,Lib.hid (by have h:=HG2.out; simpa [hk,hbb] using h),HBD2.out⟩
           case measure=>simp [intOf]; omega
         | false=>
           obtain ⟨x0,x1,xv⟩:=HENT.out wb HBD2.out
           have hba:=(Below.refl wb.heap.size wb).alloc (Nat.le_refl _) (.cells #[strV en.1,.slice ave en.2.length cve] 96)
           have HO3:=Lib.hid (own_grown HO2.out (Grown.of_below hba (S:=fun _=>False)) (fun _ _ _ h=>h))
           have HN3:=Lib.hid (Blk.new wb 96 [strV en.1,.slice ave en.2.length cve])
           have HB3:=Lib.hid (HBD2.out.alloc HBD2.out.size (.cells #[strV en.1,.slice ave en.2.length cve] 96))
           have hxl3:(xs).length+1≤4294967296:=by have h:(xs).length≤2 * j+1:=(by omega); omega
           clear hba xv
           go_wp2_with (at_builtin; go_must (refine wpList_appR rfl _ _ rfl W0.heap.size u6 (xs) rfl HO3.out wb.heap.size en.1 en.2 (.slice ave en.2.length cve) rfl rfl (HN3.out.cell 0 (by simp)) (HN3.out.cell 1 (by simp)) hxl3 HB3.out.size ?_); intro v9 w9 hown9 hb9)
           have HF:=Lib.hid (And.intro hown9 (HB3.out.trans hb9))
           have HVF:Hid (∀ p ∈ xs ++ [((en.1,en.2),.slice ave en.2.length cve)],RdB w9 W0.heap.size p.2 p.1.2):=Lib.hid (fun p hp=>by
            have hal:Below W0.heap.size wb w9:=(Below.refl W0.heap.size wb).alloc HBD2.out.size (.cells #[strV en.1,.slice ave en.2.length cve] 96) |>.trans hb9
            rcases List.mem_append.1 hp with hp | hp
            ·exact (HV2.out p hp).below hal
            ·obtain rfl:=List.mem_singleton.1 hp
             exact (HENT.out w9 (HBD2.out.trans hal)).2.2)
           clear hown9 hb9 HO2 HV2 HO3 HN3 HB3 HBD2
           go_wp2
           go_roundw
           case rel=>exact ⟨j+1,false,xs ++ [((en.1,en.2),.slice ave en.2.length cve)],by omega,by go_num,rfl,by simp; omega,HF.out.1,HVF.out,Lib.hid (by have h:=HG2.out; simpa [hk,hbb] using h),HF.out.2⟩
           case measure=>simp [intOf]; omega
    ·obtain rfl:j=E.length:=by omega
     have t2:decide ((E.length:Int) < (E.length:Int))=false:=by simp
     have hgo:=HGO.out
     rw [List.drop_length,rGo] at hgo
     have hch:pChgs P (cs.take (i+1))=xs.map (·.1) ++ (if put then [] else [(key,val)]):=by rw [HNX.out,hgo,← rGo_chg]
     have HCH:=Lib.hid hch
     have HO:=HOWN
     have HV:=HVS
     have HBx:=HB
     clear hgo hch HGO HOWN HVS HB HBD
     cases put with
     | true=>
       have HF:=Lib.hid (EntsAt.ofRow HO.out HV.out HBx.out.size)
       have HBF:=Lib.hid (HBW.out.trans (HBx.out.mono hW0))
       go_wp2
       go_roundw
       case rel=>exact ⟨i+1,by omega,by go_num,(by have h:=HF.out; rw [HCH.out]; simpa using h),HBF.out⟩
       case measure=>simp [intOf]; omega
     | false=>
       go_upto_region 15 with (fail)
       refine wp_region_mixL (by kernel_rfl) 14 6 _ rfl rfl (by kernel_rfl) (by kernel_rfl) (Nat.le_of_ble_eq_true (by kernel_rfl)) [some u6,some (.slice (some ⟨g,off,none⟩) cs.length cc),some (.int .i64 (i:Int)),some (.pointer (some ⟨g,off+i * 3,none⟩)),some (.pointer (some ⟨g,off+i * 3,none⟩)),some (strV key),some (.slice (some ⟨g,off,none⟩) cs.length cc),some (.int .i64 (i:Int)),some (.pointer (some ⟨g,off+i * 3,none⟩)),some (.pointer (some ⟨g,off+i * 3+1,none⟩)),some (Value.slice av val.length cv),some (.agg #[strV key,Value.slice av val.length cv]),none,none,none] [12,13,14] (by kernel_rfl) (by kernel_rfl) (by kernel_rfl) (ChG W0 u6 xs key val (Value.slice av val.length cv)) ⟨HBx.out.trans ((bl_drew wr).mono HBx.out.size),fun _=>HO.out.drew,(fun h=>by cases h),(fun h=>by cases h),(fun h=>by cases h)⟩ ?_ ?_
       ·refine EachI.cons (MixOkL.pure (by kernel_rfl) (fun _=>by kernel_rfl) (fun _ _=>by kernel_rfl)) ?_
        refine EachI.cons (MixOkL.pure (by kernel_rfl) (fun _=>by kernel_rfl) (fun _ _=>by kernel_rfl)) ?_
        refine EachI.cons (MixOkL.pure (by kernel_rfl) (fun _=>by kernel_rfl) (fun _ _=>by kernel_rfl)) ?_
        refine EachI.cons (MixOkL.pure (by kernel_rfl) (fun _=>by kernel_rfl) (fun _ wx=>xr_atC _ _ _ _ _ _ _ _ g off cs.length cc i wx (by kernel_rfl) (by kernel_rfl) hlt)) ?_
        refine EachI.cons (MixOkL.pure (by kernel_rfl) (fun _=>by kernel_rfl) (fun _ _=>by kernel_rfl)) ?_
        refine EachI.cons (MixOkL.look (by kernel_rfl) (fun _=>by kernel_rfl) (fun dn ws wx hG hdep hcl hni=>xr_str _ _ _ _ _ _ _ ⟨g,off+i * 3,none⟩ _ wx (by kernel_rfl) (HALL.out wx (HBW.out.trans (hG.gb.mono hW0))).1)) ?_
        refine EachI.cons (MixOkL.pure (by kernel_rfl) (fun _=>by kernel_rfl) (fun _ _=>by kernel_rfl)) ?_
        refine EachI.cons (MixOkL.pure (by kernel_rfl) (fun _=>by kernel_rfl) (fun _ _=>by kernel_rfl)) ?_
        refine EachI.cons (MixOkL.pure (by kernel_rfl) (fun _=>by kernel_rfl) (fun _ wx=>xr_atC _ _ _ _ _ _ _ _ g off cs.length cc i wx (by kernel_rfl) (by kernel_rfl) hlt)) ?_
        refine EachI.cons (MixOkL.pure (by kernel_rfl) (fun _=>by kernel_rfl) (fun _ _=>by kernel_rfl)) ?_
        refine EachI.cons (MixOkL.look (by kernel_rfl) (fun _=>by kernel_rfl) (fun dn ws wx hG hdep hcl hni=>xr_byt _ _ _ _ _ _ _ ⟨g,off+i * 3+1,none⟩ _ wx (by kernel_rfl) (HALL.out wx (HBW.out.trans (hG.gb.mono hW0))).2.1)) ?_
        refine EachI.cons (MixOkL.pure (by kernel_rfl) (fun _=>by kernel_rfl) (fun _ wx=>xr_entry _ _ _ _ _ _ _ _ ⟨key.toArray⟩ av val.length cv wx (by kernel_rfl) (by kernel_rfl))) ?_
        refine EachI.cons (MixOkL.turn (by kernel_rfl) (fun dn ws wx hG hdep hcl hni=>?_)) ?_
        ·have h13:=not_done (hcl 13 12 (by kernel_rfl)) hni
         have h14:=not_done (hcl 14 13 (by kernel_rfl)) h13
         have hba:=(Below.refl wx.heap.size wx).alloc (Nat.le_refl _) (.cells #[strV key,Value.slice av val.length cv] 96)
         have hn:=Blk.new wx 96 [strV key,Value.slice av val.length cv]
         exact turn_run (by kernel_rfl) (.slice (some ⟨wx.heap.size,0,none⟩) 1 1) (wx.alloc (.cells #[strV key,Value.slice av val.length cv] 96)) (xr_bsE _ _ _ _ _ _ _ ⟨key.toArray⟩ av val.length cv wx (by kernel_rfl)) ⟨hG.gb.trans (hba.mono hG.gb.size),fun h=>own_grown (hG.g0 h) (Grown.of_below hba (S:=fun _=>False)) (fun _ _ _ h=>h),fun _ _=>⟨wx.heap.size,rfl,hn.cell 0 (by simp),hn.cell 1 (by simp)⟩,(fun h=>by have h:dn 13=true:=h; rw [h13] at h; cases h),(fun h=>by have h:dn 14=true:=h; rw [h14] at h; cases h)⟩
        refine EachI.cons (MixOkL.turn (by kernel_rfl) (fun dn ws wx hG hdep hcl hni=>?_)) ?_
        ·have h14:=not_done (hcl 14 13 (by kernel_rfl)) hni
         obtain ⟨q,eq,x0,x1⟩:=hG.g1 (hdep 12 (by kernel_rfl)) hni
         have eq:ws 12=.slice (some ⟨q,0,none⟩) 1 1:=eq
         have ho:=hG.g0 hni
         refine turn_appR _ _ _ _ _ _ _ (by kernel_rfl) W0.heap.size u6 xs (by kernel_rfl) ho q key val (Value.slice av val.length cv) (Eq.trans (b:=ws 12) (by kernel_rfl) eq) rfl x0 x1 (by omega) hG.gb.size (fun v' w' hown hgr=>?_)
         exact ⟨hG.gb.trans ((Below.refl _ _).grown hgr hG.gb.size (fun k hk=>(ho.lt k hk).1)),(fun h=>by cases h),(fun _ h=>by cases h),fun _=>hown,(fun h=>by have h:dn 14=true:=h; rw [h14] at h; cases h)⟩
        refine EachI.cons (MixOkL.turn (by kernel_rfl) (fun dn ws wx hG hdep hcl hni=>?_)) ?_
        ·refine turn_run (by kernel_rfl) (ws 13) wx (by kernel_rfl) ⟨hG.gb,hG.g0,hG.g1,hG.g2,fun _=>rfl⟩
        exact EachI.nil
       intro ws L' hL' w7 hG7
       have e5:ws 14=ws 13:=hG7.g3 rfl
       have HOq:Hid (w7.ownsRow W0.heap.size 96 2 (ws 13) (xs ++ [((key,val),Value.slice av val.length cv)]).length (rowR (xs ++ [((key,val),Value.slice av val.length cv)]))):=Lib.hid (hG7.g2 rfl)
       have HVq:Hid (∀ p ∈ xs ++ [((key,val),Value.slice av val.length cv)],RdB w7 W0.heap.size p.2 p.1.2):=Lib.hid (fun p hp=>by
        rcases List.mem_append.1 hp with hp | hp
        ·exact (HV.out p hp).swap HBx.out hG7.gb
        ·obtain rfl:=List.mem_singleton.1 hp
         exact ((HALL.out w7 (HBW.out.trans (hG7.gb.mono hW0))).2.2.2).mono hW0)
       have HBq:=Lib.hid hG7.gb
       simp only [List.set_cons_succ,List.set_cons_zero,setAll,mix,List.getElem?_cons_succ,List.getElem?_cons_zero,Option.join_some,Option.getD_some,Option.getD_none,Nat.reduceAdd,e5] at hL'
       subst hL'
       clear hG7 e5 HO HV HBx
       generalize ws 13=vq at *
       have HF:=Lib.hid (EntsAt.ofRow HOq.out HVq.out HBq.out.size)
       have HBF:=Lib.hid (HBW.out.trans (HBq.out.mono hW0))
       clear HOq HVq HBq
       go_wp2
       go_roundw
       case rel=>exact ⟨i+1,by omega,by go_num,(by have h:=HF.out; rw [HCH.out]; simpa using h),HBF.out⟩
       case measure=>simp [intOf]; omega
  ·obtain rfl:i=cs.length:=by omega
   have t1:decide ((cs.length:Int) < (cs.length:Int))=false:=by simp
   have HF:=Lib.hid (show EntsAt wr wr.heap.size u0 (pChgs P cs) by have h:=HL.out; rwa [List.take_length] at h)
   clear HL
   go_wp2
   go_ret
   exact ⟨⟨_,rfl,HF.out⟩,HBW.out⟩
end Go.Proofs.YtondomklkapogaaGreatDoor
