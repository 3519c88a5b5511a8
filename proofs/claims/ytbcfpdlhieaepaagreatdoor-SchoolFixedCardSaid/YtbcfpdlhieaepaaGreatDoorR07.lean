/- The walk of readCommit. -/
import Derived.Test.YtbcfpdlhieaepaaGreatDoorR06
namespace Go.Proofs.YtbcfpdlhieaepaaGreatDoor
open Go.RowKit SeedP Go.Maps
theorem RdrAt.grown {w w':World} {S:Nat→Prop} {r B:Nat} {s:RSt} (h:RdrAt w r B s) (hg:Grown S w w') (hr:¬ S r) (hB:B≤w.heap.size) (hS:∀ g,g < B→¬ S g):RdrAt w' r B s:=by
 obtain ⟨v,h1,h2⟩:=h
 exact ⟨v,h1.grown hg hr,h2.below ⟨hg.os,hg.tape,hg.output,hg.size,fun k hk=>hg.block k (by omega) (hS k hk)⟩⟩
theorem RdrAt.belowC {w w':World} {r B C:Nat} {s:RSt} (h:RdrAt w r B s) (hb:Below C w w') (hr:r < C) (hB:B≤C):RdrAt w' r B s:=by
 obtain ⟨v,h1,h2⟩:=h
 exact ⟨v,h1.block (hb.block r hr),h2.below (hb.mono hB)⟩
theorem ChgsP.mono' {w:World} {q q':Nat→Prop} {v:Value} {cs:List Chg} (h:ChgsP w q v cs) (hq:∀ g,q g→q' g):ChgsP w q' v cs:=by
 obtain ⟨a,cap,e,h1,h2,h3⟩:=h
 refine ⟨a,cap,e,h1,h2,?_⟩
 rcases h3 with h3 | ⟨g,off,e2,hgq,h4⟩
 ·exact Or.inl h3
 ·refine Or.inr ⟨g,off,e2,hq g hgq,fun j hj=>?_⟩
  obtain ⟨vv,h0,h1,h2,h3⟩:=h4 j hj
  exact ⟨vv,h0,h1,h2,h3.mono (fun g _ hg=>hq g hg)⟩
/-- what readCommit returns -/
def CommRes (w:World) (B:Nat) (R:Option (List Chg)) (e:Ending):Prop:=
 ∃ v,match R with
   | none=>e=.returned (.tuple #[v,.bool false])
   | some cs=>e=.returned (.tuple #[v,.bool true])∧ChgsP w (fun g=>B≤g) v cs∧cs.length≤64∧∀ c ∈ cs,c.key.length≤65535∧c.val.length≤65535
theorem CommRes.none {w:World} {B:Nat} {R:Option (List Chg)} (h:R=none) (v:Value):CommRes w B R (.returned (.tuple #[v,.bool false])):=by subst h; exact ⟨v,rfl⟩
theorem grown_one {w w':World} {r:Nat} (h:w.grownBy w' (some r)):Grown (·=r) w w':=Grown.of_row h (fun k e=>by cases e; rfl)
theorem own_slice {w:World} {B n m:Nat} {e:TypeId} {v:Value} {xs:List Value} (h:w.ownsRow B e m v n xs):∃ a cap,v=.slice a n cap:=by
 rcases h.2 with ⟨rfl,rfl⟩ | ⟨g,cap,cur,rfl,_⟩
 ·exact ⟨_,_,rfl⟩
 ·exact ⟨_,_,rfl⟩
set_option maxRecDepth 100000 in
/-- readCommit -/
theorem readCommit_c (v:Value) (code:List UInt8) (B:Nat) (w:World) (hv:RdB w B v code) (hB:B≤w.heap.size) :
 Calls Tryz.prog 91 #[v] w fun e w'=>CommRes w' w.heap.size (rComm code) e∧Below w.heap.size w w':=by
 have H1:=Lib.hid (fun W (h:RdrAt W w.heap.size B (code,false))=>rnum_c w.heap.size B 1 1 rfl (code,false) W h hB (by decide))
 have h1:(rNum 1 (code,false)).1 < 256:=rNum_lt 1 _
 have hR:rComm code=rComm code:=rfl
 conv at hR=>rhs; unfold rComm
 generalize rNum 1 (code,false)=N1 at *
 obtain ⟨n,s1⟩:=N1
 simp only at h1 hR
 have R0:RdrAt (w.alloc (.cells #[v,.bool false] 191)) w.heap.size B (code,false):=⟨v,Blk.new w 191 [v,.bool false],hv.below ((Below.refl _ _).alloc hB _)⟩
 have HR0:=Lib.hid R0
 have G0:Below w.heap.size w (w.alloc (.cells #[v,.bool false] 191)):=(Below.refl _ _).alloc (Nat.le_refl _) _
 obtain ⟨a,cap,rfl,hmx,_,_⟩:=hv.open_
 unfold maxLen at hmx
 clear R0 hv
 by_cases hbad:65536 < code.length∨n < 1∨64 < n
 ·rw [if_pos hbad] at hR
  have HRR:=Lib.hid hR
  clear hR
  have ht:65536 < code.length∨(¬ 65536 < code.length∧n < 1)∨(¬ 65536 < code.length∧¬ n < 1∧64 < n):=by omega
  clear hbad
  rcases ht with t1 | ⟨t1,t2⟩ | ⟨t1,t2,t3⟩
  all_goals
   go_enter Tryz.func91,Tryz.ntmps91
   go_wp2_with fail
   refine (H1.out _ HR0.out).mono ?_
   rintro e w1 ⟨rfl,hr1,hg1⟩
   have G1:=G0.trans (below_of_grown hg1 (Nat.le_refl _) (by simp))
   clear hr1 hg1 H1 HR0 G0
   go_wp2
   go_ret2
   exact ⟨CommRes.none HRR.out _,G1⟩
 ·rw [if_neg hbad] at hR
  have t1:¬ 65536 < code.length:=by omega
  have t2:¬ n < 1:=by omega
  have t3:¬ 64 < n:=by omega
  have HRR:=Lib.hid hR
  clear hR hbad
  go_enter Tryz.func91,Tryz.ntmps91
  go_wp2_with fail
  refine (H1.out _ HR0.out).mono ?_
  rintro e w1 ⟨rfl,hr1,hg1⟩
  have G1:=G0.trans (below_of_grown hg1 (Nat.le_refl _) (by simp))
  have HR1:=Lib.hid hr1
  clear hr1 hg1 H1 HR0 G0
  go_wp2
  go_loopw [6,26] (fun v i wr=>∃ (j:Nat) (xs:List (Chg × Value)) (s:RSt),j≤n∧i=.int .i64 j∧xs.length=j∧ChgRow wr (w.heap.size+1) v xs∧RdrAt wr w.heap.size B s∧rChgs j s1=some (xs.map (·.1),s)∧(∀ p ∈ xs,p.1.key.length≤65535∧p.1.val.length≤65535)∧Below w.heap.size w wr) (fun _ i _=>n - (intOf i).toNat)
  case atStart=>exact ⟨0,[],s1,Nat.zero_le _,rfl,rfl,ChgRow.nil _ _,HR1.out,rfl,(by intro p hp; cases hp),G1⟩
  case round=>
   obtain ⟨j,xs,s,hj,rfl,hxl,hrow,hrdr,hch,hbd,hG⟩:=hrel
   have HX:=Lib.hid (And.intro hch hbd)
   clear HR1 G1 hch hbd
   by_cases hlt:j < n
   ·have b1:(j:Int) < n:=by omega
    have hrl:=hrdr.lt
    have HN1:=Lib.hid (fun W (h:RdrAt W w.heap.size B s)=>rnum_c w.heap.size B 1 1 rfl s W h hB (by decide))
    have hq:rChg s=rChg s:=rfl
    conv at hq=>rhs; unfold rChg
    generalize rNum 1 s=N2 at *
    obtain ⟨tg,s2⟩:=N2
    simp only at hq
    have hstep:rChgs (j+1) s1=match rChg s with | none=>none | some (c,s'')=>some (xs.map (·.1) ++ [c],s''):=by rw [rChgs,HX.out.1]; rfl
    have HS:=Lib.hid hstep
    have HQ:=Lib.hid hq
    clear hstep hq
    have GA:Grown (fun _=>False) wr (wr.alloc (.cells #[.string ⟨#[]⟩,.slice none 0 0,.bool false] 73)):=Grown.of_below ((Below.refl _ _).alloc (Nat.le_refl _) _)
    have hrow0:=hrow
    have HRD:=Lib.hid (hrdr.grown GA (fun h=>h) (Nat.le_trans hB hG.size) (fun _ _ h=>h))
    have hbk:=Blk.new wr 73 [.string ⟨#[]⟩,.slice none 0 0,.bool false]
    have hG:=hG.alloc hG.size (.cells #[.string ⟨#[]⟩,.slice none 0 0,.bool false] 73)
    have GG:Grown (fun k=>k=w.heap.size∨wr.heap.size≤k) wr (wr.alloc (.cells #[.string ⟨#[]⟩,.slice none 0 0,.bool false] 73)):=GA.mono (fun _ _ h=>h.elim)
    have HROW:=Lib.hid hrow0
    clear GA hrdr hrow0 hrow
    go_upto_region 9 with (fail)
    have hbk:Blk (wr.alloc (.cells #[.string ⟨#[]⟩,.slice none 0 0,.bool false] 73)) wr.heap.size 73 [.string ⟨#[]⟩,.slice none 0 0,.bool false]:=hbk
    generalize wr.alloc (.cells #[.string ⟨#[]⟩,.slice none 0 0,.bool false] 73)=w2 at *
    have HR:=Lib.hid (fun W (h:Grown (fun k=>k=w.heap.size∨wr.heap.size≤k) wr W)=>HROW.out.grown h (fun g h1 h2 h3=>by omega))
    have hgb2:=hbk.lt
    clear HROW
    generalize wr.heap.size=gb at *
    go_wp2_with fail
    refine (HN1.out _ HRD.out).mono ?_
    rintro e w3 ⟨rfl,hr3,hg3⟩
    have hb3:=hbk.grown (grown_one hg3) (by omega)
    have GG3:=GG.trans ((grown_one hg3).mono (fun k _ e=>Or.inl e))
    have G3:=hG.trans (below_of_grown hg3 (Nat.le_refl _) hG.size)
    clear hbk GG hG hg3 HN1 HRD hgb2
    have ht:tg=0∨tg=1∨(¬ tg=0∧¬ tg=1∧2≤tg):=by omega
    rcases ht with rfl | rfl | ⟨h20,h21,h22⟩
    ·have hq:=HQ.out
     rw [if_pos rfl] at hq
     have HK:=Lib.hid (fun W (h:RdrAt W w.heap.size B s2)=>rkey_c w.heap.size B s2 W h hB)
     have hkl:=rKey_len s2
     generalize rKey s2=K at *
     obtain ⟨key,s3⟩:=K
     simp only at hq hkl
     have HV:=Lib.hid (fun W (h:RdrAt W w.heap.size B s3)=>rval_c w.heap.size B s3 W h hB)
     have hvl:=rVal_len s3
     generalize rVal s3=V at *
     obtain ⟨val,s4,bad⟩:=V
     simp only at hq hvl
     have HQ2:=Lib.hid hq
     clear hq HQ
     go_wp2_with fail
     refine (HK.out _ hr3).mono ?_
     rintro e w4 ⟨rfl,hr4,hg4⟩
     have hb4:=hb3.grown (grown_one hg4) (by omega)
     have GG4:=GG3.trans ((grown_one hg4).mono (fun k _ e=>Or.inl e))
     have G4:=G3.trans (below_of_grown hg4 (Nat.le_refl _) G3.size)
     have f0:=hb4.frozen 0
     have c0:=hb4.cell 0 (by simp)
     clear hb3 GG3 G3 hg4 hr3 HK
     go_upto_region 13 with (fail)
     clear f0 c0
     have S5:Grown (fun k=>k=gb) w4 (w4.setCell ⟨gb,0,none⟩ (.string ⟨key.toArray⟩)):=Grown.setCell (S:=fun k=>k=gb) (Grown.refl _ _) (a:=⟨gb,0,none⟩) rfl _
     have hr5:=hr4.grown S5 (by omega) (Nat.le_trans hB G4.size) (fun g hg e=>by omega)
     have hb5:=hb4.set 0 (.string ⟨key.toArray⟩)
     have GG5:=GG4.trans (S5.mono (fun k _ e=>Or.inr (by omega)))
     have G5:=G4.trans (S5.below (B:=w.heap.size) (fun k e=>by omega) G4.size)
     clear hb4 GG4 G4 S5 hr4
     simp only [List.set_cons_zero] at hb5
     generalize w4.setCell ⟨gb,0,none⟩ (.string ⟨key.toArray⟩)=w5 at *
     go_wp2_with fail
     refine (HV.out _ hr5).mono ?_
     rintro e w6 ⟨⟨v6,rfl,hy6⟩,hr6,hg6⟩
     obtain ⟨a6,cap6,rfl⟩:=own_slice hy6
     have hb6:=hb5.grown (grown_one hg6) (by omega)
     have GG6:=GG5.trans ((grown_one hg6).mono (fun k _ e=>Or.inl e))
     have G6:=G5.trans (below_of_grown hg6 (Nat.le_refl _) G5.size)
     have f1:=hb6.frozen 1
     have c1:=hb6.cell 1 (by simp)
     have hw6:=hb5.lt
     clear hb5 GG5 hg6 hr5 HV
     have S7:Grown (fun k=>k=gb) w6 (w6.setCell ⟨gb,1,none⟩ (.slice a6 val.length cap6)):=Grown.setCell (S:=fun k=>k=gb) (Grown.refl _ _) (a:=⟨gb,1,none⟩) rfl _
     have hr7:=hr6.grown S7 (by omega) (Nat.le_trans hB G6.size) (fun g hg e=>by omega)
     have hb7:=hb6.set 1 (.slice a6 val.length cap6)
     have GG7:=GG6.trans (S7.mono (fun k _ e=>Or.inr (by omega)))
     have G7:=G6.trans (S7.below (B:=w.heap.size) (fun k e=>by omega) G6.size)
     have hy7:=own_grown hy6 S7 (fun g h1 _ e=>by omega)
     have hy7:=own_le hy7 (show w.heap.size+1≤_ from by omega)
     clear hb6 GG6 G6 hr6 hy6 S7
     simp only [List.set_cons_zero,List.set_cons_succ] at hb7
     obtain ⟨vr,hbr,hrb⟩:=hr7
     have cr:=hbr.cell 1 (by simp)
     simp only [List.getD_cons_zero,List.getD_cons_succ] at cr
     go_upto_region 16 with (fail)
     clear f1 c1
     generalize w6.setCell ⟨gb,1,none⟩ (.slice a6 val.length cap6)=w7 at *
     have HRD7:=Lib.hid (show RdrAt w7 w.heap.size B (s4,bad) from ⟨vr,hbr,hrb⟩)
     clear hbr hrb
     cases bad with
     | true=>
       rw [if_pos rfl] at HQ2
       have HS2:=Lib.hid (HS.out.trans (by rw [HQ2.out]))
       clear HQ2 HS
       go_wp2
       go_ret2
       refine ⟨CommRes.none (HRR.out.trans ?_) _,G7⟩
       rw [rChgs_none n (by omega) HS2.out]
     | false=>
       rw [if_neg (by simp)] at HQ2
       have HS2:=Lib.hid (HS.out.trans (by rw [HQ2.out]))
       clear HQ2 HS
       have hw7:=hb7.lt
       have d0:=hb7.cell 0 (by simp)
       have d1:=hb7.cell 1 (by simp)
       have d2:=hb7.cell 2 (by simp)
       simp only [List.getD_cons_zero,List.getD_cons_succ] at d0 d1 d2
       have hrow7:=(HR.out w7 GG7).grown (Grown.of_below ((Below.refl _ _).alloc (Nat.le_refl _) (.cells #[.string ⟨key.toArray⟩,.slice a6 val.length cap6,.bool false] 73)) (S:=fun _=>False)) (fun _ _ _ h=>h)
       have hbn:=Blk.new w7 73 [.string ⟨key.toArray⟩,.slice a6 val.length cap6,.bool false]
       have hyn:=hy7.alloc (.cells #[.string ⟨key.toArray⟩,.slice a6 val.length cap6,.bool false] 73)
       have HRD8:=Lib.hid (HRD7.out.grown (Grown.of_below ((Below.refl _ _).alloc (Nat.le_refl _) (.cells #[.string ⟨key.toArray⟩,.slice a6 val.length cap6,.bool false] 73)) (S:=fun _=>False)) (fun h=>h) (Nat.le_trans hB G7.size) (fun _ _ h=>h))
       have G8:=G7.alloc G7.size (.cells #[.string ⟨key.toArray⟩,.slice a6 val.length cap6,.bool false] 73)
       go_wp2_with (at_builtin; go_must (refine wpList_chg rfl _ _ rfl (w.heap.size+1) _ xs rfl hrow7 w7.heap.size _ (⟨key,val,false⟩,.slice a6 val.length cap6) rfl hbn hyn rfl (by omega) (by simp; omega) ?_); intro v9 w9 hrow9 G9 _)
       go_wp2
       go_roundw
       case rel=>
        refine ⟨j+1,_,(s4,false),by omega,by go_num,by simp [hxl],hrow9,HRD8.out.belowC G9 (by omega) (by omega),by rw [HS2.out,List.map_append]; rfl,?_,G8.trans (G9.mono (by omega))⟩
        intro p hp
        rcases List.mem_append.1 hp with hp | hp
        ·exact HX.out.2 p hp
        ·obtain rfl:=List.mem_singleton.1 hp
         exact ⟨by show key.length≤_; omega,by show val.length≤_; omega⟩
       case measure=>simp [intOf]; omega
    ·have hq:=HQ.out
     rw [if_neg (by decide),if_pos rfl] at hq
     have HK:=Lib.hid (fun W (h:RdrAt W w.heap.size B s2)=>rkey_c w.heap.size B s2 W h hB)
     have hkl:=rKey_len s2
     generalize rKey s2=K at *
     obtain ⟨key,s4,bad⟩:=K
     simp only at hq hkl
     have HQ2:=Lib.hid hq
     clear hq HQ
     go_wp2_with fail
     refine (HK.out _ hr3).mono ?_
     rintro e w4 ⟨rfl,hr4,hg4⟩
     have hb4:=hb3.grown (grown_one hg4) (by omega)
     have GG4:=GG3.trans ((grown_one hg4).mono (fun k _ e=>Or.inl e))
     have G4:=G3.trans (below_of_grown hg4 (Nat.le_refl _) G3.size)
     have f0:=hb4.frozen 0
     have c0:=hb4.cell 0 (by simp)
     have e0:=hb4.set 0 (.string ⟨key.toArray⟩)
     have f2:=e0.frozen 2
     have c2:=e0.cell 2 (by simp)
     clear e0
     clear hb3 GG3 G3 hg4 hr3 HK
     have S5:Grown (fun k=>k=gb) w4 ((w4.setCell ⟨gb,0,none⟩ (.string ⟨key.toArray⟩)).setCell ⟨gb,2,none⟩ (.bool true)):=(Grown.setCell (S:=fun k=>k=gb) (Grown.refl _ _) (a:=⟨gb,0,none⟩) rfl _).setCell (a:=⟨gb,2,none⟩) rfl _
     have hr7:=hr4.grown S5 (by omega) (Nat.le_trans hB G4.size) (fun g hg e=>by omega)
     have hb7:=(hb4.set 0 (.string ⟨key.toArray⟩)).set 2 (.bool true)
     have GG7:=GG4.trans (S5.mono (fun k _ e=>Or.inr (by omega)))
     have G7:=G4.trans (S5.below (B:=w.heap.size) (fun k e=>by omega) G4.size)
     have hy7:((w4.setCell ⟨gb,0,none⟩ (.string ⟨key.toArray⟩)).setCell ⟨gb,2,none⟩ (.bool true)).ownsRow (w.heap.size+1) 5 1 (.slice none 0 0) 0 []:=World.ownsRow_nil _ _ _ _
     clear hb4 GG4 G4 S5 hr4
     simp only [List.set_cons_zero,List.set_cons_succ] at hb7
     obtain ⟨vr,hbr,hrb⟩:=hr7
     have cr:=hbr.cell 1 (by simp)
     simp only [List.getD_cons_zero,List.getD_cons_succ] at cr
     go_upto_region 16 with (fail)
     clear f0 c0 f2 c2
     generalize (w4.setCell ⟨gb,0,none⟩ (.string ⟨key.toArray⟩)).setCell ⟨gb,2,none⟩ (.bool true)=w7 at *
     have HRD7:=Lib.hid (show RdrAt w7 w.heap.size B (s4,bad) from ⟨vr,hbr,hrb⟩)
     clear hbr hrb
     cases bad with
     | true=>
       rw [if_pos rfl] at HQ2
       have HS2:=Lib.hid (HS.out.trans (by rw [HQ2.out]))
       clear HQ2 HS
       go_wp2
       go_ret2
       refine ⟨CommRes.none (HRR.out.trans ?_) _,G7⟩
       rw [rChgs_none n (by omega) HS2.out]
     | false=>
       rw [if_neg (by simp)] at HQ2
       have HS2:=Lib.hid (HS.out.trans (by rw [HQ2.out]))
       clear HQ2 HS
       have hw7:=hb7.lt
       have d0:=hb7.cell 0 (by simp)
       have d1:=hb7.cell 1 (by simp)
       have d2:=hb7.cell 2 (by simp)
       simp only [List.getD_cons_zero,List.getD_cons_succ] at d0 d1 d2
       have hrow7:=(HR.out w7 GG7).grown (Grown.of_below ((Below.refl _ _).alloc (Nat.le_refl _) (.cells #[.string ⟨key.toArray⟩,.slice none 0 0,.bool true] 73)) (S:=fun _=>False)) (fun _ _ _ h=>h)
       have hbn:=Blk.new w7 73 [.string ⟨key.toArray⟩,.slice none 0 0,.bool true]
       have hyn:=hy7.alloc (.cells #[.string ⟨key.toArray⟩,.slice none 0 0,.bool true] 73)
       have HRD8:=Lib.hid (HRD7.out.grown (Grown.of_below ((Below.refl _ _).alloc (Nat.le_refl _) (.cells #[.string ⟨key.toArray⟩,.slice none 0 0,.bool true] 73)) (S:=fun _=>False)) (fun h=>h) (Nat.le_trans hB G7.size) (fun _ _ h=>h))
       have G8:=G7.alloc G7.size (.cells #[.string ⟨key.toArray⟩,.slice none 0 0,.bool true] 73)
       go_wp2_with (at_builtin; go_must (refine wpList_chg rfl _ _ rfl (w.heap.size+1) _ xs rfl hrow7 w7.heap.size _ (⟨key,[],true⟩,.slice none 0 0) rfl hbn hyn rfl (by omega) (by simp; omega) ?_); intro v9 w9 hrow9 G9 _)
       go_wp2
       go_roundw
       case rel=>
        refine ⟨j+1,_,(s4,false),by omega,by go_num,by simp [hxl],hrow9,HRD8.out.belowC G9 (by omega) (by omega),by rw [HS2.out,List.map_append]; rfl,?_,G8.trans (G9.mono (by omega))⟩
        intro p hp
        rcases List.mem_append.1 hp with hp | hp
        ·exact HX.out.2 p hp
        ·obtain rfl:=List.mem_singleton.1 hp
         exact ⟨by show key.length≤_; omega,by show 0≤_; omega⟩
       case measure=>simp [intOf]; omega
    ·have hq:=HQ.out
     rw [if_neg h20,if_neg h21] at hq
     have HS2:=Lib.hid (HS.out.trans (by rw [hq]))
     clear hq HQ HS
     go_wp2
     go_ret2
     refine ⟨CommRes.none (HRR.out.trans ?_) _,G3⟩
     rw [rChgs_none n (by omega) HS2.out]
   ·obtain rfl:j=n:=by omega
    have HD:=Lib.hid (rdone_c w.heap.size B s wr hrdr)
    have hrr:=HRR.out
    rw [HX.out.1] at hrr
    simp only at hrr
    have HR2:=Lib.hid hrr
    clear HRR hrdr hrr
    cases hdn:(!s.2 && s.1.isEmpty) with
    | false=>
      rw [hdn] at HD
      have HNO:=Lib.hid (HR2.out.trans (if_neg (by
       rintro ⟨h1,h2,_⟩
       rw [h1,h2] at hdn; simp at hdn)))
      clear HR2 hdn
      go_wp2_with fail
      refine HD.out.mono ?_
      rintro e w3 ⟨rfl,rfl⟩
      go_wp2
      go_ret2
      exact ⟨CommRes.none HNO.out _,hG⟩
    | true=>
      rw [hdn] at HD
      have hs1:s.2=false:=by cases h:s.2 <;> simp [h] at hdn <;> rfl
      have hs2:s.1=[]:=by cases h:s.1 <;> simp [h] at hdn <;> rfl
      have HCP:=Lib.hid (hrow.toP (by omega))
      have hbds:∀ c ∈ xs.map (·.1),c.key.length≤65535∧c.val.length≤65535:=by
       intro c hc
       obtain ⟨p,hp,rfl⟩:=List.mem_map.1 hc
       exact HX.out.2 p hp
      have hlc:(xs.map (·.1)).length≤64:=by rw [List.length_map]; omega
      have HBD:=Lib.hid hbds
      have HVC:=Lib.hid (valid_c _ (xs.map (·.1)) wr HCP.out.toB (by omega) (fun c hc=>by have:=hbds c hc; omega))
      generalize xs.map (·.1)=cs at *
      clear hbds hdn hrow HX
      by_cases hvz:validP cs=0
      ·have HYES:=Lib.hid (HR2.out.trans (if_pos ⟨hs1,hs2,hvz⟩))
       rw [hvz] at HVC
       clear HR2 hvz hs1 hs2
       go_wp2_with fail
       refine HD.out.mono ?_
       rintro e w3 ⟨rfl,rfl⟩
       go_wp2_with fail
       refine HVC.out.mono ?_
       rintro e w4 ⟨rfl,hb4⟩
       go_wp2
       go_ret2
       refine ⟨⟨u6,?_⟩,hG.trans (hb4.mono hG.size)⟩
       rw [HYES.out]
       refine ⟨rfl,(HCP.out.grown (Grown.of_below hb4) (S:=fun _=>False) (fun _ _ h=>h)).mono' (fun g hg=>by omega),hlc,HBD.out⟩
      ·have HNO:=Lib.hid (HR2.out.trans (if_neg (fun h=>hvz h.2.2)))
       have hvf:(validP cs == 0)=false:=by simpa using hvz
       clear HR2 hvz hs1 hs2
       generalize validP cs=vz at *
       go_wp2_with fail
       refine HD.out.mono ?_
       rintro e w3 ⟨rfl,rfl⟩
       go_wp2_with fail
       refine HVC.out.mono ?_
       rintro e w4 ⟨rfl,hb4⟩
       go_wp2
       go_ret2
       exact ⟨CommRes.none HNO.out _,hG.trans (hb4.mono hG.size)⟩
end Go.Proofs.YtbcfpdlhieaepaaGreatDoor
