/- The walk of what reads the entry of an attempt. -/
import Derived.Test.YtbcfpdlhieaepaaGreatDoorR37
import Derived.BigQuiet
import Derived.Maps.RangeWalk
import Derived.Test.YtbcfpdlhieaepaaGreatDoorR34
namespace Go.Proofs.YtbcfpdlhieaepaaGreatDoor
section
open Go.RowKit SeedP Go.Maps
theorem ownI_cell {w:World} {B n:Nat} {a:Option Addr} {d:Nat} {l:List Nat} (h:ownI w B (.slice a n d) l) (j:Nat) (hj:j < l.length):∃ g,a=some ⟨g,0,none⟩∧w.cell? ⟨g,j,none⟩=some (.int .i64 ((l[j]:Nat):Int)):=by
 obtain ⟨h1,h2⟩:=h
 rcases h2 with ⟨e,h0⟩ | ⟨g,cap,cur,e,hB,hg,hn,hc,hs,ht⟩
 ·omega
 ·cases e
  refine ⟨g,rfl,?_⟩
  have e:w.cell? ⟨g,j,none⟩=cur[j]?:=by simp [World.cell?,hg]
  rw [e]
  have h3:(cur.toList.take (l.length * 1))[j]?=(l.map fun n:Nat=>Value.int .i64 (n:Int))[j]?:=by rw [ht]
  rw [List.getElem?_take,if_pos (by omega)] at h3
  rw [← Array.getElem?_toList,h3,List.getElem?_map,List.getElem?_eq_getElem hj]
  rfl
set_option maxRecDepth 100000 in
set_option maxHeartbeats 4000000 in
/-- attempt -/
theorem cAtt_c {w:World} {B cb n:Nat} {c:ContP} {f:Nat→Lab} (rest val:List UInt8) (a:Option Addr) (cap:Nat) (h:CW w B cb n c f) (hn:n≤1000000) (hr:rest.length≤1000000) (hvl:val.length≤1000000) (hv:RdP w (fun g=>f g=.no) (.slice a val.length cap) val) :
 Calls Tryz.prog 82 #[.pointer (some ⟨cb,0,none⟩),strV rest,.slice a val.length cap] w (ReadPost B cb n f (attStep c rest val) w):=by
 have hun:undef=Value.tuple #[]:=rfl
 have HO:=Lib.hid (ofStudent_c rest h hn hr)
 obtain ⟨hsl,hbl⟩:=ofStP_len rest
 have hid0:(ofStP rest).id≤1048576:=rdDig_le _ 4
 have HV:=Lib.hid (fun W f' (k:Kp w W f f' (fun x=>x=.v3∨x=.cell))=>hv.grown k.gr (fun g e hs=>by
  have hs:f g=.v3∨f g=.cell:=hs
  have e:f g=.no:=e
  rw [e] at hs
  exact hs.elim Lab.noConfusion Lab.noConfusion))
 obtain ⟨r,hr0⟩:∃ r,attStep c rest val=r:=⟨_,rfl⟩
 rw [hr0]
 unfold attStep at hr0
 unfold ReadPost
 generalize hO:ofStP rest=o at *
 obtain ⟨id,st,bh,ok⟩:=o
 simp only at HO hsl hbl hid0 hr0
 have HRD:=Lib.hid (fun W=>readDigits_c bh 2 W (by omega))
 have hdl:=rdDig_le bh 2
 generalize (rdDig bh 2).1=nn at *
 generalize (rdDig bh 2).2=rt at *
 have hs1:=str_size rest
 have hs2:=str_size st
 clear hO hv h
 by_cases hcond:(ok && rt && decide (4≤val.length) && decide (val.length≤4004))=false
 ·rw [if_pos hcond] at hr0
  have HE:=Lib.hid hr0.symm
  have FIN0:=Lib.hid (fun w1 f1 (hc1:CW w1 B cb (n+1) { c with ofTask:=c.ofTask ++ [id] } f1) W (hW:Below w1.heap.size w1 W)=>CW.mono (hc1.below hW) (show n+1≤n+3 by omega))
  have q1:((val.length:Int) < 4)∨¬ ((val.length:Int) < 4):=by omega
  clear hr0
  go_enter Tryz.func82,Tryz.ntmps82
  go_wp2_with fail
  refine HO.out.mono ?_
  rintro e w1 ⟨rfl,⟨f1,hc1,hk1⟩,hb1⟩
  have FIN:=Lib.hid ((KQ.mk hb1 (hk1.mono (fun x hx e=>by rw [e] at hx; exact hx.elim Lab.noConfusion Lab.noConfusion))).both (FIN0.out w1 f1 hc1 w1 (Below.refl _ _)))
  clear FIN0 hc1 hb1 hk1 HV HO
  go_wp2_with fail
  refine (HRD.out _).mono ?_
  rintro e _ ⟨rfl,rfl⟩
  cases ok with
  | false=>
    clear hcond q1
    go_wp2
    go_ret
    rw [HE.out]
    exact ⟨rfl,⟨_,FIN.out.1⟩,FIN.out.2⟩
  | true=>
    cases rt with
    | false=>
      clear hcond q1
      go_wp2
      go_ret
      rw [HE.out]
      exact ⟨rfl,⟨_,FIN.out.1⟩,FIN.out.2⟩
    | true=>
      have hx:¬ (4≤val.length∧val.length≤4004):=by
       rintro ⟨h1,h2⟩
       rw [decide_eq_true h1,decide_eq_true h2] at hcond
       cases hcond
      clear hcond
      rcases q1 with q1 | q1
      ·have t1:decide ((val.length:Int) < 4)=true:=decide_eq_true q1
       clear q1 hx
       go_wp2
       go_ret
       rw [HE.out]
       exact ⟨rfl,⟨_,FIN.out.1⟩,FIN.out.2⟩
      ·have t1:decide ((val.length:Int) < 4)=false:=decide_eq_false (by omega)
       have t2:decide ((4004:Int) < (val.length:Int))=true:=decide_eq_true (by omega)
       clear q1 hx
       go_wp2
       go_ret
       rw [HE.out]
       exact ⟨rfl,⟨_,FIN.out.1⟩,FIN.out.2⟩
 ·rw [if_neg hcond] at hr0
  obtain ⟨⟨⟨rfl,rfl⟩,h4⟩,h5⟩:((ok=true∧rt=true)∧4≤val.length)∧val.length≤4004:=by
   simp only [Bool.not_eq_false,Bool.and_eq_true,decide_eq_true_eq] at hcond
   exact hcond
  have t1:decide ((val.length:Int) < 4)=false:=decide_eq_false (by omega)
  have t2:decide ((4004:Int) < (val.length:Int))=false:=decide_eq_false (by omega)
  clear hcond
  have HRN:=Lib.hid (fun W (f':Nat→Lab) (hV:RdP W (fun g=>f g=.no) (.slice a val.length cap) val)=>readNumberP_c _ val _ W hV h4)
  have htm:=numV4_lt val
  obtain ⟨tm,htm2⟩:∃ t,numV (val.take 4)=t:=⟨_,rfl⟩
  rw [htm2] at hr0 HRN htm
  obtain ⟨wh,hwh⟩:∃ k,digP id 4 ++ st=k:=⟨_,rfl⟩
  rw [hwh] at hr0
  have hwl:wh.length≤1000004:=by rw [← hwh,List.length_append,digP_len]; omega
  have HDG:=Lib.hid (fun W=>digits_c id 4 W (by omega) (by omega))
  have hsd:(⟨(digP id 4).toArray⟩:ByteArray).size=4:=by rw [str_size,digP_len]
  have HAP:Hid ((⟨(digP id 4).toArray⟩:ByteArray) ++ ⟨st.toArray⟩=⟨wh.toArray⟩):=Lib.hid (by rw [app_str,hwh])
  generalize digP id 4=dg at *
  have HTI:=Lib.hid (fun W=>isTime_c (tm:Int) W)
  clear htm2 hwh h4 h5
  go_enter Tryz.func82,Tryz.ntmps82
  go_wp2_with fail
  refine HO.out.mono ?_
  rintro e w1 ⟨rfl,⟨f1,hc1,hk1⟩,hb1⟩
  have hV1:=HRN.out w1 f1 (HV.out _ _ hk1)
  have HQ1:=Lib.hid (KQ.mk hb1 (hk1.mono (T':=fun x=>x ≠ .no) (fun x hx e=>by rw [e] at hx; exact hx.elim Lab.noConfusion Lab.noConfusion)))
  clear HV HRN hk1 HO
  go_wp2_with fail
  refine (HRD.out _).mono ?_
  rintro e _ ⟨rfl,rfl⟩
  go_wp2_with fail
  refine hV1.mono ?_
  rintro e w2 ⟨⟨v2,rfl, -⟩,hb2⟩
  go_wp2_with fail
  refine (HDG.out _).mono ?_
  rintro e w3 ⟨rfl,hb3⟩
  obtain ⟨m0,m4,m5,v1,u2,v3,hc3⟩:=hc1.below (hb2.trans (hb3.mono hb2.size))
  have hB3:=HQ1.out.below hc1.szB (hb2.trans (hb3.mono hb2.size))
  clear hV1 hb1 hb2 hb3 hc1 HDG HRD HQ1
  go_upto_region 7 with (fail)
  rw [HAP.out]
  clear hs1 hs2 hsd hsl hbl
  obtain ⟨-, -, -, -,c4,c5,cf⟩:=hc3.cells
  obtain ⟨ve,hlk,hown,howl⟩:=hc3.att wh (by unfold maxLen; omega)
  have hatn:=hc3.attn wh
  have hl:∃ l,c.atts wh=l:=⟨_,rfl⟩
  obtain ⟨l,hl⟩:=hl
  have hown2:ownI w3 B ve l:=hl ▸ hown
  have hatn2:l.length≤n+1:=hl ▸ hatn
  clear hown hatn
  have hown:=hown2
  have hatn:=hatn2
  clear hown2 hatn2
  rw [hl] at hr0
  have HATT:=Lib.hid hl
  obtain ⟨ae,de,rfl⟩:=own_slice hown
  have FIN:=Lib.hid (hB3.both (CW.mono ⟨m0,m4,m5,v1,u2,v3,hc3⟩ (show n+1≤n+3 by omega)))
  have H3:=Lib.hid hc3
  have HB3:=Lib.hid hB3
  have HOWN:=Lib.hid hown
  have HOWL:=Lib.hid howl
  clear hc3 hB3 howl hl
  obtain ⟨L,hL⟩:∃ k,l.length=k:=⟨_,rfl⟩
  have HWL:=Lib.hid (show wrap64 ((L:Int)+1)=(L:Int)+1 by unfold wrap64; omega)
  go_upto_region 8 with (fail)
  rw [hL] at hr0
  by_cases htx:tm≤2147483647
  rotate_left
  ·have d1:decide ((0:Int)≤(tm:Int)∧(tm:Int)≤2147483647)=false:=decide_eq_false (by omega)
   rw [d1] at HTI
   replace hr0:=(if_pos (show ¬ tm≤2147483647∨nn ≠ L+1∨(1 < nn∧tm < l.getD (nn - 2) 0) from Or.inl htx)).symm.trans hr0
   have HE:=Lib.hid hr0.symm
   clear hr0 d1 htx HOWN hown
   have hwL:=HWL.out
   go_wp2_with fail
   refine (HTI.out _).mono ?_
   rintro e _ ⟨rfl,rfl⟩
   go_wp2
   go_ret
   rw [HE.out]
   exact ⟨rfl,⟨_,FIN.out.1⟩,FIN.out.2⟩
  have d1:decide ((0:Int)≤(tm:Int)∧(tm:Int)≤2147483647)=true:=decide_eq_true (by omega)
  rw [d1] at HTI
  clear d1
  by_cases hnn:nn=L+1
  rotate_left
  ·have q2:((nn:Int) != (L:Int)+1)=true:=by rw [bne_iff_ne]; exact fun e=>hnn (Int.ofNat_inj.1 e)
   replace hr0:=(if_pos (show ¬ tm≤2147483647∨nn ≠ L+1∨(1 < nn∧tm < l.getD (nn - 2) 0) from Or.inr (Or.inl hnn))).symm.trans hr0
   have HE:=Lib.hid hr0.symm
   clear hr0 htx hnn HOWN hown
   have hwL:=HWL.out
   go_wp2_with fail
   refine (HTI.out _).mono ?_
   rintro e _ ⟨rfl,rfl⟩
   go_wp2
   go_ret
   rw [HE.out]
   exact ⟨rfl,⟨_,FIN.out.1⟩,FIN.out.2⟩
  have q2:((nn:Int) != (L:Int)+1)=false:=by rw [bne_eq_false_iff_eq]; exact Int.ofNat_inj.2 hnn
  have HNX:Hid (∀ j,j < l.length→∃ g,ae=some ⟨g,0,none⟩∧w3.cell? ⟨g,j,none⟩=some (.int .i64 ((l.getD j 0:Nat):Int))):=Lib.hid (fun j hj=>by
   obtain ⟨g,e1,e2⟩:=ownI_cell HOWN.out j hj
   refine ⟨g,e1,?_⟩
   rw [e2,List.getD_eq_getElem?_getD,List.getElem?_eq_getElem hj]
   rfl)
  clear hown c4 c5 cf hlk
  by_cases hbig:1 < nn∧tm < l.getD (nn - 2) 0
  ·replace hr0:=(if_pos (show ¬ tm≤2147483647∨nn ≠ L+1∨(1 < nn∧tm < l.getD (nn - 2) 0) from Or.inr (Or.inr hbig))).symm.trans hr0
   have HE:=Lib.hid hr0.symm
   obtain ⟨j,hj⟩:∃ j,nn - 2=j:=⟨_,rfl⟩
   obtain ⟨h1,h2⟩:=hbig
   rw [hj] at h2
   have hjl:j < l.length:=by rw [hL]; clear hr0 hL hatn; omega
   obtain ⟨g,rfl,hc⟩:=HNX.out j hjl
   clear hjl
   have p1:decide ((1:Int) < (nn:Int))=true:=decide_eq_true (by omega)
   have p3:(j:Int) < (L:Int):=by omega
   have p3':j < L:=by omega
   generalize l.getD j 0=y at *
   have p4:decide ((tm:Int) < (y:Int))=true:=decide_eq_true (by omega)
   have p2:wrap64 ((nn:Int) - 2)=(j:Int):=by unfold wrap64; omega
   have hwL:wrap64 ((L:Int)+1)=(nn:Int):=HWL.out.trans (show ((L+1:Nat):Int)=(nn:Int) by rw [hnn])
   clear q2 hatn hL hdl hr0 htx hnn HOWN HNX h1 h2 hj
   generalize (nn:Int)=N at *
   generalize (tm:Int)=T at *
   generalize (y:Int)=Y at *
   go_wp2_with fail
   refine (HTI.out _).mono ?_
   rintro e _ ⟨rfl,rfl⟩
   go_wp2
   go_ret
   rw [HE.out]
   exact ⟨rfl,⟨_,FIN.out.1⟩,FIN.out.2⟩
  have hcnd:¬ (¬ tm≤2147483647∨nn ≠ L+1∨(1 < nn∧tm < l.getD (nn - 2) 0)):=fun e=>e.elim (fun e=>e htx) (fun e=>e.elim (fun e=>e hnn) hbig)
  replace hr0:=(if_neg hcnd).symm.trans hr0
  clear hcnd
  have HE:=Lib.hid hr0.symm
  go_cut [83] from 61 to 98 (fun t wx=>t=.bool false∧wx=w3)
  case first=>
   by_cases h1:1 < nn
   ·obtain ⟨j,hj⟩:∃ j,nn - 2=j:=⟨_,rfl⟩
    have h2:¬ tm < l.getD j 0:=fun e=>hbig ⟨h1,by rw [hj]; exact e⟩
    have hjl:j < l.length:=by rw [hL]; clear hr0 hL hatn; omega
    obtain ⟨g,rfl,hc⟩:=HNX.out j hjl
    clear hjl
    have p1:decide ((1:Int) < (nn:Int))=true:=decide_eq_true (by omega)
    have p3:(j:Int) < (L:Int):=by omega
    have p3':j < L:=by omega
    generalize l.getD j 0=y at *
    have p4:decide ((tm:Int) < (y:Int))=false:=decide_eq_false (by omega)
    have p2:wrap64 ((nn:Int) - 2)=(j:Int):=by unfold wrap64; omega
    have hwL:wrap64 ((L:Int)+1)=(nn:Int):=HWL.out.trans (show ((L+1:Nat):Int)=(nn:Int) by rw [hnn])
    clear q2 hatn hL hdl hr0 htx hnn HOWN HNX h1 h2 hj hbig
    generalize (nn:Int)=N at *
    generalize (tm:Int)=T at *
    generalize (y:Int)=Y at *
    go_wp2_with fail
    refine (HTI.out _).mono ?_
    rintro e _ ⟨rfl,rfl⟩
    go_wp2_with fail
    go_meet
    exact ⟨rfl,rfl⟩
   ·have p1:decide ((1:Int) < (nn:Int))=false:=decide_eq_false (by omega)
    have hwL:wrap64 ((L:Int)+1)=(nn:Int):=HWL.out.trans (show ((L+1:Nat):Int)=(nn:Int) by rw [hnn])
    clear q2 hatn hL hdl hr0 htx hnn HOWN HNX h1 hbig
    generalize (nn:Int)=N at *
    generalize (tm:Int)=T at *
    go_wp2_with fail
    refine (HTI.out _).mono ?_
    rintro e _ ⟨rfl,rfl⟩
    go_wp2_with fail
    go_meet
    exact ⟨rfl,rfl⟩
  case rest=>
   obtain ⟨rfl,rfl⟩:=hcut
   have hwm:wh.length≤maxLen:=by unfold maxLen; omega
   have hnl:l.length+1≤1000002:=by omega
   subst hL
   have hAl:=HATT.out
   subst hAl
   have hrow:wc.ownsRow B 3 1 (.slice ae (c.atts wh).length de) (c.atts wh).length ((c.atts wh).map fun n:Nat=>.int .i64 (n:Int)):=HOWN.out
   obtain ⟨-, -, -, -,c4, -,cf⟩:=H3.out.cells
   obtain ⟨-, -, -, -,ca4, -,caf⟩:=(H3.out.below ((Below.refl _ wc).alloc (Nat.le_refl _) (.cells #[.int .i64 (tm:Int)] 3))).cells
   clear HNX hatn hr0 hbig HWL hnn htx q2 hdl
   go_upto_region 10 with (fail)
   go_cut [92] from 84 to 98 (fun _ wx=>∃ f',CV wx B cb (n+1+1) { c with ofTask:=c.ofTask ++ [id],atts:=updA c.atts wh (c.atts wh ++ [tm]) } f' m0 m4 m5 v1 u2 v3∧KQ B f1 f' wc wx)
   case first=>
    go_region_law (refine step_apG 46 3 _ 1 8 infoInt Tryz.underlying46 rfl (by decide) rfl _ _ rfl B (.slice ae (c.atts wh).length de) (c.atts wh).length _ rfl (hrow.alloc _) wc.heap.size 1 [.int .i64 (tm:Int)] rfl rfl (Blk.new wc.drew _ _) (by simp [Value.oneCell']) (by unfold maxLen; omega) (by omega) (by have:=H3.out.szB; simp; omega) ?_; intro v' w4 hn4 hg4 hi4; obtain ⟨av,cv,rfl⟩:=own_slice hn4; obtain ⟨-, -, -, -,k4, -,kf⟩:=(H3.out.below (bl_drew wc)).keepCb HOWL.out Lab.noConfusion (.cells #[.int .i64 (tm:Int)] 3) hg4; obtain ⟨M,hM1,hM2,hM3⟩:=(H3.out.below (bl_drew wc)).attPut wh tm ((Below.refl _ wc.drew).alloc (Nat.le_refl _) (.cells #[.int .i64 (tm:Int)] 3)) HOWL.out hn4 hg4 hi4; obtain ⟨w5,hrun,h5,h6⟩:=hM2.store keyed Tryz.underlying131 (by unfold maxLen; omega) (keyOf_str wh hwm) (show tokR (.slice av ((c.atts wh).length+1) cv)=some (.held (.slice av ((c.atts wh).length+1) cv),[]) from rfl); obtain ⟨hc5,hk5⟩:=hM3 w5 h5 h6)
    all_goals
     go_wp2_with fail
     go_meet
     exact ⟨_,hc5,(H3.out.kqB (bl_drew wc)).trans ((H3.out.below (bl_drew wc)).kq hk5 (fun e=>e.elim Lab.noConfusion Lab.noConfusion))⟩
   case rest=>
    obtain ⟨f6,hc6,hb6⟩:=hcut
    obtain ⟨M,hM1,hM2,hM3⟩:=hc6.trPut wh id
    obtain ⟨-, -, -, -, -,c5,cf6⟩:=hc6.cells
    have HB6:=Lib.hid (HB3.out.trans hb6)
    have HFIN:=Lib.hid (fun w7 h5 h6=>hM3 w7 h5 h6)
    have HKB:=Lib.hid (fun w7 (k:Kp wc w7 f6 f6 (fun x=>x=.m5))=>hc6.kq k Lab.noConfusion)
    clear hc6 hb6 H3 HB3 HOWN HOWL hrow c4 ca4 caf cf hM3
    go_wp2_with (first | (refine wpList_mapUpdate_in _ rfl _ _ _ 132 rfl 9 3 keyed Tryz.underlying132 tokR m5 M.length _ rfl hM2 (by unfold maxLen; omega) (strV wh) (.int .i64 (id:Int)) (.string wh) rfl rfl (keyOf_str wh hwm) (.held (.int .i64 (id:Int))) [] rfl ?_; intro w7 h5 h6) | fail)
    obtain ⟨hc7,hk7⟩:=HFIN.out w7 h5 h6
    have hb7:=HKB.out w7 hk7
    go_ret
    rw [HE.out]
    exact ⟨rfl,⟨_,⟨m0,m4,m5,v1,_,v3,hc7⟩,(HB6.out.trans hb7).kp⟩,(HB6.out.trans hb7).bl⟩
end
section
open Go.RowKit SeedP Go.Maps
theorem ownS_cell {w:World} {B n:Nat} {a:Option Addr} {d:Nat} {l:List (List UInt8)} (h:ownS w B (.slice a n d) l) (j:Nat) (hj:j < l.length):∃ g,a=some ⟨g,0,none⟩∧w.cell? ⟨g,j,none⟩=some (strV (l.getD j [])):=by
 obtain ⟨h1,h2⟩:=h
 rcases h2 with ⟨e,h0⟩ | ⟨g,cap,cur,e,hB,hg,hn,hc,hs,ht⟩
 ·omega
 ·cases e
  refine ⟨g,rfl,?_⟩
  have e:w.cell? ⟨g,j,none⟩=cur[j]?:=by simp [World.cell?,hg]
  rw [e]
  have h3:(cur.toList.take (l.length * 1))[j]?=(l.map strV)[j]?:=by rw [ht]
  rw [List.getElem?_take,if_pos (by omega)] at h3
  rw [← Array.getElem?_toList,h3,List.getElem?_map,List.getD_eq_getElem?_getD,List.getElem?_eq_getElem hj]
  rfl
theorem ownI_cellD {w:World} {B n:Nat} {a:Option Addr} {d:Nat} {l:List Nat} (h:ownI w B (.slice a n d) l) (j:Nat) (hj:j < l.length):∃ g,a=some ⟨g,0,none⟩∧w.cell? ⟨g,j,none⟩=some (.int .i64 ((l.getD j 0:Nat):Int)):=by
 obtain ⟨g,e1,e2⟩:=ownI_cell h j hj
 refine ⟨g,e1,?_⟩
 rw [e2,List.getD_eq_getElem?_getD,List.getElem?_eq_getElem hj]
 rfl
theorem ownT_cell {w:World} {B n:Nat} {a:Option Addr} {d:Nat} {l:List TaskP} {xs:List Value} (h:w.ownsRow B 35 7 (.slice a n d) l.length xs) (hx:∀ j (h:j < l.length),xs[j * 7+5]?=some (.int .i64 l[j].tries)) (j:Nat) (hj:j < l.length):∃ g,a=some ⟨g,0,none⟩∧w.cell? ⟨g,j * 7+5,none⟩=some (.int .i64 (l.getD j zeroT).tries):=by
 obtain ⟨h1,h2⟩:=h
 rcases h2 with ⟨e,h0⟩ | ⟨g,cap,cur,e,hB,hg,hn,hc,hs,ht⟩
 ·omega
 ·cases e
  refine ⟨g,rfl,?_⟩
  have e:w.cell? ⟨g,j * 7+5,none⟩=cur[j * 7+5]?:=by simp [World.cell?,hg]
  rw [e]
  have h3:(cur.toList.take (l.length * 7))[j * 7+5]?=xs[j * 7+5]?:=by rw [ht]
  rw [List.getElem?_take,if_pos (by omega)] at h3
  rw [← Array.getElem?_toList,h3,hx j hj,List.getD_eq_getElem?_getD,List.getElem?_eq_getElem hj]
  rfl
theorem att_val {w:World} {b n:Nat} {D:DataW Value} (h:w.ownsMap Tryz.prog 9 tokR b n D) (k:List UInt8) (hk:k.length≤maxLen):∃ v,(Instr.lookup 131 (.map (some b)) (strV k) false).run Tryz.prog w=.ok v w∧DataW.held v=D.atKey (.string k) (.held (.slice none 0 0)):=by
 obtain ⟨v,ps,hr,hv⟩:=h.lookup keyed Tryz.underlying131 (z:=.slice none 0 0) (by kernel_rfl) (zd:=.held (.slice none 0 0)) (zp:=[]) rfl (keyOf_str k hk)
 refine ⟨v,hr,?_⟩
 unfold tokR at hv
 simp only [Option.some.injEq,Prod.mk.injEq] at hv
 exact hv.1
/-- a look into the attempts of a student, whatever has been drawn -/
theorem CV.attN {w:World} {B cb n:Nat} {c:ContP} {f:Nat→Lab} {m0 m4 m5:Nat} {v1 v2 v3:Value} (h:CV w B cb n c f m0 m4 m5 v1 v2 v3) (k:List UInt8) (hk:k.length≤maxLen) :
 ∃ v,(∀ n,(Instr.lookup 131 (.map (some m4)) (strV k) false).run Tryz.prog (w.drewN n)=.ok v (w.drewN n))∧ownI w B v (c.atts k):=by
 obtain ⟨v,hr,ho, -⟩:=h.att k hk
 obtain ⟨L, -,h10, -, -⟩:=h.atts
 refine ⟨v,fun n=>?_,ho⟩
 obtain ⟨v0,r0,e0⟩:=att_val h10 k hk
 rw [hr] at r0
 obtain rfl:v=v0:=by cases r0; rfl
 have h11:(w.drewN n).ownsMap Tryz.prog 9 tokR m4 L.length (toD L):=by
  have hlt:=h10.lt
  obtain ⟨es,clock,hb,r⟩:=h10
  exact ⟨es,clock,((below_drewN (Below.refl w.heap.size w) n).block _ hlt).trans hb,r⟩
 obtain ⟨v1,r1,e1⟩:=att_val h11 k hk
 rw [← e0] at e1
 simp only [DataW.held.injEq] at e1
 rw [r1,e1]
theorem keys_one_of:∀ {T:List Ent},(T.map fun e=>(Lit.string e.key,(DataW.held e.val:DataW Value))).Pairwise (fun p q=>p.1 ≠ q.1)→∀ {e e2:Ent},e ∈ T→e2 ∈ T→e2.key=e.key→e2=e
 | [],_,_,_,h1,_,_=>by cases h1
 | x :: r,hp,e,e2,h1,h2,hk=>by
   rw [List.map_cons,List.pairwise_cons] at hp
   have hn:∀ y ∈ r,x.key ≠ y.key:=fun y hy e=>hp.1 _ (List.mem_map.2 ⟨y,hy,rfl⟩) (by simp only; rw [e])
   rcases List.mem_cons.1 h1 with rfl | h3
   ·rcases List.mem_cons.1 h2 with rfl | h4
    ·rfl
    ·exact absurd hk.symm (hn _ h4)
   ·rcases List.mem_cons.1 h2 with rfl | h4
    ·exact absurd hk (hn _ h3)
    ·exact keys_one_of hp.2 h3 h4 hk
theorem keys_one {w:World} {b n:Nat} {T:List Ent} (h:w.ownsMap Tryz.prog 9 tokR b n (toD T)) {e e2:Ent} (h1:e ∈ T) (h2:e2 ∈ T) (hk:e2.key=e.key):e2=e:=by
 obtain ⟨es,he,hp⟩:=h.tidy keyed
 unfold toD at he
 simp only [DataW.map.injEq] at he
 subst he
 exact keys_one_of hp h1 h2 hk
theorem ranges_drewN {w:World} {k:TypeId} {R:Value→Option (DataW Value × List MemPlace)} {b r n:Nat} {D:DataW Value} {left:Lit→Bool} {cnt:Nat} (h:w.ranges Tryz.prog k R b r n D left cnt) (m:Nat):(w.drewN m).ranges Tryz.prog k R b r n D left cnt:=by
 obtain ⟨es,clock,since,seen,c0,hb,F,hs,hD,hr,rest⟩:=h
 have hB:=below_drewN (Below.refl w.heap.size w) m
 exact ⟨es,clock,since,seen,c0,(hB.block _ (Array.getElem?_eq_some_iff.1 hb).1).trans hb,F,hs,hD,(hB.block _ (Array.getElem?_eq_some_iff.1 hr).1).trans hr,rest⟩
theorem all_getD {α:Type} (l:List α) (d:α) (p:α→Bool):l.all p=true ↔ ∀ j,j < l.length→p (l.getD j d)=true:=by
 rw [List.all_eq_true]
 constructor
 ·intro h j hj
  rw [List.getD_eq_getElem?_getD,List.getElem?_eq_getElem hj]
  exact h _ (List.getElem_mem hj)
 ·intro h x hx
  obtain ⟨j,hj,rfl⟩:=List.getElem_of_mem hx
  have:=h j hj
  rw [List.getD_eq_getElem?_getD,List.getElem?_eq_getElem hj] at this
  exact this
theorem all_false {α:Type} (l:List α) (d:α) (p:α→Bool) {j:Nat} (hj:j < l.length) (h:p (l.getD j d)=false):l.all p=false:=by
 rw [Bool.eq_false_iff]
 intro h2
 rw [(all_getD l d p).1 h2 j hj] at h; cases h
set_option maxRecDepth 100000 in
set_option maxHeartbeats 2000000 in
/-- whole -/
theorem whole_c {w:World} {B cb n:Nat} {c:ContP} {f:Nat→Lab} (h:CW w B cb n c f) (hn:n≤1000000) (hlen:∀ x ∈ c.inClass,x.length≤1000000) (htn:c.tasks.length≤9999) (htr:∀ e ∈ c.tries,e.2 ∈ c.ofTask) :
 Calls Tryz.prog 84 #[.pointer (some ⟨cb,0,none⟩)] w fun e w'=>e=.returned (.bool (wholeP c))∧Below w.heap.size w w':=by
 obtain ⟨m0,m4,m5,v1,v2,v3,h⟩:=h
 obtain ⟨c0,c1,c2,c3,c4,c5,cf⟩:=h.cells
 obtain ⟨hil,hin⟩:=h.inC
 obtain ⟨a2,d2,rfl⟩:=own_slice hin
 have HC:=Lib.hid (fun W (hW:Below w.heap.size w W)=>(h.below hW))
 have HIN:=Lib.hid hin
 have HLK:=Lib.hid (fun W (hW:Below w.heap.size w W) k (hk:k.length≤maxLen)=>(h.below hW).cLook k hk)
 obtain ⟨N,hN⟩:∃ k,c.inClass.length=k:=⟨_,rfl⟩
 go_enter Tryz.func84,Tryz.ntmps84
 go_wp2
 go_loopw [14] (fun i wr=>∃ j:Nat,j≤N∧i=.int .i64 j∧(∀ q,q < j→decide (c.inClass.getD q [] ∈ c.classes)=true)∧Below w.heap.size w wr) (fun i _=>N - (intOf i).toNat)
 case atStart=>exact ⟨0,Nat.zero_le _,rfl,fun q hq=>by omega,Below.refl _ _⟩
 case round=>
  obtain ⟨j,hj,rfl,hfine,hB⟩:=hrel
  have HF:=Lib.hid hfine
  have HB:=Lib.hid hB
  have hwr:=HC.out wr hB
  obtain ⟨k0,k1,k2,k3,k4,k5,kf⟩:=hwr.cells
  by_cases hlt:j < N
  ·have t1:decide ((j:Int) < (N:Int))=true:=decide_eq_true (by omega)
   have t2:(j:Int) < (N:Int):=by omega
   obtain ⟨g,rfl,hc⟩:=ownS_cell hwr.inC.2 j (show j < c.inClass.length by omega)
   have hxl:(c.inClass.getD j []).length≤1000000:=by
    rw [List.getD_eq_getElem?_getD,List.getElem?_eq_getElem (show j < c.inClass.length by omega)]
    exact hlen _ (List.getElem_mem _)
   have hlk:=HLK.out wr hB (c.inClass.getD j []) (by unfold maxLen; omega)
   have HFA:=Lib.hid (fun h=>all_false c.inClass [] (fun x=>decide (x ∈ c.classes)) (j:=j) (by omega) h)
   have HCO:Hid (decide (c.inClass.getD j [] ∈ c.classes)=c.classes.contains (c.inClass.getD j [])):=Lib.hid (by
    rw [Bool.eq_iff_iff,decide_eq_true_eq,List.contains_iff_mem])
   rw [HCO.out] at HFA
   obtain ⟨b,hb⟩:∃ b,c.classes.contains (c.inClass.getD j [])=b:=⟨_,rfl⟩
   rw [hb] at hlk HFA HCO
   generalize hx:c.inClass.getD j []=x at *
   have HX:=Lib.hid hx
   clear hx hxl hb hfine hwr hB hin
   cases b with
   | false=>
     have HW:Hid (wholeP c=false):=Lib.hid (by
      unfold wholeP
      rw [HFA.out rfl]; rfl)
     clear HFA
     go_wp2
     go_ret
     rw [HW.out]
     exact ⟨rfl,HB.out⟩
   | true=>
     have HF2:Hid (∀ q,q < j+1→decide (c.inClass.getD q [] ∈ c.classes)=true):=Lib.hid (fun q hq=>by
      rcases Nat.lt_or_ge q j with h | h
      ·exact HF.out q h
      ·obtain rfl:q=j:=by omega
       rw [HX.out]; exact HCO.out)
     clear HFA
     go_wp2
     go_roundw
     case rel=>exact ⟨j+1,by omega,by go_num,HF2.out,HB.out⟩
     case measure=>simp [intOf]; omega
  ·obtain rfl:j=N:=by omega
   have t1:decide ((j:Int) < (j:Int))=false:=by simp
   have HALL1:Hid ((c.inClass.all fun x=>decide (x ∈ c.classes))=true):=Lib.hid ((all_getD c.inClass [] _).2 (fun q hq=>HF.out q (by omega)))
   obtain ⟨hoN,hown⟩:=hwr.ofT
   obtain ⟨a3,d3,rfl⟩:=own_slice hown
   have HC2:=Lib.hid (fun W (hW:Below wr.heap.size wr W)=>hwr.below hW)
   obtain ⟨tn,htn2⟩:∃ k,c.tasks.length=k:=⟨_,rfl⟩
   have HTN:=Lib.hid htn2
   obtain ⟨htk, -⟩:=hwr.tasks
   obtain ⟨a1,d1,rfl⟩:∃ a d,v1=.slice a tn d:=by
    obtain ⟨-,xs,hr, -⟩:=hwr.tasks
    rw [← htn2]; exact own_slice hr
   obtain ⟨M,hM⟩:∃ k,c.ofTask.length=k:=⟨_,rfl⟩
   rw [hM] at k3
   clear hfine HF HIN HLK hwr hB h c0 c1 c2 c3 c4 c5 cf hown htk
   go_wp2
   go_loopw [31] (fun i wr2=>∃ q:Nat,q≤M∧i=.int .i64 q∧(∀ z,z < q→decide (1≤c.ofTask.getD z 0∧c.ofTask.getD z 0≤c.tasks.length)=true)∧Below wr.heap.size wr wr2) (fun i _=>M - (intOf i).toNat)
   case atStart=>exact ⟨0,Nat.zero_le _,rfl,fun q hq=>by omega,Below.refl _ _⟩
   case round=>
    obtain ⟨q,hq,rfl,hfine,hB⟩:=hrel
    have HF:=Lib.hid hfine
    have HB2:=Lib.hid (HB.out.trans (hB.mono HB.out.size))
    have HB3:=Lib.hid hB
    have hw2:=HC2.out wr hB
    obtain ⟨k0,k1,k2,k3,k4,k5,kf⟩:=hw2.cells
    by_cases hlt:q < M
    ·have t1:decide ((q:Int) < (M:Int))=true:=decide_eq_true (by omega)
     have t2:(q:Int) < (M:Int):=by omega
     obtain ⟨g,rfl,hc⟩:=ownI_cellD hw2.ofT.2 q (show q < c.ofTask.length by omega)
     have HFA:=Lib.hid (fun h=>all_false c.ofTask 0 (fun i=>decide (1≤i∧i≤c.tasks.length)) (j:=q) (by omega) h)
     generalize hx:c.ofTask.getD q 0=x at *
     have HX:=Lib.hid hx
     clear hx hfine hw2 hB
     by_cases hbad:x < 1∨tn < x
     ·have HW:Hid (wholeP c=false):=Lib.hid (by
       unfold wholeP
       rw [HFA.out (decide_eq_false (by rw [HTN.out]; omega))]
       simp)
      have p1:∃ b,decide ((x:Int) < 1)=b:=⟨_,rfl⟩
      obtain ⟨b,p1⟩:=p1
      have p2:b=false→decide ((tn:Int) < (x:Int))=true:=fun e=>by
       rw [e,decide_eq_false_iff_not] at p1
       exact decide_eq_true (by omega)
      clear HFA hbad
      generalize (x:Int)=X at *
      cases b with
      | true=>
        clear p2
        go_wp2
        go_ret
        rw [HW.out]
        exact ⟨rfl,HB2.out⟩
      | false=>
        replace p2:=p2 rfl
        go_wp2
        go_ret
        rw [HW.out]
        exact ⟨rfl,HB2.out⟩
     ·have HF2:Hid (∀ z,z < q+1→decide (1≤c.ofTask.getD z 0∧c.ofTask.getD z 0≤c.tasks.length)=true):=Lib.hid (fun z hz=>by
       rcases Nat.lt_or_ge z q with h | h
       ·exact HF.out z h
       ·obtain rfl:z=q:=by omega
        rw [HX.out,HTN.out]; exact decide_eq_true (by omega))
      have p1:decide ((x:Int) < 1)=false:=decide_eq_false (by omega)
      have p2:decide ((tn:Int) < (x:Int))=false:=decide_eq_false (by omega)
      clear HFA hbad
      generalize (x:Int)=X at *
      go_wp2
      go_roundw
      case rel=>exact ⟨q+1,by omega,by go_num,HF2.out,HB3.out⟩
      case measure=>simp [intOf]; omega
    ·obtain rfl:q=M:=by omega
     have t1:decide ((q:Int) < (q:Int))=false:=by simp
     have HALL2:Hid ((c.ofTask.all fun i=>decide (1≤i∧i≤c.tasks.length))=true):=Lib.hid ((all_getD c.ofTask 0 _).2 (fun z hz=>HF.out z (by omega)))
     obtain ⟨T,hTl,hTm,hTi,hTe⟩:=hw2.tries
     have HTI:=Lib.hid hTi
     have HTE:=Lib.hid hTe
     have HC3:=Lib.hid (fun W (hW:Below wr.heap.size wr W)=>hw2.below hW)
     clear hfine HF hw2 hB hTi hTe
     go_wp2_with (first
      | (at_range; refine wpList_range_own _ rfl _ 132 rfl 9 _ keyed Tryz.underlying132 _ m5 _ _ rfl hTm ?_; intro w0 hrg0 hg0 hs0)
      | fail)
     go_frame
     have hsz0:Maps.size (toD T)=T.length:=toD_size T
     have B0:Below wr.heap.size wr w0:=(Below.refl _ _).grown hg0 (Nat.le_refl _) (fun j hj=>by cases hj)
     go_loopw [52] (fun _ wr3=>∃ (left:Lit→Bool) (cnt:Nat),wr3.ranges Tryz.prog 9 tokR m5 wr.heap.size T.length (toD T) left cnt∧(∀ e ∈ T,left (.string e.key)=false→∀ m:Nat,e.val=.int .i64 (m:Nat)→decide (((c.atts e.key).length:Int)≤(c.tasks.getD (m - 1) zeroT).tries)=true)∧Below wr.heap.size wr wr3)
      (fun _ wr3=>wr3.rangeLeft m5 wr.heap.size)
     case atStart=>
      refine ⟨_,_,hrg0,fun e he hl=>?_,B0⟩
      rw [toD_has] at hl
      have:(eFind T e.key).isSome=true:=by unfold eFind; rw [List.find?_isSome]; exact ⟨e,he,by simp⟩
      rw [this] at hl; cases hl
     case round=>
      obtain ⟨left,cnt,hrg,hvis,hB3⟩:=hrel
      have HVIS:=Lib.hid hvis
      have HBW:=Lib.hid (HB2.out.trans (hB3.mono HB2.out.size))
      clear hvis hrg0 hg0 hs0
      go_wp2_with (first
       | (at_next; refine wpList_next_ranges _ rfl _ rfl 9 keyed tokR encStr (fun v:Value=>v) (fun key kl hk=>by obtain ⟨x,hx,_⟩:=Maps.keyOf_str Tryz.underlying9 hk; exact ⟨x,hx⟩) (fun v y hv=>⟨v,rfl⟩) m5 _ T.length _ _ _ rfl hrg ?_ ?_)
       | fail)
      ·intro hc0 hl0
       have HW:Hid (wholeP c=true):=Lib.hid (by
        unfold wholeP
        rw [HALL1.out,HALL2.out,Bool.true_and,Bool.true_and,List.all_eq_true]
        rintro ⟨k,m⟩ hkm
        obtain ⟨e,he,rfl,hv⟩:=(HTE.out k m).1 hkm
        exact HVIS.out e he (hl0 _) m hv)
       clear hc0 hl0 HVIS
       go_wp2
       go_ret
       rw [HW.out]
       exact ⟨rfl,HBW.out⟩
      ·intro x cc kl yd yp w2 cnt2 hkey hlk hv hat hrg2 hlt hg2 hs2 hen
       obtain ⟨x',ex,rfl,hxm⟩:=Maps.keyOf_str Tryz.underlying9 hkey
       obtain rfl:x=x':=encStr_inj ex
       have hat1:=hat (.held (.bool true))
       have hat2:=hat (.held (.bool false))
       rw [toD_at] at hat1 hat2
       obtain ⟨e,he⟩:∃ e,eFind T x=some e:=by
        cases hq:eFind T x with
        | none=>rw [hq] at hat1 hat2; simp only at hat1 hat2; rw [← hat1] at hat2; cases hat2
        | some e=>exact ⟨e,rfl⟩
       rw [he] at hat1
       obtain ⟨heT,rfl⟩:=eFind_mem he
       obtain ⟨m,hm⟩:=HTI.out e heT
       have hcc:cc=.int .i64 (m:Nat):=by
        unfold tokR at hv
        simp only [Option.some.injEq,Prod.mk.injEq] at hv
        simp only at hat1
        rw [hm] at hat1
        have:=hv.1.trans hat1.symm
        simp only [DataW.held.injEq] at this
        exact this
       subst hcc
       have hmem:(e.key,m) ∈ c.tries:=(HTE.out _ _).2 ⟨e,heT,rfl,hm⟩
       have hofT:m ∈ c.ofTask:=htr _ hmem
       have hmr:1≤m∧m≤c.tasks.length:=by
        have:=List.all_eq_true.1 HALL2.out m hofT
        exact of_decide_eq_true this
       obtain ⟨z,rfl⟩:∃ z,m=z+1:=⟨m - 1,by omega⟩
       have hB4:=hB3.grown hg2 hB3.size (fun k e=>by cases e; exact Nat.le_refl _)
       have HB4:=Lib.hid hB4
       have HBW2:=Lib.hid (HB2.out.trans (hB4.mono HB2.out.size))
       have hCw:=HC3.out w2 hB4
       obtain ⟨-,c1, -, -,c4, -,cf⟩:=hCw.cells
       obtain ⟨-,xs,hrow,hxs⟩:=hCw.tasks
       obtain ⟨g,rfl,hct⟩:=ownT_cell hrow hxs z (by omega)
       obtain ⟨ve,hlkN,hown⟩:=hCw.attN e.key hxm
       obtain ⟨ae,de,rfl⟩:=own_slice hown
       have p3:(z:Int) < (tn:Int):=by omega
       have p3':z < tn:=by omega
       have hsub:wrap64 (((z+1:Nat):Int) - 1)=(z:Int):=by unfold wrap64; omega
       have HW:Hid ((c.tasks.getD z zeroT).tries < ((c.atts e.key).length:Int)→wholeP c=false):=Lib.hid (fun hgt=>by
        have:(c.tries.all fun e=>decide (((c.atts e.1).length:Int)≤(c.tasks.getD (e.2 - 1) zeroT).tries))=false:=by
         rw [Bool.eq_false_iff]
         intro hall
         have:=of_decide_eq_true (List.all_eq_true.1 hall _ hmem)
         simp only [Nat.add_sub_cancel] at this
         omega
        unfold wholeP
        rw [this,Bool.and_false])
       have HNX:Hid (((c.atts e.key).length:Int)≤(c.tasks.getD z zeroT).tries→∀ e2 ∈ T,(left (.string e2.key) && !(Lit.string e2.key).sameKey (.string e.key))=false→∀ m:Nat,e2.val=.int .i64 (m:Nat)→decide (((c.atts e2.key).length:Int)≤(c.tasks.getD (m - 1) zeroT).tries)=true):=Lib.hid (fun hle e2 he2 hl2 m2 hm2=>by
        by_cases hk2:e2.key=e.key
        ·have h3:e2=e:=keys_one hTm heT he2 hk2
         subst h3
         rw [hm] at hm2
         simp only [Value.int.injEq,true_and] at hm2
         obtain rfl:m2=z+1:=by omega
         rw [Nat.add_sub_cancel]
         exact decide_eq_true hle
        ·refine HVIS.out e2 he2 ?_ m2 hm2
         have hs:(Lit.string e2.key).sameKey (.string e.key)=false:=by
          rw [sameS]; simpa using hk2
         rw [hs] at hl2
         simpa using hl2)
       have HRG:=Lib.hid hrg2
       have HLE:=Lib.hid hrg2.left_eq
       have HLE1:=Lib.hid hrg.left_eq
       have HLT:=Lib.hid hlt
       generalize hMM:((z+1:Nat):Int)=MM at *
       generalize (c.tasks.getD z zeroT).tries=tr at *
       generalize hAK:(c.atts e.key).length=AK at *
       clear hat1 hat2 hat he hm hv hmem hofT hmr hlk hkey ex hMM hAK hB4 hCw hrow hxs hown hrg hrg2 hg2 hs2 HVIS hB3 hTm B0 k0 k1 k2 k3 k4 k5 kf hlt
       by_cases hle:(AK:Int)≤tr
       ·have t9:decide (tr < (AK:Int))=false:=decide_eq_false (by omega)
        have HN2:=Lib.hid (HNX.out hle)
        clear HNX HW hle
        go_upto_region 16 with (fail)
        go_quiet (fail)
        have HB5:=Lib.hid (below_drewN HB4.out nq)
        have HR5:=Lib.hid (ranges_drewN HRG.out nq)
        clear c1 c4 cf hct hlkN hen
        generalize w2.drewN nq=w5 at *
        go_wp2
        go_roundw
        case rel=>
         exact ⟨_,_,HR5.out,HN2.out,HB5.out⟩
        case measure=>rw [HR5.out.left_eq,HLE1.out]; exact HLT.out
       ·have t9:decide (tr < (AK:Int))=true:=decide_eq_true (by omega)
        have HW2:=Lib.hid (HW.out (by omega))
        clear HNX HW hle
        go_upto_region 16 with (fail)
        go_quiet (fail)
        have HB5:=Lib.hid (below_drewN HBW2.out nq)
        clear c1 c4 cf hct hlkN hen
        generalize w2.drewN nq=w5 at *
        go_wp2
        go_ret
        rw [HW2.out]
        exact ⟨rfl,HB5.out⟩
end
section
open Go.RowKit SeedP Go.Maps
/-- the labels of a content that has nothing -/
def labF (cb m0 m4 m5:Nat):Nat→Lab:=fun g=>if g=cb then .cell else if g=m0 then .m0 else if g=m4 then .m4 else if g=m5 then .m5 else .no
theorem labF_no {cb m0 m4 m5 g:Nat} (h1:g ≠ cb) (h2:g ≠ m0) (h3:g ≠ m4) (h4:g ≠ m5):labF cb m0 m4 m5 g=.no:=by
 unfold labF
 rw [if_neg h1,if_neg h2,if_neg h3,if_neg h4]
theorem labF_lo {cb m0 m4 m5 g:Nat} (h:labF cb m0 m4 m5 g ≠ .no):g=cb∨g=m0∨g=m4∨g=m5:=by
 unfold labF at h
 split at h
 ·exact Or.inl ‹_›
 ·split at h
  ·exact Or.inr (Or.inl ‹_›)
  ·split at h
   ·exact Or.inr (Or.inr (Or.inl ‹_›))
   ·split at h
    ·exact Or.inr (Or.inr (Or.inr ‹_›))
    ·exact absurd rfl h
theorem CV.start {w:World} {B cb m0 m4 m5:Nat} (hb:Blk w cb 134 [.map (some m0),.slice none 0 0,.slice none 0 0,.slice none 0 0,.map (some m4),.map (some m5)])
 (hB:B≤m0) (h04:m0 < m4) (h45:m4 < m5) (h5c:m5 < cb) (h0:Seen w m0 [] 0) (h4:w.ownsMap Tryz.prog 9 tokR m4 0 (toD [])) (h5:w.ownsMap Tryz.prog 9 tokR m5 0 (toD [])) :
 CV w B cb 0 contZ (labF cb m0 m4 m5) m0 m4 m5 (.slice none 0 0) (.slice none 0 0) (.slice none 0 0):=by
 have hlt:=hb.lt
 refine ⟨hb,⟨by omega,hB,by omega,by omega⟩,⟨?_,?_,?_,?_⟩,fun g hg=>labF_no (by omega) (by omega) (by omega) (by omega),fun g hg=>?_,fun g hg=>(by cases hg),fun g hg=>(by cases hg),fun g hg=>(by cases hg),⟨0,Nat.le_refl _,h0⟩,⟨Nat.le_refl _,[],World.ownsRow_nil w B 35 7,fun j hj=>absurd hj (Nat.not_lt_zero j)⟩,⟨Nat.le_refl _,World.ownsRow_nil w B 9 1⟩,⟨Nat.le_refl _,World.ownsRow_nil w B 3 1⟩,⟨[],Nat.le_refl _,h4,fun e he=>absurd he (List.not_mem_nil),fun k _=>rfl⟩,fun k=>Nat.le_refl _,⟨[],Nat.le_refl _,h5,fun e he=>absurd he (List.not_mem_nil),fun k m=>⟨fun h=>absurd h (List.not_mem_nil),fun ⟨e,he,_⟩=>absurd he (List.not_mem_nil)⟩⟩⟩
 ·unfold labF; rw [if_pos rfl]
 ·unfold labF; rw [if_neg (by omega),if_pos rfl]
 ·unfold labF; rw [if_neg (by omega),if_neg (by omega),if_pos rfl]
 ·unfold labF; rw [if_neg (by omega),if_neg (by omega),if_neg (by omega),if_pos rfl]
 ·rcases labF_lo hg with h | h | h | h <;> omega
end
end Go.Proofs.YtbcfpdlhieaepaaGreatDoor
