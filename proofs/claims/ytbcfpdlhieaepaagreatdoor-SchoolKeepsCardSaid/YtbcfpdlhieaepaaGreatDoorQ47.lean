/- SchoolKeeps, walked. -/
import Derived.Test.YtbcfpdlhieaepaaGreatDoorQ46
import Derived.Test.YtbcfpdlhieaepaaGreatDoorQ43
import Derived.Test.YtbcfpdlhieaepaaGreatDoorQ28
import Derived.Deep.CutBlock
import Derived.Test.YtbcfpdlhieaepaaGreatDoorQ42
import Derived.Test.YtbcfpdlhieaepaaGreatDoorQ21
import Derived.Deep.QuietTactic
import Derived.BigQuiet
namespace Go.Proofs.YtbcfpdlhieaepaaGreatDoor
section
open Go.RowKit SeedP Go.Maps
/-- the power is set beside a school -/
theorem SX.powerX {n0:Nat} {w:World} {sb db jb mb:Nat} {s:JS} (h:SX n0 w sb db jb mb s) {pw:Int} (h0: -1≤pw) (h1:pw≤9223372036854775807):SX n0 (w.setCell ⟨db,0,none⟩ (.int .i64 pw)) sb db jb mb (s.power pw):=by
 have hg:Grown (fun k=>k=db) w (w.setCell ⟨db,0,none⟩ (.int .i64 pw)):=Grown.setCell (S:=fun k=>k=db) (Grown.refl _ _) (a:=⟨db,0,none⟩) rfl _
 obtain ⟨p,hp,hW⟩:=h.mem
 obtain ⟨v0,v1,q0,q1,hb,hr0,hr1,hq0,hq1,hun⟩:=hW.jw.disk
 have hq0':∀ g,q0 g→p g:=fun g hq=>(hq0 g hq).1
 have hD:DW (w.setCell ⟨db,0,none⟩ (.int .i64 pw)) db p ⟨pw,s.d.f0,s.d.f1⟩:=
  ⟨v0,v1,q0,q1,hb.set 0 _,hr0.grown hg (fun g hq=>(hW.jw.away g (hq0' g hq)).2.1),hr1.grown hg (fun g hq=>(hW.jw.away g (hq1 g hq)).2.1),hq0,hq1,fun g hq=>⟨Nat.lt_of_lt_of_le (hun g hq).1 hg.size,(hun g hq).2.keep (hg.block g (hun g hq).1 (by rcases hq with hq | hq; exact (hW.jw.away g (hq0' g hq)).2.1; exact (hW.jw.away g (hq1 g hq)).2.1))⟩⟩
 exact ⟨h.pos,h.sle,h.dle,h.jle,h.mle,p,hp,hW.jw.turn hg hD ⟨h0,h1,hW.jw.ok.d.f0,hW.jw.ok.d.f1⟩ (fun g hg=>hg) hW.jw.away,hW.sc.grown hg (fun e=>hW.out (Or.inr (Or.inl e)))⟩
theorem power_below {w W:World} {B n0:Nat} (h:Below B w W) (hB:B≤n0) (pw:Int):Below B w (W.setCell ⟨n0,0,none⟩ (.int .i64 pw)):=h.setCell (p:=⟨n0,0,none⟩) hB (.int .i64 pw)
/-- a school beside one that acts -/
theorem SX.beside {n0 n1:Nat} {w w':World} {sb db jb mb sb1 db1 jb1 mb1:Nat} {s t t':JS} (h:SG (fun g=>n0≤g∧g < n1) w sb db jb mb s) (ht:SX n1 w sb1 db1 jb1 mb1 t) (hA:ActX n1 w sb1 db1 jb1 mb1 t' w'):SG (fun g=>n0≤g∧g < n1) w' sb db jb mb s:=
 h.grown hA.gr (fun g hg _ hp=>by have:=(ht.sj g hg).1; omega) (fun h0=>by have:=(ht.sj 0 h0).1; have:=ht.pos; omega)
/-- the j-th act, in every later world -/
theorem SActsAt.rows {w:World} {v:Value} {L:List SActP} (h:SActsAt w w.heap.size v L) {j:Nat} (hj:j < L.length) :
 ∃ g off cap ab cb ax cx,v=.slice (some ⟨g,off,none⟩) L.length cap∧(∀ W,Below w.heap.size w W→(W.cell? ⟨g,off+j * 13,none⟩=some (.int .i64 L[j].kind)∧W.cell? ⟨g,off+j * 13+1,none⟩=some (strV L[j].cls)∧W.cell? ⟨g,off+j * 13+2,none⟩=some (strV L[j].stu)∧W.cell? ⟨g,off+j * 13+3,none⟩=some (strV L[j].task.cls)∧W.cell? ⟨g,off+j * 13+4,none⟩=some (strV L[j].task.name)∧W.cell? ⟨g,off+j * 13+5,none⟩=some (.int .i64 L[j].task.frm)∧W.cell? ⟨g,off+j * 13+6,none⟩=some (.int .i64 L[j].task.due)∧W.cell? ⟨g,off+j * 13+7,none⟩=some (.int .i64 L[j].task.late)∧W.cell? ⟨g,off+j * 13+8,none⟩=some (.int .i64 L[j].task.tries)∧W.cell? ⟨g,off+j * 13+9,none⟩=some (.slice ab L[j].task.body.length cb)∧W.cell? ⟨g,off+j * 13+10,none⟩=some (.int .i64 L[j].id)∧W.cell? ⟨g,off+j * 13+11,none⟩=some (.int .i64 L[j].n)∧W.cell? ⟨g,off+j * 13+12,none⟩=some (.slice ax L[j].text.length cx)))∧RdB w w.heap.size (.slice ab L[j].task.body.length cb) L[j].task.body∧RdB w w.heap.size (.slice ax L[j].text.length cx) L[j].text:=by
 obtain ⟨g,off,cap,ab,cb,ax,cx,e, -, -,hg,⟨c0,c1,c2,c3,c4,c5,c6,c7,c8,c9,c10,c11,c12⟩,hr1,hr2⟩:=h.at hj
 refine ⟨g,off,cap,ab,cb,ax,cx,e,fun W hb=>?_,hr1,hr2⟩
 have k:∀ o x,w.cell? ⟨g,o,none⟩=some x→W.cell? ⟨g,o,none⟩=some x:=fun o x hx=>(hb.cell (p:=⟨g,o,none⟩) hg).trans hx
 exact ⟨k _ _ c0,k _ _ c1,k _ _ c2,k _ _ c3,k _ _ c4,k _ _ c5,k _ _ c6,k _ _ c7,k _ _ c8,k _ _ c9,k _ _ c10,k _ _ c11,k _ _ c12⟩
set_option maxRecDepth 100000 in
set_option maxHeartbeats 8000000 in
theorem schoolKeeps_walk (vl:Value) (L:List SActP) (which power:Int) (w:World) (hs:St w) (hL:SActsAt w w.heap.size vl L) (hwh:0≤which∧which≤65535) (hpw:0≤power∧power≤65535) :
 Calls Tryz.prog 6 #[vl,.int .u16 which,.int .u16 power] w fun e w'=>e=.returned (.bool true)∧Below w.heap.size w w':=by
 have hun:undef=Value.tuple #[]:=rfl
 have HA:=Lib.hid (sawake_c w hs)
 have HL:=Lib.hid hL
 have HS:=Lib.hid hs
 obtain ⟨al,cl,rfl⟩:∃ a c,vl=.slice a L.length c:=by obtain ⟨a,c,e, -⟩:=hL; exact ⟨a,c,e⟩
 clear hL hs
 go_enter Tryz.func6,Tryz.ntmps6
 go_wp2_with fail
 refine HA.out.mono ?_
 rintro e w1 ⟨rfl,hb1⟩
 have HF:=Lib.hid (sfew_c (.slice al L.length cl) L w1 ((HL.out.below hb1).raise hb1.size))
 have HB1:=Lib.hid hb1
 clear HA hb1
 go_wp2_with fail
 refine HF.out.mono ?_
 rintro e w2 ⟨⟨b,rfl,hb⟩,hb2⟩
 have HB2:=Lib.hid (HB1.out.trans (hb2.mono HB1.out.size))
 clear HF hb2 HB1
 cases b with
 | false=>
   clear hb
   go_wp2
   go_ret
   exact ⟨rfl,HB2.out⟩
 | true=>
   obtain ⟨hn,hsm⟩:=hb rfl
   have HSM:=Lib.hid hsm
   clear hb hsm
   by_cases hl0:L.length=0
   ·have q0:((L.length:Int) == 0)=true:=by simp [hl0]
    clear hl0
    go_wp2
    go_ret
    exact ⟨rfl,HB2.out⟩
   have q0:((L.length:Int) == 0)=false:=beq_eq_false_iff_ne.2 (by omega)
   obtain ⟨k,hk⟩:∃ k:Nat,which.toNat % L.length=k:=⟨_,rfl⟩
   have hkl:k < L.length:=by rw [← hk]; exact Nat.mod_lt _ (by omega)
   have hkm:Int.tmod which (L.length:Int)=(k:Int):=by
    rw [Int.tmod_eq_emod_of_nonneg hwh.1,← hk]
    conv=>lhs; rw [← Int.toNat_of_nonneg hwh.1]
    rfl
   have HKL:=Lib.hid hkl
   clear hk hl0
   have HS2:=Lib.hid (HS.out.below HB2.out HS.out.pos)
   have hD:=Lib.hid (DX.new w2 HS2.out (-1))
   have hB:=Lib.hid ((Below.refl w2.heap.size w2).alloc (Nat.le_refl _) (.cells #[.int .i64 (-1),.slice none 0 0,.slice none 0 0] 29))
   have HB3:=Lib.hid (HB2.out.trans (hB.out.mono HB2.out.size))
   have hle:=HB2.out.size
   go_upto_region 6 with (fail)
   obtain ⟨n0,hn0⟩:∃ n,w2.heap.size=n:=⟨_,rfl⟩
   rw [hn0] at hD hle ⊢
   generalize w2.alloc (.cells #[.int .i64 (-1),.slice none 0 0,.slice none 0 0] 29)=w3 at *
   clear hn0 hB HB2 HS2 HS
   go_wp2_with fail
   refine (open_x hD.out ok0 sch0).mono ?_
   rintro e w4 ⟨⟨sb,jb,mb,rfl, -, -, -,hX⟩,hb4⟩
   have HB4:=Lib.hid (HB3.out.trans (hb4.mono HB3.out.size))
   have HX0:=Lib.hid hX
   have HF0:=Lib.hid at0.full
   clear hX hb4 HB3 hD
   generalize jOpen ⟨-1,[],[]⟩=s0 at *
   go_upto_block 0 with (fail)
   go_cut [11] from 49 to 59 (fun iv wx=>iv=iv∧∃ s,SX n0 wx sb n0 jb mb s∧SFull s (2 * k)∧Below w.heap.size w wx)
   case first=>
    go_wp2
    go_loopw [11] (fun iv wr=>∃ (i:Nat) (s:JS),i≤k∧iv=.int .i64 i∧SX n0 wr sb n0 jb mb s∧SFull s (2 * i)∧Below w.heap.size w wr) (fun i _=>k - (intOf i).toNat)
    case atStart=>exact ⟨0,s0,Nat.zero_le _,rfl,HX0.out,HF0.out,HB4.out⟩
    case round=>
     obtain ⟨i,s,hi,rfl,hX,hF,hB⟩:=hrel
     clear HX0 HF0 HB4
     have HX:=Lib.hid hX
     have HF:=Lib.hid hF
     have HB:=Lib.hid hB
     clear hX hF hB
     have hkl:=HKL.out
     by_cases hlt:i < k
     ·have b1:decide ((i:Int) < (k:Int))=true:=decide_eq_true (by omega)
      have b2:(i:Int) < (L.length:Int):=by omega
      have b3:i < L.length:=by omega
      obtain ⟨g,off,cap,abc,cbc,axc,cxc,e0,⟨c0,c1,c2,c3,c4,c5,c6,c7,c8,c9,c10,c11,c12⟩,hr1,hr2⟩:=HL.out.get HB.out b3
      simp only [Value.slice.injEq,true_and] at e0
      obtain ⟨rfl,rfl⟩:=e0
      have HSX:=Lib.hid (HSM.out _ (List.getElem_mem b3))
      generalize L[i]=x at *
      have HC:=Lib.hid (act_x x abc axc cbc cxc HX.out HF.out.sok (hr1.later HB.out) (hr2.later HB.out) (by have:=HSX.out.body; omega) (by have:=HSX.out.text; omega))
      have HF1:=Lib.hid (((HF.out.do_ (by omega) x).1).full HF.out)
      have hlt2:=Lib.hid hlt
      clear hr1 hr2 hlt
      generalize (doP x s).1=s1 at *
      generalize (doP x s).2.1=n1 at *
      generalize (doP x s).2.2=e1 at *
      go_wp2_with fail
      refine HC.out.mono ?_
      rintro e w7 ⟨rfl,hA⟩
      have HX1:=Lib.hid hA.sx
      have HB1':=Lib.hid (HB.out.trans (hA.bl.mono hle))
      clear hA HC HX HB HF c0 c1 c2 c3 c4 c5 c6 c7 c8 c9 c10 c11 c12
      go_wp2
      go_roundw
      case rel=>exact ⟨i+1,s1,hlt2.out,by go_num,HX1.out,HF1.out,HB1'.out⟩
      case measure=>have:=hlt2.out; simp [intOf]; omega
     ·obtain rfl:i=k:=by omega
      have b1:decide ((i:Int) < (i:Int))=false:=by simp
      clear hlt hi
      go_wp2
      go_meet
      exact ⟨trivial,s,HX.out,HF.out,HB.out⟩
   case rest=>
    clear HX0 HF0 HB4
    obtain ⟨-,s,hX,hF,hB⟩:=hcut
    have HX:=Lib.hid hX
    have HF:=Lib.hid hF
    have HB:=Lib.hid hB
    clear hX hF hB
    generalize wc=wr at *
    obtain ⟨g,off,cap,ab,cb,ax,cx,e0,hcell,hr1,hr2⟩:=HL.out.rows HKL.out
    simp only [Value.slice.injEq,true_and] at e0
    obtain ⟨rfl,rfl⟩:=e0
    have HCELL:=Lib.hid hcell
    have HSA:=Lib.hid (HSM.out _ (List.getElem_mem HKL.out))
    clear hcell
    generalize L[k]=a at *
    have hbl:a.task.body.length≤1000000:=by have:=HSA.out.body; omega
    have htl:a.text.length≤1000000:=by have:=HSA.out.text; omega
    have HR:=Lib.hid (And.intro hr1 hr2)
    have HLT:Hid (2 * k+2 < 4611686018427387904):=Lib.hid (by have:=HKL.out; omega)
    have HLT4:Hid (2 * k+2+2 < 4611686018427387904):=Lib.hid (by have:=HKL.out; omega)
    have b2:(k:Int) < (L.length:Int):=by have:=HKL.out; omega
    have b3:k < L.length:=HKL.out
    clear hr1 hr2 hn
    have hpos:=HX.out.pos
    obtain ⟨f0,k0,f1,k1,d0,d1,d2,q0',q1', -⟩:=HX.out.dx.cells
    have hcp:=Lib.hid (copies_x HX.out.st q0' q1' HF.out.reopen.1)
    have HW:=Lib.hid (Below.refl wr.heap.size wr)
    clear q0' q1'
    go_upto_region 14 with (fail)
    go_wp2_with fail
    refine hcp.out.mono ?_
    rintro e w5 ⟨⟨db2,rfl, -,hD⟩,hb⟩
    have HW:=Lib.hid (HW.out.trans (hb.mono HW.out.size))
    have HC:=Lib.hid (content_x hD HF.out.reopen.1)
    rw [HF.out.reopen.2.2.2] at HC
    clear hcp hb hD d0 d1 d2
    generalize hXB:contentP s.c.ents=XB at *
    have HXB:=Lib.hid hXB
    clear hXB
    go_wp2_with fail
    refine HC.out.mono ?_
    rintro e w6 ⟨rfl,hb⟩
    have HW:=Lib.hid (HW.out.trans (hb.mono HW.out.size))
    clear HC hb
    have HX6:=Lib.hid (HX.out.below HW.out)
    have HB6:=Lib.hid (HB.out.trans (HW.out.mono HB.out.size))
    clear HX HB HW
    obtain ⟨f0,k0,f1,k1,d0,d1,d2,q0',q1', -⟩:=HX6.out.dx.cells
    have hcp:=Lib.hid (copies_x HX6.out.st q0' q1' HF.out.reopen.1)
    clear q0' q1'
    have hsz6:=HX6.out.size
    have HSG:=Lib.hid HX6.out.sg
    go_upto_region 15 with (fail)
    go_wp2_with fail
    refine hcp.out.mono ?_
    rintro e w7 ⟨⟨db3,rfl, -,hD⟩,hb⟩
    have HSG7:=Lib.hid (HSG.out.below hb)
    have HB7:=Lib.hid (HB6.out.trans (hb.mono HB6.out.size))
    have HD7:=Lib.hid hD
    clear hcp hb hD d0 d1 d2 HSG HX6
    generalize hn1:w6.heap.size=n1 at *
    have hwn:w.heap.size≤n1:=by omega
    have HO:=Lib.hid (open_x HD7.out HF.out.reopen.1 HF.out.reopen.2.1)
    have HFT:=Lib.hid HF.out.reopen.2.2.1
    have HTE:=Lib.hid HF.out.reopen.2.2.2
    go_upto_region 16 with (fail)
    go_wp2_with fail
    refine HO.out.mono ?_
    rintro e w8 ⟨⟨sb3,jb3,mb3,rfl, -, -, -,hT⟩,hb⟩
    have HSG8:=Lib.hid (HSG7.out.below hb)
    have HB8:=Lib.hid (HB7.out.trans (hb.mono HB7.out.size))
    have HT8:=Lib.hid hT
    clear hT hb HO HD7 HSG7 HB7 hn1 HB6
    generalize jOpen s.d=t at *
    have HC:=Lib.hid (act_x a ab ax cb cx HT8.out HFT.out.sok (HR.out.1.later HB8.out) (HR.out.2.later HB8.out) hbl htl)
    have HFQ:=Lib.hid (((HFT.out.do_ HLT.out a).1).full HFT.out)
    obtain ⟨pw,hpm⟩:∃ pw,Int.tmod power 4001=pw:=⟨_,rfl⟩
    have hp0:0≤pw∧pw≤4000:=by rw [← hpm,Int.tmod_eq_emod_of_nonneg hpw.1]; omega
    obtain ⟨P,hK⟩:=act_kept HF.out HFT.out HLT.out HTE.out (p:=pw) (by omega) (by omega) a
    have HK0:=Lib.hid hK
    obtain ⟨q,hq⟩:∃ q,doP a t=q:=⟨_,rfl⟩
    rw [hq] at HC HFQ HK0
    have HDQ:=Lib.hid hq
    clear hq hK
    obtain ⟨q1,qn,qe⟩:=q
    simp only at HC HFQ
    have HQE:Hid ((doP a t).2.1=qn∧(doP a t).2.2=qe):=Lib.hid (by rw [HDQ.out]; exact ⟨rfl,rfl⟩)
    have HXA:Hid (contentP (doP a t).1.c.ents=contentP q1.c.ents):=Lib.hid (by rw [HDQ.out])
    obtain ⟨c0,c1,c2,c3,c4,c5,c6,c7,c8,c9,c10,c11,c12⟩:=HCELL.out _ HB8.out
    go_upto_region 19 with (fail)
    go_wp2_with fail
    refine HC.out.mono ?_
    rintro e w9 ⟨rfl,hA⟩
    have HSG9:=Lib.hid (SX.beside HSG8.out HT8.out hA)
    have HB9:=Lib.hid (HB8.out.trans (hA.bl.mono hwn))
    have HC2:=Lib.hid (content_x hA.sx.dx HFQ.out.reopen.1)
    rw [HFQ.out.reopen.2.2.2] at HC2
    clear hA HC c0 c1 c2 c3 c4 c5 c6 c7 c8 c9 c10 c11 c12 HSG8 HT8 HB8
    generalize hXA:contentP q1.c.ents=XA at *
    have HXA1:=Lib.hid hXA
    clear hXA
    go_wp2_with fail
    refine HC2.out.mono ?_
    rintro e w10 ⟨rfl,hb⟩
    have HX10:=Lib.hid ((HSG9.out.below hb).sx hpos (fun g hg=>hg.1))
    have HB10:=Lib.hid (HB9.out.trans (hb.mono HB9.out.size))
    clear HC2 hb HSG9 HB9
    have HX11:=Lib.hid (HX10.out.powerX (pw:=pw) (by omega) (by omega))
    have HB11:=Lib.hid (power_below HB10.out hle pw)
    obtain ⟨f0,k0,f1,k1,d0,d1,d2, -, -,hfz⟩:=HX10.out.dx.cells
    go_upto_region 22 with (fail)
    clear d0 d1 d2 hfz
    change Code.wp _ _ _ _ (w10.setCell ⟨n0,0,none⟩ (.int .i64 pw))
    generalize w10.setCell ⟨n0,0,none⟩ (.int .i64 pw)=w11 at *
    clear HX10 HB10
    have HSOK:Hid (SOk (s.power pw)):=Lib.hid (fun _=>⟨HF.out.live.power (by omega) (by omega),HF.out.ok⟩)
    have HC:=Lib.hid (act_x a ab ax cb cx HX11.out HSOK.out (HR.out.1.later HB11.out) (HR.out.2.later HB11.out) hbl htl)
    obtain ⟨r,hr⟩:∃ r,doP a (s.power pw)=r:=⟨_,rfl⟩
    rw [hr] at HC HK0
    clear hr
    obtain ⟨r1,rn,re⟩:=r
    simp only at HC
    have HK:=HK0
    obtain ⟨c0,c1,c2,c3,c4,c5,c6,c7,c8,c9,c10,c11,c12⟩:=HCELL.out _ HB11.out
    go_wp2_with fail
    refine HC.out.mono ?_
    rintro e w12 ⟨rfl,hA⟩
    have HX12:=Lib.hid hA.sx
    have HB12:=Lib.hid (HB11.out.trans (hA.bl.mono hle))
    clear hA HC c0 c1 c2 c3 c4 c5 c6 c7 c8 c9 c10 c11 c12 HX11 HB11 HK0
    by_cases hr:re=360
    ·obtain ⟨hrn,hdn⟩:=HK.out.none hr
     have hq360:=HK.out.wants
     have hold:=HK.out.old
     simp only at hrn hdn hq360 hold
     subst hr
     subst hrn
     have z0:((360:Int) != qe)=true:=by simpa using (fun e=>hq360 e.symm)
     have HCL:=Lib.hid (classes_x HX12.out)
     have hcl:r1.classesP=[]:=by unfold JS.classesP; rw [hdn]; rfl
     have hac:addClassP [122] r1=(r1,360):=by unfold addClassP; rw [if_pos hdn]
     rw [hcl] at HCL
     go_wp2_with fail
     refine HCL.out.mono ?_
     rintro e w13' ⟨⟨v,rfl,hv⟩,hb⟩
     obtain ⟨va,vc,rfl⟩:=(ownS.lst hv).form
     have HX12':=Lib.hid (HX12.out.below hb)
     have HB12':=Lib.hid (HB12.out.trans (hb.mono HB12.out.size))
     have HAC:=Lib.hid (addClass_x [122] HX12'.out)
     rw [hac] at HAC
     clear hv hb HCL hcl hac HX12 HB12
     go_wp2_with fail
     refine HAC.out.mono ?_
     rintro e w13 ⟨rfl,hA⟩
     have HX13:=Lib.hid hA.sx
     have HB13:=Lib.hid (HB12'.out.trans (hA.bl.mono hle))
     clear hA HAC HX12' HB12' hdn
     rcases hold with hP | hP
     ·have HC0:Hid (contentP P=XB):=Lib.hid (by rw [hP]; exact HXB.out)
      have HDX:=Lib.hid HX13.out.dx
      obtain ⟨f0,k0,f1,k1,d0,d1,d2,q0',q1', -⟩:=HDX.out.cells
      have hcp:=Lib.hid (copies_x HX13.out.st q0' q1' HK.out.has.ok)
      clear q0' q1'
      go_upto_region 27 with (fail)
      go_wp2_with fail
      refine hcp.out.mono ?_
      rintro e w14 ⟨⟨db4,rfl,hdb4,hD⟩,hb⟩
      have HB14:=Lib.hid (HB13.out.trans (hb.mono HB13.out.size))
      have hn4:n0≤w13.heap.size:=Nat.le_of_lt HX13.out.size
      clear hcp hb d0 d1 d2
      have HD4:=Lib.hid (hD.power (-1))
      have HB15:=Lib.hid (power_below HB14.out (show w.heap.size≤db4 by omega) (-1))
      obtain ⟨f0',k0',f1',k1',d0,d1,d2, -, -,hfz⟩:=hD.cells
      go_upto_region 29 with (fail)
      clear hD hfz d0 d1 d2
      change Code.wp _ _ _ _ (w14.setCell ⟨db4,0,none⟩ (.int .i64 (-1)))
      generalize w14.setCell ⟨db4,0,none⟩ (.int .i64 (-1))=w15 at *
      have HOP:=Lib.hid (HK.out.has.again.open_ HK.out.ok rfl)
      have HO:=Lib.hid (open_x HD4.out HK.out.has.again.ok (show isSchoolP (jOpen r1.d.full).c.ents=true by rw [HOP.out.2]; exact isSchool_ok (by have h:=HOP.out.1.live.ord; rw [HOP.out.2] at h; exact h) HK.out.ok))
      go_wp2_with fail
      refine HO.out.mono ?_
      rintro e w16 ⟨⟨sb4,jb4,mb4,rfl, -, -, -,hU⟩,hb⟩
      have HB16:=Lib.hid (HB15.out.trans (hb.mono HB15.out.size))
      have HU:=Lib.hid hU
      change Hid (SX _ _ _ _ _ _ (jOpen r1.d.full)) at HU
      generalize jOpen r1.d.full=u at *
      clear hU hb HO HD4 HB14 HB15
      obtain ⟨f0',k0',f1',k1',d0,d1,d2,q0',q1', -⟩:=HU.out.dx.cells
      have hcp:=Lib.hid (copies_x HU.out.st q0' q1' HOP.out.1.reopen.1)
      clear q0' q1'
      go_upto_region 32 with (fail)
      go_wp2_with fail
      refine hcp.out.mono ?_
      rintro e w17 ⟨⟨db5,rfl, -,hD⟩,hb⟩
      have HC:=Lib.hid (content_x hD HOP.out.1.reopen.1)
      rw [HOP.out.1.reopen.2.2.2,HOP.out.2,HC0.out] at HC
      have HB17:=Lib.hid (HB16.out.trans (hb.mono HB16.out.size))
      have HU17:=Lib.hid (HU.out.below hb)
      clear hcp hb d0 d1 d2 hD
      go_wp2_with fail
      refine HC.out.mono ?_
      rintro e w18 ⟨rfl,hb⟩
      have HB18:=Lib.hid (HB17.out.trans (hb.mono HB17.out.size))
      have HU18:=Lib.hid (HU17.out.below hb)
      clear HC hb HB17 HU17
      have x0:(XA != XA)=false:=by simp
      have x1:(XB != XB)=false:=by simp
      have x2:(XB == XB)=true:=by simp
      by_cases hAB:XB=XA
      ·subst hAB
       go_wp2
       go_ret
       exact ⟨rfl,HB18.out⟩
      ·have y1:(XB != XA)=true:=by simpa using hAB
       have y0:(XB == XA)=false:=by simpa using hAB
       have HFU:=Lib.hid (((HOP.out.1.do_ HLT4.out a).1).full HOP.out.1)
       have HSM2:=Lib.hid (do_same HOP.out.1 (HFT.out.le (by omega)) HLT4.out (HTE.out.trans (hP.symm.trans HOP.out.2.symm)) a)
       obtain ⟨c0,c1,c2,c3,c4,c5,c6,c7,c8,c9,c10,c11,c12⟩:=HCELL.out _ HB18.out
       have HC:=Lib.hid (act_x a ab ax cb cx HU18.out HOP.out.1.sok (HR.out.1.later HB18.out) (HR.out.2.later HB18.out) hbl htl)
       rw [HSM2.out.1,HQE.out.1,HQE.out.2] at HC
       go_upto_region 36 with (fail)
       go_wp2_with fail
       refine HC.out.mono ?_
       rintro e w19 ⟨rfl,hA⟩
       have HC2:=Lib.hid (content_x hA.sx.dx HFU.out.reopen.1)
       rw [HFU.out.reopen.2.2.2,HSM2.out.2,HXA.out] at HC2
       have HB19:=Lib.hid (HB18.out.trans (hA.bl.mono (by omega)))
       have x3:(qe != qe)=false:=by simp
       clear hA HC c0 c1 c2 c3 c4 c5 c6 c7 c8 c9 c10 c11 c12
       go_wp2_with fail
       refine HC2.out.mono ?_
       rintro e w20 ⟨rfl,hb⟩
       have HB20:=Lib.hid (HB19.out.trans (hb.mono HB19.out.size))
       clear hb
       go_wp2
       go_ret
       exact ⟨rfl,HB20.out⟩
     ·have HC0:Hid (contentP P=XA):=Lib.hid (by rw [hP]; exact HXA1.out)
      have HDX:=Lib.hid HX13.out.dx
      obtain ⟨f0,k0,f1,k1,d0,d1,d2,q0',q1', -⟩:=HDX.out.cells
      have hcp:=Lib.hid (copies_x HX13.out.st q0' q1' HK.out.has.ok)
      clear q0' q1'
      go_upto_region 27 with (fail)
      go_wp2_with fail
      refine hcp.out.mono ?_
      rintro e w14 ⟨⟨db4,rfl,hdb4,hD⟩,hb⟩
      have HB14:=Lib.hid (HB13.out.trans (hb.mono HB13.out.size))
      have hn4:n0≤w13.heap.size:=Nat.le_of_lt HX13.out.size
      clear hcp hb d0 d1 d2
      have HD4:=Lib.hid (hD.power (-1))
      have HB15:=Lib.hid (power_below HB14.out (show w.heap.size≤db4 by omega) (-1))
      obtain ⟨f0',k0',f1',k1',d0,d1,d2, -, -,hfz⟩:=hD.cells
      go_upto_region 29 with (fail)
      clear hD hfz d0 d1 d2
      change Code.wp _ _ _ _ (w14.setCell ⟨db4,0,none⟩ (.int .i64 (-1)))
      generalize w14.setCell ⟨db4,0,none⟩ (.int .i64 (-1))=w15 at *
      have HOP:=Lib.hid (HK.out.has.again.open_ HK.out.ok rfl)
      have HO:=Lib.hid (open_x HD4.out HK.out.has.again.ok (show isSchoolP (jOpen r1.d.full).c.ents=true by rw [HOP.out.2]; exact isSchool_ok (by have h:=HOP.out.1.live.ord; rw [HOP.out.2] at h; exact h) HK.out.ok))
      go_wp2_with fail
      refine HO.out.mono ?_
      rintro e w16 ⟨⟨sb4,jb4,mb4,rfl, -, -, -,hU⟩,hb⟩
      have HB16:=Lib.hid (HB15.out.trans (hb.mono HB15.out.size))
      have HU:=Lib.hid hU
      change Hid (SX _ _ _ _ _ _ (jOpen r1.d.full)) at HU
      generalize jOpen r1.d.full=u at *
      clear hU hb HO HD4 HB14 HB15
      obtain ⟨f0',k0',f1',k1',d0,d1,d2,q0',q1', -⟩:=HU.out.dx.cells
      have hcp:=Lib.hid (copies_x HU.out.st q0' q1' HOP.out.1.reopen.1)
      clear q0' q1'
      go_upto_region 32 with (fail)
      go_wp2_with fail
      refine hcp.out.mono ?_
      rintro e w17 ⟨⟨db5,rfl, -,hD⟩,hb⟩
      have HC:=Lib.hid (content_x hD HOP.out.1.reopen.1)
      rw [HOP.out.1.reopen.2.2.2,HOP.out.2,HC0.out] at HC
      have HB17:=Lib.hid (HB16.out.trans (hb.mono HB16.out.size))
      have HU17:=Lib.hid (HU.out.below hb)
      clear hcp hb d0 d1 d2 hD
      go_wp2_with fail
      refine HC.out.mono ?_
      rintro e w18 ⟨rfl,hb⟩
      have HB18:=Lib.hid (HB17.out.trans (hb.mono HB17.out.size))
      have HU18:=Lib.hid (HU17.out.below hb)
      clear HC hb HB17 HU17
      have x0:(XA != XA)=false:=by simp
      have x1:(XB != XB)=false:=by simp
      have x2:(XB == XB)=true:=by simp
      by_cases hAB:XA=XB
      ·have y0:(XA == XB)=true:=by simpa using hAB
       have y1:(XA != XB)=false:=by simpa using hAB
       clear hAB
       go_wp2
       go_ret
       exact ⟨rfl,HB18.out⟩
      ·have y0:(XA == XB)=false:=by simpa using hAB
       have y1:(XA != XB)=true:=by simpa using hAB
       clear hAB
       go_wp2
       go_ret
       exact ⟨rfl,HB18.out⟩
    ·have hcode:=HK.out.code
     have hP:=HK.out.new hr
     simp only at hcode hP
     obtain rfl:re=qe:=hcode.resolve_right hr
     have z0:(re != re)=false:=by simp
     have z1:(re == 360)=false:=by simpa using hr
     have z2:(re != 360)=true:=by simpa using hr
     clear hcode hr
     have HC0:Hid (contentP P=XA):=Lib.hid (by rw [hP]; exact HXA1.out)
     have HX13:=HX12
     have HB13:=HB12
     clear HX12 HB12
     generalize w12=w13 at *
     have HDX:=Lib.hid HX13.out.dx
     obtain ⟨f0,k0,f1,k1,d0,d1,d2,q0',q1', -⟩:=HDX.out.cells
     have hcp:=Lib.hid (copies_x HX13.out.st q0' q1' HK.out.has.ok)
     clear q0' q1'
     go_upto_region 27 with (fail)
     go_wp2_with fail
     refine hcp.out.mono ?_
     rintro e w14 ⟨⟨db4,rfl,hdb4,hD⟩,hb⟩
     have HB14:=Lib.hid (HB13.out.trans (hb.mono HB13.out.size))
     have hn4:n0≤w13.heap.size:=Nat.le_of_lt HX13.out.size
     clear hcp hb d0 d1 d2
     have HD4:=Lib.hid (hD.power (-1))
     have HB15:=Lib.hid (power_below HB14.out (show w.heap.size≤db4 by omega) (-1))
     obtain ⟨f0',k0',f1',k1',d0,d1,d2, -, -,hfz⟩:=hD.cells
     go_upto_region 29 with (fail)
     clear hD hfz d0 d1 d2
     change Code.wp _ _ _ _ (w14.setCell ⟨db4,0,none⟩ (.int .i64 (-1)))
     generalize w14.setCell ⟨db4,0,none⟩ (.int .i64 (-1))=w15 at *
     have HOP:=Lib.hid (HK.out.has.again.open_ HK.out.ok rfl)
     have HO:=Lib.hid (open_x HD4.out HK.out.has.again.ok (show isSchoolP (jOpen r1.d.full).c.ents=true by rw [HOP.out.2]; exact isSchool_ok (by have h:=HOP.out.1.live.ord; rw [HOP.out.2] at h; exact h) HK.out.ok))
     go_wp2_with fail
     refine HO.out.mono ?_
     rintro e w16 ⟨⟨sb4,jb4,mb4,rfl, -, -, -,hU⟩,hb⟩
     have HB16:=Lib.hid (HB15.out.trans (hb.mono HB15.out.size))
     have HU:=Lib.hid hU
     change Hid (SX _ _ _ _ _ _ (jOpen r1.d.full)) at HU
     generalize jOpen r1.d.full=u at *
     clear hU hb HO HD4 HB14 HB15
     obtain ⟨f0',k0',f1',k1',d0,d1,d2,q0',q1', -⟩:=HU.out.dx.cells
     have hcp:=Lib.hid (copies_x HU.out.st q0' q1' HOP.out.1.reopen.1)
     clear q0' q1'
     go_upto_region 32 with (fail)
     go_wp2_with fail
     refine hcp.out.mono ?_
     rintro e w17 ⟨⟨db5,rfl, -,hD⟩,hb⟩
     have HC:=Lib.hid (content_x hD HOP.out.1.reopen.1)
     rw [HOP.out.1.reopen.2.2.2,HOP.out.2,HC0.out] at HC
     have HB17:=Lib.hid (HB16.out.trans (hb.mono HB16.out.size))
     have HU17:=Lib.hid (HU.out.below hb)
     clear hcp hb d0 d1 d2 hD
     go_wp2_with fail
     refine HC.out.mono ?_
     rintro e w18 ⟨rfl,hb⟩
     have HB18:=Lib.hid (HB17.out.trans (hb.mono HB17.out.size))
     have HU18:=Lib.hid (HU17.out.below hb)
     clear HC hb HB17 HU17
     have x0:(XA != XA)=false:=by simp
     have x1:(XB != XB)=false:=by simp
     have x2:(XB == XB)=true:=by simp
     by_cases hAB:XA=XB
     ·have y0:(XA == XB)=true:=by simpa using hAB
      have y1:(XA != XB)=false:=by simpa using hAB
      clear hAB
      go_wp2
      go_ret
      exact ⟨rfl,HB18.out⟩
     ·have y0:(XA == XB)=false:=by simpa using hAB
      have y1:(XA != XB)=true:=by simpa using hAB
      clear hAB
      go_wp2
      go_ret
      exact ⟨rfl,HB18.out⟩
end
section
open Go.RowKit SeedP Go.Maps
def JS.taskZ (s:JS) (id:Int):TaskP:=(s.taskP id).getD zeroT
def earlyB (now:Int) (frm:Int) (l:List (Nat × List UInt8)):Bool:=decide (now < frm) || (match l.getLast? with
 | none=>false
 | some x=>decide (now < (x.1:Int)))
def inB (ok:Bool) (S:List (List UInt8)) (st:List UInt8) (k:Nat):Bool:=ok && (S.take k).any (· == st)
theorem inB_zero (ok:Bool) (S:List (List UInt8)) (st:List UInt8):inB ok S st 0=false:=by
 unfold inB; simp
theorem inB_succ (ok:Bool) {S:List (List UInt8)} (st:List UInt8) {k:Nat} (h:k < S.length):inB ok S st (k+1)=(inB ok S st k || (ok && (S[k] == st))):=by
 unfold inB
 rw [List.take_succ_eq_append_getElem h,List.any_append]
 cases ok <;> simp
/-- what the law calls fits -/
def fitB (inn:Bool) (now:Int) (len:Nat) (early:Bool) (late ext:Int) (al:Nat) (tries:Int):Bool:=
 ((((((inn && decide (0≤now)) && decide (now≤2147483647)) && decide ((len:Int)≤4000)) && !early) && decide (now≤late+ext)) && decide ((al:Int) < tries))
theorem fitB_iff {s:JS} {id:Int} {st:List UInt8} {now:Int} {tx:List UInt8} :
 fitB (inB (s.taskP id).isSome (s.studentsP (s.taskZ id).cls) st (s.studentsP (s.taskZ id).cls).length) now tx.length (earlyB now (s.taskZ id).frm (s.attsP id st)) (s.taskZ id).late (s.extP id st) (s.attsP id st).length (s.taskZ id).tries=true ↔ ∃ t,LawFits id st now tx s t:=by
 unfold fitB inB earlyB
 rw [List.take_length]
 simp only [Bool.and_eq_true,decide_eq_true_eq,Bool.not_eq_true',Bool.or_eq_false_iff,decide_eq_false_iff_not]
 constructor
 ·rintro ⟨⟨⟨⟨⟨⟨⟨h0,h1⟩,h2⟩,h3⟩,h4⟩,h5,h6⟩,h7⟩,h8⟩
  obtain ⟨t,ht⟩:=Option.isSome_iff_exists.1 h0
  have hz:s.taskZ id=t:=by unfold JS.taskZ; rw [ht]; rfl
  rw [hz] at h1 h5 h7 h8
  refine ⟨t,ht,?_,h2,h3,by omega,by omega,fun x hx=>?_,h7,h8⟩
  ·obtain ⟨x,hx,e⟩:=List.any_eq_true.1 h1
   rw [← (show x=st by simpa using e)]; exact hx
  ·rw [hx] at h6
   have:¬ now < (x.1:Int):=by simpa using h6
   omega
 ·rintro ⟨t,h⟩
  have ht:=h.task
  have hz:s.taskZ id=t:=by unfold JS.taskZ; rw [ht]; rfl
  rw [hz]
  refine ⟨⟨⟨⟨⟨⟨⟨by rw [ht]; rfl,List.any_eq_true.2 ⟨st,h.in_,by simp⟩⟩,h.n0⟩,h.n1⟩,by have:=h.tx; omega⟩,by have:=h.from_; omega,?_⟩,h.late⟩,h.tries⟩
  have hl:=h.last
  generalize (s.attsP id st).getLast?=o at *
  cases o with
  | none=>rfl
  | some x=>exact decide_eq_false (by have:=hl x rfl; omega)
end
section
open Go.RowKit SeedP Go.Maps
set_option maxRecDepth 100000 in
theorem sameBytes_c (va vb:Value) (la lb:List UInt8) (w:World) (ha:RdB w w.heap.size va la) (hb:RdB w w.heap.size vb lb) :
 Calls Tryz.prog 28 #[va,vb] w fun e w'=>e=.returned (.bool (decide (la=lb)))∧Below w.heap.size w w':=by
 obtain ⟨aa,ca,rfl,hma,_,hca⟩:=ha.open_
 obtain ⟨ab,cb,rfl,hmb,_,hcb⟩:=hb.open_
 unfold maxLen at hma hmb
 have HA:=Lib.hid hca
 have HB:=Lib.hid hcb
 clear hca hcb ha hb
 by_cases hl:la.length=lb.length
 ·have HD:=Lib.hid hl
  rw [← hl]
  clear hl
  go_enter Tryz.func28,Tryz.ntmps28
  go_wp2
  go_loopw [5] (fun i wr=>∃ j:Nat,j≤la.length∧i=.int .i64 j∧Hid (la.take j=lb.take j)∧Below w.heap.size w wr) (fun i _=>la.length - (intOf i).toNat)
  case atStart=>exact ⟨0,Nat.zero_le _,rfl,Lib.hid rfl,Below.refl _ _⟩
  case round=>
   obtain ⟨j,hj,rfl,HT,hb⟩:=hrel
   by_cases hlt:j < la.length
   ·rcases HA.out with rfl | ⟨ga,oa,rfl,_,_,hga,hcella⟩
    ·simp at hlt
    rcases HB.out with e | ⟨gb,ob,rfl,_,_,hgb,hcellb⟩
    ·have h2:=HD.out; rw [e] at h2; have h3:la.length=0:=h2; omega
    have c1:=keep_cell hb (hcella j hlt)
    have c2:=keep_cell hb (hcellb j (by rw [← HD.out]; exact hlt))
    have hE:=Lib.hid (show la.take (j+1)=la.take j ++ [la.getD j 0]∧lb.take (j+1)=lb.take j ++ [lb.getD j 0] from ⟨by rw [List.take_succ_eq_append_getElem hlt,List.getD_eq_getElem?_getD,List.getElem?_eq_getElem hlt]; rfl,by rw [List.take_succ_eq_append_getElem (by rw [← HD.out]; exact hlt),List.getD_eq_getElem?_getD,List.getElem?_eq_getElem (by rw [← HD.out]; exact hlt)]; rfl⟩)
    generalize la.getD j 0=x at *
    generalize lb.getD j 0=y at *
    have HBB:=Lib.hid hb
    have hx8:=x.toNat_lt
    have hy8:=y.toNat_lt
    by_cases hxy:x=y
    ·subst hxy
     have hne:(((x.toNat:Int)) != ((x.toNat:Int)))=false:=by simp
     have HN:=Lib.hid (show la.take (j+1)=lb.take (j+1) by rw [hE.out.1,hE.out.2,HT.out])
     clear hcella hcellb hga hgb hb HT hE
     go_upto_region 6 with (fail)
     go_quiet (fail)
     all_goals
      go_wp2
      go_roundw
      case rel=>exact ⟨j+1,by omega,by go_num,HN,below_drewN HBB.out _⟩
      case measure=>simp [intOf]; omega
    ·have hne:(((x.toNat:Int)) != ((y.toNat:Int)))=true:=by
      simp only [bne_iff_ne,ne_eq]
      exact fun e=>hxy (UInt8.toNat_inj.1 (by omega))
     have HN:=Lib.hid (show decide (la=lb)=false from decide_eq_false (fun e=>by
      have h:=hE.out
      rw [e] at h
      have:=List.append_cancel_left (h.1.symm.trans h.2)
      exact hxy (by injection this)))
     clear hcella hcellb hga hgb hb HT hE hxy
     go_upto_region 6 with (fail)
     go_quiet (fail)
     all_goals
      go_wp2
      go_ret
      exact ⟨by rw [HN.out]; rfl,below_drewN HBB.out _⟩
   ·obtain rfl:j=la.length:=by omega
    have HN:=Lib.hid (show decide (la=lb)=true from decide_eq_true (by
     have h:=HT.out
     rw [List.take_length,HD.out,List.take_length] at h
     exact h))
    clear HT
    go_wp2
    go_ret
    exact ⟨by rw [HN.out]; rfl,hb⟩
 ·have HN:=Lib.hid (show decide (la=lb)=false from decide_eq_false (fun e=>hl (by rw [e])))
  have hne:((la.length:Int) != (lb.length:Int))=true:=by simp only [bne_iff_ne,ne_eq]; omega
  clear hl
  go_enter Tryz.func28,Tryz.ntmps28
  go_wp2
  go_ret
  exact ⟨by rw [HN.out]; rfl,Below.refl _ _⟩
end
section
open Go.RowKit SeedP Go.Maps
structure AtsAt (w:World) (v:Value) (due:Int) (L:List (Nat × List UInt8)):Prop where
 form:∃ a c,v=.slice a L.length c
 get:∀ j (hj:j < L.length),∃ g cap a c,v=.slice (some ⟨g,0,none⟩) L.length cap∧g < w.heap.size∧w.cell? ⟨g,j * 3,none⟩=some (.int .i64 (L[j].1:Nat))∧w.cell? ⟨g,j * 3+1,none⟩=some (.bool (decide (due < ((L[j].1:Nat):Int))))∧w.cell? ⟨g,j * 3+2,none⟩=some (.slice a L[j].2.length c) ∧
    RdB w w.heap.size (.slice a L[j].2.length c) L[j].2
theorem AttsW.ats {w:World} {B:Nat} {v:Value} {due:Int} {L:List (Nat × List UInt8)} (h:AttsW w B v due L):AtsAt w v due L:=
 ⟨h.len,fun j hj=>by
  obtain ⟨g,cap,a,c,e, -,hg,h0,h1,h2,hr⟩:=h.get j hj
  exact ⟨g,cap,a,c,e,hg,h0,h1,h2,hr.toB⟩⟩
theorem AtsAt.below {w w':World} {v:Value} {due:Int} {L:List (Nat × List UInt8)} (h:AtsAt w v due L) (hb:Below w.heap.size w w'):AtsAt w' v due L:=
 ⟨h.form,fun j hj=>by
  obtain ⟨g,cap,a,c,e,hg,h0,h1,h2,hr⟩:=h.get j hj
  exact ⟨g,cap,a,c,e,Nat.lt_of_lt_of_le hg hb.size,(hb.cell (p:=⟨g,_,none⟩) hg).trans h0,(hb.cell (p:=⟨g,_,none⟩) hg).trans h1,(hb.cell (p:=⟨g,_,none⟩) hg).trans h2,(hr.below hb).mono hb.size⟩⟩
/-- an attempt of the list, by its number -/
theorem AtsAt.at_ {w:World} {a0:Option Addr} {n c0:Nat} {due:Int} {L:List (Nat × List UInt8)} (h:AtsAt w (.slice a0 n c0) due L) {j:Nat} (hj:j < L.length) {x:Nat × List UInt8} (hx:L[j]=x) :
 ∃ g a c,a0=some ⟨g,0,none⟩∧g < w.heap.size∧w.cell? ⟨g,j * 3,none⟩=some (.int .i64 (x.1:Nat))∧w.cell? ⟨g,j * 3+1,none⟩=some (.bool (decide (due < ((x.1:Nat):Int))))∧w.cell? ⟨g,j * 3+2,none⟩=some (.slice a x.2.length c)∧RdB w w.heap.size (.slice a x.2.length c) x.2:=by
 obtain ⟨g,cap,a,c,e,hg,h0,h1,h2,hr⟩:=h.get j hj
 simp only [Value.slice.injEq] at e
 rw [hx] at h0 h1 h2 hr
 exact ⟨g,a,c,e.1,hg,h0,h1,h2,hr⟩
theorem attempts_y {n0:Nat} {w:World} {sb db jb mb:Nat} {s:JS} (id:Int) (st:List UInt8) (h:SX n0 w sb db jb mb s) (hok:SOk s):Calls Tryz.prog 22 #[sv sb,.int .i64 id,strV st] w fun e w'=>(∃ a c,e=.returned (.slice a (s.attsP id st).length c)∧AtsAt w' (.slice a (s.attsP id st).length c) (s.dueP id st) (s.attsP id st))∧Below w.heap.size w w':=by
 refine (attempts_x id st h hok).mono ?_
 rintro e w' ⟨⟨v,rfl,hv⟩,hb⟩
 obtain ⟨a,c,rfl⟩:=hv.len
 exact ⟨⟨a,c,rfl,hv.ats⟩,hb⟩
end
end Go.Proofs.YtbcfpdlhieaepaaGreatDoor
