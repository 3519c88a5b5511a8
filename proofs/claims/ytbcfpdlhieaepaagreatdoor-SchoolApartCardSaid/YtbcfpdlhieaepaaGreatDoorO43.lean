/- SchoolApart, walked. -/
import Derived.Test.YtbcfpdlhieaepaaGreatDoorO41
import Derived.Test.YtbcfpdlhieaepaaGreatDoorO42
import Derived.Test.YtbcfpdlhieaepaaGreatDoorO27
import Derived.Test.YtbcfpdlhieaepaaGreatDoorCards
import Derived.Test.YtbcfpdlhieaepaaGreatDoorTie
import Derived.Test.YtbcfpdlhieaepaaGreatDoorO02
import Derived.ProofKit
import Derived.OpenShut
import Derived.LaidMore
import Derived.Deep.DeepHandedRow
import Derived.Lib.LaidTab
import Derived.SizedLaws
import Derived.Deep.Slices
import Derived.Deep.Fields
import Derived.ChangeSame
import Derived.Test.YtbcfpdlhieaepaaGreatDoorO33
namespace Go.Proofs.YtbcfpdlhieaepaaGreatDoor
section
open Go.RowKit SeedP Go.Maps
set_option maxRecDepth 100000 in
set_option maxHeartbeats 8000000 in
theorem schoolApart_walk (vl:Value) (L:List SActP) (a:SActP) (ab ax:Option Addr) (cb cx:Nat) (b:SActP) (bb bx:Option Addr) (db dx:Nat) (w:World) (hs:St w) (hL:SActsAt w w.heap.size vl L) (ha:RdB w w.heap.size (.slice ab a.task.body.length cb) a.task.body∧RdB w w.heap.size (.slice ax a.text.length cx) a.text) (hb:RdB w w.heap.size (.slice bb b.task.body.length db) b.task.body∧RdB w w.heap.size (.slice bx b.text.length dx) b.text) :
 Calls Tryz.prog 5 #[vl,actV a (.slice ab a.task.body.length cb) (.slice ax a.text.length cx),actV b (.slice bb b.task.body.length db) (.slice bx b.text.length dx)] w fun e w'=>e=.returned (.bool true)∧Below w.heap.size w w':=by
 have hun:undef=Value.tuple #[]:=rfl
 have HL:=Lib.hid hL
 have HS:=Lib.hid hs
 have HRA:=Lib.hid ha
 have HRB:=Lib.hid hb
 obtain ⟨al,cl,rfl⟩:∃ a c,vl=.slice a L.length c:=by obtain ⟨a,c,e, -⟩:=hL; exact ⟨a,c,e⟩
 clear hL hs ha hb
 obtain ⟨ga,hga⟩:∃ g,w.heap.size=g:=⟨_,rfl⟩
 have HYa:Hid (Blk ((w.alloc (.cells #[.int .i64 a.kind,strV a.cls,strV a.stu,strV a.task.cls,strV a.task.name,.int .i64 a.task.frm,.int .i64 a.task.due,.int .i64 a.task.late,.int .i64 a.task.tries,.slice ab a.task.body.length cb,.int .i64 a.id,.int .i64 a.n,.slice ax a.text.length cx] 37)).alloc (.cells #[.int .i64 b.kind,strV b.cls,strV b.stu,strV b.task.cls,strV b.task.name,.int .i64 b.task.frm,.int .i64 b.task.due,.int .i64 b.task.late,.int .i64 b.task.tries,.slice bb b.task.body.length db,.int .i64 b.id,.int .i64 b.n,.slice bx b.text.length dx] 37)) w.heap.size 37 (actCells a (.slice ab a.task.body.length cb) (.slice ax a.text.length cx))):=Lib.hid ((Blk.new w _ _).alloc _)
 have HYb:Hid (Blk ((w.alloc (.cells #[.int .i64 a.kind,strV a.cls,strV a.stu,strV a.task.cls,strV a.task.name,.int .i64 a.task.frm,.int .i64 a.task.due,.int .i64 a.task.late,.int .i64 a.task.tries,.slice ab a.task.body.length cb,.int .i64 a.id,.int .i64 a.n,.slice ax a.text.length cx] 37)).alloc (.cells #[.int .i64 b.kind,strV b.cls,strV b.stu,strV b.task.cls,strV b.task.name,.int .i64 b.task.frm,.int .i64 b.task.due,.int .i64 b.task.late,.int .i64 b.task.tries,.slice bb b.task.body.length db,.int .i64 b.id,.int .i64 b.n,.slice bx b.text.length dx] 37)) (w.heap.size+1) 37 (actCells b (.slice bb b.task.body.length db) (.slice bx b.text.length dx))):=Lib.hid (Blk.at _ _ _ (by simp))
 have HB1:Hid (Below w.heap.size w ((w.alloc (.cells #[.int .i64 a.kind,strV a.cls,strV a.stu,strV a.task.cls,strV a.task.name,.int .i64 a.task.frm,.int .i64 a.task.due,.int .i64 a.task.late,.int .i64 a.task.tries,.slice ab a.task.body.length cb,.int .i64 a.id,.int .i64 a.n,.slice ax a.text.length cx] 37)).alloc (.cells #[.int .i64 b.kind,strV b.cls,strV b.stu,strV b.task.cls,strV b.task.name,.int .i64 b.task.frm,.int .i64 b.task.due,.int .i64 b.task.late,.int .i64 b.task.tries,.slice bb b.task.body.length db,.int .i64 b.id,.int .i64 b.n,.slice bx b.text.length dx] 37))):=Lib.hid (((Below.refl w.heap.size w).alloc (Nat.le_refl _) _).alloc (((Below.refl w.heap.size w).alloc (Nat.le_refl _) _).size) _)
 have HS1:Hid (St ((w.alloc (.cells #[.int .i64 a.kind,strV a.cls,strV a.stu,strV a.task.cls,strV a.task.name,.int .i64 a.task.frm,.int .i64 a.task.due,.int .i64 a.task.late,.int .i64 a.task.tries,.slice ab a.task.body.length cb,.int .i64 a.id,.int .i64 a.n,.slice ax a.text.length cx] 37)).alloc (.cells #[.int .i64 b.kind,strV b.cls,strV b.stu,strV b.task.cls,strV b.task.name,.int .i64 b.task.frm,.int .i64 b.task.due,.int .i64 b.task.late,.int .i64 b.task.tries,.slice bb b.task.body.length db,.int .i64 b.id,.int .i64 b.n,.slice bx b.text.length dx] 37))):=Lib.hid ((HS.out.alloc _).alloc _)
 have HL1:=Lib.hid ((HL.out.below HB1.out).raise HB1.out.size)
 have HRA1:=Lib.hid (And.intro (HRA.out.1.later HB1.out) (HRA.out.2.later HB1.out))
 have HRB1:=Lib.hid (And.intro (HRB.out.1.later HB1.out) (HRB.out.2.later HB1.out))
 clear HL HS HRA HRB
 have hle1:=HB1.out.size
 rw [hga] at HYa HYb HB1 hle1
 go_enter Tryz.func5,Tryz.ntmps5
 rw [hga]
 go_upto_region 1 with (fail)
 generalize ((w.alloc (.cells #[.int .i64 a.kind,strV a.cls,strV a.stu,strV a.task.cls,strV a.task.name,.int .i64 a.task.frm,.int .i64 a.task.due,.int .i64 a.task.late,.int .i64 a.task.tries,.slice ab a.task.body.length cb,.int .i64 a.id,.int .i64 a.n,.slice ax a.text.length cx] 37)).alloc (.cells #[.int .i64 b.kind,strV b.cls,strV b.stu,strV b.task.cls,strV b.task.name,.int .i64 b.task.frm,.int .i64 b.task.due,.int .i64 b.task.late,.int .i64 b.task.tries,.slice bb b.task.body.length db,.int .i64 b.id,.int .i64 b.n,.slice bx b.text.length dx] 37))=w1 at *
 obtain ⟨gb,hgb⟩:∃ g,ga+1=g:=⟨_,rfl⟩
 rw [hgb] at HYb
 have HAW:=Lib.hid (sawake_c w1 HS1.out)
 go_wp2_with fail
 refine HAW.out.mono ?_
 rintro e w2 ⟨rfl,hb⟩
 have HB2:=Lib.hid hb
 clear HAW hb
 have HF1:=Lib.hid (sfewD_c (.slice al L.length cl) L w2 ((HL1.out.below HB2.out).raise HB2.out.size))
 go_wp2_with fail
 refine HF1.out.mono ?_
 rintro e w3 ⟨he,hb⟩
 unfold FewRet at he
 subst he
 have HB3:=Lib.hid (HB2.out.trans (hb.mono HB2.out.size))
 clear HF1 hb HB2
 by_cases hf1:fewP L=true
 ·rw [hf1]
  have HSM:=Lib.hid (few_small hf1)
  clear hf1
  obtain ⟨y0,y1,y2,y3,y4,y5,y6,y7,y8,y9,y10,y11,y12⟩:=actBlk (HYa.out.below HB3.out)
  obtain ⟨z0,z1,z2,z3,z4,z5,z6,z7,z8,z9,z10,z11,z12⟩:=actBlk (HYb.out.below HB3.out)
  have HT2:=Lib.hid (acts_two (HRA1.out.1.later HB3.out) (HRA1.out.2.later HB3.out) (HRB1.out.1.later HB3.out) (HRB1.out.2.later HB3.out))
  have HB4:=Lib.hid (HB3.out.alloc HB3.out.size (.cells #[.int .i64 a.kind,strV a.cls,strV a.stu,strV a.task.cls,strV a.task.name,.int .i64 a.task.frm,.int .i64 a.task.due,.int .i64 a.task.late,.int .i64 a.task.tries,.slice ab a.task.body.length cb,.int .i64 a.id,.int .i64 a.n,.slice ax a.text.length cx,.int .i64 b.kind,strV b.cls,strV b.stu,strV b.task.cls,strV b.task.name,.int .i64 b.task.frm,.int .i64 b.task.due,.int .i64 b.task.late,.int .i64 b.task.tries,.slice bb b.task.body.length db,.int .i64 b.id,.int .i64 b.n,.slice bx b.text.length dx] 37))
  have HF2:=Lib.hid (sfewD_c _ [a,b] _ HT2.out)
  clear HT2
  go_wp2_with fail
  refine HF2.out.mono ?_
  rintro e w4 ⟨he,hb⟩
  unfold FewRet at he
  subst he
  have HB5:=Lib.hid (HB4.out.trans (hb.mono HB4.out.size))
  clear HF2 hb HB4 y0 y1 y2 y3 y4 y5 y6 y7 y8 y9 y10 y11 y12 z0 z1 z2 z3 z4 z5 z6 z7 z8 z9 z10 z11 z12
  by_cases hf2:fewP [a,b]=true
  ·rw [hf2]
   have HSA:=Lib.hid ((few_small hf2).2 a (by simp))
   have HSB:=Lib.hid ((few_small hf2).2 b (by simp))
   clear hf2
   obtain ⟨-, -,y2, -⟩:=actBlk (HYa.out.below HB5.out)
   obtain ⟨-, -,z2, -⟩:=actBlk (HYb.out.below HB5.out)
   by_cases hst:a.stu=b.stu
   ·have hq:(a.stu == b.stu)=true:=by simpa using hst
    clear hst
    go_wp2
    go_ret
    exact ⟨rfl,HB1.out.trans (HB5.out.mono hle1)⟩
   ·have hq:(a.stu == b.stu)=false:=by simpa using hst
    have HST:=Lib.hid hst
    clear hst
    have HS5:=Lib.hid (HS1.out.below HB5.out HS1.out.pos)
    have hD:=Lib.hid (DX.new w4 HS5.out (-1))
    have hBd:=Lib.hid ((Below.refl w4.heap.size w4).alloc (Nat.le_refl _) (.cells #[.int .i64 (-1),.slice none 0 0,.slice none 0 0] 29))
    have HB6:=Lib.hid (HB5.out.trans (hBd.out.mono HB5.out.size))
    have hle:=HB5.out.size
    go_upto_region 6 with (fail)
    obtain ⟨n0,hn0⟩:∃ n,w4.heap.size=n:=⟨_,rfl⟩
    rw [hn0] at hD hle ⊢
    generalize w4.alloc (.cells #[.int .i64 (-1),.slice none 0 0,.slice none 0 0] 29)=w5 at *
    clear hn0 hBd HB5 HS5 HS1 y2 z2 hq
    go_wp2_with fail
    refine (open_x hD.out ok0 sch0).mono ?_
    rintro e w6 ⟨⟨sb,jb,mb,rfl, -, -, -,hX⟩,hb⟩
    have HB7:=Lib.hid (HB6.out.trans (hb.mono HB6.out.size))
    have HX0:=Lib.hid hX
    have HF0:=Lib.hid at0.full
    clear hX hb HB6 hD
    generalize jOpen ⟨-1,[],[]⟩=s0 at *
    go_wp2
    go_loopw [10] (fun iv wr=>∃ (i:Nat) (s:JS),i≤L.length∧iv=.int .i64 i∧SX n0 wr sb n0 jb mb s∧SFull s (2 * i)∧Below w1.heap.size w1 wr) (fun i _=>L.length - (intOf i).toNat)
    case atStart=>exact ⟨0,s0,Nat.zero_le _,rfl,HX0.out,HF0.out,HB7.out⟩
    case round=>
     obtain ⟨i,s,hi,rfl,hX,hF,hB⟩:=hrel
     clear HX0 HF0 HB7
     have HX:=Lib.hid hX
     have HF:=Lib.hid hF
     have HB:=Lib.hid hB
     clear hX hF hB
     have hn:=HSM.out.1
     by_cases hlt:i < L.length
     ·have b1:decide ((i:Int) < (L.length:Int))=true:=decide_eq_true (by omega)
      have b2:(i:Int) < (L.length:Int):=by omega
      obtain ⟨g,off,cap,abc,cbc,axc,cxc,e0,⟨c0,c1,c2,c3,c4,c5,c6,c7,c8,c9,c10,c11,c12⟩,hr1,hr2⟩:=HL1.out.get HB.out hlt
      simp only [Value.slice.injEq,true_and] at e0
      obtain ⟨rfl,rfl⟩:=e0
      have HSX:=Lib.hid (HSM.out.2 _ (List.getElem_mem hlt))
      generalize L[i]=x at *
      have HC:=Lib.hid (act_x x abc axc cbc cxc HX.out HF.out.sok (hr1.later HB.out) (hr2.later HB.out) (by have:=HSX.out.body; omega) (by have:=HSX.out.text; omega))
      have HF1:=Lib.hid (((HF.out.do_ (by omega) x).1).full HF.out)
      have hlt2:=Lib.hid hlt
      clear hr1 hr2 hlt
      generalize (doP x s).1=s1 at *
      generalize (doP x s).2.1=n1 at *
      generalize (doP x s).2.2=e1 at *
      go_wp2_with fail
      refine HC.out.mono ?_
      rintro e w7 ⟨rfl,hA⟩
      have HX1:=Lib.hid hA.sx
      have HB1':=Lib.hid (HB.out.trans (hA.bl.mono hle))
      clear hA HC HX HB HF c0 c1 c2 c3 c4 c5 c6 c7 c8 c9 c10 c11 c12
      go_wp2
      go_roundw
      case rel=>exact ⟨i+1,s1,hlt2.out,by go_num,HX1.out,HF1.out,HB1'.out⟩
      case measure=>have:=hlt2.out; simp [intOf]; omega
     ·obtain rfl:i=L.length:=by omega
      have b1:decide ((L.length:Int) < (L.length:Int))=false:=by simp
      clear hlt hi
      go_upto_region 13 with (fail)
      have hpos:=HX.out.pos
      have hnw:=HX.out.size
      obtain ⟨f0,k0,f1,k1,d0,d1,d2,q0,q1, -⟩:=HX.out.dx.cells
      have hcp:=Lib.hid (copies_x HX.out.st q0 q1 HF.out.reopen.1)
      clear q0 q1
      have HW:=Lib.hid (Below.refl wr.heap.size wr)
      generalize s.d.f0.length=l0 at *
      generalize s.d.f1.length=l1 at *
      go_wp2_with fail
      refine hcp.out.mono ?_
      rintro e w8 ⟨⟨db2,rfl, -,hD⟩,hb⟩
      have HW:=Lib.hid (HW.out.trans (hb.mono HW.out.size))
      clear hcp d0 d1 d2 hb
      have HO:=Lib.hid (open_x hD HF.out.reopen.1 HF.out.reopen.2.1)
      clear hD
      go_wp2_with fail
      refine HO.out.mono ?_
      rintro e w9 ⟨⟨sb2,jb2,mb2,rfl, -, -, -,hT⟩,hb⟩
      have HW:=Lib.hid (HW.out.trans (hb.mono HW.out.size))
      have HT:=Lib.hid hT
      have HFT:=Lib.hid HF.out.reopen.2.2.1
      have HE:=Lib.hid HF.out.reopen.2.2.2
      clear hb hT HO
      generalize jOpen s.d=t at *
      have hg4:2 * L.length+4 < 4611686018427387904:=by omega
      have HP:=Lib.hid (fun f1 f2 f3 f4=>apart HF.out HFT.out hg4 HE.out HST.out (i1:=a.id) (i2:=b.id) (n1:=a.n) (n2:=b.n) (t1:=a.text) (t2:=b.text) f1 f2 f3 f4)
      have HF1:=Lib.hid ((HF.out.submit (by omega) a.id a.stu a.n a.text).1.full HF.out)
      have HF2:=Lib.hid ((HF1.out.submit (by omega) b.id b.stu b.n b.text).1.full HF1.out)
      have HF3:=Lib.hid ((HFT.out.submit (by omega) b.id b.stu b.n b.text).1.full HFT.out)
      have HF4:=Lib.hid ((HF3.out.submit (by omega) a.id a.stu a.n a.text).1.full HF3.out)
      have HSJ:=Lib.hid HX.out.sj
      have HTJ:=Lib.hid HT.out.sj
      have HG1:=Lib.hid (HX.out.sg.below HW.out)
      have HB9:=Lib.hid (HB.out.trans (HW.out.mono HB.out.size))
      have hz9:=HW.out.size
      have hla:a.text.length≤1000000:=by have:=HSA.out.text; omega
      have hlb:b.text.length≤1000000:=by have:=HSB.out.text; omega
      have HC:=Lib.hid (submit_g a.id a.stu a.n a.text ax cx HG1.out HF.out.sok (HRA1.out.2.later HB9.out) hla)
      clear HX HW HE HG1
      generalize hr1:submitP a.id a.stu a.n a.text s=r1 at *
      clear hr1
      obtain ⟨-, -,y2, -, -, -, -, -, -, -,y10,y11,y12⟩:=actBlk (HYa.out.below HB9.out)
      go_wp2_with fail
      refine HC.out.mono ?_
      rintro e w10 ⟨rfl,hG,hgr⟩
      have HG1:=Lib.hid hG
      have HT1:=Lib.hid (HT.out.grown hgr (fun g hg _=>by have:=HSJ.out g hg; omega))
      have HB10:=Lib.hid (HB9.out.trans (hgr.below (B:=w1.heap.size) (fun k hk=>by have:=HSJ.out k hk; omega) HB9.out.size))
      have hz10:=hgr.size
      clear y2 y10 y11 y12 HC hG hgr HT HB9
      have HC:=Lib.hid (submit_g b.id b.stu b.n b.text bx dx HG1.out HF1.out.sok (HRB1.out.2.later HB10.out) hlb)
      clear HG1
      generalize hr2:submitP b.id b.stu b.n b.text r1.1=r2 at *
      clear hr2
      obtain ⟨-, -,z2, -, -, -, -, -, -, -,z10,z11,z12⟩:=actBlk (HYb.out.below HB10.out)
      go_wp2_with fail
      refine HC.out.mono ?_
      rintro e w11 ⟨rfl,hG,hgr⟩
      have HG2:=Lib.hid (hG.mono (Q:=fun g=>(n0≤g∧g < wr.heap.size)∨w9.heap.size≤g) (fun g hg=>by rcases hg with (hg | hg) | hg; exact Or.inl hg; exact Or.inr hg; exact Or.inr (Nat.le_trans hz10 hg)) (fun h=>by rcases h with h | h; (have h2:n0≤0:=h.1; omega); (have h2:w9.heap.size≤0:=h; omega)))
      have HT2:=Lib.hid (HT1.out.grown hgr (fun g hg _=>by have:=HSJ.out g hg; omega))
      have HB11:=Lib.hid (HB10.out.trans (hgr.below (B:=w1.heap.size) (fun k hk=>by have:=HSJ.out k hk; omega) HB10.out.size))
      have hz11:=hgr.size
      clear z2 z10 z11 z12 HC hG hgr HT1 HB10
      have HC:=Lib.hid (submit_x b.id b.stu b.n b.text bx dx HT2.out HFT.out.sok (HRB1.out.2.later HB11.out) hlb)
      generalize hr3:submitP b.id b.stu b.n b.text t=r3 at *
      clear hr3
      obtain ⟨-, -,z2, -, -, -, -, -, -, -,z10,z11,z12⟩:=actBlk (HYb.out.below HB11.out)
      go_wp2_with fail
      refine HC.out.mono ?_
      rintro e w12 ⟨rfl,hA⟩
      have HG3:=Lib.hid (HG2.out.grown hA.gr (fun g hg _ hp=>by have h1:=HTJ.out g hg; rcases hp with hp | hp; (have h2:g < wr.heap.size:=hp.2; omega); (have h2:w9.heap.size≤g:=hp; omega)) (fun h=>by have:=HTJ.out _ h; omega))
      have HT3:=Lib.hid hA.sx
      have HB12:=Lib.hid (HB11.out.trans (hA.bl.mono (by omega)))
      have hz12:=hA.gr.size
      clear z2 z10 z11 z12 HC hA HG2 HT2 HB11
      have HC:=Lib.hid (submit_x a.id a.stu a.n a.text ax cx HT3.out HF3.out.sok (HRA1.out.2.later HB12.out) hla)
      generalize hr4:submitP a.id a.stu a.n a.text r3.1=r4 at *
      clear hr4
      obtain ⟨-, -,y2, -, -, -, -, -, -, -,y10,y11,y12⟩:=actBlk (HYa.out.below HB12.out)
      go_wp2_with fail
      refine HC.out.mono ?_
      rintro e w13 ⟨rfl,hA⟩
      have HG4:=Lib.hid (HG3.out.grown hA.gr (fun g hg _ hp=>by have h1:=HTJ.out g hg; rcases hp with hp | hp; (have h2:g < wr.heap.size:=hp.2; omega); (have h2:w9.heap.size≤g:=hp; omega)) (fun h=>by have:=HTJ.out _ h; omega))
      have HT4:=Lib.hid hA.sx
      have HB13:=Lib.hid (HB12.out.trans (hA.bl.mono (by omega)))
      clear y2 y10 y11 y12 HC hA HG3 HT3 HB12
      have HBF:=Lib.hid (HB1.out.trans (HB13.out.mono hle1))
      obtain ⟨s1,m1,e1⟩:=r1
      obtain ⟨s2,m2,e2⟩:=r2
      obtain ⟨s3,m3,e3⟩:=r3
      obtain ⟨s4,m4,e4⟩:=r4
      simp only at HP HF1 HF2 HF3 HF4 HG4 HT4
      go_upto_region 21 with (fail)
      by_cases q1:e1=4
      ·have t1:(e1 == 4)=true:=by simpa using q1
       clear q1 HP
       go_wp2
       go_ret
       exact ⟨rfl,HBF.out⟩
      have t1:(e1 == 4)=false:=by simpa using q1
      by_cases q2:e2=4
      ·have t2:(e2 == 4)=true:=by simpa using q2
       clear q2 HP q1
       go_wp2
       go_ret
       exact ⟨rfl,HBF.out⟩
      have t2:(e2 == 4)=false:=by simpa using q2
      by_cases q3:e3=4
      ·have t3:(e3 == 4)=true:=by simpa using q3
       clear q3 HP q1 q2
       go_wp2
       go_ret
       exact ⟨rfl,HBF.out⟩
      have t3:(e3 == 4)=false:=by simpa using q3
      by_cases q4:e4=4
      ·have t4:(e4 == 4)=true:=by simpa using q4
       clear q4 HP q1 q2 q3
       go_wp2
       go_ret
       exact ⟨rfl,HBF.out⟩
      have t4:(e4 == 4)=false:=by simpa using q4
      obtain ⟨h14,h23,hen⟩:=HP.out q1 q2 q3 q4
      simp only [Prod.mk.injEq] at h14 h23 hen
      obtain ⟨rfl,rfl⟩:=h14
      obtain ⟨rfl,rfl⟩:=h23
      have HEN:=Lib.hid hen
      clear hen HP q1 q2 q3 q4
      have p1:((m1:Int) == (m1:Int))=true:=by simp
      have p2:((m2:Int) == (m2:Int))=true:=by simp
      have p3:(e1 == e1)=true:=by simp
      have p4:(e2 == e2)=true:=by simp
      have HX5:=Lib.hid (HG4.out.sx hpos (fun g hg=>by rcases hg with hg | hg; exact hg.1; (have h2:w9.heap.size≤g:=hg; omega)))
      have HCT:=Lib.hid (fun W (h:Below w13.heap.size w13 W) x (hx:x=n0∨x=db2)=>content_two HX5.out HT4.out HF2.out HF4.out HEN.out h hx)
      clear HX5 HG4 HT4 HF1 HF2 HF3 HF4 HEN HSJ HTJ
      generalize contentP s2.c.ents=X at *
      have p5:(X == X)=true:=by simp
      have hB:Below w13.heap.size w13 w13:=Below.refl _ _
      go_wp2_with fail
      refine (HCT.out _ hB _ (Or.inl rfl)).mono ?_
      rintro e w14 ⟨rfl,hb⟩
      have hB:=hB.trans (hb.mono hB.size)
      clear hb
      go_wp2_with fail
      refine (HCT.out _ hB _ (Or.inr rfl)).mono ?_
      rintro e w15 ⟨rfl,hb⟩
      have HBE:=Lib.hid (HB1.out.trans ((HB13.out.trans ((hB.trans (hb.mono hB.size)).mono HB13.out.size)).mono hle1))
      clear hb hB HCT
      go_wp2
      go_ret
      exact ⟨rfl,HBE.out⟩
  ·rw [Bool.eq_false_iff.2 hf2]
   go_wp2
   go_ret
   exact ⟨rfl,HB1.out.trans (HB5.out.mono hle1)⟩
 ·rw [Bool.eq_false_iff.2 hf1]
  go_wp2
  go_ret
  exact ⟨rfl,HB1.out.trans (HB3.out.mono hle1)⟩
end
section
section
open Go.ChangeShapes Go.WideShapes Go.ChangeAt Go.RowKit
theorem own:ownKnob Tryz.prog.godebug=none:=by kernel_rfl
theorem laidOut:laidOutB Tryz.prog=true:=by kernel_rfl
theorem gS:Tryz.prog.globalNamed "lyceum/seed.steps"=some 0:=by kernel_rfl
theorem tS:(Tryz.prog.globals[0]?).map (·.type)=some 231:=by kernel_rfl
theorem cellsA:Tryz.prog.cellsOf 231=6:=by kernel_rfl
theorem cellsS:Tryz.prog.cellsOf 230=2:=by kernel_rfl
theorem cellsU:Tryz.prog.cellsOf 142=1:=by kernel_rfl
theorem cellsW:Tryz.prog.cellsOf 99=1:=by kernel_rfl
/-- one step of mixing, read -/
theorem step_read {W:World} {H:Type} {enc:TypeId × Value→H} {base:Nat} {sp:Nat→Bool} {held:Bool} {fuel:Nat} {a b:Value} {x y:Int} {q:List MemPlace}
 (h:DataW.trod enc Tryz.prog W base sp held fuel 230 [a,b]=some (.agg [.lit (.int .u64 x),.lit (.int .u64 y)],q)):a=.int .u64 x∧b=.int .u64 y:=by
 obtain ⟨y0,y1,n,hx,_,h0,h1⟩:=trod_struct2 Tryz.underlying230 h
 simp only [cellsU,cellsW,List.drop_zero,List.take_succ_cons,List.take_zero,List.drop_succ_cons] at h0 h1
 obtain ⟨k0,e0,r0,_⟩:=DataW.trod_int Tryz.underlying142 h0
 obtain ⟨k1,e1,r1,_⟩:=DataW.trod_int Tryz.underlying99 h1
 subst r0 r1
 simp only [Prod.mk.injEq,DataW.agg.injEq,List.cons.injEq,DataW.lit.injEq,Lit.int.injEq,true_and,and_true] at hx
 obtain ⟨⟨rfl,rfl⟩,_⟩:=hx
 simp only [List.cons.injEq,and_true] at e0 e1
 exact ⟨e0,e1⟩
set_option maxRecDepth 100000 in
theorem steps_of_laid {W:World} (h:laidMetH Tryz.prog [("lyceum/seed.steps",Rows.laid_lyceum_seed_steps)] W):St W:=by
 rw [MakeChecks.laidMetH_plain _ _ _ (by kernel_rfl)] at h
 obtain ⟨ps,⟨g0,t0,cs0,f0,p0,q0,hg0,ht0,hv0,hd0,_,_⟩,_,_⟩:=h
 obtain rfl:=Option.some.inj (gS.symm.trans hg0)
 obtain rfl:=Option.some.inj (tS.symm.trans ht0)
 obtain ⟨xs,m,rfl,hx,hlen,hn3,hel⟩:=DataW.trod_array Tryz.underlying231 hd0
 rw [cellsA] at hlen
 have hc:∀ i,W.cell? ⟨0,i,none⟩=cs0[i]?:=fun i=>World.var?_cell gS hv0 i
 obtain ⟨l⟩:=cs0
 match l,hlen with
 | [a0,a1,a2,a3,a4,a5],_=>
   match xs,hn3 with
   | [x0,x1,x2],_=>
     have e0:=hel 0 (by decide)
     have e1:=hel 1 (by decide)
     have e2:=hel 2 (by decide)
     simp [cellsS] at e0 e1 e2
     unfold Rows.laid_lyceum_seed_steps at hx
     simp only [Prod.mk.injEq,DataW.agg.injEq,List.map_cons,List.map_nil,List.cons.injEq,and_true] at hx
     obtain ⟨⟨r0,r1,r2⟩,_⟩:=hx
     obtain ⟨d0,q0⟩:=x0
     obtain ⟨d1,q1⟩:=x1
     obtain ⟨d2,q2⟩:=x2
     simp only at r0 r1 r2
     subst r0 r1 r2
     obtain ⟨rfl,rfl⟩:=step_read e0
     obtain ⟨rfl,rfl⟩:=step_read e1
     obtain ⟨rfl,rfl⟩:=step_read e2
     exact ⟨hc 0,hc 1,hc 2,hc 3,hc 4,hc 5⟩
/-- A WORLD FOR THE WITNESS: the settled one, the steps (block 0) holding what their initialiser lays. -/
noncomputable def laidWorld (os:Os):World:=
 { World.holding Tryz.prog os ⟨#[],#[],[]⟩ with heap:=(World.holding Tryz.prog os ⟨#[],#[],[]⟩).heap.modify 0 fun
  | .cells _ t frozen=>.cells #[.int .u64 30,.int .u64 13787848793156543929,.int .u64 27,.int .u64 10723151780598845931,.int .u64 31,.int .u64 1] t frozen
  | o=>o }
theorem laid_met (os:Os) (args:Array Value):laidMet Tryz.prog [("lyceum/seed.steps",Rows.laid_lyceum_seed_steps)] ((laidWorld os).forCall (fun _ _=>0) ⟨#[],args,[]⟩).memory:=
 laidMet_of_run' 8 (by kernel_rfl) (by kernel_rfl)
end
end
section
section
open Go.ChangeShapes Go.WideShapes Go.ChangeAt Go.RowKit Go.Deep
theorem list_of {α:Type} {R:Nat→α→Prop}:∀ n,(∀ i,i < n→∃ x,R i x)→∃ L:List α,L.length=n∧∀ i (h:i < L.length),R i L[i]
 | 0,_=>⟨[],rfl,fun i h=>by simp at h⟩
 | n+1,h=>by
   obtain ⟨L,hl,hL⟩:=list_of n (fun i hi=>h i (by omega))
   obtain ⟨x,hx⟩:=h n (by omega)
   refine ⟨L ++ [x],by simp [hl],fun i hi=>?_⟩
   rw [List.length_append,List.length_singleton] at hi
   by_cases hlt:i < L.length
   ·rw [List.getElem_append_left hlt]; exact hL i hlt
   ·obtain rfl:i=L.length:=by omega
    rw [List.getElem_append_right (Nat.le_refl _)]
    simp only [Nat.sub_self,List.getElem_cons_zero]
    rw [hl]; exact hx
/-- the rows of a slice -/
theorem rows_of {W:World} {a:Addr} {m len c:Nat} {Q:List Value→Prop} (hc0:0 < c) (hi:∀ i,i < m→∃ cs',W.cells? 0 (a.add (i * c)) c=some cs'∧Q cs') (hl:len≤m) (h0:0 < len) :
 ∃ g off,a=⟨g,off,none⟩∧g < W.heap.size∧∀ i,i < len→∃ cs',Q cs'∧cs'.length=c∧∀ o,o < c→W.cell? ⟨g,off+i * c+o,none⟩=cs'[o]?:=by
 obtain ⟨g,off,spot⟩:=a
 have hone:∀ i,i < len→∃ cs',Q cs'∧cs'.length=c∧∀ o,o < c→W.cell? ((⟨g,off,spot⟩:Addr).add (i * c+o))=cs'[o]?:=by
  intro i hi'
  obtain ⟨cs',hc,hq⟩:=hi i (by omega)
  obtain ⟨_,hlen,hat⟩:=World.cells?_some hc
  refine ⟨cs',hq,hlen,fun o ho=>?_⟩
  rw [← add_add]
  exact hat o ho
 have hspot:spot=none:=by
  obtain ⟨cs',_,hlen,hc⟩:=hone 0 h0
  obtain ⟨v,hv⟩:∃ v,cs'[0]?=some v:=⟨cs'[0]'(by omega),List.getElem?_eq_getElem (by omega)⟩
  have:=World.cell?_spot ((hc 0 hc0).trans hv)
  simpa [Addr.add] using this
 subst hspot
 have hlt:g < W.heap.size:=by
  obtain ⟨cs',_,hlen,hc⟩:=hone 0 h0
  obtain ⟨v,hv⟩:∃ v,cs'[0]?=some v:=⟨cs'[0]'(by omega),List.getElem?_eq_getElem (by omega)⟩
  have:=World.block_lt_of_cell? W _ ((hc 0 hc0).trans hv)
  simpa [Addr.add] using this
 refine ⟨g,off,rfl,hlt,fun i hi'=>?_⟩
 obtain ⟨cs',hq,hlen,hc⟩:=hone i hi'
 refine ⟨cs',hq,hlen,fun o ho=>?_⟩
 have e:(⟨g,off,none⟩:Addr).add (i * c+o)=⟨g,off+(i * c+o),none⟩:=by unfold Addr.add; split <;> simp_all
 rw [← Nat.add_assoc] at e
 rw [← e]; exact hc o ho
section
variable {H:Type} {enc:TypeId × Value→H} {W:World} {held:Bool} {fuel:Nat}
theorem cellsB:Tryz.prog.cellsOf 5=1:=by kernel_rfl
theorem cellsI:Tryz.prog.cellsOf 3=1:=by kernel_rfl
theorem cellsStr:Tryz.prog.cellsOf 9=1:=by kernel_rfl
theorem cellsBs:Tryz.prog.cellsOf 26=1:=by kernel_rfl
theorem read_str {cs:List Value} {x:DataW H × List MemPlace} (h:DataW.trod enc Tryz.prog W 0 (fun _=>true) held fuel 9 cs=some x):∃ l:List UInt8,cs=[strV l]∧l.length≤maxLen:=by
 obtain ⟨s,rfl,_,hs⟩:=DataW.trod_string Tryz.underlying9 h
 refine ⟨s.data.toList,by cases s; simp,?_⟩
 have e:s.data.toList.length=s.size:=by rw [Array.length_toList]; rfl
 omega
set_option maxRecDepth 100000 in
theorem read_bytes {cs:List Value} {x:DataW H × List MemPlace} (h:DataW.trod enc Tryz.prog W 0 (fun _=>true) held fuel 26 cs=some x):∃ v l,cs=[v]∧RdB W W.heap.size v l:=by
 rcases open_slice Tryz.underlying26 h with ⟨rfl,_⟩ | ⟨a,len,cap,m,n,D,Pl,rfl,_,hl,hm,hmm,_,hi⟩
 ·exact ⟨_,[],rfl,Or.inl ⟨Or.inl rfl,rfl⟩⟩
 simp only [if_true] at hmm
 subst hmm
 rw [cellsB] at hi
 by_cases h0:len=0
 ·subst h0
  exact ⟨_,[],rfl,Or.inl ⟨Or.inr ⟨_,_,rfl⟩,rfl⟩⟩
 obtain ⟨g,off,rfl,hg,hr⟩:=rows_of (c:=1) (Q:=fun cs'=>∃ b:UInt8,cs'=[.int .u8 b.toNat]) (by decide) (fun i hi'=>by
  obtain ⟨cs',h1,h2⟩:=hi i hi'
  refine ⟨cs',h1,?_⟩
  obtain ⟨k,e,_,hw⟩:=DataW.trod_int Tryz.underlying5 h2
  have hb:=bounds_u8 hw
  refine ⟨UInt8.ofNat k.toNat,?_⟩
  have h3:((UInt8.ofNat k.toNat).toNat:Int)=k:=by rw [UInt8.toNat_ofNat']; omega
  rw [e,h3]) hl (by omega)
 obtain ⟨L,hL,hc⟩:=list_of (R:=fun i (b:UInt8)=>W.cell? ⟨g,off+i,none⟩=some (.int .u8 b.toNat)) len (fun i hi'=>by
  obtain ⟨cs',⟨b,rfl⟩,_,hcc⟩:=hr i hi'
  have:=hcc 0 (by omega)
  rw [Nat.mul_one,Nat.add_zero] at this
  exact ⟨b,this⟩)
 subst hL
 refine ⟨_,L,rfl,Or.inr ⟨g,off,_,rfl,hl,hm,hg,fun j hj=>?_⟩⟩
 rw [hc j hj]
 simp [List.getD_eq_getElem?_getD,hj]
theorem cellsTk:Tryz.prog.cellsOf 35=7:=by kernel_rfl
theorem cellsAc:Tryz.prog.cellsOf 37=13:=by kernel_rfl
theorem read_int {cs:List Value} {x:DataW H × List MemPlace} (h:DataW.trod enc Tryz.prog W 0 (fun _=>true) held fuel 3 cs=some x):∃ k,cs=[.int .i64 k]∧ -9223372036854775808≤k∧k≤9223372036854775807:=by
 obtain ⟨k,e,_,hw⟩:=DataW.trod_int Tryz.underlying3 h
 have hb:=bounds_i64 hw
 exact ⟨k,e,hb.1,hb.2⟩
set_option maxRecDepth 100000 in
theorem read_task {cs:List Value} {x:DataW H × List MemPlace} (h:DataW.trod enc Tryz.prog W 0 (fun _=>true) held fuel 35 cs=some x):∃ vb,∃ t:TaskP,cs=[strV t.cls,strV t.name,.int .i64 t.frm,.int .i64 t.due,.int .i64 t.late,.int .i64 t.tries,vb]∧RdB W W.heap.size vb t.body ∧
 (-9223372036854775808≤t.frm∧t.frm≤9223372036854775807)∧(-9223372036854775808≤t.due∧t.due≤9223372036854775807)∧(-9223372036854775808≤t.late∧t.late≤9223372036854775807)∧(-9223372036854775808≤t.tries∧t.tries≤9223372036854775807):=by
 obtain ⟨xs,n,rfl,rfl,hlen,hxl,hf⟩:=DataW.trod_struct Tryz.underlying35 h
 rw [cellsTk] at hlen
 match cs,hlen with
 | [c0,c1,c2,c3,c4,c5,c6],_=>
   match xs,hxl with
   | [y0,y1,y2,y3,y4,y5,y6],_=>
     have e0:=hf 0 _ rfl
     have e1:=hf 1 _ rfl
     have e2:=hf 2 _ rfl
     have e3:=hf 3 _ rfl
     have e4:=hf 4 _ rfl
     have e5:=hf 5 _ rfl
     have e6:=hf 6 _ rfl
     simp [cellsI,cellsStr,cellsBs] at e0 e1 e2 e3 e4 e5 e6
     obtain ⟨k0,q0,_⟩:=read_str e0
     obtain ⟨k1,q1,_⟩:=read_str e1
     obtain ⟨k2,q2,b2⟩:=read_int e2
     obtain ⟨k3,q3,b3⟩:=read_int e3
     obtain ⟨k4,q4,b4⟩:=read_int e4
     obtain ⟨k5,q5,b5⟩:=read_int e5
     obtain ⟨v,l,q6,hr⟩:=read_bytes e6
     simp only [List.cons.injEq,and_true] at q0 q1 q2 q3 q4 q5 q6
     subst q0 q1 q2 q3 q4 q5 q6
     exact ⟨_,⟨k0,k1,k2,k3,k4,k5,l⟩,rfl,hr,b2,b3,b4,b5⟩
set_option maxRecDepth 100000 in
theorem read_act {cs:List Value} {x:DataW H × List MemPlace} (h:DataW.trod enc Tryz.prog W 0 (fun _=>true) held fuel 37 cs=some x):∃ vb vt,∃ a:SActP,cs=actCells a vb vt∧RdB W W.heap.size vb a.task.body∧RdB W W.heap.size vt a.text∧a.Nums:=by
 obtain ⟨xs,n,rfl,rfl,hlen,hxl,hf⟩:=DataW.trod_struct Tryz.underlying37 h
 rw [cellsAc] at hlen
 match cs,hlen with
 | [c0,c1,c2,c3,c4,c5,c6,c7,c8,c9,c10,c11,c12],_=>
   match xs,hxl with
   | [y0,y1,y2,y3,y4,y5,y6],_=>
     have e0:=hf 0 _ rfl
     have e1:=hf 1 _ rfl
     have e2:=hf 2 _ rfl
     have e3:=hf 3 _ rfl
     have e4:=hf 4 _ rfl
     have e5:=hf 5 _ rfl
     have e6:=hf 6 _ rfl
     simp [cellsI,cellsStr,cellsBs,cellsTk] at e0 e1 e2 e3 e4 e5 e6
     obtain ⟨k0,q0,b0⟩:=read_int e0
     obtain ⟨k1,q1,_⟩:=read_str e1
     obtain ⟨k2,q2,_⟩:=read_str e2
     obtain ⟨vb,t,q3,hr3,b3,b4,b5,b6⟩:=read_task e3
     obtain ⟨k4,q4,c4⟩:=read_int e4
     obtain ⟨k5,q5,c5⟩:=read_int e5
     obtain ⟨vt,l,q6,hr6⟩:=read_bytes e6
     simp only [List.cons.injEq,and_true] at q0 q1 q2 q3 q4 q5 q6
     obtain ⟨rfl,rfl,rfl,rfl,rfl,rfl,rfl⟩:=q3
     subst q0 q1 q2 q4 q5 q6
     exact ⟨_,_,⟨k0,k1,k2,t,k4,k5,l⟩,rfl,hr3,hr6,⟨b0.1,b0.2,c4.1,c4.2,c5.1,c5.2,b3.1,b3.2,b4.1,b4.2,b5.1,b5.2,b6.1,b6.2⟩⟩
set_option maxRecDepth 100000 in
/-- a slice of acts -/
theorem open_acts {base:Nat} {v:Value} {d:DataW H} {ps:List MemPlace} (hval:Value.okWide Tryz.prog W .any base 22 v) (h:DataW.Trod enc Tryz.prog W 0 (fun _=>true) true 22 v d ps) :
 ∃ L:List SActP,SActsAt W W.heap.size v L∧∀ a ∈ L,a.Nums:=by
 obtain ⟨a0,len,cap,rfl⟩:=okWide_slice Tryz.underlying22 hval
 obtain ⟨fuel,hf⟩:=h
 rcases open_slice Tryz.underlying22 hf with ⟨hcs,_⟩ | ⟨a,len',cap',m,n,D,Pl,hcs,_,hl,hm,hmm,_,hi⟩
 ·simp [Value.cells] at hcs
  obtain ⟨rfl,rfl,rfl⟩:=hcs
  exact ⟨[],⟨none,0,rfl,Nat.le_refl _,Nat.zero_le _,Or.inl rfl⟩,fun s hs=>by cases hs⟩
 simp [Value.cells] at hcs
 obtain ⟨rfl,rfl,rfl⟩:=hcs
 simp only [if_true] at hmm
 subst hmm
 rw [cellsAc] at hi
 by_cases h0:len=0
 ·subst h0
  exact ⟨[],⟨_,_,rfl,Nat.zero_le _,hm,Or.inl rfl⟩,fun s hs=>by cases hs⟩
 obtain ⟨g,off,rfl,hg,hr⟩:=rows_of (c:=13) (Q:=fun cs'=>∃ vb vt,∃ a:SActP,cs'=actCells a vb vt∧RdB W W.heap.size vb a.task.body∧RdB W W.heap.size vt a.text∧a.Nums) (by decide) (fun i hi'=>by
  obtain ⟨cs',h1,h2⟩:=hi i hi'
  exact ⟨cs',h1,read_act h2⟩) hl (by omega)
 obtain ⟨L,hL,hc⟩:=list_of (R:=fun i (a:SActP)=>SActIn W W.heap.size g (off+i * 13) a∧a.Nums) len (fun i hi'=>by
  obtain ⟨cs',⟨vb,vt,a,rfl,h1,h2,h3⟩,_,hcc⟩:=hr i hi'
  exact ⟨a,⟨vb,vt,hcc,h1,h2⟩,h3⟩)
 subst hL
 refine ⟨L,⟨_,_,rfl,hl,hm,Or.inr ⟨g,off,rfl,hg,fun j hj=>(hc j hj).1⟩⟩,fun s hs=>?_⟩
 obtain ⟨i,hi',rfl⟩:=List.mem_iff_getElem.1 hs
 exact (hc i hi').2
end
end
end
section
section
open Go.ChangeShapes Go.WideShapes Go.ChangeAt Go.RowKit Go.Deep
set_option maxRecDepth 100000 in
/-- an act, handed by value -/
theorem open_act {H:Type} {enc:TypeId × Value→H} {W:World} {base:Nat} {v:Value} {d:DataW H} {ps:List MemPlace} (hval:Value.okWide Tryz.prog W .any base 37 v) (h:DataW.Trod enc Tryz.prog W 0 (fun _=>true) true 37 v d ps) :
 ∃ (a:SActP) (ab ax:Option Addr) (cb cx:Nat),v=actV a (.slice ab a.task.body.length cb) (.slice ax a.text.length cx)∧(RdB W W.heap.size (.slice ab a.task.body.length cb) a.task.body∧RdB W W.heap.size (.slice ax a.text.length cx) a.text)∧a.Nums:=by
 obtain ⟨cs,rfl,hsz⟩:=okWide_struct Tryz.underlying37 hval
 obtain ⟨fuel,hf⟩:=h
 obtain ⟨vb,vt,a,he,h1,h2,h3⟩:=read_act hf
 obtain ⟨ab,cb,rfl, -, -, -⟩:=h1.open_
 obtain ⟨ax,cx,rfl, -, -, -⟩:=h2.open_
 refine ⟨a,ab,ax,cb,cx,?_,⟨h1,h2⟩,h3⟩
 obtain ⟨l⟩:=cs
 have he:l=actCells a (.slice ab a.task.body.length cb) (.slice ax a.text.length cx):=by simpa [Value.cells] using he
 rw [he]; rfl
end
end
end Go.Proofs.YtbcfpdlhieaepaaGreatDoor
