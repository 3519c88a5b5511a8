/- SchoolAgain, walked. -/
import Derived.Test.YtbcfpdlhieaepaaGreatDoorN43
import Derived.Test.YtbcfpdlhieaepaaGreatDoorCards
import Derived.Test.YtbcfpdlhieaepaaGreatDoorTie
import Derived.Test.YtbcfpdlhieaepaaGreatDoorN02
import Derived.ProofKit
import Derived.OpenShut
import Derived.LaidMore
import Derived.Deep.DeepHandedRow
import Derived.Lib.LaidTab
import Derived.SizedLaws
import Derived.Deep.Slices
import Derived.Deep.Fields
import Derived.ChangeSame
import Derived.Test.YtbcfpdlhieaepaaGreatDoorN28
namespace Go.Proofs.YtbcfpdlhieaepaaGreatDoor
section
open Go.RowKit SeedP Go.Maps
set_option maxRecDepth 100000 in
set_option maxHeartbeats 8000000 in
theorem schoolAgain_walk (vl:Value) (L:List SActP) (w:World) (hs:St w) (hL:SActsAt w w.heap.size vl L) :
 Calls Tryz.prog 3 #[vl] w fun e w'=>e=.returned (.bool true)∧Below w.heap.size w w':=by
 have hun:undef=Value.tuple #[]:=rfl
 have HA:=Lib.hid (sawake_c w hs)
 have HL:=Lib.hid hL
 have HS:=Lib.hid hs
 obtain ⟨al,cl,rfl⟩:∃ a c,vl=.slice a L.length c:=by obtain ⟨a,c,e, -⟩:=hL; exact ⟨a,c,e⟩
 clear hL hs
 go_enter Tryz.func3,Tryz.ntmps3
 go_wp2_with fail
 refine HA.out.mono ?_
 rintro e w1 ⟨rfl,hb1⟩
 have HF:=Lib.hid (sfew_c (.slice al L.length cl) L w1 ((HL.out.below hb1).raise hb1.size))
 have HB1:=Lib.hid hb1
 clear HA hb1
 go_wp2_with fail
 refine HF.out.mono ?_
 rintro e w2 ⟨⟨b,rfl,hb⟩,hb2⟩
 have HB2:=Lib.hid (HB1.out.trans (hb2.mono HB1.out.size))
 clear HF hb2 HB1
 cases b with
 | false=>
   clear hb
   go_wp2
   go_ret
   exact ⟨rfl,HB2.out⟩
 | true=>
   obtain ⟨hn,hsm⟩:=hb rfl
   have HSM:=Lib.hid hsm
   clear hb hsm
   have HS2:=Lib.hid (HS.out.below HB2.out HS.out.pos)
   have hD:=Lib.hid (DX.new w2 HS2.out (-1))
   have hB:=Lib.hid ((Below.refl w2.heap.size w2).alloc (Nat.le_refl _) (.cells #[.int .i64 (-1),.slice none 0 0,.slice none 0 0] 29))
   have HB3:=Lib.hid (HB2.out.trans (hB.out.mono HB2.out.size))
   have hle:=HB2.out.size
   go_upto_region 6 with (fail)
   obtain ⟨n0,hn0⟩:∃ n,w2.heap.size=n:=⟨_,rfl⟩
   rw [hn0] at hD hle ⊢
   generalize w2.alloc (.cells #[.int .i64 (-1),.slice none 0 0,.slice none 0 0] 29)=w3 at *
   clear hn0 hB HB2 HS2 HS
   go_wp2_with fail
   refine (open_x hD.out ok0 sch0).mono ?_
   rintro e w4 ⟨⟨sb,jb,mb,rfl, -, -, -,hX⟩,hb4⟩
   have HB4:=Lib.hid (HB3.out.trans (hb4.mono HB3.out.size))
   have HX0:=Lib.hid hX
   have HF0:=Lib.hid at0.full
   clear hX hb4 HB3 hD
   generalize jOpen ⟨-1,[],[]⟩=s0 at *
   go_wp2
   go_loopw [6] (fun iv wr=>∃ (i:Nat) (s:JS),i≤L.length∧iv=.int .i64 i∧SX n0 wr sb n0 jb mb s∧SFull s (2 * i)∧Below w.heap.size w wr) (fun i _=>L.length - (intOf i).toNat)
   case atStart=>exact ⟨0,s0,Nat.zero_le _,rfl,HX0.out,HF0.out,HB4.out⟩
   case round=>
    obtain ⟨i,s,hi,rfl,hX,hF,hB⟩:=hrel
    clear HX0 HF0 HB4
    have HX:=Lib.hid hX
    have HF:=Lib.hid hF
    have HB:=Lib.hid hB
    clear hX hF hB
    by_cases hlt:i < L.length
    ·have b1:decide ((i:Int) < (L.length:Int))=true:=decide_eq_true (by omega)
     have b2:(i:Int) < (L.length:Int):=by omega
     obtain ⟨g,off,cap,ab,cb,ax,cx,e0,⟨c0,c1,c2,c3,c4,c5,c6,c7,c8,c9,c10,c11,c12⟩,hr1,hr2⟩:=HL.out.get HB.out hlt
     simp only [Value.slice.injEq,true_and] at e0
     obtain ⟨rfl,rfl⟩:=e0
     have HSA:=Lib.hid (HSM.out _ (List.getElem_mem hlt))
     generalize L[i]=a at *
     have HR1:=Lib.hid hr1
     have HR2:=Lib.hid hr2
     have hlt2:=Lib.hid hlt
     clear hr1 hr2 hlt
     go_upto_region 13 with (fail)
     have HY:=Lib.hid (Blk.new wr 37 (actCells a (.slice ab a.task.body.length cb) (.slice ax a.text.length cx)))
     have HBa:=Lib.hid ((Below.refl wr.heap.size wr).alloc (Nat.le_refl _) (.cells #[.int .i64 a.kind,strV a.cls,strV a.stu,strV a.task.cls,strV a.task.name,.int .i64 a.task.frm,.int .i64 a.task.due,.int .i64 a.task.late,.int .i64 a.task.tries,.slice ab a.task.body.length cb,.int .i64 a.id,.int .i64 a.n,.slice ax a.text.length cx] 37))
     change Code.wp _ _ _ _ (wr.alloc (.cells #[.int .i64 a.kind,strV a.cls,strV a.stu,strV a.task.cls,strV a.task.name,.int .i64 a.task.frm,.int .i64 a.task.due,.int .i64 a.task.late,.int .i64 a.task.tries,.slice ab a.task.body.length cb,.int .i64 a.id,.int .i64 a.n,.slice ax a.text.length cx] 37))
     have HX1:=Lib.hid (HX.out.below HBa.out)
     have HB1:=Lib.hid (HB.out.trans (HBa.out.mono HB.out.size))
     have HNJ:Hid (¬ Sj jb n0 mb wr.heap.size):=Lib.hid (fun h=>by have:=(HX.out.sj _ h).2; omega)
     change Hid (Blk (wr.alloc (.cells #[.int .i64 a.kind,strV a.cls,strV a.stu,strV a.task.cls,strV a.task.name,.int .i64 a.task.frm,.int .i64 a.task.due,.int .i64 a.task.late,.int .i64 a.task.tries,.slice ab a.task.body.length cb,.int .i64 a.id,.int .i64 a.n,.slice ax a.text.length cx] 37)) _ _ _) at HY
     generalize wr.alloc (.cells #[.int .i64 a.kind,strV a.cls,strV a.stu,strV a.task.cls,strV a.task.name,.int .i64 a.task.frm,.int .i64 a.task.due,.int .i64 a.task.late,.int .i64 a.task.tries,.slice ab a.task.body.length cb,.int .i64 a.id,.int .i64 a.n,.slice ax a.text.length cx] 37)=wa at *
     generalize wr.heap.size=ga at *
     clear HX HB HBa c0 c1 c2 c3 c4 c5 c6 c7 c8 c9 c10 c11 c12
     have HC:=Lib.hid (act_x a ab ax cb cx HX1.out HF.out.sok (HR1.out.later HB1.out) (HR2.out.later HB1.out) (by have:=HSA.out.body; omega) (by have:=HSA.out.text; omega))
     have HF1:=Lib.hid (((HF.out.do_ (by have:=hlt2.out; have:=hn; omega) a).1).full HF.out)
     have HAG:=Lib.hid (fun (t:JS) (e0:(doP a s).2.2=0) (hd:t.down=false) (he:t.c.ents=(doP a s).1.c.ents)=>again HF.out (by have:=hlt2.out; have:=hn; omega) e0 hd he)
     generalize (doP a s).1=s1 at *
     generalize (doP a s).2.1=n1 at *
     generalize (doP a s).2.2=e1 at *
     obtain ⟨y0,y1,y2,y3,y4,y5,y6,y7,y8,y9,y10,y11,y12⟩:=actBlk HY.out
     go_wp2_with fail
     refine HC.out.mono ?_
     rintro e w5 ⟨rfl,hA⟩
     clear y0 y1 y2 y3 y4 y5 y6 y7 y8 y9 y10 y11 y12 HC
     have HX2:=Lib.hid hA.sx
     have HY2:=Lib.hid (HY.out.grown hA.gr HNJ.out)
     have HB2:=Lib.hid (HB1.out.trans (hA.bl.mono hle))
     clear hA HY HX1 HB1 HNJ HF
     obtain ⟨f0,k0,f1,k1,d0,d1,d2,q0,q1, -⟩:=HX2.out.dx.cells
     have hcp:=Lib.hid (copies_x HX2.out.st q0 q1 HF1.out.reopen.1)
     clear q0 q1
     have HW:=Lib.hid (Below.refl w5.heap.size w5)
     generalize s1.d.f0.length=l0 at *
     generalize s1.d.f1.length=l1 at *
     go_wp2_with fail
     refine hcp.out.mono ?_
     rintro e w6 ⟨⟨db2,rfl, -,hD⟩,hb⟩
     have HW:=Lib.hid (HW.out.trans (hb.mono HW.out.size))
     clear hcp d0 d1 d2 hb
     have HO:=Lib.hid (open_x hD HF1.out.reopen.1 HF1.out.reopen.2.1)
     clear hD
     go_wp2_with fail
     refine HO.out.mono ?_
     rintro e w7 ⟨⟨sb2,jb2,mb2,rfl, -, -, -,hT⟩,hb⟩
     have HW:=Lib.hid (HW.out.trans (hb.mono HW.out.size))
     have HT:=Lib.hid hT
     have HFT:=Lib.hid HF1.out.reopen.2.2.1
     have HE:=Lib.hid HF1.out.reopen.2.2.2
     clear hb hT HO
     generalize jOpen s1.d=t at *
     have HSS:=Lib.hid (same_ents HF1.out.live.up HFT.out.live.up HE.out)
     have HY3:=Lib.hid (HY2.out.below HW.out)
     have HX3:=Lib.hid (HX2.out.below HW.out)
     have HS17:=Lib.hid (fun W (h:Below w7.heap.size w7 W) x (hx:x=sb∨x=sb2)=>ask17 HX3.out HT.out HSS.out h hx)
     have HS18:=Lib.hid (fun W (h:Below w7.heap.size w7 W) x (hx:x=sb∨x=sb2)=>ask18 HX3.out HT.out HSS.out a.cls h hx)
     have HS20:=Lib.hid (fun W (h:Below w7.heap.size w7 W) x (hx:x=sb∨x=sb2)=>ask20 HX3.out HT.out HSS.out a.cls h hx)
     have HS21:=Lib.hid (fun W (h:Below w7.heap.size w7 W) x (hx:x=sb∨x=sb2)=>ask21 HX3.out HT.out HSS.out HF1.out.sok HFT.out.sok a.id a.stu h hx)
     have HS22:=Lib.hid (fun W (h:Below w7.heap.size w7 W) x (hx:x=sb∨x=sb2)=>ask22 HX3.out HT.out HSS.out HF1.out.sok HFT.out.sok a.id a.stu h hx)
     have HV17:=Lib.hid (classes_len HF1.out.live)
     have HV18:=Lib.hid (students_len HF1.out.live a.cls)
     have HV20:=Lib.hid (tasks_len HF1.out.live a.cls)
     generalize s1.classesP=L17 at *
     generalize s1.studentsP a.cls=L18 at *
     generalize s1.tasksP a.cls=L20 at *
     generalize s1.extP a.id a.stu=x21 at *
     generalize (s1.attsP a.id a.stu).length=n22 at *
     have bx:(x21 != x21)=false:=by simp
     have bl:((n22:Int) != (n22:Int))=false:=by simp
     have hB:Below w7.heap.size w7 w7:=Below.refl _ _
     obtain ⟨y0,y1,y2,y3,y4,y5,y6,y7,y8,y9,y10,y11,y12⟩:=actBlk HY3.out
     clear y0 y3 y4 y5 y6 y7 y8 y9 y11 y12
     go_upto_region 15 with (fail)
     dsimp only [List.append]
     go_region_held3 (fun w'=>w'.cell? ⟨ga,1,none⟩=some (strV a.cls)∧w'.cell? ⟨ga,2,none⟩=some (strV a.stu)∧w'.cell? ⟨ga,10,none⟩=some (.int .i64 a.id))
      (exact ⟨y1,y2,y10⟩)
      (first
       | (go_at_call 17; go_must (refine (HS17.out _ (by first | exact hB | exact hB.drew) _ (by first | exact Or.inl rfl | exact Or.inr rfl)).mono ?_); go_must (rintro e w8 ⟨⟨v,rfl,hv⟩,hb⟩); go_must (have y1:=keep_cell hb y1); go_must (have y2:=keep_cell hb y2); go_must (have y10:=keep_cell hb y10); go_must (have hB:Below w7.heap.size w7 w8:=(by first | exact hB.trans (hb.mono hB.size) | exact hB.trans ((undrew hb).mono hB.size))); go_must ((try (have HP17:=Lib.hid (HQ17.out.below hb)))); go_must (have HQ17:=Lib.hid hv); go_must (clear hv); go_must (clear hb))
       | (go_at_call 18; go_must (refine (HS18.out _ (by first | exact hB | exact hB.drew) _ (by first | exact Or.inl rfl | exact Or.inr rfl)).mono ?_); go_must (rintro e w8 ⟨⟨v,rfl,hv⟩,hb⟩); go_must (have y1:=keep_cell hb y1); go_must (have y2:=keep_cell hb y2); go_must (have y10:=keep_cell hb y10); go_must (have hB:Below w7.heap.size w7 w8:=(by first | exact hB.trans (hb.mono hB.size) | exact hB.trans ((undrew hb).mono hB.size))); go_must ((try (have HP18:=Lib.hid (HQ18.out.below hb)))); go_must (have HQ18:=Lib.hid hv); go_must (clear hv); go_must (clear hb))
       | (go_at_call 20; go_must (refine (HS20.out _ (by first | exact hB | exact hB.drew) _ (by first | exact Or.inl rfl | exact Or.inr rfl)).mono ?_); go_must (rintro e w8 ⟨⟨v,rfl,hv⟩,hb⟩); go_must (have y1:=keep_cell hb y1); go_must (have y2:=keep_cell hb y2); go_must (have y10:=keep_cell hb y10); go_must (have hB:Below w7.heap.size w7 w8:=(by first | exact hB.trans (hb.mono hB.size) | exact hB.trans ((undrew hb).mono hB.size))); go_must ((try (have HP20:=Lib.hid (HQ20.out.below hb)))); go_must (have HQ20:=Lib.hid hv); go_must (clear hv); go_must (clear hb))
       | (go_at_call 21; go_must (refine (HS21.out _ (by first | exact hB | exact hB.drew) _ (by first | exact Or.inl rfl | exact Or.inr rfl)).mono ?_); go_must (rintro e w8 ⟨rfl,hb⟩); go_must (have y1:=keep_cell hb y1); go_must (have y2:=keep_cell hb y2); go_must (have y10:=keep_cell hb y10); go_must (have hB:Below w7.heap.size w7 w8:=(by first | exact hB.trans (hb.mono hB.size) | exact hB.trans ((undrew hb).mono hB.size))); go_must (clear hb))
       | (go_at_call 22; go_must (refine (HS22.out _ (by first | exact hB | exact hB.drew) _ (by first | exact Or.inl rfl | exact Or.inr rfl)).mono ?_); go_must (rintro e w8 ⟨⟨a7,c7,rfl⟩,hb⟩); go_must (have y1:=keep_cell hb y1); go_must (have y2:=keep_cell hb y2); go_must (have y10:=keep_cell hb y10); go_must (have hB:Below w7.heap.size w7 w8:=(by first | exact hB.trans (hb.mono hB.size) | exact hB.trans ((undrew hb).mono hB.size))); go_must (clear hb))
       | (go_at_call 16; refine (sameT_c _ _ _ _ HP17.out HQ17.out HV17.out).mono ?_; go_must (rintro e w8 ⟨rfl,hb⟩); go_must (have y1:=keep_cell hb y1); go_must (have y2:=keep_cell hb y2); go_must (have y10:=keep_cell hb y10); go_must (have hB:Below w7.heap.size w7 w8:=(by first | exact hB.trans (hb.mono hB.size) | exact hB.trans ((undrew hb).mono hB.size))); go_must (clear hb HP17 HQ17))
       | (go_at_call 16; refine (sameT_c _ _ _ _ HP18.out HQ18.out HV18.out).mono ?_; go_must (rintro e w8 ⟨rfl,hb⟩); go_must (have y1:=keep_cell hb y1); go_must (have y2:=keep_cell hb y2); go_must (have y10:=keep_cell hb y10); go_must (have hB:Below w7.heap.size w7 w8:=(by first | exact hB.trans (hb.mono hB.size) | exact hB.trans ((undrew hb).mono hB.size))); go_must (clear hb HP18 HQ18))
       | (go_at_call 19; refine (sameN_c _ _ _ _ HP20.out HQ20.out HV20.out).mono ?_; go_must (rintro e w8 ⟨rfl,hb⟩); go_must (have y1:=keep_cell hb y1); go_must (have y2:=keep_cell hb y2); go_must (have y10:=keep_cell hb y10); go_must (have hB:Below w7.heap.size w7 w8:=(by first | exact hB.trans (hb.mono hB.size) | exact hB.trans ((undrew hb).mono hB.size))); go_must (clear hb HP20 HQ20)))
     have HX8:=Lib.hid (HX3.out.below hB)
     have HW8:=Lib.hid (HW.out.trans (hB.mono HW.out.size))
     have HB8:=Lib.hid (HB2.out.trans (HW8.out.mono HB2.out.size))
     have HT8:=Lib.hid (HT.out.below hB)
     have HY8:=Lib.hid (HY3.out.below hB)
     clear hB y1 y2 y10 HY3 HY2 HX3 HT HW
     go_upto_region 17 with (fail)
     by_cases he1:e1=0
     ·subst he1
      have HG:=Lib.hid (HAG.out t rfl HFT.out.live.up HE.out)
      have HP:=Lib.hid (fun W=>pick_c a.kind 10 W (by omega) (by omega))
      have hk0:0≤a.kind % 10:=Int.emod_nonneg _ (by omega)
      have hk1:a.kind % 10 < 10:=Int.emod_lt_of_pos _ (by omega)
      have HA2:=Lib.hid (act_x a ab ax cb cx HT8.out HFT.out.sok (HR1.out.later HB8.out) (HR2.out.later HB8.out) (by have:=HSA.out.body; omega) (by have:=HSA.out.text; omega))
      generalize (doP a t).2.2=e2 at *
      generalize (doP a t).2.1=n2 at *
      generalize (doP a t).1=t2 at *
      generalize a.kind % 10=k at *
      obtain ⟨y0,y1,y2,y3,y4,y5,y6,y7,y8,y9,y10,y11,y12⟩:=actBlk HY8.out
      go_wp2_with fail
      refine (HP.out _).mono ?_
      rintro e w9 ⟨rfl,rfl⟩
      clear HP HAG
      by_cases h0:k=0
      ·obtain rfl:e2=371:=HG.out.1 (Or.inl h0)
       subst h0
       clear HG
       go_wp2_with fail
       refine HA2.out.mono ?_
       rintro e w10 ⟨rfl,hA⟩
       go_wp2
       go_roundw
       case rel=>exact ⟨i+1,s1,hlt2.out,by go_num,HX2.out.below (HW8.out.trans hA.bl),HF1.out,HB2.out.trans ((HW8.out.trans hA.bl).mono HB2.out.size)⟩
       case measure=>have:=hlt2.out; simp [intOf]; omega
      by_cases h1:k=1
      ·obtain rfl:e2=371:=HG.out.1 (Or.inr h1)
       subst h1
       clear HG h0
       go_wp2_with fail
       refine HA2.out.mono ?_
       rintro e w10 ⟨rfl,hA⟩
       go_wp2
       go_roundw
       case rel=>exact ⟨i+1,s1,hlt2.out,by go_num,HX2.out.below (HW8.out.trans hA.bl),HF1.out,HB2.out.trans ((HW8.out.trans hA.bl).mono HB2.out.size)⟩
       case measure=>have:=hlt2.out; simp [intOf]; omega
      by_cases h2:k=2
      ·obtain rfl:e2=6:=HG.out.2 h2
       subst h2
       clear HG h0 h1
       go_wp2_with fail
       refine HA2.out.mono ?_
       rintro e w10 ⟨rfl,hA⟩
       go_wp2
       go_roundw
       case rel=>exact ⟨i+1,s1,hlt2.out,by go_num,HX2.out.below (HW8.out.trans hA.bl),HF1.out,HB2.out.trans ((HW8.out.trans hA.bl).mono HB2.out.size)⟩
       case measure=>have:=hlt2.out; simp [intOf]; omega
      have q0:(k == 0)=false:=by simpa using h0
      have q1:(k == 1)=false:=by simpa using h1
      have q2:(k == 2)=false:=by simpa using h2
      clear h0 h1 h2 HG HA2
      go_wp2
      go_roundw
      case rel=>exact ⟨i+1,s1,hlt2.out,by go_num,HX8.out,HF1.out,HB8.out⟩
      case measure=>have:=hlt2.out; simp [intOf]; omega
     ·have q0:(e1 != 0)=true:=by simpa using he1
      clear he1 HAG
      go_wp2
      go_roundw
      case rel=>exact ⟨i+1,s1,hlt2.out,by go_num,HX8.out,HF1.out,HB8.out⟩
      case measure=>have:=hlt2.out; simp [intOf]; omega
    ·obtain rfl:i=L.length:=by omega
     have b1:decide ((L.length:Int) < (L.length:Int))=false:=by simp
     go_wp2
     go_ret
     exact ⟨rfl,HB.out⟩
end
section
section
open Go.ChangeShapes Go.WideShapes Go.ChangeAt Go.RowKit
theorem own:ownKnob Tryz.prog.godebug=none:=by kernel_rfl
theorem laidOut:laidOutB Tryz.prog=true:=by kernel_rfl
theorem gS:Tryz.prog.globalNamed "lyceum/seed.steps"=some 0:=by kernel_rfl
theorem tS:(Tryz.prog.globals[0]?).map (·.type)=some 231:=by kernel_rfl
theorem cellsA:Tryz.prog.cellsOf 231=6:=by kernel_rfl
theorem cellsS:Tryz.prog.cellsOf 230=2:=by kernel_rfl
theorem cellsU:Tryz.prog.cellsOf 142=1:=by kernel_rfl
theorem cellsW:Tryz.prog.cellsOf 99=1:=by kernel_rfl
/-- one step of mixing, read -/
theorem step_read {W:World} {H:Type} {enc:TypeId × Value→H} {base:Nat} {sp:Nat→Bool} {held:Bool} {fuel:Nat} {a b:Value} {x y:Int} {q:List MemPlace}
 (h:DataW.trod enc Tryz.prog W base sp held fuel 230 [a,b]=some (.agg [.lit (.int .u64 x),.lit (.int .u64 y)],q)):a=.int .u64 x∧b=.int .u64 y:=by
 obtain ⟨y0,y1,n,hx,_,h0,h1⟩:=trod_struct2 Tryz.underlying230 h
 simp only [cellsU,cellsW,List.drop_zero,List.take_succ_cons,List.take_zero,List.drop_succ_cons] at h0 h1
 obtain ⟨k0,e0,r0,_⟩:=DataW.trod_int Tryz.underlying142 h0
 obtain ⟨k1,e1,r1,_⟩:=DataW.trod_int Tryz.underlying99 h1
 subst r0 r1
 simp only [Prod.mk.injEq,DataW.agg.injEq,List.cons.injEq,DataW.lit.injEq,Lit.int.injEq,true_and,and_true] at hx
 obtain ⟨⟨rfl,rfl⟩,_⟩:=hx
 simp only [List.cons.injEq,and_true] at e0 e1
 exact ⟨e0,e1⟩
set_option maxRecDepth 100000 in
theorem steps_of_laid {W:World} (h:laidMetH Tryz.prog [("lyceum/seed.steps",Rows.laid_lyceum_seed_steps)] W):St W:=by
 rw [MakeChecks.laidMetH_plain _ _ _ (by kernel_rfl)] at h
 obtain ⟨ps,⟨g0,t0,cs0,f0,p0,q0,hg0,ht0,hv0,hd0,_,_⟩,_,_⟩:=h
 obtain rfl:=Option.some.inj (gS.symm.trans hg0)
 obtain rfl:=Option.some.inj (tS.symm.trans ht0)
 obtain ⟨xs,m,rfl,hx,hlen,hn3,hel⟩:=DataW.trod_array Tryz.underlying231 hd0
 rw [cellsA] at hlen
 have hc:∀ i,W.cell? ⟨0,i,none⟩=cs0[i]?:=fun i=>World.var?_cell gS hv0 i
 obtain ⟨l⟩:=cs0
 match l,hlen with
 | [a0,a1,a2,a3,a4,a5],_=>
   match xs,hn3 with
   | [x0,x1,x2],_=>
     have e0:=hel 0 (by decide)
     have e1:=hel 1 (by decide)
     have e2:=hel 2 (by decide)
     simp [cellsS] at e0 e1 e2
     unfold Rows.laid_lyceum_seed_steps at hx
     simp only [Prod.mk.injEq,DataW.agg.injEq,List.map_cons,List.map_nil,List.cons.injEq,and_true] at hx
     obtain ⟨⟨r0,r1,r2⟩,_⟩:=hx
     obtain ⟨d0,q0⟩:=x0
     obtain ⟨d1,q1⟩:=x1
     obtain ⟨d2,q2⟩:=x2
     simp only at r0 r1 r2
     subst r0 r1 r2
     obtain ⟨rfl,rfl⟩:=step_read e0
     obtain ⟨rfl,rfl⟩:=step_read e1
     obtain ⟨rfl,rfl⟩:=step_read e2
     exact ⟨hc 0,hc 1,hc 2,hc 3,hc 4,hc 5⟩
/-- A WORLD FOR THE WITNESS: the settled one, the steps (block 0) holding what their initialiser lays. -/
noncomputable def laidWorld (os:Os):World:=
 { World.holding Tryz.prog os ⟨#[],#[],[]⟩ with heap:=(World.holding Tryz.prog os ⟨#[],#[],[]⟩).heap.modify 0 fun
  | .cells _ t frozen=>.cells #[.int .u64 30,.int .u64 13787848793156543929,.int .u64 27,.int .u64 10723151780598845931,.int .u64 31,.int .u64 1] t frozen
  | o=>o }
theorem laid_met (os:Os) (args:Array Value):laidMet Tryz.prog [("lyceum/seed.steps",Rows.laid_lyceum_seed_steps)] ((laidWorld os).forCall (fun _ _=>0) ⟨#[],args,[]⟩).memory:=
 laidMet_of_run' 8 (by kernel_rfl) (by kernel_rfl)
end
end
section
section
open Go.ChangeShapes Go.WideShapes Go.ChangeAt Go.RowKit Go.Deep
theorem list_of {α:Type} {R:Nat→α→Prop}:∀ n,(∀ i,i < n→∃ x,R i x)→∃ L:List α,L.length=n∧∀ i (h:i < L.length),R i L[i]
 | 0,_=>⟨[],rfl,fun i h=>by simp at h⟩
 | n+1,h=>by
   obtain ⟨L,hl,hL⟩:=list_of n (fun i hi=>h i (by omega))
   obtain ⟨x,hx⟩:=h n (by omega)
   refine ⟨L ++ [x],by simp [hl],fun i hi=>?_⟩
   rw [List.length_append,List.length_singleton] at hi
   by_cases hlt:i < L.length
   ·rw [List.getElem_append_left hlt]; exact hL i hlt
   ·obtain rfl:i=L.length:=by omega
    rw [List.getElem_append_right (Nat.le_refl _)]
    simp only [Nat.sub_self,List.getElem_cons_zero]
    rw [hl]; exact hx
/-- the rows of a slice -/
theorem rows_of {W:World} {a:Addr} {m len c:Nat} {Q:List Value→Prop} (hc0:0 < c) (hi:∀ i,i < m→∃ cs',W.cells? 0 (a.add (i * c)) c=some cs'∧Q cs') (hl:len≤m) (h0:0 < len) :
 ∃ g off,a=⟨g,off,none⟩∧g < W.heap.size∧∀ i,i < len→∃ cs',Q cs'∧cs'.length=c∧∀ o,o < c→W.cell? ⟨g,off+i * c+o,none⟩=cs'[o]?:=by
 obtain ⟨g,off,spot⟩:=a
 have hone:∀ i,i < len→∃ cs',Q cs'∧cs'.length=c∧∀ o,o < c→W.cell? ((⟨g,off,spot⟩:Addr).add (i * c+o))=cs'[o]?:=by
  intro i hi'
  obtain ⟨cs',hc,hq⟩:=hi i (by omega)
  obtain ⟨_,hlen,hat⟩:=World.cells?_some hc
  refine ⟨cs',hq,hlen,fun o ho=>?_⟩
  rw [← add_add]
  exact hat o ho
 have hspot:spot=none:=by
  obtain ⟨cs',_,hlen,hc⟩:=hone 0 h0
  obtain ⟨v,hv⟩:∃ v,cs'[0]?=some v:=⟨cs'[0]'(by omega),List.getElem?_eq_getElem (by omega)⟩
  have:=World.cell?_spot ((hc 0 hc0).trans hv)
  simpa [Addr.add] using this
 subst hspot
 have hlt:g < W.heap.size:=by
  obtain ⟨cs',_,hlen,hc⟩:=hone 0 h0
  obtain ⟨v,hv⟩:∃ v,cs'[0]?=some v:=⟨cs'[0]'(by omega),List.getElem?_eq_getElem (by omega)⟩
  have:=World.block_lt_of_cell? W _ ((hc 0 hc0).trans hv)
  simpa [Addr.add] using this
 refine ⟨g,off,rfl,hlt,fun i hi'=>?_⟩
 obtain ⟨cs',hq,hlen,hc⟩:=hone i hi'
 refine ⟨cs',hq,hlen,fun o ho=>?_⟩
 have e:(⟨g,off,none⟩:Addr).add (i * c+o)=⟨g,off+(i * c+o),none⟩:=by unfold Addr.add; split <;> simp_all
 rw [← Nat.add_assoc] at e
 rw [← e]; exact hc o ho
section
variable {H:Type} {enc:TypeId × Value→H} {W:World} {held:Bool} {fuel:Nat}
theorem cellsB:Tryz.prog.cellsOf 5=1:=by kernel_rfl
theorem cellsI:Tryz.prog.cellsOf 3=1:=by kernel_rfl
theorem cellsStr:Tryz.prog.cellsOf 9=1:=by kernel_rfl
theorem cellsBs:Tryz.prog.cellsOf 26=1:=by kernel_rfl
theorem read_str {cs:List Value} {x:DataW H × List MemPlace} (h:DataW.trod enc Tryz.prog W 0 (fun _=>true) held fuel 9 cs=some x):∃ l:List UInt8,cs=[strV l]∧l.length≤maxLen:=by
 obtain ⟨s,rfl,_,hs⟩:=DataW.trod_string Tryz.underlying9 h
 refine ⟨s.data.toList,by cases s; simp,?_⟩
 have e:s.data.toList.length=s.size:=by rw [Array.length_toList]; rfl
 omega
set_option maxRecDepth 100000 in
theorem read_bytes {cs:List Value} {x:DataW H × List MemPlace} (h:DataW.trod enc Tryz.prog W 0 (fun _=>true) held fuel 26 cs=some x):∃ v l,cs=[v]∧RdB W W.heap.size v l:=by
 rcases open_slice Tryz.underlying26 h with ⟨rfl,_⟩ | ⟨a,len,cap,m,n,D,Pl,rfl,_,hl,hm,hmm,_,hi⟩
 ·exact ⟨_,[],rfl,Or.inl ⟨Or.inl rfl,rfl⟩⟩
 simp only [if_true] at hmm
 subst hmm
 rw [cellsB] at hi
 by_cases h0:len=0
 ·subst h0
  exact ⟨_,[],rfl,Or.inl ⟨Or.inr ⟨_,_,rfl⟩,rfl⟩⟩
 obtain ⟨g,off,rfl,hg,hr⟩:=rows_of (c:=1) (Q:=fun cs'=>∃ b:UInt8,cs'=[.int .u8 b.toNat]) (by decide) (fun i hi'=>by
  obtain ⟨cs',h1,h2⟩:=hi i hi'
  refine ⟨cs',h1,?_⟩
  obtain ⟨k,e,_,hw⟩:=DataW.trod_int Tryz.underlying5 h2
  have hb:=bounds_u8 hw
  refine ⟨UInt8.ofNat k.toNat,?_⟩
  have h3:((UInt8.ofNat k.toNat).toNat:Int)=k:=by rw [UInt8.toNat_ofNat']; omega
  rw [e,h3]) hl (by omega)
 obtain ⟨L,hL,hc⟩:=list_of (R:=fun i (b:UInt8)=>W.cell? ⟨g,off+i,none⟩=some (.int .u8 b.toNat)) len (fun i hi'=>by
  obtain ⟨cs',⟨b,rfl⟩,_,hcc⟩:=hr i hi'
  have:=hcc 0 (by omega)
  rw [Nat.mul_one,Nat.add_zero] at this
  exact ⟨b,this⟩)
 subst hL
 refine ⟨_,L,rfl,Or.inr ⟨g,off,_,rfl,hl,hm,hg,fun j hj=>?_⟩⟩
 rw [hc j hj]
 simp [List.getD_eq_getElem?_getD,hj]
theorem cellsTk:Tryz.prog.cellsOf 35=7:=by kernel_rfl
theorem cellsAc:Tryz.prog.cellsOf 37=13:=by kernel_rfl
theorem read_int {cs:List Value} {x:DataW H × List MemPlace} (h:DataW.trod enc Tryz.prog W 0 (fun _=>true) held fuel 3 cs=some x):∃ k,cs=[.int .i64 k]∧ -9223372036854775808≤k∧k≤9223372036854775807:=by
 obtain ⟨k,e,_,hw⟩:=DataW.trod_int Tryz.underlying3 h
 have hb:=bounds_i64 hw
 exact ⟨k,e,hb.1,hb.2⟩
set_option maxRecDepth 100000 in
theorem read_task {cs:List Value} {x:DataW H × List MemPlace} (h:DataW.trod enc Tryz.prog W 0 (fun _=>true) held fuel 35 cs=some x):∃ vb,∃ t:TaskP,cs=[strV t.cls,strV t.name,.int .i64 t.frm,.int .i64 t.due,.int .i64 t.late,.int .i64 t.tries,vb]∧RdB W W.heap.size vb t.body ∧
 (-9223372036854775808≤t.frm∧t.frm≤9223372036854775807)∧(-9223372036854775808≤t.due∧t.due≤9223372036854775807)∧(-9223372036854775808≤t.late∧t.late≤9223372036854775807)∧(-9223372036854775808≤t.tries∧t.tries≤9223372036854775807):=by
 obtain ⟨xs,n,rfl,rfl,hlen,hxl,hf⟩:=DataW.trod_struct Tryz.underlying35 h
 rw [cellsTk] at hlen
 match cs,hlen with
 | [c0,c1,c2,c3,c4,c5,c6],_=>
   match xs,hxl with
   | [y0,y1,y2,y3,y4,y5,y6],_=>
     have e0:=hf 0 _ rfl
     have e1:=hf 1 _ rfl
     have e2:=hf 2 _ rfl
     have e3:=hf 3 _ rfl
     have e4:=hf 4 _ rfl
     have e5:=hf 5 _ rfl
     have e6:=hf 6 _ rfl
     simp [cellsI,cellsStr,cellsBs] at e0 e1 e2 e3 e4 e5 e6
     obtain ⟨k0,q0,_⟩:=read_str e0
     obtain ⟨k1,q1,_⟩:=read_str e1
     obtain ⟨k2,q2,b2⟩:=read_int e2
     obtain ⟨k3,q3,b3⟩:=read_int e3
     obtain ⟨k4,q4,b4⟩:=read_int e4
     obtain ⟨k5,q5,b5⟩:=read_int e5
     obtain ⟨v,l,q6,hr⟩:=read_bytes e6
     simp only [List.cons.injEq,and_true] at q0 q1 q2 q3 q4 q5 q6
     subst q0 q1 q2 q3 q4 q5 q6
     exact ⟨_,⟨k0,k1,k2,k3,k4,k5,l⟩,rfl,hr,b2,b3,b4,b5⟩
set_option maxRecDepth 100000 in
theorem read_act {cs:List Value} {x:DataW H × List MemPlace} (h:DataW.trod enc Tryz.prog W 0 (fun _=>true) held fuel 37 cs=some x):∃ vb vt,∃ a:SActP,cs=actCells a vb vt∧RdB W W.heap.size vb a.task.body∧RdB W W.heap.size vt a.text∧a.Nums:=by
 obtain ⟨xs,n,rfl,rfl,hlen,hxl,hf⟩:=DataW.trod_struct Tryz.underlying37 h
 rw [cellsAc] at hlen
 match cs,hlen with
 | [c0,c1,c2,c3,c4,c5,c6,c7,c8,c9,c10,c11,c12],_=>
   match xs,hxl with
   | [y0,y1,y2,y3,y4,y5,y6],_=>
     have e0:=hf 0 _ rfl
     have e1:=hf 1 _ rfl
     have e2:=hf 2 _ rfl
     have e3:=hf 3 _ rfl
     have e4:=hf 4 _ rfl
     have e5:=hf 5 _ rfl
     have e6:=hf 6 _ rfl
     simp [cellsI,cellsStr,cellsBs,cellsTk] at e0 e1 e2 e3 e4 e5 e6
     obtain ⟨k0,q0,b0⟩:=read_int e0
     obtain ⟨k1,q1,_⟩:=read_str e1
     obtain ⟨k2,q2,_⟩:=read_str e2
     obtain ⟨vb,t,q3,hr3,b3,b4,b5,b6⟩:=read_task e3
     obtain ⟨k4,q4,c4⟩:=read_int e4
     obtain ⟨k5,q5,c5⟩:=read_int e5
     obtain ⟨vt,l,q6,hr6⟩:=read_bytes e6
     simp only [List.cons.injEq,and_true] at q0 q1 q2 q3 q4 q5 q6
     obtain ⟨rfl,rfl,rfl,rfl,rfl,rfl,rfl⟩:=q3
     subst q0 q1 q2 q4 q5 q6
     exact ⟨_,_,⟨k0,k1,k2,t,k4,k5,l⟩,rfl,hr3,hr6,⟨b0.1,b0.2,c4.1,c4.2,c5.1,c5.2,b3.1,b3.2,b4.1,b4.2,b5.1,b5.2,b6.1,b6.2⟩⟩
set_option maxRecDepth 100000 in
/-- a slice of acts -/
theorem open_acts {base:Nat} {v:Value} {d:DataW H} {ps:List MemPlace} (hval:Value.okWide Tryz.prog W .any base 22 v) (h:DataW.Trod enc Tryz.prog W 0 (fun _=>true) true 22 v d ps) :
 ∃ L:List SActP,SActsAt W W.heap.size v L∧∀ a ∈ L,a.Nums:=by
 obtain ⟨a0,len,cap,rfl⟩:=okWide_slice Tryz.underlying22 hval
 obtain ⟨fuel,hf⟩:=h
 rcases open_slice Tryz.underlying22 hf with ⟨hcs,_⟩ | ⟨a,len',cap',m,n,D,Pl,hcs,_,hl,hm,hmm,_,hi⟩
 ·simp [Value.cells] at hcs
  obtain ⟨rfl,rfl,rfl⟩:=hcs
  exact ⟨[],⟨none,0,rfl,Nat.le_refl _,Nat.zero_le _,Or.inl rfl⟩,fun s hs=>by cases hs⟩
 simp [Value.cells] at hcs
 obtain ⟨rfl,rfl,rfl⟩:=hcs
 simp only [if_true] at hmm
 subst hmm
 rw [cellsAc] at hi
 by_cases h0:len=0
 ·subst h0
  exact ⟨[],⟨_,_,rfl,Nat.zero_le _,hm,Or.inl rfl⟩,fun s hs=>by cases hs⟩
 obtain ⟨g,off,rfl,hg,hr⟩:=rows_of (c:=13) (Q:=fun cs'=>∃ vb vt,∃ a:SActP,cs'=actCells a vb vt∧RdB W W.heap.size vb a.task.body∧RdB W W.heap.size vt a.text∧a.Nums) (by decide) (fun i hi'=>by
  obtain ⟨cs',h1,h2⟩:=hi i hi'
  exact ⟨cs',h1,read_act h2⟩) hl (by omega)
 obtain ⟨L,hL,hc⟩:=list_of (R:=fun i (a:SActP)=>SActIn W W.heap.size g (off+i * 13) a∧a.Nums) len (fun i hi'=>by
  obtain ⟨cs',⟨vb,vt,a,rfl,h1,h2,h3⟩,_,hcc⟩:=hr i hi'
  exact ⟨a,⟨vb,vt,hcc,h1,h2⟩,h3⟩)
 subst hL
 refine ⟨L,⟨_,_,rfl,hl,hm,Or.inr ⟨g,off,rfl,hg,fun j hj=>(hc j hj).1⟩⟩,fun s hs=>?_⟩
 obtain ⟨i,hi',rfl⟩:=List.mem_iff_getElem.1 hs
 exact (hc i hi').2
end
end
end
end Go.Proofs.YtbcfpdlhieaepaaGreatDoor
