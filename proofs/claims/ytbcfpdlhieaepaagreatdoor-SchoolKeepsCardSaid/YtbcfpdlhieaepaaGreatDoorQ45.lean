/- SchoolWrong, walked. -/
import Derived.Test.YtbcfpdlhieaepaaGreatDoorQ43
import Derived.Test.YtbcfpdlhieaepaaGreatDoorQ44
import Derived.Test.YtbcfpdlhieaepaaGreatDoorCards
import Derived.Test.YtbcfpdlhieaepaaGreatDoorTie
import Derived.Test.YtbcfpdlhieaepaaGreatDoorQ02
import Derived.ProofKit
import Derived.OpenShut
import Derived.LaidMore
import Derived.Deep.DeepHandedRow
import Derived.Lib.LaidTab
import Derived.SizedLaws
import Derived.Deep.Slices
import Derived.Deep.Fields
import Derived.ChangeSame
namespace Go.Proofs.YtbcfpdlhieaepaaGreatDoor
section
open Go.RowKit SeedP Go.Maps
theorem DX.act2 {n0:Nat} {S:Nat→Prop} {w w':World} {db:Nat} {d:DS} (h:DX n0 w db d) (hg:Grown S w w') (hS:∀ g,S g→g < n0) (h0:¬ S 0):DX n0 w' db d:=by
 obtain ⟨p,h1,h2⟩:=h.mem
 exact ⟨h.pos,h.dle,h.st.block (hg.block 0 h.st.pos h0),p,h1,h2.grown hg (fun e=>by have:=hS _ e; have:=h.dle; omega) (fun g hg e=>by have:=hS _ e; have:=(h1 g hg).1; omega)⟩
set_option maxRecDepth 100000 in
set_option maxHeartbeats 8000000 in
theorem schoolWrong_walk (vl:Value) (L:List SActP) (w:World) (hs:St w) (hL:SActsAt w w.heap.size vl L) :
 Calls Tryz.prog 4 #[vl] w fun e w'=>e=.returned (.bool true)∧Below w.heap.size w w':=by
 have hun:undef=Value.tuple #[]:=rfl
 have HA:=Lib.hid (sawake_c w hs)
 have HL:=Lib.hid hL
 have HS:=Lib.hid hs
 obtain ⟨al,cl,rfl⟩:∃ a c,vl=.slice a L.length c:=by obtain ⟨a,c,e, -⟩:=hL; exact ⟨a,c,e⟩
 clear hL hs
 go_enter Tryz.func4,Tryz.ntmps4
 go_wp2_with fail
 refine HA.out.mono ?_
 rintro e w1 ⟨rfl,hb1⟩
 have HF:=Lib.hid (sfew_c (.slice al L.length cl) L w1 ((HL.out.below hb1).raise hb1.size))
 have HB1:=Lib.hid hb1
 clear HA hb1
 go_wp2_with fail
 refine HF.out.mono ?_
 rintro e w2 ⟨⟨b,rfl,hb⟩,hb2⟩
 have HB2:=Lib.hid (HB1.out.trans (hb2.mono HB1.out.size))
 clear HF hb2 HB1
 cases b with
 | false=>
   clear hb
   go_wp2
   go_ret
   exact ⟨rfl,HB2.out⟩
 | true=>
   obtain ⟨hn,hsm⟩:=hb rfl
   have HSM:=Lib.hid hsm
   clear hb hsm
   have HS2:=Lib.hid (HS.out.below HB2.out HS.out.pos)
   have hD:=Lib.hid (DX.new w2 HS2.out (-1))
   have hB:=Lib.hid ((Below.refl w2.heap.size w2).alloc (Nat.le_refl _) (.cells #[.int .i64 (-1),.slice none 0 0,.slice none 0 0] 29))
   have HB3:=Lib.hid (HB2.out.trans (hB.out.mono HB2.out.size))
   have hle:=HB2.out.size
   go_upto_region 6 with (fail)
   obtain ⟨n0,hn0⟩:∃ n,w2.heap.size=n:=⟨_,rfl⟩
   rw [hn0] at hD hle ⊢
   generalize w2.alloc (.cells #[.int .i64 (-1),.slice none 0 0,.slice none 0 0] 29)=w3 at *
   clear hn0 hB HB2 HS2 HS
   go_wp2_with fail
   refine (open_x hD.out ok0 sch0).mono ?_
   rintro e w4 ⟨⟨sb,jb,mb,rfl, -, -, -,hX⟩,hb4⟩
   have HB4:=Lib.hid (HB3.out.trans (hb4.mono HB3.out.size))
   have HX0:=Lib.hid hX
   have HF0:=Lib.hid at0.full
   clear hX hb4 HB3 hD
   generalize jOpen ⟨-1,[],[]⟩=s0 at *
   have HON:=Lib.hid (sopen_nil w4)
   go_wp2_with fail
   refine HON.out.mono ?_
   rintro e wz ⟨rfl,rfl⟩
   clear HON
   go_wp2
   go_loopw [8] (fun iv wr=>∃ (i:Nat) (s:JS),i≤L.length∧iv=.int .i64 i∧SX n0 wr sb n0 jb mb s∧SFull s (2 * i)∧Below w.heap.size w wr) (fun i _=>L.length - (intOf i).toNat)
   case atStart=>exact ⟨0,s0,Nat.zero_le _,rfl,HX0.out,HF0.out,HB4.out⟩
   case round=>
    obtain ⟨i,s,hi,rfl,hX,hF,hB⟩:=hrel
    clear HX0 HF0 HB4
    have HX:=Lib.hid hX
    have HF:=Lib.hid hF
    have HB:=Lib.hid hB
    clear hX hF hB
    by_cases hlt:i < L.length
    ·have b1:decide ((i:Int) < (L.length:Int))=true:=decide_eq_true (by omega)
     have b2:(i:Int) < (L.length:Int):=by omega
     obtain ⟨g,off,cap,ab,cb,ax,cx,e0,⟨c0,c1,c2,c3,c4,c5,c6,c7,c8,c9,c10,c11,c12⟩,hr1,hr2⟩:=HL.out.get HB.out hlt
     simp only [Value.slice.injEq,true_and] at e0
     obtain ⟨rfl,rfl⟩:=e0
     have HSA:=Lib.hid (HSM.out _ (List.getElem_mem hlt))
     generalize L[i]=a at *
     have HR1:=Lib.hid hr1
     have HR2:=Lib.hid hr2
     have hlt2:=Lib.hid hlt
     clear hr1 hr2 hlt
     go_upto_region 14 with (fail)
     have HY:=Lib.hid (Blk.new wr 37 (actCells a (.slice ab a.task.body.length cb) (.slice ax a.text.length cx)))
     have HBa:=Lib.hid ((Below.refl wr.heap.size wr).alloc (Nat.le_refl _) (.cells #[.int .i64 a.kind,strV a.cls,strV a.stu,strV a.task.cls,strV a.task.name,.int .i64 a.task.frm,.int .i64 a.task.due,.int .i64 a.task.late,.int .i64 a.task.tries,.slice ab a.task.body.length cb,.int .i64 a.id,.int .i64 a.n,.slice ax a.text.length cx] 37))
     change Code.wp _ _ _ _ (wr.alloc (.cells #[.int .i64 a.kind,strV a.cls,strV a.stu,strV a.task.cls,strV a.task.name,.int .i64 a.task.frm,.int .i64 a.task.due,.int .i64 a.task.late,.int .i64 a.task.tries,.slice ab a.task.body.length cb,.int .i64 a.id,.int .i64 a.n,.slice ax a.text.length cx] 37))
     have HX1:=Lib.hid (HX.out.below HBa.out)
     have HB1:=Lib.hid (HB.out.trans (HBa.out.mono HB.out.size))
     have HNJ:Hid (¬ Sj jb n0 mb wr.heap.size):=Lib.hid (fun h=>by have:=(HX.out.sj _ h).2; omega)
     change Hid (Blk (wr.alloc (.cells #[.int .i64 a.kind,strV a.cls,strV a.stu,strV a.task.cls,strV a.task.name,.int .i64 a.task.frm,.int .i64 a.task.due,.int .i64 a.task.late,.int .i64 a.task.tries,.slice ab a.task.body.length cb,.int .i64 a.id,.int .i64 a.n,.slice ax a.text.length cx] 37)) _ _ _) at HY
     generalize wr.alloc (.cells #[.int .i64 a.kind,strV a.cls,strV a.stu,strV a.task.cls,strV a.task.name,.int .i64 a.task.frm,.int .i64 a.task.due,.int .i64 a.task.late,.int .i64 a.task.tries,.slice ab a.task.body.length cb,.int .i64 a.id,.int .i64 a.n,.slice ax a.text.length cx] 37)=wa at *
     generalize wr.heap.size=ga at *
     clear HX HB HBa c0 c1 c2 c3 c4 c5 c6 c7 c8 c9 c10 c11 c12
     have HC:=Lib.hid (fun W (h:Below wa.heap.size wa W)=>act_x a ab ax cb cx (HX1.out.below h) HF.out.sok (HR1.out.later (HB1.out.trans (h.mono HB1.out.size))) (HR2.out.later (HB1.out.trans (h.mono HB1.out.size))) (by have:=HSA.out.body; omega) (by have:=HSA.out.text; omega))
     have HCP:=Lib.hid (fun W (h:Below wa.heap.size wa W)=>(HX1.out.below h).dx)
     have HF1:=Lib.hid (((HF.out.do_ (by have:=hlt2.out; have:=hn; omega) a).1).full HF.out)
     have HSAME:Hid ((doP a s).2.2 ≠ 0→(doP a s).2.1=0∧(doP a s).1=s):=Lib.hid (fun he=>⟨(HF.out.do_ (by have:=hlt2.out; have:=hn; omega) a).2 he,by
      rcases (HF.out.do_ (by have:=hlt2.out; have:=hn; omega) a).1 with ⟨_,h⟩ | ⟨h,_⟩
      ·exact h
      ·exact absurd h he⟩)
     generalize (doP a s).1=s1 at *
     generalize (doP a s).2.1=n1 at *
     generalize (doP a s).2.2=e1 at *
     go_upto_region 15 with (fail)
     have HB2:Hid (Below wa.heap.size wa ((wa.alloc (.cells #[.pointer none] 54)).alloc (.cells #[.pointer none,.pointer (some ⟨wa.heap.size,0,none⟩)] 30))):=Lib.hid (((Below.refl _ _).alloc (Nat.le_refl _) _).alloc (((Below.refl _ wa).alloc (Nat.le_refl _) _).size) _)
     have HG1:=Lib.hid ((Blk.new wa 54 [.pointer none]).alloc (.cells #[.pointer none,.pointer (some ⟨wa.heap.size,0,none⟩)] 30))
     have HG2:Hid (Blk ((wa.alloc (.cells #[.pointer none] 54)).alloc (.cells #[.pointer none,.pointer (some ⟨wa.heap.size,0,none⟩)] 30)) (wa.heap.size+1) 30 [.pointer none,.pointer (some ⟨wa.heap.size,0,none⟩)]):=Lib.hid (Blk.at _ _ _ (by simp))
     change Hid (Blk ((wa.alloc (.cells #[.pointer none] 54)).alloc (.cells #[.pointer none,.pointer (some ⟨wa.heap.size,0,none⟩)] 30)) _ _ _) at HG1
     change Code.wp _ _ _ _ ((wa.alloc (.cells #[.pointer none] 54)).alloc (.cells #[.pointer none,.pointer (some ⟨wa.heap.size,0,none⟩)] 30))
     generalize ((wa.alloc (.cells #[.pointer none] 54)).alloc (.cells #[.pointer none,.pointer (some ⟨wa.heap.size,0,none⟩)] 30))=wb at *
     generalize wa.heap.size+1=gl at *
     generalize wa.heap.size=gs at HG1 HG2 ⊢
     have HYb:=Lib.hid (HY.out.below HB2.out)
     go_wp2
     go_loopw [55] (fun jv wr=>∃ j:Int,(j=0∨j=1∨j=2)∧jv=.int .i64 j∧Below wb.heap.size wb wr) (fun j _=>2 - (intOf j).toNat)
     case atStart=>exact ⟨0,Or.inl rfl,rfl,Below.refl _ _⟩
     case round=>
      obtain ⟨j,hj,rfl,hb0⟩:=hrel
      have HB0:=Lib.hid hb0
      have HY:=Lib.hid (HYb.out.below hb0)
      have HG1:=Lib.hid (HG1.out.below hb0)
      have x0:=(HG2.out.below hb0).cell 0 (by simp)
      have x1:=(HG2.out.below hb0).cell 1 (by simp)
      simp only [List.getD_cons_succ,List.getD_cons_zero] at x0 x1
      obtain ⟨y0,y1,y2,y3,y4,y5,y6,y7,y8,y9,y10,y11,y12⟩:=actBlk HY.out
      clear hb0
      rcases hj with rfl | rfl | rfl
      ·have HNO:Hid (NoS wr (.pointer none)):=Lib.hid (Or.inl rfl)
       have HP:=Lib.hid (fun W=>pick_c a.kind 10 W (by omega) (by omega))
       generalize hkk:a.kind % 10=k at *
       go_upto_region 17 with (fail)
       go_wp2_with fail
       refine (HP.out _).mono ?_
       rintro e wz ⟨rfl,rfl⟩
       clear HP
       by_cases h9:k=9
       ·have q9:(k == 9)=true:=by simpa using h9
        clear hkk h9
        go_wp2
        go_roundw
        case rel=>exact ⟨1,Or.inr (Or.inl rfl),rfl,HB0.out⟩
        case measure=>decide
       have q9:(k == 9)=false:=by simpa using h9
       have HD:=Lib.hid (do_n (.pointer none) a ab ax cb cx wr HNO.out (by rw [hkk]; exact h9))
       clear hkk h9
       go_wp2_with fail
       refine HD.out.mono ?_
       rintro e w5 ⟨rfl,hb⟩
       have HN5:=Lib.hid (HNO.out.below hb)
       have HY5:=Lib.hid (HY.out.below hb)
       have HB5:=Lib.hid (HB0.out.trans (hb.mono HB0.out.size))
       clear hb HD y0 y1 y2 y3 y4 y5 y6 y7 y8 y9 y10 y11 y12
       have HT:=Lib.hid (task_n (.pointer none) a.id w5 HN5.out)
       obtain ⟨y0,y1,y2,y3,y4,y5,y6,y7,y8,y9,y10,y11,y12⟩:=actBlk HY5.out
       clear y0 y3 y4 y5 y6 y7 y8 y9 y11 y12
       go_wp2_with fail
       refine HT.out.mono ?_
       rintro e w6 ⟨rfl,hb⟩
       unfold zeroT
       have y1:=keep_cell hb y1
       have y2:=keep_cell hb y2
       have y10:=keep_cell hb y10
       have HN6:=Lib.hid (HN5.out.below hb)
       have HB6:=Lib.hid (HB5.out.trans (hb.mono HB5.out.size))
       clear hb HT HN5 HB5 HY5
       go_upto_region 22 with (fail)
       have hba:Below w6.heap.size w6 (w6.alloc (.cells #[.string ⟨#[]⟩,.string ⟨#[]⟩,.int .i64 0,.int .i64 0,.int .i64 0,.int .i64 0,.slice none 0 0] 35)):=(Below.refl _ _).alloc (Nat.le_refl _) _
       have y1:=keep_cell hba y1
       have y2:=keep_cell hba y2
       have y10:=keep_cell hba y10
       have HN7:=Lib.hid (HN6.out.below hba)
       have HB7:=Lib.hid (HB6.out.trans (hba.mono HB6.out.size))
       change Code.wp _ _ _ _ (w6.alloc (.cells #[.string ⟨#[]⟩,.string ⟨#[]⟩,.int .i64 0,.int .i64 0,.int .i64 0,.int .i64 0,.slice none 0 0] 35))
       generalize w6.alloc (.cells #[.string ⟨#[]⟩,.string ⟨#[]⟩,.int .i64 0,.int .i64 0,.int .i64 0,.int .i64 0,.slice none 0 0] 35)=w7 at *
       clear hba HN6 HB6
       have H21:=Lib.hid (fun W (h:Below w7.heap.size w7 W)=>extension_n (.pointer none) a.id a.stu W (HN7.out.below h))
       have H17:=Lib.hid (fun W (h:Below w7.heap.size w7 W)=>classes_n (.pointer none) W (HN7.out.below h))
       have H18:=Lib.hid (fun W (h:Below w7.heap.size w7 W)=>students_n (.pointer none) a.cls W (HN7.out.below h))
       have H20:=Lib.hid (fun W (h:Below w7.heap.size w7 W)=>tasks_n (.pointer none) a.cls W (HN7.out.below h))
       have H22:=Lib.hid (fun W (h:Below w7.heap.size w7 W)=>attempts_n (.pointer none) a.id a.stu W (HN7.out.below h))
       have hB:Below w7.heap.size w7 w7:=Below.refl _ _
       go_region_held3 (fun w'=>w'.cell? ⟨ga,1,none⟩=some (strV a.cls)∧w'.cell? ⟨ga,2,none⟩=some (strV a.stu)∧w'.cell? ⟨ga,10,none⟩=some (.int .i64 a.id))
        (exact ⟨y1,y2,y10⟩)
        (first
         | (go_at_call 21; refine (H21.out _ (by first | exact hB | exact hB.drew)).mono ?_; go_must (rintro e w8 ⟨rfl,hb⟩); go_must (have y1:=keep_cell hb y1); go_must (have y2:=keep_cell hb y2); go_must (have y10:=keep_cell hb y10); go_must (have hB:Below w7.heap.size w7 w8:=(by first | exact hB.trans (hb.mono hB.size) | exact hB.trans ((undrew hb).mono hB.size))); go_must (clear hb))
         | (go_at_call 17; refine (H17.out _ (by first | exact hB | exact hB.drew)).mono ?_; go_must (rintro e w8 ⟨rfl,hb⟩); go_must (have y1:=keep_cell hb y1); go_must (have y2:=keep_cell hb y2); go_must (have y10:=keep_cell hb y10); go_must (have hB:Below w7.heap.size w7 w8:=(by first | exact hB.trans (hb.mono hB.size) | exact hB.trans ((undrew hb).mono hB.size))); go_must (clear hb))
         | (go_at_call 18; refine (H18.out _ (by first | exact hB | exact hB.drew)).mono ?_; go_must (rintro e w8 ⟨rfl,hb⟩); go_must (have y1:=keep_cell hb y1); go_must (have y2:=keep_cell hb y2); go_must (have y10:=keep_cell hb y10); go_must (have hB:Below w7.heap.size w7 w8:=(by first | exact hB.trans (hb.mono hB.size) | exact hB.trans ((undrew hb).mono hB.size))); go_must (clear hb))
         | (go_at_call 20; refine (H20.out _ (by first | exact hB | exact hB.drew)).mono ?_; go_must (rintro e w8 ⟨rfl,hb⟩); go_must (have y1:=keep_cell hb y1); go_must (have y2:=keep_cell hb y2); go_must (have y10:=keep_cell hb y10); go_must (have hB:Below w7.heap.size w7 w8:=(by first | exact hB.trans (hb.mono hB.size) | exact hB.trans ((undrew hb).mono hB.size))); go_must (clear hb))
         | (go_at_call 22; refine (H22.out _ (by first | exact hB | exact hB.drew)).mono ?_; go_must (rintro e w8 ⟨rfl,hb⟩); go_must (have y1:=keep_cell hb y1); go_must (have y2:=keep_cell hb y2); go_must (have y10:=keep_cell hb y10); go_must (have hB:Below w7.heap.size w7 w8:=(by first | exact hB.trans (hb.mono hB.size) | exact hB.trans ((undrew hb).mono hB.size))); go_must (clear hb)))
       have HB8:=Lib.hid (HB7.out.trans (hB.mono HB7.out.size))
       clear H21 H17 H18 H20 H22 hB y1 y2 y10
       go_wp2
       go_roundw
       case rel=>exact ⟨1,Or.inr (Or.inl rfl),rfl,HB8.out⟩
       case measure=>decide
      ·have HNO:Hid (NoS wr (sv gs)):=Lib.hid (Or.inr ⟨gs,rfl,HG1.out.cell 0 (by simp)⟩)
       have HP:=Lib.hid (fun W=>pick_c a.kind 10 W (by omega) (by omega))
       generalize hkk:a.kind % 10=k at *
       go_upto_region 17 with (fail)
       go_wp2_with fail
       refine (HP.out _).mono ?_
       rintro e wz ⟨rfl,rfl⟩
       clear HP
       by_cases h9:k=9
       ·have q9:(k == 9)=true:=by simpa using h9
        clear hkk h9
        go_wp2
        go_roundw
        case rel=>exact ⟨2,Or.inr (Or.inr rfl),rfl,HB0.out⟩
        case measure=>decide
       have q9:(k == 9)=false:=by simpa using h9
       have HD:=Lib.hid (do_n (sv gs) a ab ax cb cx wr HNO.out (by rw [hkk]; exact h9))
       clear hkk h9
       go_wp2_with fail
       refine HD.out.mono ?_
       rintro e w5 ⟨rfl,hb⟩
       have HN5:=Lib.hid (HNO.out.below hb)
       have HY5:=Lib.hid (HY.out.below hb)
       have HB5:=Lib.hid (HB0.out.trans (hb.mono HB0.out.size))
       clear hb HD y0 y1 y2 y3 y4 y5 y6 y7 y8 y9 y10 y11 y12
       have HT:=Lib.hid (task_n (sv gs) a.id w5 HN5.out)
       obtain ⟨y0,y1,y2,y3,y4,y5,y6,y7,y8,y9,y10,y11,y12⟩:=actBlk HY5.out
       clear y0 y3 y4 y5 y6 y7 y8 y9 y11 y12
       go_wp2_with fail
       refine HT.out.mono ?_
       rintro e w6 ⟨rfl,hb⟩
       unfold zeroT
       have y1:=keep_cell hb y1
       have y2:=keep_cell hb y2
       have y10:=keep_cell hb y10
       have HN6:=Lib.hid (HN5.out.below hb)
       have HB6:=Lib.hid (HB5.out.trans (hb.mono HB5.out.size))
       clear hb HT HN5 HB5 HY5
       go_upto_region 22 with (fail)
       have hba:Below w6.heap.size w6 (w6.alloc (.cells #[.string ⟨#[]⟩,.string ⟨#[]⟩,.int .i64 0,.int .i64 0,.int .i64 0,.int .i64 0,.slice none 0 0] 35)):=(Below.refl _ _).alloc (Nat.le_refl _) _
       have y1:=keep_cell hba y1
       have y2:=keep_cell hba y2
       have y10:=keep_cell hba y10
       have HN7:=Lib.hid (HN6.out.below hba)
       have HB7:=Lib.hid (HB6.out.trans (hba.mono HB6.out.size))
       change Code.wp _ _ _ _ (w6.alloc (.cells #[.string ⟨#[]⟩,.string ⟨#[]⟩,.int .i64 0,.int .i64 0,.int .i64 0,.int .i64 0,.slice none 0 0] 35))
       generalize w6.alloc (.cells #[.string ⟨#[]⟩,.string ⟨#[]⟩,.int .i64 0,.int .i64 0,.int .i64 0,.int .i64 0,.slice none 0 0] 35)=w7 at *
       clear hba HN6 HB6
       have H21:=Lib.hid (fun W (h:Below w7.heap.size w7 W)=>extension_n (sv gs) a.id a.stu W (HN7.out.below h))
       have H17:=Lib.hid (fun W (h:Below w7.heap.size w7 W)=>classes_n (sv gs) W (HN7.out.below h))
       have H18:=Lib.hid (fun W (h:Below w7.heap.size w7 W)=>students_n (sv gs) a.cls W (HN7.out.below h))
       have H20:=Lib.hid (fun W (h:Below w7.heap.size w7 W)=>tasks_n (sv gs) a.cls W (HN7.out.below h))
       have H22:=Lib.hid (fun W (h:Below w7.heap.size w7 W)=>attempts_n (sv gs) a.id a.stu W (HN7.out.below h))
       have hB:Below w7.heap.size w7 w7:=Below.refl _ _
       go_region_held3 (fun w'=>w'.cell? ⟨ga,1,none⟩=some (strV a.cls)∧w'.cell? ⟨ga,2,none⟩=some (strV a.stu)∧w'.cell? ⟨ga,10,none⟩=some (.int .i64 a.id))
        (exact ⟨y1,y2,y10⟩)
        (first
         | (go_at_call 21; refine (H21.out _ (by first | exact hB | exact hB.drew)).mono ?_; go_must (rintro e w8 ⟨rfl,hb⟩); go_must (have y1:=keep_cell hb y1); go_must (have y2:=keep_cell hb y2); go_must (have y10:=keep_cell hb y10); go_must (have hB:Below w7.heap.size w7 w8:=(by first | exact hB.trans (hb.mono hB.size) | exact hB.trans ((undrew hb).mono hB.size))); go_must (clear hb))
         | (go_at_call 17; refine (H17.out _ (by first | exact hB | exact hB.drew)).mono ?_; go_must (rintro e w8 ⟨rfl,hb⟩); go_must (have y1:=keep_cell hb y1); go_must (have y2:=keep_cell hb y2); go_must (have y10:=keep_cell hb y10); go_must (have hB:Below w7.heap.size w7 w8:=(by first | exact hB.trans (hb.mono hB.size) | exact hB.trans ((undrew hb).mono hB.size))); go_must (clear hb))
         | (go_at_call 18; refine (H18.out _ (by first | exact hB | exact hB.drew)).mono ?_; go_must (rintro e w8 ⟨rfl,hb⟩); go_must (have y1:=keep_cell hb y1); go_must (have y2:=keep_cell hb y2); go_must (have y10:=keep_cell hb y10); go_must (have hB:Below w7.heap.size w7 w8:=(by first | exact hB.trans (hb.mono hB.size) | exact hB.trans ((undrew hb).mono hB.size))); go_must (clear hb))
         | (go_at_call 20; refine (H20.out _ (by first | exact hB | exact hB.drew)).mono ?_; go_must (rintro e w8 ⟨rfl,hb⟩); go_must (have y1:=keep_cell hb y1); go_must (have y2:=keep_cell hb y2); go_must (have y10:=keep_cell hb y10); go_must (have hB:Below w7.heap.size w7 w8:=(by first | exact hB.trans (hb.mono hB.size) | exact hB.trans ((undrew hb).mono hB.size))); go_must (clear hb))
         | (go_at_call 22; refine (H22.out _ (by first | exact hB | exact hB.drew)).mono ?_; go_must (rintro e w8 ⟨rfl,hb⟩); go_must (have y1:=keep_cell hb y1); go_must (have y2:=keep_cell hb y2); go_must (have y10:=keep_cell hb y10); go_must (have hB:Below w7.heap.size w7 w8:=(by first | exact hB.trans (hb.mono hB.size) | exact hB.trans ((undrew hb).mono hB.size))); go_must (clear hb)))
       have HB8:=Lib.hid (HB7.out.trans (hB.mono HB7.out.size))
       clear H21 H17 H18 H20 H22 hB y1 y2 y10
       go_wp2
       go_roundw
       case rel=>exact ⟨2,Or.inr (Or.inr rfl),rfl,HB8.out⟩
       case measure=>decide
      ·clear x0 x1 y0 y1 y2 y3 y4 y5 y6 y7 y8 y9 y10 y11 y12
       go_upto_region 25 with (fail)
       have HB3:=Lib.hid (HB2.out.trans (HB0.out.mono HB2.out.size))
       have HDX:=Lib.hid (HCP.out _ HB3.out)
       obtain ⟨f0,k0,f1,k1,d0,d1,d2,q0,q1, -⟩:=HDX.out.cells
       have hcp:=Lib.hid (copies_x HDX.out.st q0 q1 HF.out.reopen.1)
       have HQ0:=Lib.hid q0
       have HQ1:=Lib.hid q1
       have hz:=HB3.out.size
       clear q0 q1
       go_wp2_with fail
       refine hcp.out.mono ?_
       rintro e w6 ⟨⟨db2,rfl,hdb2,hD2⟩,hb⟩
       have HB6:=Lib.hid (HB3.out.trans (hb.mono HB3.out.size))
       have HD2:=Lib.hid hD2
       have HY6:=Lib.hid (HY.out.below hb)
       clear hcp d0 d1 d2 hb hD2 HCP
       have HC6:=Lib.hid (HC.out _ HB6.out)
       have HSJ:Hid (∀ g,Sj jb n0 mb g→n0≤g∧g < wa.heap.size):=Lib.hid HX1.out.sj
       obtain ⟨y0,y1,y2,y3,y4,y5,y6,y7,y8,y9,y10,y11,y12⟩:=actBlk HY6.out
       clear HC
       go_wp2_with fail
       refine HC6.out.mono ?_
       rintro e w7 ⟨rfl,hA⟩
       have HX7:=Lib.hid hA.sx
       have HB7:=Lib.hid ((HB1.out.trans (HB6.out.mono HB1.out.size)).trans (hA.bl.mono hle))
       have HD7:=Lib.hid (HD2.out.act2 hA.gr (fun g hg=>by have h1:=(HSJ.out g hg).2; omega) (fun h=>by have:=(HSJ.out _ h).1; have:=HX1.out.pos; omega))
       clear hA HC6 y0 y1 y2 y3 y4 y5 y6 y7 y8 y9 y10 y11 y12 HD2 HY6 HY HDX HQ0 HQ1
       by_cases he1:e1=0
       ·subst he1
        clear HSAME
        go_upto_region 27 with (fail)
        go_quiet (fail)
        all_goals
         go_wp2
         go_roundw
         case rel=>exact ⟨i+1,s1,hlt2.out,by go_num,HX7.out.below (below_drewN (Below.refl _ _) _),HF1.out,below_drewN HB7.out _⟩
         case measure=>have:=hlt2.out; simp [intOf]; omega
       ·have t0:(e1 != 0)=true:=by simpa using he1
        obtain ⟨rfl,hs1⟩:=HSAME.out he1
        rw [hs1] at HX7 HF1
        clear he1 HSAME hs1
        obtain ⟨a0,c0,a1,c1,d0,d1,d2,q0,q1, -⟩:=HX7.out.dx.cells
        obtain ⟨b0,e0,b1',e1',z0,z1,z2,r0,r1, -⟩:=HD7.out.cells
        have hcx0:∀ n,(convert 26 9 (.slice a0 s.d.f0.length c0)).run Tryz.prog (w7.drewN n)=.ok (.string ⟨(s.d.f0).toArray⟩) (w7.drewN n):=fun n=>conv_c (w:=w7.drewN n) (q0.mono (Nat.le_refl _))
        have hcx1:∀ n,(convert 26 9 (.slice a1 s.d.f1.length c1)).run Tryz.prog (w7.drewN n)=.ok (.string ⟨(s.d.f1).toArray⟩) (w7.drewN n):=fun n=>conv_c (w:=w7.drewN n) (q1.mono (Nat.le_refl _))
        have hca0:∀ n,(convert 26 9 (.slice b0 s.d.f0.length e0)).run Tryz.prog (w7.drewN n)=.ok (.string ⟨(s.d.f0).toArray⟩) (w7.drewN n):=fun n=>conv_c (w:=w7.drewN n) (r0.mono (Nat.le_refl _))
        have hca1:∀ n,(convert 26 9 (.slice b1' s.d.f1.length e1')).run Tryz.prog (w7.drewN n)=.ok (.string ⟨(s.d.f1).toArray⟩) (w7.drewN n):=fun n=>conv_c (w:=w7.drewN n) (r1.mono (Nat.le_refl _))
        clear q0 q1 r0 r1
        go_upto_region 27 with (fail)
        go_quiet (fail)
        all_goals
         go_wp2
         go_roundw
         case rel=>exact ⟨i+1,s,hlt2.out,by go_num,HX7.out.below (below_drewN (Below.refl _ _) _),HF1.out,below_drewN HB7.out _⟩
         case measure=>have:=hlt2.out; simp [intOf]; omega
    ·obtain rfl:i=L.length:=by omega
     have b1:decide ((L.length:Int) < (L.length:Int))=false:=by simp
     go_wp2
     go_ret
     exact ⟨rfl,HB.out⟩
end
section
section
open Go.ChangeShapes Go.WideShapes Go.ChangeAt Go.RowKit
theorem own:ownKnob Tryz.prog.godebug=none:=by kernel_rfl
theorem laidOut:laidOutB Tryz.prog=true:=by kernel_rfl
theorem gS:Tryz.prog.globalNamed "lyceum/seed.steps"=some 0:=by kernel_rfl
theorem tS:(Tryz.prog.globals[0]?).map (·.type)=some 231:=by kernel_rfl
theorem cellsA:Tryz.prog.cellsOf 231=6:=by kernel_rfl
theorem cellsS:Tryz.prog.cellsOf 230=2:=by kernel_rfl
theorem cellsU:Tryz.prog.cellsOf 142=1:=by kernel_rfl
theorem cellsW:Tryz.prog.cellsOf 99=1:=by kernel_rfl
/-- one step of mixing, read -/
theorem step_read {W:World} {H:Type} {enc:TypeId × Value→H} {base:Nat} {sp:Nat→Bool} {held:Bool} {fuel:Nat} {a b:Value} {x y:Int} {q:List MemPlace}
 (h:DataW.trod enc Tryz.prog W base sp held fuel 230 [a,b]=some (.agg [.lit (.int .u64 x),.lit (.int .u64 y)],q)):a=.int .u64 x∧b=.int .u64 y:=by
 obtain ⟨y0,y1,n,hx,_,h0,h1⟩:=trod_struct2 Tryz.underlying230 h
 simp only [cellsU,cellsW,List.drop_zero,List.take_succ_cons,List.take_zero,List.drop_succ_cons] at h0 h1
 obtain ⟨k0,e0,r0,_⟩:=DataW.trod_int Tryz.underlying142 h0
 obtain ⟨k1,e1,r1,_⟩:=DataW.trod_int Tryz.underlying99 h1
 subst r0 r1
 simp only [Prod.mk.injEq,DataW.agg.injEq,List.cons.injEq,DataW.lit.injEq,Lit.int.injEq,true_and,and_true] at hx
 obtain ⟨⟨rfl,rfl⟩,_⟩:=hx
 simp only [List.cons.injEq,and_true] at e0 e1
 exact ⟨e0,e1⟩
set_option maxRecDepth 100000 in
theorem steps_of_laid {W:World} (h:laidMetH Tryz.prog [("lyceum/seed.steps",Rows.laid_lyceum_seed_steps)] W):St W:=by
 rw [MakeChecks.laidMetH_plain _ _ _ (by kernel_rfl)] at h
 obtain ⟨ps,⟨g0,t0,cs0,f0,p0,q0,hg0,ht0,hv0,hd0,_,_⟩,_,_⟩:=h
 obtain rfl:=Option.some.inj (gS.symm.trans hg0)
 obtain rfl:=Option.some.inj (tS.symm.trans ht0)
 obtain ⟨xs,m,rfl,hx,hlen,hn3,hel⟩:=DataW.trod_array Tryz.underlying231 hd0
 rw [cellsA] at hlen
 have hc:∀ i,W.cell? ⟨0,i,none⟩=cs0[i]?:=fun i=>World.var?_cell gS hv0 i
 obtain ⟨l⟩:=cs0
 match l,hlen with
 | [a0,a1,a2,a3,a4,a5],_=>
   match xs,hn3 with
   | [x0,x1,x2],_=>
     have e0:=hel 0 (by decide)
     have e1:=hel 1 (by decide)
     have e2:=hel 2 (by decide)
     simp [cellsS] at e0 e1 e2
     unfold Rows.laid_lyceum_seed_steps at hx
     simp only [Prod.mk.injEq,DataW.agg.injEq,List.map_cons,List.map_nil,List.cons.injEq,and_true] at hx
     obtain ⟨⟨r0,r1,r2⟩,_⟩:=hx
     obtain ⟨d0,q0⟩:=x0
     obtain ⟨d1,q1⟩:=x1
     obtain ⟨d2,q2⟩:=x2
     simp only at r0 r1 r2
     subst r0 r1 r2
     obtain ⟨rfl,rfl⟩:=step_read e0
     obtain ⟨rfl,rfl⟩:=step_read e1
     obtain ⟨rfl,rfl⟩:=step_read e2
     exact ⟨hc 0,hc 1,hc 2,hc 3,hc 4,hc 5⟩
/-- A WORLD FOR THE WITNESS: the settled one, the steps (block 0) holding what their initialiser lays. -/
noncomputable def laidWorld (os:Os):World:=
 { World.holding Tryz.prog os ⟨#[],#[],[]⟩ with heap:=(World.holding Tryz.prog os ⟨#[],#[],[]⟩).heap.modify 0 fun
  | .cells _ t frozen=>.cells #[.int .u64 30,.int .u64 13787848793156543929,.int .u64 27,.int .u64 10723151780598845931,.int .u64 31,.int .u64 1] t frozen
  | o=>o }
theorem laid_met (os:Os) (args:Array Value):laidMet Tryz.prog [("lyceum/seed.steps",Rows.laid_lyceum_seed_steps)] ((laidWorld os).forCall (fun _ _=>0) ⟨#[],args,[]⟩).memory:=
 laidMet_of_run' 8 (by kernel_rfl) (by kernel_rfl)
end
end
end Go.Proofs.YtbcfpdlhieaepaaGreatDoor
