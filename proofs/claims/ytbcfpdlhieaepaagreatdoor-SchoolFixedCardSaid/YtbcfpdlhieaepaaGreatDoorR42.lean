/- The walk of the law's awake: the chapter's example. -/
import Derived.Test.YtbcfpdlhieaepaaGreatDoorR41
import Derived.Lib.SlBytesConst
import Derived.Test.YtbcfpdlhieaepaaGreatDoorR28
import Derived.BigQuiet
import Derived.Test.YtbcfpdlhieaepaaGreatDoorR21
import Derived.Deep.QuietTactic
import Derived.Test.YtbcfpdlhieaepaaGreatDoorR01
namespace Go.Proofs.YtbcfpdlhieaepaaGreatDoor
section
open Go.RowKit SeedP Go.Maps
theorem sch0:isSchoolP (jOpen ⟨-1,[],[]⟩).c.ents=true:=by
 rw [open_empty.2]
 exact isSchool_ok List.Pairwise.nil SchoolOk.nil
theorem ok0:(⟨-1,[],[]⟩:DS).Ok:=⟨by decide,by decide,by decide,by decide⟩
theorem at0:AtP (jOpen ⟨-1,[],[]⟩) 0 []:=⟨open_empty.1,open_empty.2⟩
theorem AttsW.two {w:World} {B:Nat} {v:Value} {due:Int} {t0 t1:Nat} {x0 x1:List UInt8} (h:AttsW w B v due [(t0,x0),(t1,x1)]) :
 ∃ g c a0 c0 a1 c1,v=.slice (some ⟨g,0,none⟩) 2 c∧w.cell? ⟨g,0,none⟩=some (.int .i64 (t0:Nat))∧w.cell? ⟨g,1,none⟩=some (.bool (decide (due < (t0:Int))))∧w.cell? ⟨g,2,none⟩=some (.slice a0 x0.length c0) ∧
   w.cell? ⟨g,3,none⟩=some (.int .i64 (t1:Nat))∧w.cell? ⟨g,4,none⟩=some (.bool (decide (due < (t1:Int))))∧w.cell? ⟨g,5,none⟩=some (.slice a1 x1.length c1)∧RdB w w.heap.size (.slice a0 x0.length c0) x0∧RdB w w.heap.size (.slice a1 x1.length c1) x1:=by
 obtain ⟨g,cap,a0,c0,e0,hg0,hg1,k0,k1,k2,r0⟩:=h.get 0 (Nat.zero_lt_succ _)
 obtain ⟨g',cap',a1,c1,e1, -, -,k3,k4,k5,r1⟩:=h.get 1 (Nat.lt_succ_self _)
 rw [e0] at e1
 simp only [Value.slice.injEq,Option.some.injEq,Addr.mk.injEq,and_true,true_and] at e1
 obtain ⟨rfl,rfl⟩:=e1
 exact ⟨g,cap,a0,c0,a1,c1,e0,k0,k1,k2,k3,k4,k5,r0.toB,r1.toB⟩
theorem cell_new_fr (w:World) (C:Array Value) (e:TypeId) (fr:Nat × Nat) (j:Nat):(w.alloc (.cells C e fr)).cell? ⟨w.heap.size,j,none⟩=C[j]?:=by
 have h:(w.alloc (.cells C e fr)).heap[w.heap.size]?=some (.cells C e fr):=World.alloc_heap_new w _
 unfold World.cell?
 simp only [h]
 rfl
theorem rd_const1 (w:World) (a:UInt8) (fr:Nat × Nat):RdB (w.alloc (.cells #[.int .u8 a.toNat] 5 fr)) (w.alloc (.cells #[.int .u8 a.toNat] 5 fr)).heap.size (.slice (some ⟨w.heap.size,0,none⟩) 1 1) [a]:=
 Or.inr ⟨w.heap.size,0,1,rfl,Nat.le_refl _,by decide,by simp,fun j hj=>by
  have:j=0:=by simpa using hj
  subst this
  exact cell_new_fr _ _ _ _ 0⟩
theorem rd_const2 (w:World) (a b:UInt8) (fr:Nat × Nat):RdB (w.alloc (.cells #[.int .u8 a.toNat,.int .u8 b.toNat] 5 fr)) (w.alloc (.cells #[.int .u8 a.toNat,.int .u8 b.toNat] 5 fr)).heap.size (.slice (some ⟨w.heap.size,0,none⟩) 2 2) [a,b]:=
 Or.inr ⟨w.heap.size,0,2,rfl,Nat.le_refl _,by decide,by simp,fun j hj=>by
  have hj:j < 2:=hj
  match j,hj with
  | 0,_=>exact cell_new_fr _ _ _ _ 0
  | 1,_=>exact cell_new_fr _ _ _ _ 1⟩
set_option maxRecDepth 100000 in
set_option maxHeartbeats 4000000 in
theorem sawake_c (w:World) (hs:St w):Calls Tryz.prog 11 #[] w fun e w'=>e=.returned (.bool true)∧Below w.heap.size w w':=by
 have hun:undef=Value.tuple #[]:=rfl
 have kc:=fun (w:World) (C:Array Value) (n c:Nat)=>Lib.run_convert_bytes_const (P:=Tryz.prog) w 26 5 C n c Tryz.underlying26 Tryz.underlying5
 have hD:=Lib.hid (DX.new w hs (-1))
 have hB:=Lib.hid ((Below.refl w.heap.size w).alloc (Nat.le_refl _) (.cells #[.int .i64 (-1),.slice none 0 0,.slice none 0 0] 29))
 obtain ⟨n0,hn0⟩:∃ n,w.heap.size=n:=⟨_,rfl⟩
 rw [hn0] at hD hB
 go_enter Tryz.func11,Tryz.ntmps11
 rw [hn0]
 go_upto_region 2 with (fail)
 generalize w.alloc (.cells #[.int .i64 (-1),.slice none 0 0,.slice none 0 0] 29)=w1 at *
 clear hn0 hs
 go_wp2_with fail
 refine (open_x hD.out ok0 sch0).mono ?_
 rintro e w2 ⟨⟨sb,jb,mb,rfl, -, -, -,hX⟩,hb2⟩
 have HB2:=Lib.hid (hB.out.trans (hb2.mono (by have:=hD.out.lt; have:=hD.out.dle; omega)))
 have A0:=Lib.hid at0
 generalize jOpen ⟨-1,[],[]⟩=s0 at *
 have HC:=Lib.hid (addClass_x A1 hX)
 obtain ⟨q0,q1⟩:=aw0 A0.out (by decide)
 rw [q0] at HC
 have A1':=Lib.hid q1
 clear q0 q1 A0 hX hb2 hD hB
 generalize (addClassP A1 s0).1=s1 at *
 go_wp2_with fail
 refine HC.out.mono ?_
 rintro e w3 ⟨rfl,hA⟩
 have HC:=Lib.hid (enroll_x A1 ANN hA.sx)
 obtain ⟨q0,q1⟩:=aw1 A1'.out (by decide)
 rw [q0] at HC
 have A2:=Lib.hid q1
 have HB3:=Lib.hid (HB2.out.trans hA.bl)
 clear q0 q1 A1' hA HB2
 generalize (enrollP A1 ANN s1).1=s2 at *
 go_wp2_with fail
 refine HC.out.mono ?_
 rintro e w4 ⟨rfl,hA⟩
 have HC:=Lib.hid (addTask_x T1 none 0 hA.sx (RdB.nil _ _) (by decide))
 obtain ⟨q0,q1⟩:=aw2 A2.out (by decide)
 rw [q0] at HC
 have A3:=Lib.hid q1
 have HB4:=Lib.hid (HB3.out.trans hA.bl)
 clear q0 q1 A2 hA HB3
 generalize (addTaskP T1 s2).1=s3 at *
 go_wp2_with fail
 refine HC.out.mono ?_
 rintro e w5 ⟨rfl,hA⟩
 have HC:=Lib.hid (submit_x 1 ANN 9 [] none 0 hA.sx A3.out.full.sok (RdB.nil _ _) (by decide))
 rw [aw3 A3.out] at HC
 have HB5:=Lib.hid (HB4.out.trans hA.bl)
 clear hA HB4
 go_wp2_with fail
 refine HC.out.mono ?_
 rintro e w6 ⟨rfl,hA⟩
 have HB6:=Lib.hid (HB5.out.trans hA.bl)
 have HX:=Lib.hid hA.sx
 clear hA HB5 HC
 have hB7:=Lib.hid ((Below.refl w6.heap.size w6).alloc (Nat.le_refl _) (.cells #[.int .u8 120] 5 (1,2)))
 have hR7:=Lib.hid (rd_const1 w6 120 (1,2))
 have HC:=Lib.hid (submit_x 1 ANN 20 [120] (some ⟨w6.heap.size,0,none⟩) 1 (HX.out.below hB7.out) A3.out.full.sok hR7.out (by decide))
 obtain ⟨q0,q1⟩:=aw4 A3.out (by decide)
 rw [q0] at HC
 have A4:=Lib.hid q1
 have HB7:=Lib.hid (HB6.out.trans (hB7.out.mono (Nat.le_of_lt HX.out.size)))
 clear q0 q1 A3 HX hB7 hR7 HB6
 generalize (submitP 1 ANN 20 [120] s3).1=s4 at *
 go_wp2_with fail
 refine HC.out.mono ?_
 rintro e w7 ⟨rfl,hA⟩
 have HX:=Lib.hid hA.sx
 have HB8:=Lib.hid (HB7.out.trans hA.bl)
 clear HB7 hA HC
 have hB7:=Lib.hid ((Below.refl w7.heap.size w7).alloc (Nat.le_refl _) (.cells #[.int .u8 121,.int .u8 122] 5 (2,3)))
 have hR7:=Lib.hid (rd_const2 w7 121 122 (2,3))
 have HC:=Lib.hid (submit_x 1 ANN 25 [121,122] (some ⟨w7.heap.size,0,none⟩) 2 (HX.out.below hB7.out) A4.out.full.sok hR7.out (by decide))
 obtain ⟨q0,q1⟩:=aw5 A4.out (by decide)
 rw [q0] at HC
 have A5:=Lib.hid q1
 have HB9:=Lib.hid (HB8.out.trans (hB7.out.mono (Nat.le_of_lt HX.out.size)))
 clear q0 q1 A4 HX hB7 hR7 HB8
 generalize (submitP 1 ANN 25 [121,122] s4).1=s5 at *
 go_wp2_with fail
 refine HC.out.mono ?_
 rintro e w8 ⟨rfl,hA⟩
 have HB10:=Lib.hid (HB9.out.trans hA.bl)
 have HC:=Lib.hid (submit_x 1 ANN 26 [] none 0 hA.sx A5.out.full.sok (RdB.nil _ _) (by decide))
 rw [aw6 A5.out] at HC
 clear hA HB9
 go_wp2_with fail
 refine HC.out.mono ?_
 rintro e w9 ⟨rfl,hA⟩
 have HB11:=Lib.hid (HB10.out.trans hA.bl)
 have HC:=Lib.hid (submit_x 1 BOB 20 [] none 0 hA.sx A5.out.full.sok (RdB.nil _ _) (by decide))
 rw [aw7 A5.out] at HC
 clear hA HB10
 go_wp2_with fail
 refine HC.out.mono ?_
 rintro e w10 ⟨rfl,hA⟩
 have HB12:=Lib.hid (HB11.out.trans hA.bl)
 have HX:=Lib.hid hA.sx
 have HC:=Lib.hid (attempts_x 1 ANN hA.sx A5.out.full.sok)
 rw [A5.out.atts 1 ANN,att5.1] at HC
 have hdue:s5.dueP 1 ANN=20:=by unfold JS.dueP; rw [A5.out.task 1,A5.out.ext 1 ANN,att5.2.1,att5.2.2]; rfl
 rw [hdue] at HC
 clear hA HB11 hdue
 go_wp2_with fail
 refine HC.out.mono ?_
 rintro e w11 ⟨⟨v,rfl,hAt⟩,hb11⟩
 have HB13:=Lib.hid (HB12.out.trans (hb11.mono (Nat.le_of_lt HX.out.size)))
 have HX11:=Lib.hid (HX.out.below hb11)
 obtain ⟨g,cap,a0,c0,a1,c1,rfl,k0,k1,k2,k3,k4,k5,r0,r1⟩:=hAt.two
 have hcv:(convert 26 9 (.slice a1 2 c1)).run Tryz.prog w11=.ok (.string ⟨#[121,122]⟩) w11:=conv_c r1
 clear hAt hb11 HB12 HX HC r0 r1
 go_upto_region 14 with (fail)
 clear hcv k0 k1 k2 k3 k4 k5
 have HC:=Lib.hid (extend_x 1 ANN 5 HX11.out)
 obtain ⟨q0,q1⟩:=aw8 A5.out (by decide)
 rw [q0] at HC
 have A6:=Lib.hid q1
 clear q0 q1 A5
 generalize (extendP 1 ANN 5 s5).1=s6 at *
 go_wp2_with fail
 refine HC.out.mono ?_
 rintro e w12 ⟨rfl,hA⟩
 have HB14:=Lib.hid (HB13.out.trans hA.bl)
 have HX:=Lib.hid hA.sx
 have HC:=Lib.hid (attempts_x 1 ANN hA.sx A6.out.full.sok)
 rw [A6.out.atts 1 ANN,att6.1] at HC
 have hdue:s6.dueP 1 ANN=25:=by unfold JS.dueP; rw [A6.out.task 1,A6.out.ext 1 ANN,att6.2.1,att6.2.2]; rfl
 rw [hdue] at HC
 clear hA HB13 hdue HX11
 go_wp2_with fail
 refine HC.out.mono ?_
 rintro e w13 ⟨⟨v,rfl,hAt⟩,hb13⟩
 have HB15:=Lib.hid (HB14.out.trans (hb13.mono (Nat.le_of_lt HX.out.size)))
 have HX13:=Lib.hid (HX.out.below hb13)
 have HAT:=Lib.hid hAt
 obtain ⟨g2,cap2, -, -, -, -,rfl, -⟩:=hAt.two
 clear hAt hb13 HB14 HX HC
 obtain ⟨p,hp1,hp2⟩:=HX13.out.dx.mem
 have HO:=Lib.hid (open_c n0 p s6.d w13 HX13.out.st hp2 A6.out.full.live.ok.d (fun g hg=>⟨(hp1 g hg).2,by have:=(hp1 g hg).1; have:=HX13.out.pos; omega⟩))
 have HE:Hid ((jOpen s6.d).c.ents=P6):=Lib.hid (by
  have h1:=(A6.out.full.live.has).ents
  have h2:=A6.out.ents
  unfold jOpen
  simp only
  rw [h1,h2])
 have HUP:=Lib.hid (open_live A6.out.full.live.ok.d).up
 clear hp1 hp2
 generalize jOpen s6.d=s7 at *
 go_wp2_with fail
 refine HO.out.mono ?_
 rintro e w14 ⟨jb2,mb2,rfl, -, -,hJ,hb14⟩
 have HG:=Lib.hid (sgetP_c [97,48,48,48,49,32,97,110,110,32,48,50] w14 hJ HUP.out (by decide))
 rw [HE.out,get6] at HG
 simp only [Option.getD_some,Option.isSome_some] at HG
 have HB16:=Lib.hid (HB15.out.trans (hb14.mono (Nat.le_of_lt HX13.out.size)))
 obtain ⟨g3,c3,a0,c0,a1,c1,e2,k0,k1,k2,k3,k4,k5,r0,r1⟩:=HAT.out.two
 simp only [Value.slice.injEq,Option.some.injEq,Addr.mk.injEq,and_true,true_and] at e2
 obtain ⟨rfl,rfl⟩:=e2
 replace k1:=(hb14.cell (p:=⟨g2,1,none⟩) (World.block_lt_of_cell? w13 _ k1)).trans k1
 replace k4:=(hb14.cell (p:=⟨g2,4,none⟩) (World.block_lt_of_cell? w13 _ k4)).trans k4
 clear k0 k2 k3 k5 r0 r1 HO hJ HAT HE
 have HB14':=Lib.hid hb14
 clear hb14
 go_wp2_with fail
 refine HG.out.mono ?_
 rintro e w15 ⟨⟨a9,c9,rfl,hr9⟩,hb15⟩
 have hcv:(convert 26 9 (.slice a9 6 c9)).run Tryz.prog w15=.ok (.string ⟨#[0,0,0,25,121,122]⟩) w15:=conv_c hr9.toB
 replace k1:=(hb15.cell (p:=⟨g2,1,none⟩) (World.block_lt_of_cell? w14 _ k1)).trans k1
 replace k4:=(hb15.cell (p:=⟨g2,4,none⟩) (World.block_lt_of_cell? w14 _ k4)).trans k4
 have HB17:=Lib.hid (HB16.out.trans (hb15.mono (Nat.le_trans (Nat.le_of_lt HX13.out.size) HB14'.out.size)))
 clear HG hb15 hr9 HB16
 go_wp2
 go_ret
 exact ⟨rfl,HB17.out⟩
end
section
open Go.RowKit SeedP Go.Maps
/-- a text that Few accepts -/
def fitN (n:Nat):Prop:=n≤200∨(4000 < n∧n≤4010)
/-- an act that Few accepts -/
structure FitA (a:SActP):Prop where
 cls:a.cls.length≤40
 stu:a.stu.length≤40
 tcls:a.task.cls.length≤40
 tname:a.task.name.length≤40
 body:fitN a.task.body.length
 text:fitN a.text.length
open Classical in
/-- what Few answers -/
noncomputable def fewP (L:List SActP):Bool:=decide (L.length≤25∧∀ a ∈ L,FitA a)
def FewRet (L:List SActP) (e:Ending):Prop:=e=.returned (.bool (fewP L))
open Classical in
theorem FewRet.no {L:List SActP} (h:¬ (L.length≤25∧∀ a ∈ L,FitA a)):FewRet L (.returned (.bool false)):=by
 unfold FewRet fewP
 rw [decide_eq_false h]
open Classical in
theorem FewRet.yes {L:List SActP} (h:L.length≤25∧∀ a ∈ L,FitA a):FewRet L (.returned (.bool true)):=by
 unfold FewRet fewP
 rw [decide_eq_true h]
theorem fitN.le {n:Nat} (h:fitN n):n≤4010:=by rcases h with h | h <;> omega
open Classical in
theorem few_small {L:List SActP} (h:fewP L=true):L.length≤25∧∀ a ∈ L,a.Small:=by
 unfold fewP at h
 have k:=of_decide_eq_true h
 exact ⟨k.1,fun a ha=>⟨(k.2 a ha).cls,(k.2 a ha).stu,(k.2 a ha).tcls,(k.2 a ha).tname,(k.2 a ha).body.le,(k.2 a ha).text.le⟩⟩
/-- what Few hands back, in short -/
def SFewPost (L:List SActP) (e:Ending):Prop:=∃ b,e=.returned (.bool b)∧(b=true→L.length≤25∧∀ a ∈ L,a.Small)
set_option maxRecDepth 100000 in
set_option maxHeartbeats 4000000 in
/-- Few -/
theorem sfewD_c (vl:Value) (L:List SActP) (w:World) (hL:SActsAt w w.heap.size vl L) :
 Calls Tryz.prog 12 #[vl] w fun e w'=>FewRet L e∧Below w.heap.size w w':=by
 have hun:undef=Value.tuple #[]:=rfl
 have HL:=Lib.hid hL
 obtain ⟨al,cl,rfl, -, -, -⟩:=hL
 have W0:=Lib.hid (Below.refl w.heap.size w)
 by_cases hn:25 < L.length
 ·have t1:(25:Int) < (L.length:Int):=by omega
  go_enter Tryz.func12,Tryz.ntmps12
  go_wp2
  go_ret
  exact ⟨FewRet.no (fun h=>by have:=h.1; omega),W0.out⟩
 have t1:¬ (25:Int) < (L.length:Int):=by omega
 go_enter Tryz.func12,Tryz.ntmps12
 go_wp2
 go_loopw [3] (fun iv wr=>∃ i:Nat,i≤L.length∧iv=.int .i64 i∧(∀ a ∈ L.take i,FitA a)∧Below w.heap.size w wr) (fun i _=>L.length - (intOf i).toNat)
 case atStart=>exact ⟨0,Nat.zero_le _,rfl,(fun a ha=>by cases ha),W0.out⟩
 case round=>
  obtain ⟨i,hi,rfl,hs,hb⟩:=hrel
  have HS:=Lib.hid hs
  have HB:=Lib.hid hb
  clear hs hb
  by_cases hlt:i < L.length
  ·have b1:decide ((i:Int) < (L.length:Int))=true:=decide_eq_true (by omega)
   have b2:(i:Int) < (L.length:Int):=by omega
   obtain ⟨g,off,cap,ab,cb,ax,cx,e0, -, -,hg,⟨c0,c1,c2,c3,c4,c5,c6,c7,c8,c9,c10,c11,c12⟩, -, -⟩:=HL.out.at hlt
   simp only [Value.slice.injEq] at e0
   obtain ⟨rfl, -,rfl⟩:=e0
   have HX:Hid (L.take (i+1)=L.take i ++ [L[i]]):=Lib.hid (List.take_succ_eq_append_getElem hlt)
   replace c0:=(HB.out.cell (p:=⟨g,off+i * 13,none⟩) hg).trans c0
   replace c1:=(HB.out.cell (p:=⟨g,off+i * 13+1,none⟩) hg).trans c1
   replace c2:=(HB.out.cell (p:=⟨g,off+i * 13+2,none⟩) hg).trans c2
   replace c3:=(HB.out.cell (p:=⟨g,off+i * 13+3,none⟩) hg).trans c3
   replace c4:=(HB.out.cell (p:=⟨g,off+i * 13+4,none⟩) hg).trans c4
   replace c5:=(HB.out.cell (p:=⟨g,off+i * 13+5,none⟩) hg).trans c5
   replace c6:=(HB.out.cell (p:=⟨g,off+i * 13+6,none⟩) hg).trans c6
   replace c7:=(HB.out.cell (p:=⟨g,off+i * 13+7,none⟩) hg).trans c7
   replace c8:=(HB.out.cell (p:=⟨g,off+i * 13+8,none⟩) hg).trans c8
   replace c9:=(HB.out.cell (p:=⟨g,off+i * 13+9,none⟩) hg).trans c9
   replace c10:=(HB.out.cell (p:=⟨g,off+i * 13+10,none⟩) hg).trans c10
   replace c11:=(HB.out.cell (p:=⟨g,off+i * 13+11,none⟩) hg).trans c11
   replace c12:=(HB.out.cell (p:=⟨g,off+i * 13+12,none⟩) hg).trans c12
   have HM:Hid (L[i] ∈ L):=Lib.hid (List.getElem_mem hlt)
   generalize L[i]=a at *
   obtain ⟨kind,cls,stu,⟨tcls,tname,frm,due,late,tries,body⟩,id,n,text⟩:=a
   simp only at c0 c1 c2 c3 c4 c5 c6 c7 c8 c9 c10 c11 c12
   go_upto_region 7 with (fail)
   have hY:=Blk.new wr 37 [.int .i64 kind,strV cls,strV stu,strV tcls,strV tname,.int .i64 frm,.int .i64 due,.int .i64 late,.int .i64 tries,.slice ab body.length cb,.int .i64 id,.int .i64 n,.slice ax text.length cx]
   have HB2:=Lib.hid (HB.out.alloc HB.out.size (.cells #[.int .i64 kind,strV cls,strV stu,strV tcls,strV tname,.int .i64 frm,.int .i64 due,.int .i64 late,.int .i64 tries,.slice ab body.length cb,.int .i64 id,.int .i64 n,.slice ax text.length cx] 37))
   change Code.wp _ _ _ _ (wr.alloc (.cells #[.int .i64 kind,strV cls,strV stu,strV tcls,strV tname,.int .i64 frm,.int .i64 due,.int .i64 late,.int .i64 tries,.slice ab body.length cb,.int .i64 id,.int .i64 n,.slice ax text.length cx] 37))
   generalize wr.alloc (.cells #[.int .i64 kind,strV cls,strV stu,strV tcls,strV tname,.int .i64 frm,.int .i64 due,.int .i64 late,.int .i64 tries,.slice ab body.length cb,.int .i64 id,.int .i64 n,.slice ax text.length cx] 37)=w2 at *
   generalize wr.heap.size=ab1 at *
   have HY:=Lib.hid hY
   have y1:=hY.cell 1 (by simp)
   have y2:=hY.cell 2 (by simp)
   have y3:=hY.cell 3 (by simp)
   have y4:=hY.cell 4 (by simp)
   simp only [List.getD_cons_succ,List.getD_cons_zero] at y1 y2 y3 y4
   clear hY c0 c1 c2 c3 c4 c5 c6 c7 c8 c9 c10 c11 c12
   go_upto_region 8 with (fail)
   have hY3:=Blk.new w2 9 [strV cls,strV stu,strV tcls,strV tname]
   have HB3:=Lib.hid (HB2.out.alloc HB2.out.size (.cells #[strV cls,strV stu,strV tcls,strV tname] 9))
   have HY3:=Lib.hid (HY.out.alloc (.cells #[strV cls,strV stu,strV tcls,strV tname] 9))
   generalize w2.alloc (.cells #[strV cls,strV stu,strV tcls,strV tname] 9)=w3 at *
   generalize w2.heap.size=nb at *
   have HN:Hid (∀ j,j < 4→w3.cell? ⟨nb,j,none⟩=some (strV ([cls,stu,tcls,tname].getD j []))):=Lib.hid (fun j hj=>by
    have:=hY3.cell j (by simpa using hj)
    rw [this]
    match j,hj with
    | 0,_=>rfl
    | 1,_=>rfl
    | 2,_=>rfl
    | 3,_=>rfl)
   clear hY3 HB2 HY y1 y2 y3 y4
   generalize hNM:[cls,stu,tcls,tname]=NM at HN
   have HNM:=Lib.hid hNM
   clear hNM
   go_loopw [34] (fun jv wx=>∃ j:Nat,j≤4∧jv=.int .i64 j∧(∀ q,q < j→(NM.getD q []).length≤40)∧wx=w3) (fun j _=>4 - (intOf j).toNat)
   case atStart=>exact ⟨0,Nat.zero_le _,rfl,(fun q hq=>by omega),rfl⟩
   case round=>
    obtain ⟨j,hj,rfl,hs3,rfl⟩:=hrel
    have HS3:=Lib.hid hs3
    clear hs3
    by_cases hj4:j < 4
    ·have b3:decide ((j:Int) < 4)=true:=decide_eq_true (by omega)
     have b4:(j:Int) < 4:=by omega
     have hc:=HN.out j hj4
     have HK:=Lib.hid (fun (h:(NM.getD j []).length≤40) q (hq:q < j+1)=>(by
      rcases Nat.lt_or_ge q j with h2 | h2
      ·exact HS3.out q h2
      ·obtain rfl:q=j:=by omega
       exact h:(NM.getD q []).length≤40))
     have HNX:Hid ((∀ a ∈ L,FitA a)→(NM.getD j []).length≤40):=Lib.hid (fun h=>by
      have k:=h _ HM.out
      rw [← HNM.out]
      match j,hj4 with
      | 0,_=>exact k.cls
      | 1,_=>exact k.stu
      | 2,_=>exact k.tcls
      | 3,_=>exact k.tname)
     generalize NM.getD j []=x at *
     have hxs:=str_size x
     by_cases hx:x.length≤40
     ·have t2:decide ((40:Int) < (x.length:Int))=false:=decide_eq_false (by omega)
      have HK2:=Lib.hid (HK.out hx)
      clear hx HK HNX
      go_wp2
      go_roundw
      case rel=>exact ⟨j+1,by omega,by go_num,HK2.out,trivial⟩
      case measure=>simp [intOf]; omega
     ·have t2:decide ((40:Int) < (x.length:Int))=true:=decide_eq_true (by omega)
      have HN3:Hid (¬ ∀ a ∈ L,FitA a):=Lib.hid (fun h=>hx (HNX.out h))
      clear hx HK HNX
      go_wp2
      go_ret
      exact ⟨FewRet.no (fun h=>HN3.out h.2),HB3.out⟩
    ·have b3:decide ((j:Int) < 4)=false:=decide_eq_false (by omega)
     have HALL:Hid (cls.length≤40∧stu.length≤40∧tcls.length≤40∧tname.length≤40):=Lib.hid (by
      have h:=HS3.out
      rw [← HNM.out] at h
      have h0:=h 0 (by omega)
      have h1:=h 1 (by omega)
      have h2:=h 2 (by omega)
      have h3:=h 3 (by omega)
      simp only [List.getD_cons_succ,List.getD_cons_zero] at h0 h1 h2 h3
      exact ⟨h0,h1,h2,h3⟩)
     have y6:=HY3.out.cell 6 (by simp)
     have y9:=HY3.out.cell 9 (by simp)
     have y12:=HY3.out.cell 12 (by simp)
     simp only [List.getD_cons_succ,List.getD_cons_zero] at y6 y9 y12
     clear HN HS3
     go_upto_region 14 with (fail)
     have hY5:=Blk.new wr 26 [.slice ax text.length cx,.slice ab body.length cb]
     have HB5:=Lib.hid (HB3.out.alloc HB3.out.size (.cells #[.slice ax text.length cx,.slice ab body.length cb] 26))
     generalize wr.alloc (.cells #[.slice ax text.length cx,.slice ab body.length cb] 26)=w5 at *
     generalize wr.heap.size=tb at *
     have HT:Hid (∀ q,q < 2→∃ a n c,w5.cell? ⟨tb,q,none⟩=some (.slice a n c)∧n=[text.length,body.length].getD q 0):=Lib.hid (fun q hq=>by
      have:=hY5.cell q (by simpa using hq)
      match q,hq with
      | 0,_=>exact ⟨_,_,_,this,rfl⟩
      | 1,_=>exact ⟨_,_,_,this,rfl⟩)
     clear hY5 HB3 HY3 y6 y9 y12
     generalize hTL:[text.length,body.length]=TL at HT
     have HTL:=Lib.hid hTL
     clear hTL
     go_loopw [49] (fun qv wx=>∃ q:Nat,q≤2∧qv=.int .i64 q∧(∀ z,z < q→fitN (TL.getD z 0))∧wx=w5) (fun q _=>2 - (intOf q).toNat)
     case atStart=>exact ⟨0,Nat.zero_le _,rfl,(fun q hq=>by omega),rfl⟩
     case round=>
      obtain ⟨q,hq,rfl,hs5,rfl⟩:=hrel
      have HS5:=Lib.hid hs5
      clear hs5
      by_cases hq2:q < 2
      ·have e3:decide ((q:Int) < 2)=true:=decide_eq_true (by omega)
       have e4:(q:Int) < 2:=by omega
       obtain ⟨sa,sn,sc,hc,hsn⟩:=HT.out q hq2
       have HK:=Lib.hid (fun (h:fitN sn) z (hz:z < q+1)=>(by
        rcases Nat.lt_or_ge z q with h2 | h2
        ·exact HS5.out z h2
        ·obtain rfl:z=q:=by omega
         rw [← hsn]; exact h:fitN (TL.getD z 0)))
       have HTX:Hid ((∀ a ∈ L,FitA a)→fitN sn):=Lib.hid (fun h=>by
        have k:=h _ HM.out
        rw [hsn,← HTL.out]
        match q,hq2 with
        | 0,_=>exact k.text
        | 1,_=>exact k.body)
       clear hsn
       by_cases h1:200 < sn
       ·have t2:decide ((200:Int) < (sn:Int))=true:=decide_eq_true (by omega)
        by_cases h2:sn≤4000
        ·have t3:decide ((sn:Int)≤4000)=true:=decide_eq_true (by omega)
         have HN3:Hid (¬ ∀ a ∈ L,FitA a):=Lib.hid (fun h=>by have k:=HTX.out h; unfold fitN at k; omega)
         clear h1 h2 HK HTX
         go_wp2
         go_ret
         exact ⟨FewRet.no (fun h=>HN3.out h.2),HB5.out⟩
        ·have t3:decide ((sn:Int)≤4000)=false:=decide_eq_false (by omega)
         by_cases h3:4010 < sn
         ·have t4:decide ((4010:Int) < (sn:Int))=true:=decide_eq_true (by omega)
          have HN3:Hid (¬ ∀ a ∈ L,FitA a):=Lib.hid (fun h=>by have k:=HTX.out h; unfold fitN at k; omega)
          clear h1 h2 h3 HK HTX
          go_wp2
          go_ret
          exact ⟨FewRet.no (fun h=>HN3.out h.2),HB5.out⟩
         ·have t4:decide ((4010:Int) < (sn:Int))=false:=decide_eq_false (by omega)
          have HK2:=Lib.hid (HK.out (Or.inr ⟨by omega,by omega⟩))
          clear h1 h2 h3 HK HTX
          go_wp2
          go_roundw
          case rel=>exact ⟨q+1,by omega,by go_num,HK2.out,trivial⟩
          case measure=>simp [intOf]; omega
       ·have t2:decide ((200:Int) < (sn:Int))=false:=decide_eq_false (by omega)
        have HK2:=Lib.hid (HK.out (Or.inl (by omega)))
        clear h1 HK HTX
        go_wp2
        go_roundw
        case rel=>exact ⟨q+1,by omega,by go_num,HK2.out,trivial⟩
        case measure=>simp [intOf]; omega
      ·have e3:decide ((q:Int) < 2)=false:=decide_eq_false (by omega)
       have HALL2:Hid (fitN text.length∧fitN body.length):=Lib.hid (by
        have h:=HS5.out
        rw [← HTL.out] at h
        have h0:=h 0 (by omega)
        have h1:=h 1 (by omega)
        simp only [List.getD_cons_succ,List.getD_cons_zero] at h0 h1
        exact ⟨h0,h1⟩)
       clear HT HS5
       go_wp2
       go_roundw
       case rel=>
        refine ⟨i+1,by omega,by go_num,fun a ha=>?_,HB5.out⟩
        rw [HX.out] at ha
        rcases List.mem_append.1 ha with ha | ha
        ·exact HS.out a ha
        ·obtain rfl:=List.mem_singleton.1 ha
         obtain ⟨h1,h2,h3,h4⟩:=HALL.out
         exact ⟨h1,h2,h3,h4,HALL2.out.2,HALL2.out.1⟩
       case measure=>simp [intOf]; omega
  ·obtain rfl:i=L.length:=by omega
   have b1:decide ((L.length:Int) < (L.length:Int))=false:=by simp
   go_wp2
   go_ret
   refine ⟨FewRet.yes ⟨by omega,fun a ha=>HS.out a ?_⟩,HB.out⟩
   rw [List.take_length]; exact ha
theorem sfew_c (vl:Value) (L:List SActP) (w:World) (hL:SActsAt w w.heap.size vl L) :
 Calls Tryz.prog 12 #[vl] w fun e w'=>SFewPost L e∧Below w.heap.size w w':=
 (sfewD_c vl L w hL).mono (fun _ _ h=>⟨⟨_,h.1,few_small⟩,h.2⟩)
end
section
open Go.RowKit SeedP Go.Maps
def JS.taskZ (s:JS) (id:Int):TaskP:=(s.taskP id).getD zeroT
def earlyB (now:Int) (frm:Int) (l:List (Nat × List UInt8)):Bool:=decide (now < frm) || (match l.getLast? with
 | none=>false
 | some x=>decide (now < (x.1:Int)))
def inB (ok:Bool) (S:List (List UInt8)) (st:List UInt8) (k:Nat):Bool:=ok && (S.take k).any (· == st)
theorem inB_zero (ok:Bool) (S:List (List UInt8)) (st:List UInt8):inB ok S st 0=false:=by
 unfold inB; simp
theorem inB_succ (ok:Bool) {S:List (List UInt8)} (st:List UInt8) {k:Nat} (h:k < S.length):inB ok S st (k+1)=(inB ok S st k || (ok && (S[k] == st))):=by
 unfold inB
 rw [List.take_succ_eq_append_getElem h,List.any_append]
 cases ok <;> simp
/-- what the law calls fits -/
def fitB (inn:Bool) (now:Int) (len:Nat) (early:Bool) (late ext:Int) (al:Nat) (tries:Int):Bool:=
 ((((((inn && decide (0≤now)) && decide (now≤2147483647)) && decide ((len:Int)≤4000)) && !early) && decide (now≤late+ext)) && decide ((al:Int) < tries))
theorem fitB_iff {s:JS} {id:Int} {st:List UInt8} {now:Int} {tx:List UInt8} :
 fitB (inB (s.taskP id).isSome (s.studentsP (s.taskZ id).cls) st (s.studentsP (s.taskZ id).cls).length) now tx.length (earlyB now (s.taskZ id).frm (s.attsP id st)) (s.taskZ id).late (s.extP id st) (s.attsP id st).length (s.taskZ id).tries=true ↔ ∃ t,LawFits id st now tx s t:=by
 unfold fitB inB earlyB
 rw [List.take_length]
 simp only [Bool.and_eq_true,decide_eq_true_eq,Bool.not_eq_true',Bool.or_eq_false_iff,decide_eq_false_iff_not]
 constructor
 ·rintro ⟨⟨⟨⟨⟨⟨⟨h0,h1⟩,h2⟩,h3⟩,h4⟩,h5,h6⟩,h7⟩,h8⟩
  obtain ⟨t,ht⟩:=Option.isSome_iff_exists.1 h0
  have hz:s.taskZ id=t:=by unfold JS.taskZ; rw [ht]; rfl
  rw [hz] at h1 h5 h7 h8
  refine ⟨t,ht,?_,h2,h3,by omega,by omega,fun x hx=>?_,h7,h8⟩
  ·obtain ⟨x,hx,e⟩:=List.any_eq_true.1 h1
   rw [← (show x=st by simpa using e)]; exact hx
  ·rw [hx] at h6
   have:¬ now < (x.1:Int):=by simpa using h6
   omega
 ·rintro ⟨t,h⟩
  have ht:=h.task
  have hz:s.taskZ id=t:=by unfold JS.taskZ; rw [ht]; rfl
  rw [hz]
  refine ⟨⟨⟨⟨⟨⟨⟨by rw [ht]; rfl,List.any_eq_true.2 ⟨st,h.in_,by simp⟩⟩,h.n0⟩,h.n1⟩,by have:=h.tx; omega⟩,by have:=h.from_; omega,?_⟩,h.late⟩,h.tries⟩
  have hl:=h.last
  generalize (s.attsP id st).getLast?=o at *
  cases o with
  | none=>rfl
  | some x=>exact decide_eq_false (by have:=hl x rfl; omega)
end
section
open Go.RowKit SeedP Go.Maps
structure AtsAt (w:World) (v:Value) (due:Int) (L:List (Nat × List UInt8)):Prop where
 form:∃ a c,v=.slice a L.length c
 get:∀ j (hj:j < L.length),∃ g cap a c,v=.slice (some ⟨g,0,none⟩) L.length cap∧g < w.heap.size∧w.cell? ⟨g,j * 3,none⟩=some (.int .i64 (L[j].1:Nat))∧w.cell? ⟨g,j * 3+1,none⟩=some (.bool (decide (due < ((L[j].1:Nat):Int))))∧w.cell? ⟨g,j * 3+2,none⟩=some (.slice a L[j].2.length c) ∧
    RdB w w.heap.size (.slice a L[j].2.length c) L[j].2
theorem AttsW.ats {w:World} {B:Nat} {v:Value} {due:Int} {L:List (Nat × List UInt8)} (h:AttsW w B v due L):AtsAt w v due L:=
 ⟨h.len,fun j hj=>by
  obtain ⟨g,cap,a,c,e, -,hg,h0,h1,h2,hr⟩:=h.get j hj
  exact ⟨g,cap,a,c,e,hg,h0,h1,h2,hr.toB⟩⟩
theorem AtsAt.below {w w':World} {v:Value} {due:Int} {L:List (Nat × List UInt8)} (h:AtsAt w v due L) (hb:Below w.heap.size w w'):AtsAt w' v due L:=
 ⟨h.form,fun j hj=>by
  obtain ⟨g,cap,a,c,e,hg,h0,h1,h2,hr⟩:=h.get j hj
  exact ⟨g,cap,a,c,e,Nat.lt_of_lt_of_le hg hb.size,(hb.cell (p:=⟨g,_,none⟩) hg).trans h0,(hb.cell (p:=⟨g,_,none⟩) hg).trans h1,(hb.cell (p:=⟨g,_,none⟩) hg).trans h2,(hr.below hb).mono hb.size⟩⟩
/-- an attempt of the list, by its number -/
theorem AtsAt.at_ {w:World} {a0:Option Addr} {n c0:Nat} {due:Int} {L:List (Nat × List UInt8)} (h:AtsAt w (.slice a0 n c0) due L) {j:Nat} (hj:j < L.length) {x:Nat × List UInt8} (hx:L[j]=x) :
 ∃ g a c,a0=some ⟨g,0,none⟩∧g < w.heap.size∧w.cell? ⟨g,j * 3,none⟩=some (.int .i64 (x.1:Nat))∧w.cell? ⟨g,j * 3+1,none⟩=some (.bool (decide (due < ((x.1:Nat):Int))))∧w.cell? ⟨g,j * 3+2,none⟩=some (.slice a x.2.length c)∧RdB w w.heap.size (.slice a x.2.length c) x.2:=by
 obtain ⟨g,cap,a,c,e,hg,h0,h1,h2,hr⟩:=h.get j hj
 simp only [Value.slice.injEq] at e
 rw [hx] at h0 h1 h2 hr
 exact ⟨g,a,c,e.1,hg,h0,h1,h2,hr⟩
theorem attempts_y {n0:Nat} {w:World} {sb db jb mb:Nat} {s:JS} (id:Int) (st:List UInt8) (h:SX n0 w sb db jb mb s) (hok:SOk s):Calls Tryz.prog 22 #[sv sb,.int .i64 id,strV st] w fun e w'=>(∃ a c,e=.returned (.slice a (s.attsP id st).length c)∧AtsAt w' (.slice a (s.attsP id st).length c) (s.dueP id st) (s.attsP id st))∧Below w.heap.size w w':=by
 refine (attempts_x id st h hok).mono ?_
 rintro e w' ⟨⟨v,rfl,hv⟩,hb⟩
 obtain ⟨a,c,rfl⟩:=hv.len
 exact ⟨⟨a,c,rfl,hv.ats⟩,hb⟩
end
section
open Go.RowKit SeedP Go.Maps
set_option maxRecDepth 100000 in
theorem sameBytes_c (va vb:Value) (la lb:List UInt8) (w:World) (ha:RdB w w.heap.size va la) (hb:RdB w w.heap.size vb lb) :
 Calls Tryz.prog 28 #[va,vb] w fun e w'=>e=.returned (.bool (decide (la=lb)))∧Below w.heap.size w w':=by
 obtain ⟨aa,ca,rfl,hma,_,hca⟩:=ha.open_
 obtain ⟨ab,cb,rfl,hmb,_,hcb⟩:=hb.open_
 unfold maxLen at hma hmb
 have HA:=Lib.hid hca
 have HB:=Lib.hid hcb
 clear hca hcb ha hb
 by_cases hl:la.length=lb.length
 ·have HD:=Lib.hid hl
  rw [← hl]
  clear hl
  go_enter Tryz.func28,Tryz.ntmps28
  go_wp2
  go_loopw [5] (fun i wr=>∃ j:Nat,j≤la.length∧i=.int .i64 j∧Hid (la.take j=lb.take j)∧Below w.heap.size w wr) (fun i _=>la.length - (intOf i).toNat)
  case atStart=>exact ⟨0,Nat.zero_le _,rfl,Lib.hid rfl,Below.refl _ _⟩
  case round=>
   obtain ⟨j,hj,rfl,HT,hb⟩:=hrel
   by_cases hlt:j < la.length
   ·rcases HA.out with rfl | ⟨ga,oa,rfl,_,_,hga,hcella⟩
    ·simp at hlt
    rcases HB.out with e | ⟨gb,ob,rfl,_,_,hgb,hcellb⟩
    ·have h2:=HD.out; rw [e] at h2; have h3:la.length=0:=h2; omega
    have c1:=keep_cell hb (hcella j hlt)
    have c2:=keep_cell hb (hcellb j (by rw [← HD.out]; exact hlt))
    have hE:=Lib.hid (show la.take (j+1)=la.take j ++ [la.getD j 0]∧lb.take (j+1)=lb.take j ++ [lb.getD j 0] from ⟨by rw [List.take_succ_eq_append_getElem hlt,List.getD_eq_getElem?_getD,List.getElem?_eq_getElem hlt]; rfl,by rw [List.take_succ_eq_append_getElem (by rw [← HD.out]; exact hlt),List.getD_eq_getElem?_getD,List.getElem?_eq_getElem (by rw [← HD.out]; exact hlt)]; rfl⟩)
    generalize la.getD j 0=x at *
    generalize lb.getD j 0=y at *
    have HBB:=Lib.hid hb
    have hx8:=x.toNat_lt
    have hy8:=y.toNat_lt
    by_cases hxy:x=y
    ·subst hxy
     have hne:(((x.toNat:Int)) != ((x.toNat:Int)))=false:=by simp
     have HN:=Lib.hid (show la.take (j+1)=lb.take (j+1) by rw [hE.out.1,hE.out.2,HT.out])
     clear hcella hcellb hga hgb hb HT hE
     go_upto_region 6 with (fail)
     go_quiet (fail)
     all_goals
      go_wp2
      go_roundw
      case rel=>exact ⟨j+1,by omega,by go_num,HN,below_drewN HBB.out _⟩
      case measure=>simp [intOf]; omega
    ·have hne:(((x.toNat:Int)) != ((y.toNat:Int)))=true:=by
      simp only [bne_iff_ne,ne_eq]
      exact fun e=>hxy (UInt8.toNat_inj.1 (by omega))
     have HN:=Lib.hid (show decide (la=lb)=false from decide_eq_false (fun e=>by
      have h:=hE.out
      rw [e] at h
      have:=List.append_cancel_left (h.1.symm.trans h.2)
      exact hxy (by injection this)))
     clear hcella hcellb hga hgb hb HT hE hxy
     go_upto_region 6 with (fail)
     go_quiet (fail)
     all_goals
      go_wp2
      go_ret
      exact ⟨by rw [HN.out]; rfl,below_drewN HBB.out _⟩
   ·obtain rfl:j=la.length:=by omega
    have HN:=Lib.hid (show decide (la=lb)=true from decide_eq_true (by
     have h:=HT.out
     rw [List.take_length,HD.out,List.take_length] at h
     exact h))
    clear HT
    go_wp2
    go_ret
    exact ⟨by rw [HN.out]; rfl,hb⟩
 ·have HN:=Lib.hid (show decide (la=lb)=false from decide_eq_false (fun e=>hl (by rw [e])))
  have hne:((la.length:Int) != (lb.length:Int))=true:=by simp only [bne_iff_ne,ne_eq]; omega
  clear hl
  go_enter Tryz.func28,Tryz.ntmps28
  go_wp2
  go_ret
  exact ⟨by rw [HN.out]; rfl,Below.refl _ _⟩
end
section
open Go.RowKit SeedP Go.Maps
theorem sameB_c (va vb:Value) (l:List UInt8) (w:World) (ha:RdB w w.heap.size va l) (hb:RdB w w.heap.size vb l) :
 Calls Tryz.prog 28 #[va,vb] w fun e w'=>e=.returned (.bool true)∧Below w.heap.size w w':=by
 have h:=sameBytes_c va vb l l w ha hb
 rw [decide_eq_true rfl] at h
 exact h
end
section
open Go.RowKit SeedP Go.Maps
set_option linter.unusedSectionVars false
set_option linter.unusedSimpArgs false
set_option linter.unusedVariables false
section
variable (ρ:Operand→Value) (d:Option Tmp) (ty:TypeId) (pos:String) (af:Array Edge) (gd:Option (Nat × Bool)) (w:World)
theorem yr_ldi (x:Operand) (ad:Addr) (v:Value) (hx:ρ x=.pointer (some ad)) (hc:w.cell? ad=some v) :
 (execOp ρ ⟨d,.load 3 x,ty,pos,af,gd⟩).run Tryz.prog w=.ok (.value v) w:=by
 simp [go_sem,hx,hc]
theorem yr_ldo (x:Operand) (ad:Addr) (v:Value) (hx:ρ x=.pointer (some ad)) (hc:w.cell? ad=some v) :
 (execOp ρ ⟨d,.load 4 x,ty,pos,af,gd⟩).run Tryz.prog w=.ok (.value v) w:=by
 simp [go_sem,hx,hc]
theorem yr_ldb (x:Operand) (ad:Addr) (v:Value) (hx:ρ x=.pointer (some ad)) (hc:w.cell? ad=some v) :
 (execOp ρ ⟨d,.load 26 x,ty,pos,af,gd⟩).run Tryz.prog w=.ok (.value v) w:=by
 simp [go_sem,hx,hc]
theorem yr_len (x:Operand) (a:Option Addr) (n c:Nat) (hx:ρ x=.slice a n c) :
 (execOp ρ ⟨d,.call { callee:=.builtin .len,args:=#[x],argTypes:=#[49] },3,pos,af,gd⟩).run Tryz.prog w=.ok (.value (.int .i64 n)) w:=by
 simp [go_sem,hx]
theorem yr_add (x y:Operand) (a b c:Int) (hx:ρ x=.int .i64 a) (hy:ρ y=.int .i64 b) (hc:IntKind.i64.wrap (a+b)=c) :
 (execOp ρ ⟨d,.binOp .add 3 x y 3,ty,pos,af,gd⟩).run Tryz.prog w=.ok (.value (.int .i64 c)) w:=by
 subst hc
 simp [go_sem,hx,hy]
theorem yr_sub (x y:Operand) (a b c:Int) (hx:ρ x=.int .i64 a) (hy:ρ y=.int .i64 b) (hc:IntKind.i64.wrap (a - b)=c) :
 (execOp ρ ⟨d,.binOp .sub 3 x y 3,ty,pos,af,gd⟩).run Tryz.prog w=.ok (.value (.int .i64 c)) w:=by
 subst hc
 simp [go_sem,hx,hy]
theorem yr_neq (x y:Operand) (a:Int) (hx:ρ x=.int .i64 a) (hy:ρ y=.int .i64 a) :
 (execOp ρ ⟨d,.binOp .neq 3 x y 3,ty,pos,af,gd⟩).run Tryz.prog w=.ok (.value (.bool false)) w:=by
 simp [go_sem,hx,hy]
theorem yr_gtr (x y:Operand) (a b:Int) (q:Bool) (hx:ρ x=.int .i64 a) (hy:ρ y=.int .i64 b) (hq:decide (b < a)=q) :
 (execOp ρ ⟨d,.binOp .gtr 3 x y 3,ty,pos,af,gd⟩).run Tryz.prog w=.ok (.value (.bool q)) w:=by
 subst hq
 simp [go_sem,hx,hy]
theorem yr_nob (x y:Operand) (q:Bool) (hx:ρ x=.bool q) (hy:ρ y=.bool q) :
 (execOp ρ ⟨d,.binOp .neq 4 x y 4,ty,pos,af,gd⟩).run Tryz.prog w=.ok (.value (.bool false)) w:=by
 cases q <;> simp [go_sem,hx,hy]
theorem yr_at (x y:Operand) (g n c i:Nat) (hx:ρ x=.slice (some ⟨g,0,none⟩) n c) (hy:ρ y=.int .i64 (i:Int)) (hi:i < n) :
 (execOp ρ ⟨d,.indexAddr 49 x y,ty,pos,af,gd⟩).run Tryz.prog w=.ok (.value (.pointer (some ⟨g,i * 3,none⟩))) w:=by
 have b1:(i:Int) < n:=by omega
 simp [go_sem,hx,hy,b1]
end
end
end Go.Proofs.YtbcfpdlhieaepaaGreatDoor
