/- What the laws of the school share. Plain law. -/
import Derived.Test.YtbcfpdlhieaepaaGreatDoorQ42
import Derived.Lib.SlBytesConst
import Derived.Test.YtbcfpdlhieaepaaGreatDoorQ28
import Derived.BigQuiet
import Derived.Test.YtbcfpdlhieaepaaGreatDoorQ26
namespace Go.Proofs.YtbcfpdlhieaepaaGreatDoor
section
open Go.RowKit SeedP Go.Maps
theorem SFull.reopen {s:JS} {g:Nat} (h:SFull s g):s.d.Ok∧isSchoolP (jOpen s.d).c.ents=true∧SFull (jOpen s.d) g∧(jOpen s.d).c.ents=s.c.ents:=by
 have hh:=(h.live.has).mono h.gen
 obtain ⟨h1,h2⟩:=hh.open_ h.ok h.pw
 refine ⟨hh.ok,?_,h1,h2⟩
 rw [h2]
 exact isSchool_ok h.live.ord h.ok
/-- the j-th act, in a later world -/
theorem SActsAt.get {w wr:World} {v:Value} {L:List SActP} (h:SActsAt w w.heap.size v L) (hb:Below w.heap.size w wr) {j:Nat} (hj:j < L.length) :
 ∃ g off cap ab cb ax cx,v=.slice (some ⟨g,off,none⟩) L.length cap ∧
   (wr.cell? ⟨g,off+j * 13,none⟩=some (.int .i64 L[j].kind)∧wr.cell? ⟨g,off+j * 13+1,none⟩=some (strV L[j].cls)∧wr.cell? ⟨g,off+j * 13+2,none⟩=some (strV L[j].stu) ∧
    wr.cell? ⟨g,off+j * 13+3,none⟩=some (strV L[j].task.cls)∧wr.cell? ⟨g,off+j * 13+4,none⟩=some (strV L[j].task.name)∧wr.cell? ⟨g,off+j * 13+5,none⟩=some (.int .i64 L[j].task.frm)∧wr.cell? ⟨g,off+j * 13+6,none⟩=some (.int .i64 L[j].task.due)∧wr.cell? ⟨g,off+j * 13+7,none⟩=some (.int .i64 L[j].task.late)∧wr.cell? ⟨g,off+j * 13+8,none⟩=some (.int .i64 L[j].task.tries) ∧
    wr.cell? ⟨g,off+j * 13+9,none⟩=some (.slice ab L[j].task.body.length cb)∧wr.cell? ⟨g,off+j * 13+10,none⟩=some (.int .i64 L[j].id)∧wr.cell? ⟨g,off+j * 13+11,none⟩=some (.int .i64 L[j].n)∧wr.cell? ⟨g,off+j * 13+12,none⟩=some (.slice ax L[j].text.length cx)) ∧
   RdB w w.heap.size (.slice ab L[j].task.body.length cb) L[j].task.body∧RdB w w.heap.size (.slice ax L[j].text.length cx) L[j].text:=by
 obtain ⟨g,off,cap,ab,cb,ax,cx,e, -, -,hg,⟨c0,c1,c2,c3,c4,c5,c6,c7,c8,c9,c10,c11,c12⟩,hr1,hr2⟩:=h.at hj
 have k:∀ o x,w.cell? ⟨g,o,none⟩=some x→wr.cell? ⟨g,o,none⟩=some x:=fun o x hx=>(hb.cell (p:=⟨g,o,none⟩) hg).trans hx
 exact ⟨g,off,cap,ab,cb,ax,cx,e,⟨k _ _ c0,k _ _ c1,k _ _ c2,k _ _ c3,k _ _ c4,k _ _ c5,k _ _ c6,k _ _ c7,k _ _ c8,k _ _ c9,k _ _ c10,k _ _ c11,k _ _ c12⟩,hr1,hr2⟩
/-- the cells of an act that has been copied -/
theorem actBlk {w:World} {g:Nat} {t:TypeId} {a:SActP} {vb vt:Value} (h:Blk w g t (actCells a vb vt)) :
 w.cell? ⟨g,0,none⟩=some (.int .i64 a.kind)∧w.cell? ⟨g,1,none⟩=some (strV a.cls)∧w.cell? ⟨g,2,none⟩=some (strV a.stu)∧w.cell? ⟨g,3,none⟩=some (strV a.task.cls)∧w.cell? ⟨g,4,none⟩=some (strV a.task.name)∧w.cell? ⟨g,5,none⟩=some (.int .i64 a.task.frm)∧w.cell? ⟨g,6,none⟩=some (.int .i64 a.task.due)∧w.cell? ⟨g,7,none⟩=some (.int .i64 a.task.late)∧w.cell? ⟨g,8,none⟩=some (.int .i64 a.task.tries) ∧
  w.cell? ⟨g,9,none⟩=some vb∧w.cell? ⟨g,10,none⟩=some (.int .i64 a.id)∧w.cell? ⟨g,11,none⟩=some (.int .i64 a.n)∧w.cell? ⟨g,12,none⟩=some vt:=
 ⟨h.cell 0 (by simp [actCells]),h.cell 1 (by simp [actCells]),h.cell 2 (by simp [actCells]),h.cell 3 (by simp [actCells]),h.cell 4 (by simp [actCells]),h.cell 5 (by simp [actCells]),h.cell 6 (by simp [actCells]),h.cell 7 (by simp [actCells]),h.cell 8 (by simp [actCells]),h.cell 9 (by simp [actCells]),h.cell 10 (by simp [actCells]),h.cell 11 (by simp [actCells]),h.cell 12 (by simp [actCells])⟩
theorem behind_len (p:List UInt8) (P:PEnts):(behindP p P).length≤P.length:=by
 unfold behindP
 rw [List.length_map]
 refine Nat.le_trans (List.length_filter_le _ _) ?_
 unfold keysOf
 rw [List.length_map]
 exact Nat.le_refl _
theorem Live.len {s:JS} (h:Live s):s.c.ents.length≤131072:=by
 have h1:=pWt_len s.c.ents
 have h2:=h.ok.wt
 have h3:=h.ok.max
 omega
theorem students_len {s:JS} (h:Live s) (c:List UInt8):(s.studentsP c).length≤1000000:=by
 have:=h.len
 have:=behind_len (mkey c []) s.c.ents
 unfold JS.studentsP
 split
 ·simp
 ·omega
/-- the act's memory, later -/
theorem RdB.later {w wr:World} {v:Value} {l:List UInt8} (h:RdB w w.heap.size v l) (hb:Below w.heap.size w wr):RdB wr wr.heap.size v l:=(h.below hb).mono hb.size
/-! ### the five questions, asked of either school -/
section
variable {n0 n1:Nat} {w7 W:World} {sb sb2 jb jb2 mb mb2 db db2:Nat} {s t:JS} {x:Nat}
end
end
section
open Go.RowKit SeedP Go.Maps
theorem sch0:isSchoolP (jOpen ⟨-1,[],[]⟩).c.ents=true:=by
 rw [open_empty.2]
 exact isSchool_ok List.Pairwise.nil SchoolOk.nil
theorem ok0:(⟨-1,[],[]⟩:DS).Ok:=⟨by decide,by decide,by decide,by decide⟩
theorem at0:AtP (jOpen ⟨-1,[],[]⟩) 0 []:=⟨open_empty.1,open_empty.2⟩
theorem AttsW.two {w:World} {B:Nat} {v:Value} {due:Int} {t0 t1:Nat} {x0 x1:List UInt8} (h:AttsW w B v due [(t0,x0),(t1,x1)]) :
 ∃ g c a0 c0 a1 c1,v=.slice (some ⟨g,0,none⟩) 2 c∧w.cell? ⟨g,0,none⟩=some (.int .i64 (t0:Nat))∧w.cell? ⟨g,1,none⟩=some (.bool (decide (due < (t0:Int))))∧w.cell? ⟨g,2,none⟩=some (.slice a0 x0.length c0) ∧
   w.cell? ⟨g,3,none⟩=some (.int .i64 (t1:Nat))∧w.cell? ⟨g,4,none⟩=some (.bool (decide (due < (t1:Int))))∧w.cell? ⟨g,5,none⟩=some (.slice a1 x1.length c1)∧RdB w w.heap.size (.slice a0 x0.length c0) x0∧RdB w w.heap.size (.slice a1 x1.length c1) x1:=by
 obtain ⟨g,cap,a0,c0,e0,hg0,hg1,k0,k1,k2,r0⟩:=h.get 0 (Nat.zero_lt_succ _)
 obtain ⟨g',cap',a1,c1,e1, -, -,k3,k4,k5,r1⟩:=h.get 1 (Nat.lt_succ_self _)
 rw [e0] at e1
 simp only [Value.slice.injEq,Option.some.injEq,Addr.mk.injEq,and_true,true_and] at e1
 obtain ⟨rfl,rfl⟩:=e1
 exact ⟨g,cap,a0,c0,a1,c1,e0,k0,k1,k2,k3,k4,k5,r0.toB,r1.toB⟩
theorem cell_new_fr (w:World) (C:Array Value) (e:TypeId) (fr:Nat × Nat) (j:Nat):(w.alloc (.cells C e fr)).cell? ⟨w.heap.size,j,none⟩=C[j]?:=by
 have h:(w.alloc (.cells C e fr)).heap[w.heap.size]?=some (.cells C e fr):=World.alloc_heap_new w _
 unfold World.cell?
 simp only [h]
 rfl
theorem rd_const1 (w:World) (a:UInt8) (fr:Nat × Nat):RdB (w.alloc (.cells #[.int .u8 a.toNat] 5 fr)) (w.alloc (.cells #[.int .u8 a.toNat] 5 fr)).heap.size (.slice (some ⟨w.heap.size,0,none⟩) 1 1) [a]:=
 Or.inr ⟨w.heap.size,0,1,rfl,Nat.le_refl _,by decide,by simp,fun j hj=>by
  have:j=0:=by simpa using hj
  subst this
  exact cell_new_fr _ _ _ _ 0⟩
theorem rd_const2 (w:World) (a b:UInt8) (fr:Nat × Nat):RdB (w.alloc (.cells #[.int .u8 a.toNat,.int .u8 b.toNat] 5 fr)) (w.alloc (.cells #[.int .u8 a.toNat,.int .u8 b.toNat] 5 fr)).heap.size (.slice (some ⟨w.heap.size,0,none⟩) 2 2) [a,b]:=
 Or.inr ⟨w.heap.size,0,2,rfl,Nat.le_refl _,by decide,by simp,fun j hj=>by
  have hj:j < 2:=hj
  match j,hj with
  | 0,_=>exact cell_new_fr _ _ _ _ 0
  | 1,_=>exact cell_new_fr _ _ _ _ 1⟩
set_option maxRecDepth 100000 in
set_option maxHeartbeats 4000000 in
theorem sawake_c (w:World) (hs:St w):Calls Tryz.prog 11 #[] w fun e w'=>e=.returned (.bool true)∧Below w.heap.size w w':=by
 have hun:undef=Value.tuple #[]:=rfl
 have kc:=fun (w:World) (C:Array Value) (n c:Nat)=>Lib.run_convert_bytes_const (P:=Tryz.prog) w 26 5 C n c Tryz.underlying26 Tryz.underlying5
 have hD:=Lib.hid (DX.new w hs (-1))
 have hB:=Lib.hid ((Below.refl w.heap.size w).alloc (Nat.le_refl _) (.cells #[.int .i64 (-1),.slice none 0 0,.slice none 0 0] 29))
 obtain ⟨n0,hn0⟩:∃ n,w.heap.size=n:=⟨_,rfl⟩
 rw [hn0] at hD hB
 go_enter Tryz.func11,Tryz.ntmps11
 rw [hn0]
 go_upto_region 2 with (fail)
 generalize w.alloc (.cells #[.int .i64 (-1),.slice none 0 0,.slice none 0 0] 29)=w1 at *
 clear hn0 hs
 go_wp2_with fail
 refine (open_x hD.out ok0 sch0).mono ?_
 rintro e w2 ⟨⟨sb,jb,mb,rfl, -, -, -,hX⟩,hb2⟩
 have HB2:=Lib.hid (hB.out.trans (hb2.mono (by have:=hD.out.lt; have:=hD.out.dle; omega)))
 have A0:=Lib.hid at0
 generalize jOpen ⟨-1,[],[]⟩=s0 at *
 have HC:=Lib.hid (addClass_x A1 hX)
 obtain ⟨q0,q1⟩:=aw0 A0.out (by decide)
 rw [q0] at HC
 have A1':=Lib.hid q1
 clear q0 q1 A0 hX hb2 hD hB
 generalize (addClassP A1 s0).1=s1 at *
 go_wp2_with fail
 refine HC.out.mono ?_
 rintro e w3 ⟨rfl,hA⟩
 have HC:=Lib.hid (enroll_x A1 ANN hA.sx)
 obtain ⟨q0,q1⟩:=aw1 A1'.out (by decide)
 rw [q0] at HC
 have A2:=Lib.hid q1
 have HB3:=Lib.hid (HB2.out.trans hA.bl)
 clear q0 q1 A1' hA HB2
 generalize (enrollP A1 ANN s1).1=s2 at *
 go_wp2_with fail
 refine HC.out.mono ?_
 rintro e w4 ⟨rfl,hA⟩
 have HC:=Lib.hid (addTask_x T1 none 0 hA.sx (RdB.nil _ _) (by decide))
 obtain ⟨q0,q1⟩:=aw2 A2.out (by decide)
 rw [q0] at HC
 have A3:=Lib.hid q1
 have HB4:=Lib.hid (HB3.out.trans hA.bl)
 clear q0 q1 A2 hA HB3
 generalize (addTaskP T1 s2).1=s3 at *
 go_wp2_with fail
 refine HC.out.mono ?_
 rintro e w5 ⟨rfl,hA⟩
 have HC:=Lib.hid (submit_x 1 ANN 9 [] none 0 hA.sx A3.out.full.sok (RdB.nil _ _) (by decide))
 rw [aw3 A3.out] at HC
 have HB5:=Lib.hid (HB4.out.trans hA.bl)
 clear hA HB4
 go_wp2_with fail
 refine HC.out.mono ?_
 rintro e w6 ⟨rfl,hA⟩
 have HB6:=Lib.hid (HB5.out.trans hA.bl)
 have HX:=Lib.hid hA.sx
 clear hA HB5 HC
 have hB7:=Lib.hid ((Below.refl w6.heap.size w6).alloc (Nat.le_refl _) (.cells #[.int .u8 120] 5 (1,2)))
 have hR7:=Lib.hid (rd_const1 w6 120 (1,2))
 have HC:=Lib.hid (submit_x 1 ANN 20 [120] (some ⟨w6.heap.size,0,none⟩) 1 (HX.out.below hB7.out) A3.out.full.sok hR7.out (by decide))
 obtain ⟨q0,q1⟩:=aw4 A3.out (by decide)
 rw [q0] at HC
 have A4:=Lib.hid q1
 have HB7:=Lib.hid (HB6.out.trans (hB7.out.mono (Nat.le_of_lt HX.out.size)))
 clear q0 q1 A3 HX hB7 hR7 HB6
 generalize (submitP 1 ANN 20 [120] s3).1=s4 at *
 go_wp2_with fail
 refine HC.out.mono ?_
 rintro e w7 ⟨rfl,hA⟩
 have HX:=Lib.hid hA.sx
 have HB8:=Lib.hid (HB7.out.trans hA.bl)
 clear HB7 hA HC
 have hB7:=Lib.hid ((Below.refl w7.heap.size w7).alloc (Nat.le_refl _) (.cells #[.int .u8 121,.int .u8 122] 5 (2,3)))
 have hR7:=Lib.hid (rd_const2 w7 121 122 (2,3))
 have HC:=Lib.hid (submit_x 1 ANN 25 [121,122] (some ⟨w7.heap.size,0,none⟩) 2 (HX.out.below hB7.out) A4.out.full.sok hR7.out (by decide))
 obtain ⟨q0,q1⟩:=aw5 A4.out (by decide)
 rw [q0] at HC
 have A5:=Lib.hid q1
 have HB9:=Lib.hid (HB8.out.trans (hB7.out.mono (Nat.le_of_lt HX.out.size)))
 clear q0 q1 A4 HX hB7 hR7 HB8
 generalize (submitP 1 ANN 25 [121,122] s4).1=s5 at *
 go_wp2_with fail
 refine HC.out.mono ?_
 rintro e w8 ⟨rfl,hA⟩
 have HB10:=Lib.hid (HB9.out.trans hA.bl)
 have HC:=Lib.hid (submit_x 1 ANN 26 [] none 0 hA.sx A5.out.full.sok (RdB.nil _ _) (by decide))
 rw [aw6 A5.out] at HC
 clear hA HB9
 go_wp2_with fail
 refine HC.out.mono ?_
 rintro e w9 ⟨rfl,hA⟩
 have HB11:=Lib.hid (HB10.out.trans hA.bl)
 have HC:=Lib.hid (submit_x 1 BOB 20 [] none 0 hA.sx A5.out.full.sok (RdB.nil _ _) (by decide))
 rw [aw7 A5.out] at HC
 clear hA HB10
 go_wp2_with fail
 refine HC.out.mono ?_
 rintro e w10 ⟨rfl,hA⟩
 have HB12:=Lib.hid (HB11.out.trans hA.bl)
 have HX:=Lib.hid hA.sx
 have HC:=Lib.hid (attempts_x 1 ANN hA.sx A5.out.full.sok)
 rw [A5.out.atts 1 ANN,att5.1] at HC
 have hdue:s5.dueP 1 ANN=20:=by unfold JS.dueP; rw [A5.out.task 1,A5.out.ext 1 ANN,att5.2.1,att5.2.2]; rfl
 rw [hdue] at HC
 clear hA HB11 hdue
 go_wp2_with fail
 refine HC.out.mono ?_
 rintro e w11 ⟨⟨v,rfl,hAt⟩,hb11⟩
 have HB13:=Lib.hid (HB12.out.trans (hb11.mono (Nat.le_of_lt HX.out.size)))
 have HX11:=Lib.hid (HX.out.below hb11)
 obtain ⟨g,cap,a0,c0,a1,c1,rfl,k0,k1,k2,k3,k4,k5,r0,r1⟩:=hAt.two
 have hcv:(convert 26 9 (.slice a1 2 c1)).run Tryz.prog w11=.ok (.string ⟨#[121,122]⟩) w11:=conv_c r1
 clear hAt hb11 HB12 HX HC r0 r1
 go_upto_region 14 with (fail)
 clear hcv k0 k1 k2 k3 k4 k5
 have HC:=Lib.hid (extend_x 1 ANN 5 HX11.out)
 obtain ⟨q0,q1⟩:=aw8 A5.out (by decide)
 rw [q0] at HC
 have A6:=Lib.hid q1
 clear q0 q1 A5
 generalize (extendP 1 ANN 5 s5).1=s6 at *
 go_wp2_with fail
 refine HC.out.mono ?_
 rintro e w12 ⟨rfl,hA⟩
 have HB14:=Lib.hid (HB13.out.trans hA.bl)
 have HX:=Lib.hid hA.sx
 have HC:=Lib.hid (attempts_x 1 ANN hA.sx A6.out.full.sok)
 rw [A6.out.atts 1 ANN,att6.1] at HC
 have hdue:s6.dueP 1 ANN=25:=by unfold JS.dueP; rw [A6.out.task 1,A6.out.ext 1 ANN,att6.2.1,att6.2.2]; rfl
 rw [hdue] at HC
 clear hA HB13 hdue HX11
 go_wp2_with fail
 refine HC.out.mono ?_
 rintro e w13 ⟨⟨v,rfl,hAt⟩,hb13⟩
 have HB15:=Lib.hid (HB14.out.trans (hb13.mono (Nat.le_of_lt HX.out.size)))
 have HX13:=Lib.hid (HX.out.below hb13)
 have HAT:=Lib.hid hAt
 obtain ⟨g2,cap2, -, -, -, -,rfl, -⟩:=hAt.two
 clear hAt hb13 HB14 HX HC
 obtain ⟨p,hp1,hp2⟩:=HX13.out.dx.mem
 have HO:=Lib.hid (open_c n0 p s6.d w13 HX13.out.st hp2 A6.out.full.live.ok.d (fun g hg=>⟨(hp1 g hg).2,by have:=(hp1 g hg).1; have:=HX13.out.pos; omega⟩))
 have HE:Hid ((jOpen s6.d).c.ents=P6):=Lib.hid (by
  have h1:=(A6.out.full.live.has).ents
  have h2:=A6.out.ents
  unfold jOpen
  simp only
  rw [h1,h2])
 have HUP:=Lib.hid (open_live A6.out.full.live.ok.d).up
 clear hp1 hp2
 generalize jOpen s6.d=s7 at *
 go_wp2_with fail
 refine HO.out.mono ?_
 rintro e w14 ⟨jb2,mb2,rfl, -, -,hJ,hb14⟩
 have HG:=Lib.hid (sgetP_c [97,48,48,48,49,32,97,110,110,32,48,50] w14 hJ HUP.out (by decide))
 rw [HE.out,get6] at HG
 simp only [Option.getD_some,Option.isSome_some] at HG
 have HB16:=Lib.hid (HB15.out.trans (hb14.mono (Nat.le_of_lt HX13.out.size)))
 obtain ⟨g3,c3,a0,c0,a1,c1,e2,k0,k1,k2,k3,k4,k5,r0,r1⟩:=HAT.out.two
 simp only [Value.slice.injEq,Option.some.injEq,Addr.mk.injEq,and_true,true_and] at e2
 obtain ⟨rfl,rfl⟩:=e2
 replace k1:=(hb14.cell (p:=⟨g2,1,none⟩) (World.block_lt_of_cell? w13 _ k1)).trans k1
 replace k4:=(hb14.cell (p:=⟨g2,4,none⟩) (World.block_lt_of_cell? w13 _ k4)).trans k4
 clear k0 k2 k3 k5 r0 r1 HO hJ HAT HE
 have HB14':=Lib.hid hb14
 clear hb14
 go_wp2_with fail
 refine HG.out.mono ?_
 rintro e w15 ⟨⟨a9,c9,rfl,hr9⟩,hb15⟩
 have hcv:(convert 26 9 (.slice a9 6 c9)).run Tryz.prog w15=.ok (.string ⟨#[0,0,0,25,121,122]⟩) w15:=conv_c hr9.toB
 replace k1:=(hb15.cell (p:=⟨g2,1,none⟩) (World.block_lt_of_cell? w14 _ k1)).trans k1
 replace k4:=(hb15.cell (p:=⟨g2,4,none⟩) (World.block_lt_of_cell? w14 _ k4)).trans k4
 have HB17:=Lib.hid (HB16.out.trans (hb15.mono (Nat.le_trans (Nat.le_of_lt HX13.out.size) HB14'.out.size)))
 clear HG hb15 hr9 HB16
 go_wp2
 go_ret
 exact ⟨rfl,HB17.out⟩
end
section
open Go.RowKit SeedP Go.Maps
/-- a text that Few accepts -/
def fitN (n:Nat):Prop:=n≤200∨(4000 < n∧n≤4010)
/-- an act that Few accepts -/
structure FitA (a:SActP):Prop where
 cls:a.cls.length≤40
 stu:a.stu.length≤40
 tcls:a.task.cls.length≤40
 tname:a.task.name.length≤40
 body:fitN a.task.body.length
 text:fitN a.text.length
open Classical in
/-- what Few answers -/
noncomputable def fewP (L:List SActP):Bool:=decide (L.length≤25∧∀ a ∈ L,FitA a)
def FewRet (L:List SActP) (e:Ending):Prop:=e=.returned (.bool (fewP L))
open Classical in
theorem FewRet.no {L:List SActP} (h:¬ (L.length≤25∧∀ a ∈ L,FitA a)):FewRet L (.returned (.bool false)):=by
 unfold FewRet fewP
 rw [decide_eq_false h]
open Classical in
theorem FewRet.yes {L:List SActP} (h:L.length≤25∧∀ a ∈ L,FitA a):FewRet L (.returned (.bool true)):=by
 unfold FewRet fewP
 rw [decide_eq_true h]
theorem fitN.le {n:Nat} (h:fitN n):n≤4010:=by rcases h with h | h <;> omega
open Classical in
theorem few_small {L:List SActP} (h:fewP L=true):L.length≤25∧∀ a ∈ L,a.Small:=by
 unfold fewP at h
 have k:=of_decide_eq_true h
 exact ⟨k.1,fun a ha=>⟨(k.2 a ha).cls,(k.2 a ha).stu,(k.2 a ha).tcls,(k.2 a ha).tname,(k.2 a ha).body.le,(k.2 a ha).text.le⟩⟩
/-- what Few hands back, in short -/
def SFewPost (L:List SActP) (e:Ending):Prop:=∃ b,e=.returned (.bool b)∧(b=true→L.length≤25∧∀ a ∈ L,a.Small)
set_option maxRecDepth 100000 in
set_option maxHeartbeats 4000000 in
/-- Few -/
theorem sfewD_c (vl:Value) (L:List SActP) (w:World) (hL:SActsAt w w.heap.size vl L) :
 Calls Tryz.prog 12 #[vl] w fun e w'=>FewRet L e∧Below w.heap.size w w':=by
 have hun:undef=Value.tuple #[]:=rfl
 have HL:=Lib.hid hL
 obtain ⟨al,cl,rfl, -, -, -⟩:=hL
 have W0:=Lib.hid (Below.refl w.heap.size w)
 by_cases hn:25 < L.length
 ·have t1:(25:Int) < (L.length:Int):=by omega
  go_enter Tryz.func12,Tryz.ntmps12
  go_wp2
  go_ret
  exact ⟨FewRet.no (fun h=>by have:=h.1; omega),W0.out⟩
 have t1:¬ (25:Int) < (L.length:Int):=by omega
 go_enter Tryz.func12,Tryz.ntmps12
 go_wp2
 go_loopw [3] (fun iv wr=>∃ i:Nat,i≤L.length∧iv=.int .i64 i∧(∀ a ∈ L.take i,FitA a)∧Below w.heap.size w wr) (fun i _=>L.length - (intOf i).toNat)
 case atStart=>exact ⟨0,Nat.zero_le _,rfl,(fun a ha=>by cases ha),W0.out⟩
 case round=>
  obtain ⟨i,hi,rfl,hs,hb⟩:=hrel
  have HS:=Lib.hid hs
  have HB:=Lib.hid hb
  clear hs hb
  by_cases hlt:i < L.length
  ·have b1:decide ((i:Int) < (L.length:Int))=true:=decide_eq_true (by omega)
   have b2:(i:Int) < (L.length:Int):=by omega
   obtain ⟨g,off,cap,ab,cb,ax,cx,e0, -, -,hg,⟨c0,c1,c2,c3,c4,c5,c6,c7,c8,c9,c10,c11,c12⟩, -, -⟩:=HL.out.at hlt
   simp only [Value.slice.injEq] at e0
   obtain ⟨rfl, -,rfl⟩:=e0
   have HX:Hid (L.take (i+1)=L.take i ++ [L[i]]):=Lib.hid (List.take_succ_eq_append_getElem hlt)
   replace c0:=(HB.out.cell (p:=⟨g,off+i * 13,none⟩) hg).trans c0
   replace c1:=(HB.out.cell (p:=⟨g,off+i * 13+1,none⟩) hg).trans c1
   replace c2:=(HB.out.cell (p:=⟨g,off+i * 13+2,none⟩) hg).trans c2
   replace c3:=(HB.out.cell (p:=⟨g,off+i * 13+3,none⟩) hg).trans c3
   replace c4:=(HB.out.cell (p:=⟨g,off+i * 13+4,none⟩) hg).trans c4
   replace c5:=(HB.out.cell (p:=⟨g,off+i * 13+5,none⟩) hg).trans c5
   replace c6:=(HB.out.cell (p:=⟨g,off+i * 13+6,none⟩) hg).trans c6
   replace c7:=(HB.out.cell (p:=⟨g,off+i * 13+7,none⟩) hg).trans c7
   replace c8:=(HB.out.cell (p:=⟨g,off+i * 13+8,none⟩) hg).trans c8
   replace c9:=(HB.out.cell (p:=⟨g,off+i * 13+9,none⟩) hg).trans c9
   replace c10:=(HB.out.cell (p:=⟨g,off+i * 13+10,none⟩) hg).trans c10
   replace c11:=(HB.out.cell (p:=⟨g,off+i * 13+11,none⟩) hg).trans c11
   replace c12:=(HB.out.cell (p:=⟨g,off+i * 13+12,none⟩) hg).trans c12
   have HM:Hid (L[i] ∈ L):=Lib.hid (List.getElem_mem hlt)
   generalize L[i]=a at *
   obtain ⟨kind,cls,stu,⟨tcls,tname,frm,due,late,tries,body⟩,id,n,text⟩:=a
   simp only at c0 c1 c2 c3 c4 c5 c6 c7 c8 c9 c10 c11 c12
   go_upto_region 7 with (fail)
   have hY:=Blk.new wr 37 [.int .i64 kind,strV cls,strV stu,strV tcls,strV tname,.int .i64 frm,.int .i64 due,.int .i64 late,.int .i64 tries,.slice ab body.length cb,.int .i64 id,.int .i64 n,.slice ax text.length cx]
   have HB2:=Lib.hid (HB.out.alloc HB.out.size (.cells #[.int .i64 kind,strV cls,strV stu,strV tcls,strV tname,.int .i64 frm,.int .i64 due,.int .i64 late,.int .i64 tries,.slice ab body.length cb,.int .i64 id,.int .i64 n,.slice ax text.length cx] 37))
   change Code.wp _ _ _ _ (wr.alloc (.cells #[.int .i64 kind,strV cls,strV stu,strV tcls,strV tname,.int .i64 frm,.int .i64 due,.int .i64 late,.int .i64 tries,.slice ab body.length cb,.int .i64 id,.int .i64 n,.slice ax text.length cx] 37))
   generalize wr.alloc (.cells #[.int .i64 kind,strV cls,strV stu,strV tcls,strV tname,.int .i64 frm,.int .i64 due,.int .i64 late,.int .i64 tries,.slice ab body.length cb,.int .i64 id,.int .i64 n,.slice ax text.length cx] 37)=w2 at *
   generalize wr.heap.size=ab1 at *
   have HY:=Lib.hid hY
   have y1:=hY.cell 1 (by simp)
   have y2:=hY.cell 2 (by simp)
   have y3:=hY.cell 3 (by simp)
   have y4:=hY.cell 4 (by simp)
   simp only [List.getD_cons_succ,List.getD_cons_zero] at y1 y2 y3 y4
   clear hY c0 c1 c2 c3 c4 c5 c6 c7 c8 c9 c10 c11 c12
   go_upto_region 8 with (fail)
   have hY3:=Blk.new w2 9 [strV cls,strV stu,strV tcls,strV tname]
   have HB3:=Lib.hid (HB2.out.alloc HB2.out.size (.cells #[strV cls,strV stu,strV tcls,strV tname] 9))
   have HY3:=Lib.hid (HY.out.alloc (.cells #[strV cls,strV stu,strV tcls,strV tname] 9))
   generalize w2.alloc (.cells #[strV cls,strV stu,strV tcls,strV tname] 9)=w3 at *
   generalize w2.heap.size=nb at *
   have HN:Hid (∀ j,j < 4→w3.cell? ⟨nb,j,none⟩=some (strV ([cls,stu,tcls,tname].getD j []))):=Lib.hid (fun j hj=>by
    have:=hY3.cell j (by simpa using hj)
    rw [this]
    match j,hj with
    | 0,_=>rfl
    | 1,_=>rfl
    | 2,_=>rfl
    | 3,_=>rfl)
   clear hY3 HB2 HY y1 y2 y3 y4
   generalize hNM:[cls,stu,tcls,tname]=NM at HN
   have HNM:=Lib.hid hNM
   clear hNM
   go_loopw [34] (fun jv wx=>∃ j:Nat,j≤4∧jv=.int .i64 j∧(∀ q,q < j→(NM.getD q []).length≤40)∧wx=w3) (fun j _=>4 - (intOf j).toNat)
   case atStart=>exact ⟨0,Nat.zero_le _,rfl,(fun q hq=>by omega),rfl⟩
   case round=>
    obtain ⟨j,hj,rfl,hs3,rfl⟩:=hrel
    have HS3:=Lib.hid hs3
    clear hs3
    by_cases hj4:j < 4
    ·have b3:decide ((j:Int) < 4)=true:=decide_eq_true (by omega)
     have b4:(j:Int) < 4:=by omega
     have hc:=HN.out j hj4
     have HK:=Lib.hid (fun (h:(NM.getD j []).length≤40) q (hq:q < j+1)=>(by
      rcases Nat.lt_or_ge q j with h2 | h2
      ·exact HS3.out q h2
      ·obtain rfl:q=j:=by omega
       exact h:(NM.getD q []).length≤40))
     have HNX:Hid ((∀ a ∈ L,FitA a)→(NM.getD j []).length≤40):=Lib.hid (fun h=>by
      have k:=h _ HM.out
      rw [← HNM.out]
      match j,hj4 with
      | 0,_=>exact k.cls
      | 1,_=>exact k.stu
      | 2,_=>exact k.tcls
      | 3,_=>exact k.tname)
     generalize NM.getD j []=x at *
     have hxs:=str_size x
     by_cases hx:x.length≤40
     ·have t2:decide ((40:Int) < (x.length:Int))=false:=decide_eq_false (by omega)
      have HK2:=Lib.hid (HK.out hx)
      clear hx HK HNX
      go_wp2
      go_roundw
      case rel=>exact ⟨j+1,by omega,by go_num,HK2.out,trivial⟩
      case measure=>simp [intOf]; omega
     ·have t2:decide ((40:Int) < (x.length:Int))=true:=decide_eq_true (by omega)
      have HN3:Hid (¬ ∀ a ∈ L,FitA a):=Lib.hid (fun h=>hx (HNX.out h))
      clear hx HK HNX
      go_wp2
      go_ret
      exact ⟨FewRet.no (fun h=>HN3.out h.2),HB3.out⟩
    ·have b3:decide ((j:Int) < 4)=false:=decide_eq_false (by omega)
     have HALL:Hid (cls.length≤40∧stu.length≤40∧tcls.length≤40∧tname.length≤40):=Lib.hid (by
      have h:=HS3.out
      rw [← HNM.out] at h
      have h0:=h 0 (by omega)
      have h1:=h 1 (by omega)
      have h2:=h 2 (by omega)
      have h3:=h 3 (by omega)
      simp only [List.getD_cons_succ,List.getD_cons_zero] at h0 h1 h2 h3
      exact ⟨h0,h1,h2,h3⟩)
     have y6:=HY3.out.cell 6 (by simp)
     have y9:=HY3.out.cell 9 (by simp)
     have y12:=HY3.out.cell 12 (by simp)
     simp only [List.getD_cons_succ,List.getD_cons_zero] at y6 y9 y12
     clear HN HS3
     go_upto_region 14 with (fail)
     have hY5:=Blk.new wr 26 [.slice ax text.length cx,.slice ab body.length cb]
     have HB5:=Lib.hid (HB3.out.alloc HB3.out.size (.cells #[.slice ax text.length cx,.slice ab body.length cb] 26))
     generalize wr.alloc (.cells #[.slice ax text.length cx,.slice ab body.length cb] 26)=w5 at *
     generalize wr.heap.size=tb at *
     have HT:Hid (∀ q,q < 2→∃ a n c,w5.cell? ⟨tb,q,none⟩=some (.slice a n c)∧n=[text.length,body.length].getD q 0):=Lib.hid (fun q hq=>by
      have:=hY5.cell q (by simpa using hq)
      match q,hq with
      | 0,_=>exact ⟨_,_,_,this,rfl⟩
      | 1,_=>exact ⟨_,_,_,this,rfl⟩)
     clear hY5 HB3 HY3 y6 y9 y12
     generalize hTL:[text.length,body.length]=TL at HT
     have HTL:=Lib.hid hTL
     clear hTL
     go_loopw [49] (fun qv wx=>∃ q:Nat,q≤2∧qv=.int .i64 q∧(∀ z,z < q→fitN (TL.getD z 0))∧wx=w5) (fun q _=>2 - (intOf q).toNat)
     case atStart=>exact ⟨0,Nat.zero_le _,rfl,(fun q hq=>by omega),rfl⟩
     case round=>
      obtain ⟨q,hq,rfl,hs5,rfl⟩:=hrel
      have HS5:=Lib.hid hs5
      clear hs5
      by_cases hq2:q < 2
      ·have e3:decide ((q:Int) < 2)=true:=decide_eq_true (by omega)
       have e4:(q:Int) < 2:=by omega
       obtain ⟨sa,sn,sc,hc,hsn⟩:=HT.out q hq2
       have HK:=Lib.hid (fun (h:fitN sn) z (hz:z < q+1)=>(by
        rcases Nat.lt_or_ge z q with h2 | h2
        ·exact HS5.out z h2
        ·obtain rfl:z=q:=by omega
         rw [← hsn]; exact h:fitN (TL.getD z 0)))
       have HTX:Hid ((∀ a ∈ L,FitA a)→fitN sn):=Lib.hid (fun h=>by
        have k:=h _ HM.out
        rw [hsn,← HTL.out]
        match q,hq2 with
        | 0,_=>exact k.text
        | 1,_=>exact k.body)
       clear hsn
       by_cases h1:200 < sn
       ·have t2:decide ((200:Int) < (sn:Int))=true:=decide_eq_true (by omega)
        by_cases h2:sn≤4000
        ·have t3:decide ((sn:Int)≤4000)=true:=decide_eq_true (by omega)
         have HN3:Hid (¬ ∀ a ∈ L,FitA a):=Lib.hid (fun h=>by have k:=HTX.out h; unfold fitN at k; omega)
         clear h1 h2 HK HTX
         go_wp2
         go_ret
         exact ⟨FewRet.no (fun h=>HN3.out h.2),HB5.out⟩
        ·have t3:decide ((sn:Int)≤4000)=false:=decide_eq_false (by omega)
         by_cases h3:4010 < sn
         ·have t4:decide ((4010:Int) < (sn:Int))=true:=decide_eq_true (by omega)
          have HN3:Hid (¬ ∀ a ∈ L,FitA a):=Lib.hid (fun h=>by have k:=HTX.out h; unfold fitN at k; omega)
          clear h1 h2 h3 HK HTX
          go_wp2
          go_ret
          exact ⟨FewRet.no (fun h=>HN3.out h.2),HB5.out⟩
         ·have t4:decide ((4010:Int) < (sn:Int))=false:=decide_eq_false (by omega)
          have HK2:=Lib.hid (HK.out (Or.inr ⟨by omega,by omega⟩))
          clear h1 h2 h3 HK HTX
          go_wp2
          go_roundw
          case rel=>exact ⟨q+1,by omega,by go_num,HK2.out,trivial⟩
          case measure=>simp [intOf]; omega
       ·have t2:decide ((200:Int) < (sn:Int))=false:=decide_eq_false (by omega)
        have HK2:=Lib.hid (HK.out (Or.inl (by omega)))
        clear h1 HK HTX
        go_wp2
        go_roundw
        case rel=>exact ⟨q+1,by omega,by go_num,HK2.out,trivial⟩
        case measure=>simp [intOf]; omega
      ·have e3:decide ((q:Int) < 2)=false:=decide_eq_false (by omega)
       have HALL2:Hid (fitN text.length∧fitN body.length):=Lib.hid (by
        have h:=HS5.out
        rw [← HTL.out] at h
        have h0:=h 0 (by omega)
        have h1:=h 1 (by omega)
        simp only [List.getD_cons_succ,List.getD_cons_zero] at h0 h1
        exact ⟨h0,h1⟩)
       clear HT HS5
       go_wp2
       go_roundw
       case rel=>
        refine ⟨i+1,by omega,by go_num,fun a ha=>?_,HB5.out⟩
        rw [HX.out] at ha
        rcases List.mem_append.1 ha with ha | ha
        ·exact HS.out a ha
        ·obtain rfl:=List.mem_singleton.1 ha
         obtain ⟨h1,h2,h3,h4⟩:=HALL.out
         exact ⟨h1,h2,h3,h4,HALL2.out.2,HALL2.out.1⟩
       case measure=>simp [intOf]; omega
  ·obtain rfl:i=L.length:=by omega
   have b1:decide ((L.length:Int) < (L.length:Int))=false:=by simp
   go_wp2
   go_ret
   refine ⟨FewRet.yes ⟨by omega,fun a ha=>HS.out a ?_⟩,HB.out⟩
   rw [List.take_length]; exact ha
theorem sfew_c (vl:Value) (L:List SActP) (w:World) (hL:SActsAt w w.heap.size vl L) :
 Calls Tryz.prog 12 #[vl] w fun e w'=>SFewPost L e∧Below w.heap.size w w':=
 (sfewD_c vl L w hL).mono (fun _ _ h=>⟨⟨_,h.1,few_small⟩,h.2⟩)
end
section
open Go.RowKit SeedP Go.Maps
/-- no journal: nil, or the zero value -/
def NoJ (w:World) (v:Value):Prop:=v=.pointer none∨∃ jb,v=.pointer (some ⟨jb,0,none⟩)∧Blk w jb 103 [.pointer none,.bool false,.int .i64 0,.int .i64 0,.map none,.int .i64 0,.int .u64 0,.int .i64 0]
theorem NoJ.below {w w':World} {v:Value} (h:NoJ w v) (hb:Below w.heap.size w w'):NoJ w' v:=by
 rcases h with h | ⟨jb,h,hB⟩
 ·exact Or.inl h
 ·exact Or.inr ⟨jb,h,hB.below hb⟩
/-! ### Open of what is no disk -/
set_option maxRecDepth 100000 in
theorem open_nil (w:World):Calls Tryz.prog 31 #[.pointer none] w fun e w'=>e=.returned (.tuple #[.pointer none,.int .i64 2])∧w=w':=by
 go_enter Tryz.func31,Tryz.ntmps31
 go_wp2
 go_ret2
 exact ⟨rfl,rfl⟩
end
end Go.Proofs.YtbcfpdlhieaepaaGreatDoor
