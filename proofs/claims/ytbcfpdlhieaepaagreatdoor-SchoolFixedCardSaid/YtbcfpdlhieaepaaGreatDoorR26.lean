/- The walk of Open. -/
import Derived.Test.YtbcfpdlhieaepaaGreatDoorR25
import Derived.Test.YtbcfpdlhieaepaaGreatDoorR10
import Derived.Test.YtbcfpdlhieaepaaGreatDoorR16
import Derived.Test.YtbcfpdlhieaepaaGreatDoorR18
namespace Go.Proofs.YtbcfpdlhieaepaaGreatDoor
section
open Go.RowKit SeedP Go.Maps
theorem index0 (x y:Value) (w:World):(Instr.index 27 (.agg #[x,y]) (.int .i64 0)).run Tryz.prog w=.ok x w:=by kernel_rfl
theorem index1 (x y:Value) (w:World):(Instr.index 27 (.agg #[x,y]) (.int .i64 1)).run Tryz.prog w=.ok y w:=by kernel_rfl
def openAt (d:DS):Nat→Bool × Cont
 | 0=>(false,zeroC)
 | 1=>pickC (readF d.f0) false (false,zeroC)
 | _=>openP d
/-- the journal under way: after j files -/
structure OpenW (w wr:World) (jb db:Nat) (p:Nat→Prop) (d:DS) (j:Nat) (mb:Nat) (L:List Ent):Prop where
 st:St wr
 blk:Blk wr jb 103 [.pointer (some ⟨db,0,none⟩),.bool false,.int .i64 (if (openAt d j).1 then 1 else 0),.int .i64 (openAt d j).2.gen,.map (some mb),.int .i64 (openAt d j).2.wt,.int .u64 (openAt d j).2.sum,.int .i64 (openAt d j).2.ed]
 disk:DW wr db (fun g=>p g∧g < w.heap.size) d
 map:MapAt wr mb (fun g=>w.heap.size≤g∧g ≠ mb∧g ≠ jb) L
 ents:EB L=(openAt d j).2.ents
 below:Below w.heap.size w wr
 mlt:w.heap.size≤mb
 mj:mb ≠ jb
theorem OpenW.fin {w wr:World} {jb db:Nat} {p:Nat→Prop} {d:DS} {mb:Nat} {L:List Ent} (h:OpenW w wr jb db p d 2 mb L) (hw:DW w db p d) (hj:w.heap.size≤jb) (hok:d.Ok) (ha:∀ g,p g→g ≠ db∧g ≠ 0) :
 JW wr jb db mb (fun g=>(p g∧g < w.heap.size)∨(w.heap.size≤g∧g ≠ mb∧g ≠ jb)) (jOpen d):=by
 have hl:=open_live hok
 have hlt:=hw.lt
 exact ⟨h.st,h.blk,h.disk.mono (fun g hg=>Or.inl hg),⟨L,h.map.mono' (fun g hg=>Or.inr hg),h.ents⟩,fun g hg=>by
  have:=h.mlt
  rcases hg with hg | hg
  ·have:=ha g hg.1
   refine ⟨by omega,this.1,by omega,this.2⟩
  ·refine ⟨hg.2.2,by omega,hg.2.1,by omega⟩,hl.ok,hl.ord,hl.small⟩
theorem OpenW.keep {w wr w':World} {jb db:Nat} {p:Nat→Prop} {d:DS} {j j' mb:Nat} {L:List Ent} (h:OpenW w wr jb db p d j mb L) (hb:Below wr.heap.size wr w') (he:openAt d j'=openAt d j):OpenW w w' jb db p d j' mb L:=by
 have hg:Grown (fun _=>False) wr w':=Grown.of_below hb
 refine ⟨h.st.below hb h.st.pos,?_,h.disk.grown hg (fun h=>h) (fun _ _ h=>h),h.map.grown hg (fun h=>h) (fun _ _ h=>h),?_,h.below.trans (hb.mono h.below.size),h.mlt,h.mj⟩
 ·rw [he]; exact h.blk.grown hg (fun h=>h)
 ·rw [he]; exact h.ents
theorem OpenW.take {w W:World} {jb db:Nat} {p:Nat→Prop} {d:DS} {j j' mb mb' B:Nat} {L L':List Ent} {f:Bool} {c:Cont} (h:OpenW w W jb db p d j mb L) (hM:MapAt W mb' (fun g=>B≤g∧g ≠ mb') L') (hjB:jb < B) (hmB:B≤mb') (hdj:db < w.heap.size) (hj:w.heap.size≤jb) (hj0:0 < jb) (hE:EB L'=c.ents) (he:openAt d j'=(f,c)) (fi:Int) (hf:fi=if f then 1 else 0) :
 OpenW w ((((((W.setCell ⟨jb,2,none⟩ (.int .i64 fi)).setCell ⟨jb,3,none⟩ (.int .i64 c.gen)).setCell ⟨jb,4,none⟩ (.map (some mb'))).setCell ⟨jb,5,none⟩ (.int .i64 c.wt)).setCell ⟨jb,6,none⟩ (.int .u64 c.sum)).setCell ⟨jb,7,none⟩ (.int .i64 c.ed)) jb db p d j' mb' L':=by
 subst hf
 have hG:Grown (fun k=>k=jb) W ((((((W.setCell ⟨jb,2,none⟩ (.int .i64 (if f then 1 else 0))).setCell ⟨jb,3,none⟩ (.int .i64 c.gen)).setCell ⟨jb,4,none⟩ (.map (some mb'))).setCell ⟨jb,5,none⟩ (.int .i64 c.wt)).setCell ⟨jb,6,none⟩ (.int .u64 c.sum)).setCell ⟨jb,7,none⟩ (.int .i64 c.ed)):=
  Grown.setCell (S:=fun k=>k=jb) (Grown.setCell (S:=fun k=>k=jb) (Grown.setCell (S:=fun k=>k=jb) (Grown.setCell (S:=fun k=>k=jb) (Grown.setCell (S:=fun k=>k=jb) (Grown.setCell (S:=fun k=>k=jb) (Grown.refl _ _) (a:=⟨jb,2,none⟩) rfl _) (a:=⟨jb,3,none⟩) rfl _) (a:=⟨jb,4,none⟩) rfl _) (a:=⟨jb,5,none⟩) rfl _) (a:=⟨jb,6,none⟩) rfl _) (a:=⟨jb,7,none⟩) rfl _
 have hb:=(((((h.blk.set 2 (.int .i64 (if f then 1 else 0))).set 3 (.int .i64 c.gen)).set 4 (.map (some mb'))).set 5 (.int .i64 c.wt)).set 6 (.int .u64 c.sum)).set 7 (.int .i64 c.ed)
 refine ⟨h.st.block (hG.block 0 h.st.pos (fun e=>by omega)),by rw [he]; exact hb,h.disk.grown hG (fun e=>by omega) (fun g hg e=>by have:=hg.2; omega),(hM.grown hG (fun e=>by omega) (fun g hg e=>by have:=hg.1; omega)).mono' (fun g hg=>⟨by omega,hg.2,by omega⟩),by rw [he]; exact hE,h.below.trans (hG.below (fun k e=>by omega) h.below.size),by omega,by omega⟩
set_option maxRecDepth 100000 in
set_option maxHeartbeats 4000000 in
/-- Open of a disk that may be -/
theorem open_c (db:Nat) (p:Nat→Prop) (d:DS) (w:World) (hs:St w) (hw:DW w db p d) (hok:d.Ok) (ha:∀ g,p g→g ≠ db∧g ≠ 0) :
 Calls Tryz.prog 31 #[.pointer (some ⟨db,0,none⟩)] w fun e w'=>∃ jb mb,e=.returned (.tuple #[.pointer (some ⟨jb,0,none⟩),.int .i64 0])∧w.heap.size≤jb∧w.heap.size≤mb∧JW w' jb db mb (fun g=>(p g∧g < w.heap.size)∨(w.heap.size≤g∧g ≠ mb∧g ≠ jb)) (jOpen d)∧Below w.heap.size w w':=by
 have hmm:=@run_makeMap Tryz.prog
 have HW:=Lib.hid hw
 have hwl:=hw.lt
 obtain ⟨v0,v1,q0,q1,hD,hr0,hr1,hq0,hq1⟩:=hw
 obtain ⟨a0,c0,rfl,_,_,_⟩:=hr0.toB.open_
 obtain ⟨a1,c1,rfl,_,_,_⟩:=hr1.toB.open_
 have HR0:=Lib.hid hr0.toB
 have HR1:=Lib.hid hr1.toB
 have d0:=hD.cell 0 (by simp)
 have d1:=hD.cell 1 (by simp)
 have d2:=hD.cell 2 (by simp)
 simp only [List.getD_cons_zero,List.getD_cons_succ] at d0 d1 d2
 have hpw:(decide (d.pw < -1))=false:=by have:=hok.pw0; simp; omega
 have hf0:(d.f0.length:Int)≤262144:=by have:=hok.f0; omega
 have hf1:(d.f1.length:Int)≤262144:=by have:=hok.f1; omega
 have hdl:=hD.lt
 have HH:=Lib.hid (And.intro hs (And.intro hok ha))
 have hd0:db ≠ 0:=hs.not hD (fun n e=>by cases e)
 clear hD hr0 hr1 hq0 hq1 hs hok ha
 go_enter Tryz.func31,Tryz.ntmps31
 go_wp2
 have hix0:=index0
 have hix1:=index1
 go_loopw [24] (fun i wr=>∃ j:Int,(j=0∨j=1∨j=2)∧i=.int .i64 j∧w=wr) (fun i _=>2 - (intOf i).toNat)
 case atStart=>exact ⟨0,Or.inl rfl,rfl,rfl⟩
 case round=>
  obtain ⟨j,hj,rfl,rfl⟩:=hrel
  rcases hj with rfl | rfl | rfl
  ·go_wp2
   go_roundw
   case rel=>exact ⟨1,Or.inr (Or.inl rfl),by first | trivial | rfl,by first | trivial | rfl⟩
   case measure=>simp [intOf]
  ·go_wp2
   go_roundw
   case rel=>exact ⟨2,Or.inr (Or.inr rfl),by first | trivial | rfl,by first | trivial | rfl⟩
   case measure=>simp [intOf]
  ·have hG1:Below w.heap.size w (w.alloc (.map #[] 0)):=(Below.refl _ _).alloc (Nat.le_refl _) _
   have hG2:Below w.heap.size w ((w.alloc (.map #[] 0)).alloc (.cells #[.pointer (some ⟨db,0,none⟩),.bool false,.int .i64 0,.int .i64 0,.map (some w.heap.size),.int .i64 0,.int .u64 0,.int .i64 0] 103)):=hG1.alloc hG1.size _
   have hB0:=Blk.new (w.alloc (.map #[] 0)) 103 [.pointer (some ⟨db,0,none⟩),.bool false,.int .i64 0,.int .i64 0,.map (some w.heap.size),.int .i64 0,.int .u64 0,.int .i64 0]
   have hz1:(w.alloc (.map #[] 0)).heap.size=w.heap.size+1:=by simp
   rw [hz1] at hB0
   have hM1:=(MapAt.made w (fun g=>w.heap.size≤g∧g ≠ w.heap.size∧g ≠ w.heap.size+1)).grown (S:=fun _=>False) (Grown.of_below ((Below.refl _ _).alloc (Nat.le_refl _) (.cells #[.pointer (some ⟨db,0,none⟩),.bool false,.int .i64 0,.int .i64 0,.map (some w.heap.size),.int .i64 0,.int .u64 0,.int .i64 0] 103))) (fun h=>h) (fun _ _ h=>h)
   have HO0:Hid (OpenW w ((w.alloc (.map #[] 0)).alloc (.cells #[.pointer (some ⟨db,0,none⟩),.bool false,.int .i64 0,.int .i64 0,.map (some w.heap.size),.int .i64 0,.int .u64 0,.int .i64 0] 103)) (w.heap.size+1) db p d 0 w.heap.size []):=
    Lib.hid ⟨HH.out.1.below hG2 HH.out.1.pos,hB0,HW.out.low.grown (Grown.of_below hG2 (S:=fun _=>False)) (fun h=>h) (fun _ _ h=>h),hM1,rfl,hG2,Nat.le_refl _,by omega⟩
   clear hG1 hG2 hB0 hz1 hM1
   go_wp2
   clear d0 d1 d2
   generalize (w.alloc (.map #[] 0)).alloc (.cells #[.pointer (some ⟨db,0,none⟩),.bool false,.int .i64 0,.int .i64 0,.map (some w.heap.size),.int .i64 0,.int .u64 0,.int .i64 0] 103)=w1 at *
   go_loopw [40] (fun i wr=>∃ (j:Int) (jn:Nat),(j=0∧jn=0∨j=1∧jn=1∨j=2∧jn=2)∧i=.int .i64 j∧∃ mb L,OpenW w wr (w.heap.size+1) db p d jn mb L) (fun i _=>2 - (intOf i).toNat)
   case atStart=>exact ⟨0,0,Or.inl ⟨rfl,rfl⟩,rfl,w.heap.size,[],HO0.out⟩
   case round=>
    obtain ⟨j,jn,hj,rfl,mb,L,hO⟩:=hrel
    have HO:=Lib.hid hO
    rcases hj with ⟨rfl,rfl⟩ | ⟨rfl,rfl⟩ | ⟨rfl,rfl⟩
    ·have HRD:=Lib.hid (read_c _ d.f0 wr.heap.size wr hO.st ((HR0.out.below hO.below).mono hO.below.size) (Nat.le_refl _) (by have:=HH.out.2.1.f0; omega))
     have HJC:=Lib.hid hO.blk
     clear hO
     go_wp2_with fail
     refine HRD.out.mono ?_
     rintro e w2 ⟨hres,hb2⟩
     cases hrf:readF d.f0 with
     | none=>
       rw [hrf] at hres
       obtain rfl:e=_:=hres
       have HP:Hid (openAt d 1=openAt d 0):=Lib.hid (by show pickC (readF d.f0) false (false,zeroC)=(false,zeroC); rw [hrf]; rfl)
       clear hrf
       have HB2:=Lib.hid hb2
       clear hb2
       unfold conV
       go_upto_region 14 with (fail)
       go_quiet (fail)
       all_goals
        go_wp2
        go_roundw
        case rel=>
         refine ⟨1,1,Or.inr (Or.inl ⟨rfl,rfl⟩),by first | trivial | rfl,mb,L,HO.out.keep ?_ HP.out⟩
         exact below_drewN (HB2.out.alloc HB2.out.size _) _
        case measure=>simp [intOf]
     | some c=>
       rw [hrf] at hres
       obtain ⟨mb',rfl,hmb',L',hM',hE'⟩:=hres
       have HRF:=Lib.hid hrf
       have HB3:=Lib.hid (hb2.alloc hb2.size (.cells #[.int .i64 c.gen,.map (some mb'),.int .i64 c.wt,.int .u64 c.sum,.int .i64 c.ed] 101))
       have hbk:=Blk.new w2 101 [.int .i64 c.gen,.map (some mb'),.int .i64 c.wt,.int .u64 c.sum,.int .i64 c.ed]
       have hM3:=hM'.grown (S:=fun _=>False) (Grown.of_below ((Below.refl _ w2).alloc (Nat.le_refl _) (.cells #[.int .i64 c.gen,.map (some mb'),.int .i64 c.wt,.int .u64 c.sum,.int .i64 c.ed] 101))) (fun h=>h) (fun _ _ h=>h)
       have hz2:=hb2.size
       clear hrf hM' hb2
       unfold conV
       go_upto_region 14 with (fail)
       have hbk:Blk (w2.alloc (.cells #[.int .i64 c.gen,.map (some mb'),.int .i64 c.wt,.int .u64 c.sum,.int .i64 c.ed] 101)) w2.heap.size 101 [.int .i64 c.gen,.map (some mb'),.int .i64 c.wt,.int .u64 c.sum,.int .i64 c.ed]:=hbk
       generalize w2.alloc (.cells #[.int .i64 c.gen,.map (some mb'),.int .i64 c.wt,.int .u64 c.sum,.int .i64 c.ed] 101)=w3 at *
       generalize w2.heap.size=gb at *
       have hO3:=HO.out.keep (j':=0) HB3.out rfl
       have y0:=hO3.blk.cell 3 (by simp)
       have x0:=hbk.cell 0 (by simp)
       simp only [List.getD_cons_zero,List.getD_cons_succ] at x0 y0
       by_cases hlt:(openAt d 0).2.gen < c.gen
       ·have hltb:(decide ((openAt d 0).2.gen < c.gen))=true:=by simpa using hlt
        have HP:Hid (openAt d 1=(false,c)):=Lib.hid (by show pickC (readF d.f0) false (openAt d 0)=(false,c); rw [HRF.out]; exact pickC_lt hlt)
        have x1:=hbk.cell 1 (by simp)
        have x2:=hbk.cell 2 (by simp)
        have x3:=hbk.cell 3 (by simp)
        have x4:=hbk.cell 4 (by simp)
        have y2:=hO3.blk.cell 2 (by simp)
        have y4:=hO3.blk.cell 4 (by simp)
        have y5:=hO3.blk.cell 5 (by simp)
        have y6:=hO3.blk.cell 6 (by simp)
        have y7:=hO3.blk.cell 7 (by simp)
        have hjl:=HO.out.blk.lt
        have hne1:gb ≠ w.heap.size+1:=by omega
        have hne2:w.heap.size+1 ≠ gb:=by omega
        have z2:=hO3.blk.frozen 2
        have z3:=hO3.blk.frozen 3
        have z4:=hO3.blk.frozen 4
        have z5:=hO3.blk.frozen 5
        have z6:=hO3.blk.frozen 6
        have z7:=hO3.blk.frozen 7
        simp only [List.getD_cons_zero,List.getD_cons_succ] at x1 x2 x3 x4 y2 y4 y5 y6 y7
        have HO3:=Lib.hid hO3
        have HM3:=Lib.hid hM3
        clear hlt hO3 hM3 hbk
        generalize (openAt d 0).2.gen=g0 at *
        generalize (openAt d 0).2.wt=g2 at *
        generalize (openAt d 0).2.sum=g3 at *
        generalize (openAt d 0).2.ed=g4 at *
        generalize hg5:(if (openAt d 0).1=true then (1:Int) else 0)=g5 at *
        clear hg5
        go_quiet (fail)
        all_goals
         go_upto_region 15 with (fail)
         go_region
         all_goals
          go_wp2
          go_roundw
          case rel=>exact ⟨1,1,Or.inr (Or.inl ⟨rfl,rfl⟩),by first | trivial | rfl,mb',L',(HO3.out.keep (j':=0) (below_drewN (Below.refl _ _) _) rfl).take (HM3.out.grown (S:=fun _=>False) (Grown.of_below (below_drewN (Below.refl _ _) _)) (fun h=>h) (fun _ _ h=>h)) hjl hmb' hwl (by omega) (by omega) hE' HP.out 0 rfl⟩
          case measure=>simp [intOf]
       ·have hltb:(decide ((openAt d 0).2.gen < c.gen))=false:=by simpa using hlt
        have HP:Hid (openAt d 1=openAt d 0):=Lib.hid (by show pickC (readF d.f0) false (openAt d 0)=openAt d 0; rw [HRF.out]; exact pickC_ge hlt)
        have HO3:=Lib.hid hO3
        clear hlt hO3 hM3 hbk
        generalize (openAt d 0).2.gen=g0 at *
        generalize c.gen=g1 at *
        go_quiet (fail)
        all_goals
         go_wp2
         go_roundw
         case rel=>
          refine ⟨1,1,Or.inr (Or.inl ⟨rfl,rfl⟩),by first | trivial | rfl,mb,L,HO.out.keep ?_ HP.out⟩
          exact below_drewN HB3.out _
         case measure=>simp [intOf]
    ·have HRD:=Lib.hid (read_c _ d.f1 wr.heap.size wr hO.st ((HR1.out.below hO.below).mono hO.below.size) (Nat.le_refl _) (by have:=HH.out.2.1.f1; omega))
     have HJC:=Lib.hid hO.blk
     clear hO
     go_wp2_with fail
     refine HRD.out.mono ?_
     rintro e w2 ⟨hres,hb2⟩
     cases hrf:readF d.f1 with
     | none=>
       rw [hrf] at hres
       obtain rfl:e=_:=hres
       have HP:Hid (openAt d 2=openAt d 1):=Lib.hid (by show pickC (readF d.f1) true (openAt d 1)=openAt d 1; rw [hrf]; rfl)
       clear hrf
       have HB2:=Lib.hid hb2
       clear hb2
       unfold conV
       go_upto_region 14 with (fail)
       go_quiet (fail)
       all_goals
        go_wp2
        go_roundw
        case rel=>
         refine ⟨2,2,Or.inr (Or.inr ⟨rfl,rfl⟩),by first | trivial | rfl,mb,L,HO.out.keep ?_ HP.out⟩
         exact below_drewN (HB2.out.alloc HB2.out.size _) _
        case measure=>simp [intOf]
     | some c=>
       rw [hrf] at hres
       obtain ⟨mb',rfl,hmb',L',hM',hE'⟩:=hres
       have HRF:=Lib.hid hrf
       have HB3:=Lib.hid (hb2.alloc hb2.size (.cells #[.int .i64 c.gen,.map (some mb'),.int .i64 c.wt,.int .u64 c.sum,.int .i64 c.ed] 101))
       have hbk:=Blk.new w2 101 [.int .i64 c.gen,.map (some mb'),.int .i64 c.wt,.int .u64 c.sum,.int .i64 c.ed]
       have hM3:=hM'.grown (S:=fun _=>False) (Grown.of_below ((Below.refl _ w2).alloc (Nat.le_refl _) (.cells #[.int .i64 c.gen,.map (some mb'),.int .i64 c.wt,.int .u64 c.sum,.int .i64 c.ed] 101))) (fun h=>h) (fun _ _ h=>h)
       have hz2:=hb2.size
       clear hrf hM' hb2
       unfold conV
       go_upto_region 14 with (fail)
       have hbk:Blk (w2.alloc (.cells #[.int .i64 c.gen,.map (some mb'),.int .i64 c.wt,.int .u64 c.sum,.int .i64 c.ed] 101)) w2.heap.size 101 [.int .i64 c.gen,.map (some mb'),.int .i64 c.wt,.int .u64 c.sum,.int .i64 c.ed]:=hbk
       generalize w2.alloc (.cells #[.int .i64 c.gen,.map (some mb'),.int .i64 c.wt,.int .u64 c.sum,.int .i64 c.ed] 101)=w3 at *
       generalize w2.heap.size=gb at *
       have hO3:=HO.out.keep (j':=1) HB3.out rfl
       have y0:=hO3.blk.cell 3 (by simp)
       have x0:=hbk.cell 0 (by simp)
       simp only [List.getD_cons_zero,List.getD_cons_succ] at x0 y0
       by_cases hlt:(openAt d 1).2.gen < c.gen
       ·have hltb:(decide ((openAt d 1).2.gen < c.gen))=true:=by simpa using hlt
        have HP:Hid (openAt d 2=(true,c)):=Lib.hid (by show pickC (readF d.f1) true (openAt d 1)=(true,c); rw [HRF.out]; exact pickC_lt hlt)
        have x1:=hbk.cell 1 (by simp)
        have x2:=hbk.cell 2 (by simp)
        have x3:=hbk.cell 3 (by simp)
        have x4:=hbk.cell 4 (by simp)
        have y2:=hO3.blk.cell 2 (by simp)
        have y4:=hO3.blk.cell 4 (by simp)
        have y5:=hO3.blk.cell 5 (by simp)
        have y6:=hO3.blk.cell 6 (by simp)
        have y7:=hO3.blk.cell 7 (by simp)
        have hjl:=HO.out.blk.lt
        have hne1:gb ≠ w.heap.size+1:=by omega
        have hne2:w.heap.size+1 ≠ gb:=by omega
        have z2:=hO3.blk.frozen 2
        have z3:=hO3.blk.frozen 3
        have z4:=hO3.blk.frozen 4
        have z5:=hO3.blk.frozen 5
        have z6:=hO3.blk.frozen 6
        have z7:=hO3.blk.frozen 7
        simp only [List.getD_cons_zero,List.getD_cons_succ] at x1 x2 x3 x4 y2 y4 y5 y6 y7
        have HO3:=Lib.hid hO3
        have HM3:=Lib.hid hM3
        clear hlt hO3 hM3 hbk
        generalize (openAt d 1).2.gen=g0 at *
        generalize (openAt d 1).2.wt=g2 at *
        generalize (openAt d 1).2.sum=g3 at *
        generalize (openAt d 1).2.ed=g4 at *
        generalize hg5:(if (openAt d 1).1=true then (1:Int) else 0)=g5 at *
        clear hg5
        go_quiet (fail)
        all_goals
         go_upto_region 15 with (fail)
         go_region
         all_goals
          go_wp2
          go_roundw
          case rel=>exact ⟨2,2,Or.inr (Or.inr ⟨rfl,rfl⟩),by first | trivial | rfl,mb',L',(HO3.out.keep (j':=1) (below_drewN (Below.refl _ _) _) rfl).take (HM3.out.grown (S:=fun _=>False) (Grown.of_below (below_drewN (Below.refl _ _) _)) (fun h=>h) (fun _ _ h=>h)) hjl hmb' hwl (by omega) (by omega) hE' HP.out 1 rfl⟩
          case measure=>simp [intOf]
       ·have hltb:(decide ((openAt d 1).2.gen < c.gen))=false:=by simpa using hlt
        have HP:Hid (openAt d 2=openAt d 1):=Lib.hid (by show pickC (readF d.f1) true (openAt d 1)=openAt d 1; rw [HRF.out]; exact pickC_ge hlt)
        have HO3:=Lib.hid hO3
        clear hlt hO3 hM3 hbk
        generalize (openAt d 1).2.gen=g0 at *
        generalize c.gen=g1 at *
        go_quiet (fail)
        all_goals
         go_wp2
         go_roundw
         case rel=>
          refine ⟨2,2,Or.inr (Or.inr ⟨rfl,rfl⟩),by first | trivial | rfl,mb,L,HO.out.keep ?_ HP.out⟩
          exact below_drewN HB3.out _
         case measure=>simp [intOf]
    ·have hk:=HO.out.fin HW.out (by omega) HH.out.2.1 HH.out.2.2
     have hb:=HO.out.below
     have hl:=HO.out.mlt
     go_wp2
     go_ret2
     exact ⟨_,_,rfl,by omega,hl,hk.mono (fun g hg=>hg) hk.away,hb⟩
end
section
open Go.RowKit SeedP Go.Maps
/-! ### a disk with too little power -/
end
section
open Go.RowKit SeedP Go.Maps
/-- a disk, above block B -/
structure DL (B:Nat) (w:World) (db:Nat) (d:DS):Prop where
 st:St w
 pos:0 < B
 le:B≤db
 disk:DW w db (fun g=>B≤g∧g ≠ db) d
/-- a journal over a disk, above block B -/
structure JL (B:Nat) (w:World) (db jb:Nat) (s:JS):Prop where
 pos:0 < B
 jle:B≤jb
 dle:B≤db
 jw:∃ mb,B≤mb∧JW w jb db mb (fun g=>B≤g∧g ≠ jb∧g ≠ db∧g ≠ mb) s
theorem JL.st {B:Nat} {w:World} {db jb:Nat} {s:JS} (h:JL B w db jb s):St w:=by obtain ⟨_,_,_,mb,_,h⟩:=h; exact h.st
theorem JL.ok {B:Nat} {w:World} {db jb:Nat} {s:JS} (h:JL B w db jb s):s.Ok:=by obtain ⟨_,_,_,mb,_,h⟩:=h; exact h.ok
theorem JL.below {B:Nat} {w w':World} {db jb:Nat} {s:JS} (h:JL B w db jb s) (hb:Below w.heap.size w w'):JL B w' db jb s:=by
 obtain ⟨h0,h1,h2,mb,h3,h⟩:=h
 exact ⟨h0,h1,h2,mb,h3,h.below hb⟩
theorem JL.size {B:Nat} {w:World} {db jb:Nat} {s:JS} (h:JL B w db jb s):B < w.heap.size:=by
 obtain ⟨h0,h1,h2,mb,h3,h⟩:=h
 have:=h.lt; omega
theorem JL.cut {B:Nat} {w w':World} {db jb:Nat} {s:JS} (h:JL B w db jb s) (hb:Below w.heap.size w w'):Below B w w':=hb.mono (by have:=h.size; omega)
theorem DL.size {B:Nat} {w:World} {db:Nat} {d:DS} (h:DL B w db d):B < w.heap.size:=by have:=h.disk.lt; have:=h.le; omega
theorem DL.cut {B:Nat} {w w':World} {db:Nat} {d:DS} (h:DL B w db d) (hb:Below w.heap.size w w'):Below B w w':=hb.mono (by have:=h.size; omega)
theorem DL.below {B:Nat} {w w':World} {db:Nat} {d:DS} (h:DL B w db d) (hb:Below w.heap.size w w'):DL B w' db d:=
 ⟨h.st.below hb h.st.pos,h.pos,h.le,h.disk.grown (Grown.of_below hb (S:=fun _=>False)) (fun h=>h) (fun _ _ h=>h)⟩
theorem DL.new (w:World) (hs:St w) (pw:Int):DL w.heap.size (w.alloc (.cells #[.int .i64 pw,.slice none 0 0,.slice none 0 0] 29)) w.heap.size ⟨pw,[],[]⟩:=
 ⟨hs.alloc _,hs.pos,Nat.le_refl _,.slice none 0 0,.slice none 0 0,fun _=>False,fun _=>False,Blk.new w _ [.int .i64 pw,.slice none 0 0,.slice none 0 0],Or.inl ⟨Or.inl rfl,rfl⟩,Or.inl ⟨Or.inl rfl,rfl⟩,(fun _ h=>h.elim),(fun _ h=>h.elim),(fun _ h=>by rcases h with h | h <;> exact h.elim)⟩
/-- the power is set -/
theorem DL.power {B:Nat} {w:World} {db:Nat} {d:DS} (h:DL B w db d) (pw:Int):DL B (w.setCell ⟨db,0,none⟩ (.int .i64 pw)) db ⟨pw,d.f0,d.f1⟩:=by
 obtain ⟨hs,h0,h1,v0,v1,q0,q1,hb,hr0,hr1,hq0,hq1,hun⟩:=h
 have hg:Grown (fun k=>k=db) w (w.setCell ⟨db,0,none⟩ (.int .i64 pw)):=Grown.setCell (S:=fun k=>k=db) (Grown.refl _ _) (a:=⟨db,0,none⟩) rfl _
 exact ⟨hs.block (hg.block 0 hs.pos (fun e=>by omega)),h0,h1,v0,v1,q0,q1,hb.set 0 _,hr0.grown hg (fun g hq=>(hq0 g hq).1.2),hr1.grown hg (fun g hq=>(hq1 g hq).2),hq0,hq1,fun g hq=>⟨Nat.lt_of_lt_of_le (hun g hq).1 hg.size,(hun g hq).2.keep (hg.block g (hun g hq).1 (by rcases hq with hq | hq; exact (hq0 g hq).1.2; exact (hq1 g hq).2))⟩⟩
/-- the cells of a disk -/
theorem DL.cells {B:Nat} {w:World} {db:Nat} {d:DS} (h:DL B w db d):∃ a0 c0 a1 c1,w.cell? ⟨db,0,none⟩=some (.int .i64 d.pw)∧w.cell? ⟨db,1,none⟩=some (.slice a0 d.f0.length c0)∧w.cell? ⟨db,2,none⟩=some (.slice a1 d.f1.length c1) ∧
 RdB w w.heap.size (.slice a0 d.f0.length c0) d.f0∧RdB w w.heap.size (.slice a1 d.f1.length c1) d.f1∧(∀ o,w.frozen? ⟨db,o,none⟩=false):=by
 obtain ⟨hs,h0,h1,v0,v1,q0,q1,hb,hr0,hr1,hq0,hq1⟩:=h
 have r0:=hr0.toB
 have r1:=hr1.toB
 obtain ⟨a0,c0,rfl,_,_,_⟩:=r0.open_
 obtain ⟨a1,c1,rfl,_,_,_⟩:=r1.open_
 exact ⟨a0,c0,a1,c1,hb.cell 0 (by simp),hb.cell 1 (by simp),hb.cell 2 (by simp),r0,r1,fun o=>hb.frozen o⟩
/-- bytes that an act is given lie elsewhere -/
theorem JL.out {B:Nat} {w:World} {db jb:Nat} {s:JS} (h:JL B w db jb s) {v:Value} {l:List UInt8} (hv:RdB w B v l):∀ mb,B≤mb→RdP w (fun g=>g ≠ jb∧g ≠ db∧g ≠ mb) v l:=fun mb hm=>hv.toP (fun g hg=>by have:=h.jle; have:=h.dle; omega)
theorem Blk.type {w:World} {g:Nat} {t t':TypeId} {cs cs':List Value} (h:Blk w g t cs) (h':Blk w g t' cs'):t=t':=by
 unfold Blk at h h'
 rw [h] at h'
 simp only [Option.some.injEq,Obj.cells.injEq] at h'
 exact h'.2.1
/-- a block of another type is none of the journal's three -/
theorem JW.other {w:World} {jb db mb:Nat} {p:Nat→Prop} {s:JS} (h:JW w jb db mb p s) {g:Nat} {t:TypeId} {cs:List Value} (hb:Blk w g t cs) (h1:t ≠ 103) (h2:t ≠ 29):g ≠ jb∧g ≠ db∧g ≠ mb:=by
 obtain ⟨L,hM,_⟩:=h.map
 obtain ⟨v0,v1,q0,q1,hd,_⟩:=h.disk
 exact ⟨fun e=>h1 (hb.type (e ▸ h.blk)),fun e=>h2 (hb.type (e ▸ hd)),hb.not_map hM⟩
/-! ### the acts -/
/-- what a journal has -/
def JS.ents (s:JS):PEnts:=if s.down then [] else s.c.ents
end
section
open Go.RowKit SeedP Go.Maps
/-! ### again -/
theorem chg_put (P:PEnts) (k v:List UInt8):pChg P ⟨k,v,false⟩=pPut P (k,v):=rfl
theorem chg_del (P:PEnts) (k v:List UInt8):pChg P ⟨k,v,true⟩=pDel P k:=rfl
theorem put_same (P:PEnts) (k v:List UInt8):pFind (pPut P (k,v)) k=some v:=by rw [pPut_find]; simp
theorem put_some (P:PEnts) (x:List UInt8 × List UInt8) (k:List UInt8) (h:(pFind P k).isSome=true):(pFind (pPut P x) k).isSome=true:=by
 rw [pPut_find]; split
 ·rfl
 ·exact h
theorem one_ents {s:JS} {g:Nat} (h:SFull s g) (hg:g+2 < 4611686018427387904) {c:Chg} (e0:(jCommit [c] s).2=0):(jCommit [c] s).1.c.ents=pChg s.c.ents c:=by
 rcases full_commit h hg c with ⟨h1,_⟩ | ⟨_,_,_,_,h5⟩
 ·exact absurd e0 h1
 ·exact h5
theorem again0 {s t:JS} {g:Nat} (h:SFull s g) (hg:g+2 < 4611686018427387904) {c:List UInt8} (e0:(addClassP c s).2=0) (hd:t.down=false) (he:t.c.ents=(addClassP c s).1.c.ents):(addClassP c t).2=371:=by
 unfold addClassP at e0 he
 split at e0
 ·simp at e0
 rename_i h1
 rw [if_neg h1] at he
 split at e0
 ·simp at e0
 rename_i h2
 rw [if_neg h2] at he
 split at e0
 ·simp at e0
 rename_i h3
 rw [if_neg h3,one_ents h hg e0,chg_put] at he
 unfold addClassP
 rw [if_neg (by rw [hd]; simp),if_neg h2,if_pos (by rw [he,put_same]; rfl)]
theorem again1 {s t:JS} {g:Nat} (h:SFull s g) (hg:g+2 < 4611686018427387904) {c st:List UInt8} (e0:(enrollP c st s).2=0) (hd:t.down=false) (he:t.c.ents=(enrollP c st s).1.c.ents):(enrollP c st t).2=371:=by
 unfold enrollP at e0 he
 split at e0
 ·simp at e0
 rename_i h1
 rw [if_neg h1] at he
 split at e0
 ·simp at e0
 rename_i h2
 rw [if_neg h2] at he
 split at e0
 ·simp at e0
 rename_i h3
 rw [if_neg h3] at he
 split at e0
 ·simp at e0
 rename_i h4
 rw [if_neg h4,one_ents h hg e0,chg_put] at he
 have h3':(pFind s.c.ents (ckey c)).isSome=true:=bt h3
 unfold enrollP
 rw [if_neg (by rw [hd]; simp),if_neg h2,if_neg (by rw [he,put_some _ _ _ h3']; simp),if_pos (by rw [he,put_same]; rfl)]
theorem again2 {s t:JS} {g:Nat} (h:SFull s g) (hg:g+2 < 4611686018427387904) {c st:List UInt8} (e0:(leaveP c st s).2=0) (hd:t.down=false) (he:t.c.ents=(leaveP c st s).1.c.ents):(leaveP c st t).2=6:=by
 unfold leaveP at e0 he
 split at e0
 ·simp at e0
 rename_i h1
 rw [if_neg h1] at he
 split at e0
 ·simp at e0
 rename_i h2
 rw [if_neg h2] at he
 split at e0
 ·simp at e0
 rename_i h3
 rw [if_neg h3,one_ents h hg e0,chg_del] at he
 unfold leaveP
 rw [if_neg (by rw [hd]; simp),if_neg h2,if_pos (by rw [he,pDel_find_same]; rfl)]
end
end Go.Proofs.YtbcfpdlhieaepaaGreatDoor
