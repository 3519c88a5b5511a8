/- The walks of Commit (all its ends together), Set, Drop, Compact. -/
import Derived.Test.YtondomklkapogaaGreatDoorM15
import Derived.Maps.RangeWalk
import Derived.Sort.OwnSorted
namespace Go.Proofs.YtondomklkapogaaGreatDoor
section
open Go.RowKit SeedP Go.Maps
/-- Commit -/
theorem commit_c {jb db mb:Nat} {p:Nat→Prop} {s:JS} (v:Value) (cs:List Chg) (w:World) (h:JW w jb db mb p s) (hc:ChgsP w (fun g=>g ≠ jb∧g ≠ db∧g ≠ mb) v cs) (hn:cs.length≤1000000) (hb:∀ c ∈ cs,c.key.length≤1073741824∧c.val.length≤1073741824) :
 Calls Tryz.prog 13 #[.pointer (some ⟨jb,0,none⟩),v] w fun e w'=>e=.returned (.int .i64 (jCommit cs s).2)∧JW w' jb db mb (fun g=>p g∨w.heap.size≤g) (jCommit cs s).1∧Grown (fun k=>k=jb∨k=db∨k=mb) w w':=by
 by_cases hx:s.down=true∨cs.length=0∨64 < cs.length∨validP cs ≠ 0
 ·refine (commit_early v cs w h hc hn hb hx).mono ?_
  rintro e w' ⟨he,hs,hB⟩
  refine ⟨he,?_,Grown.below3 hB⟩
  rw [hs]
  exact (h.below hB).mono (fun g hg=>Or.inl hg) (h.fresh (Nat.le_refl _))
 ·have hd:s.down=false:=by cases hd:s.down with | false=>rfl | true=>exact absurd (Or.inl hd) hx
  have h0:¬ cs.length=0:=fun e=>hx (Or.inr (Or.inl e))
  have h6:¬ 64 < cs.length:=fun e=>hx (Or.inr (Or.inr (Or.inl e)))
  have hv:validP cs=0:=by
   rcases Int.lt_trichotomy (validP cs) 0 with e | e | e
   ·exact absurd (Or.inr (Or.inr (Or.inr (by omega)))) hx
   ·exact e
   ·exact absurd (Or.inr (Or.inr (Or.inr (by omega)))) hx
  exact commit_late v cs w h hc hd (by omega) (by omega) ((valid_zero cs).1 hv)
/-- a slice of one change that was just laid -/
theorem chgs_one (w:World) (q:Nat→Prop) (k val:List UInt8) (v:Value) (d:Bool) (hv:RdP w q v val) (hq:q w.heap.size) :
 ChgsP (w.alloc (.cells #[strV k,v,.bool d] 60)) q (.slice (some ⟨w.heap.size,0,none⟩) 1 1) [⟨k,val,d⟩]:=by
 have hb:=Blk.new w 60 [strV k,v,.bool d]
 have hg:Grown (fun _=>False) w (w.alloc (.cells #[strV k,v,.bool d] 60)):=Grown.of_below ((Below.refl _ w).alloc (Nat.le_refl _) _)
 refine ⟨some ⟨w.heap.size,0,none⟩,1,rfl,Nat.le_refl _,by unfold maxLen; omega,Or.inr ⟨w.heap.size,0,rfl,hq,fun j hj=>?_⟩⟩
 obtain rfl:j=0:=by simp at hj; omega
 exact ⟨v,hb.cell 0 (by simp),hb.cell 1 (by simp),hb.cell 2 (by simp),hv.grown hg (fun _ _ h=>h)⟩
set_option maxRecDepth 100000 in
/-- Set -/
theorem set_c {jb db mb:Nat} {p:Nat→Prop} {s:JS} (k val:List UInt8) (v:Value) (w:World) (h:JW w jb db mb p s) (hv:RdP w (fun g=>g ≠ jb∧g ≠ db∧g ≠ mb) v val) (hk:k.length≤1073741824) (hl:val.length≤1073741824) :
 Calls Tryz.prog 25 #[.pointer (some ⟨jb,0,none⟩),strV k,v] w fun e w'=>e=.returned (.int .i64 (jCommit [⟨k,val,false⟩] s).2)∧JW w' jb db mb (fun g=>p g∨w.heap.size≤g) (jCommit [⟨k,val,false⟩] s).1∧Grown (fun k=>k=jb∨k=db∨k=mb) w w':=by
 have hlt:=h.lt
 have hB:Below w.heap.size w (w.alloc (.cells #[strV k,v,.bool false] 60)):=(Below.refl _ w).alloc (Nat.le_refl _) _
 have HC:=Lib.hid (commit_c _ [⟨k,val,false⟩] _ (h.below hB) (chgs_one w _ k val v false hv (by omega)) (by simp) (fun c hc=>by obtain rfl:=List.mem_singleton.1 hc; exact ⟨hk,hl⟩))
 have HB:=Lib.hid hB
 have HF:=Lib.hid (h.fresh (Nat.le_refl _))
 obtain ⟨a,cap,rfl,_,_,_⟩:=hv.toB.open_
 clear hv hB h
 go_enter Tryz.func25,Tryz.ntmps25
 go_wp2_with fail
 refine HC.out.mono ?_
 rintro e w2 ⟨rfl,hJ2,hG2⟩
 go_wp2
 go_ret
 exact ⟨rfl,hJ2.mono (fun g hg=>by rcases hg with hg | hg; exact Or.inl hg; exact Or.inr (Nat.le_trans HB.out.size hg)) HF.out,(Grown.below3 HB.out).trans hG2⟩
set_option maxRecDepth 100000 in
/-- Drop -/
theorem drop_c {jb db mb:Nat} {p:Nat→Prop} {s:JS} (k:List UInt8) (w:World) (h:JW w jb db mb p s) (hk:k.length≤1073741824) :
 Calls Tryz.prog 26 #[.pointer (some ⟨jb,0,none⟩),strV k] w fun e w'=>e=.returned (.int .i64 (jCommit [⟨k,[],true⟩] s).2)∧JW w' jb db mb (fun g=>p g∨w.heap.size≤g) (jCommit [⟨k,[],true⟩] s).1∧Grown (fun k=>k=jb∨k=db∨k=mb) w w':=by
 have hlt:=h.lt
 have hB:Below w.heap.size w (w.alloc (.cells #[strV k,.slice none 0 0,.bool true] 60)):=(Below.refl _ w).alloc (Nat.le_refl _) _
 have HC:=Lib.hid (commit_c _ [⟨k,[],true⟩] _ (h.below hB) (chgs_one w _ k [] (.slice none 0 0) true (Or.inl ⟨Or.inl rfl,rfl⟩) (by omega)) (by simp) (fun c hc=>by obtain rfl:=List.mem_singleton.1 hc; exact ⟨hk,by simp⟩))
 have HB:=Lib.hid hB
 have HF:=Lib.hid (h.fresh (Nat.le_refl _))
 clear hB h
 go_enter Tryz.func26,Tryz.ntmps26
 go_wp2_with fail
 refine HC.out.mono ?_
 rintro e w2 ⟨rfl,hJ2,hG2⟩
 go_wp2
 go_ret
 exact ⟨rfl,hJ2.mono (fun g hg=>by rcases hg with hg | hg; exact Or.inl hg; exact Or.inr (Nat.le_trans HB.out.size hg)) HF.out,(Grown.below3 HB.out).trans hG2⟩
set_option maxRecDepth 100000 in
set_option maxHeartbeats 1000000 in
/-- Compact -/
theorem compactOp_c {jb db mb:Nat} {p:Nat→Prop} {s:JS} (w:World) (h:JW w jb db mb p s) :
 Calls Tryz.prog 12 #[.pointer (some ⟨jb,0,none⟩)] w fun e w'=>e=.returned (.int .i64 (jCompactOp s).2)∧JW w' jb db mb (fun g=>p g∨w.heap.size≤g) (jCompactOp s).1∧Grown (fun k=>k=jb∨k=db∨k=mb) w w':=by
 have hmf:∀ (fn:Fn) (first cap:Array Value) (w:World),(Instr.makeFunc fn first cap).run Tryz.prog w=.ok (.func fn first cap) w:=fun _ _ _ _=>rfl
 have HR:=Lib.hid (refused_c w h)
 have k3:=h.cells.2.2.2.1
 have HS:=Lib.hid (h.mono (p':=fun g=>p g∨w.heap.size≤g) (fun g hg=>Or.inl hg) (h.fresh (Nat.le_refl _)))
 have HP:=Lib.hid (fun hg=>powered_compact w h hg)
 have hgl:=h.ok.gen
 clear h
 cases hd:s.down with
 | true=>
   rw [hd] at HR
   simp only [if_true] at HR
   have HE:Hid (jCompactOp s=(s,360)):=Lib.hid (by unfold jCompactOp; rw [if_pos hd])
   clear hd
   go_enter Tryz.func12,Tryz.ntmps12
   go_wp2_with fail
   refine HR.out.mono ?_
   rintro e w1 ⟨rfl,rfl⟩
   go_wp2
   go_ret
   rw [HE.out]
   exact ⟨rfl,HS.out,Grown.refl _ _⟩
 | false=>
   rw [hd] at HR
   simp only [Bool.false_eq_true,if_false] at HR
   by_cases hg:s.c.gen=4611686018427387904
   ·have HE:Hid (jCompactOp s=(s,4)):=Lib.hid (by unfold jCompactOp; rw [if_neg (by rw [hd]; simp),if_pos hg])
    have hgb:((s.c.gen:Int) == 4611686018427387904)=true:=by rw [hg]; rfl
    generalize (s.c.gen:Int)=gi at *
    clear hd hg
    go_enter Tryz.func12,Tryz.ntmps12
    go_wp2_with fail
    refine HR.out.mono ?_
    rintro e w1 ⟨rfl,rfl⟩
    go_wp2
    go_ret
    rw [HE.out]
    exact ⟨rfl,HS.out,Grown.refl _ _⟩
   ·have HE:Hid (jCompactOp s=jPowered (jCompact s)):=Lib.hid (by unfold jCompactOp; rw [if_neg (by rw [hd]; simp),if_neg hg])
    have hgb:((s.c.gen:Int) == 4611686018427387904)=false:=by rw [beq_eq_false_iff_ne]; omega
    have HP:=Lib.hid (HP.out (by omega))
    generalize (s.c.gen:Int)=gi at *
    clear hd hg hgl
    go_enter Tryz.func12,Tryz.ntmps12
    go_wp2_with fail
    refine HR.out.mono ?_
    rintro e w1 ⟨rfl,rfl⟩
    go_wp2_with fail
    refine HP.out.mono ?_
    rintro e w2 ⟨rfl,hJ2,hG2⟩
    go_wp2
    go_ret
    rw [HE.out]
    exact ⟨rfl,hJ2,hG2⟩
end
section
open Go.RowKit SeedP Go.Maps
theorem index0 (x y:Value) (w:World):(Instr.index 26 (.agg #[x,y]) (.int .i64 0)).run Tryz.prog w=.ok x w:=by kernel_rfl
theorem index1 (x y:Value) (w:World):(Instr.index 26 (.agg #[x,y]) (.int .i64 1)).run Tryz.prog w=.ok y w:=by kernel_rfl
def openAt (d:DS):Nat→Bool × Cont
 | 0=>(false,zeroC)
 | 1=>pickC (readF d.f0) false (false,zeroC)
 | _=>openP d
/-- the journal under way: after j files -/
structure OpenW (w wr:World) (jb db:Nat) (p:Nat→Prop) (d:DS) (j:Nat) (mb:Nat) (L:List Ent):Prop where
 st:St wr
 blk:Blk wr jb 81 [.pointer (some ⟨db,0,none⟩),.bool false,.int .i64 (if (openAt d j).1 then 1 else 0),.int .i64 (openAt d j).2.gen,.map (some mb),.int .i64 (openAt d j).2.wt,.int .u64 (openAt d j).2.sum,.int .i64 (openAt d j).2.ed]
 disk:DW wr db (fun g=>p g∧g < w.heap.size) d
 map:MapAt wr mb (fun g=>w.heap.size≤g∧g ≠ mb∧g ≠ jb) L
 ents:EB L=(openAt d j).2.ents
 below:Below w.heap.size w wr
 mlt:w.heap.size≤mb
 mj:mb ≠ jb
theorem OpenW.fin {w wr:World} {jb db:Nat} {p:Nat→Prop} {d:DS} {mb:Nat} {L:List Ent} (h:OpenW w wr jb db p d 2 mb L) (hw:DW w db p d) (hj:w.heap.size≤jb) (hok:d.Ok) (ha:∀ g,p g→g ≠ db∧g ≠ 0) :
 JW wr jb db mb (fun g=>(p g∧g < w.heap.size)∨(w.heap.size≤g∧g ≠ mb∧g ≠ jb)) (jOpen d):=by
 have hl:=open_live hok
 have hlt:=hw.lt
 exact ⟨h.st,h.blk,h.disk.mono (fun g hg=>Or.inl hg),⟨L,h.map.mono' (fun g hg=>Or.inr hg),h.ents⟩,fun g hg=>by
  have:=h.mlt
  rcases hg with hg | hg
  ·have:=ha g hg.1
   refine ⟨by omega,this.1,by omega,this.2⟩
  ·refine ⟨hg.2.2,by omega,hg.2.1,by omega⟩,hl.ok,hl.ord,hl.small⟩
theorem OpenW.keep {w wr w':World} {jb db:Nat} {p:Nat→Prop} {d:DS} {j j' mb:Nat} {L:List Ent} (h:OpenW w wr jb db p d j mb L) (hb:Below wr.heap.size wr w') (he:openAt d j'=openAt d j):OpenW w w' jb db p d j' mb L:=by
 have hg:Grown (fun _=>False) wr w':=Grown.of_below hb
 refine ⟨h.st.below hb h.st.pos,?_,h.disk.grown hg (fun h=>h) (fun _ _ h=>h),h.map.grown hg (fun h=>h) (fun _ _ h=>h),?_,h.below.trans (hb.mono h.below.size),h.mlt,h.mj⟩
 ·rw [he]; exact h.blk.grown hg (fun h=>h)
 ·rw [he]; exact h.ents
theorem OpenW.take {w W:World} {jb db:Nat} {p:Nat→Prop} {d:DS} {j j' mb mb' B:Nat} {L L':List Ent} {f:Bool} {c:Cont} (h:OpenW w W jb db p d j mb L) (hM:MapAt W mb' (fun g=>B≤g∧g ≠ mb') L') (hjB:jb < B) (hmB:B≤mb') (hdj:db < w.heap.size) (hj:w.heap.size≤jb) (hj0:0 < jb) (hE:EB L'=c.ents) (he:openAt d j'=(f,c)) (fi:Int) (hf:fi=if f then 1 else 0) :
 OpenW w ((((((W.setCell ⟨jb,2,none⟩ (.int .i64 fi)).setCell ⟨jb,3,none⟩ (.int .i64 c.gen)).setCell ⟨jb,4,none⟩ (.map (some mb'))).setCell ⟨jb,5,none⟩ (.int .i64 c.wt)).setCell ⟨jb,6,none⟩ (.int .u64 c.sum)).setCell ⟨jb,7,none⟩ (.int .i64 c.ed)) jb db p d j' mb' L':=by
 subst hf
 have hG:Grown (fun k=>k=jb) W ((((((W.setCell ⟨jb,2,none⟩ (.int .i64 (if f then 1 else 0))).setCell ⟨jb,3,none⟩ (.int .i64 c.gen)).setCell ⟨jb,4,none⟩ (.map (some mb'))).setCell ⟨jb,5,none⟩ (.int .i64 c.wt)).setCell ⟨jb,6,none⟩ (.int .u64 c.sum)).setCell ⟨jb,7,none⟩ (.int .i64 c.ed)):=
  Grown.setCell (S:=fun k=>k=jb) (Grown.setCell (S:=fun k=>k=jb) (Grown.setCell (S:=fun k=>k=jb) (Grown.setCell (S:=fun k=>k=jb) (Grown.setCell (S:=fun k=>k=jb) (Grown.setCell (S:=fun k=>k=jb) (Grown.refl _ _) (a:=⟨jb,2,none⟩) rfl _) (a:=⟨jb,3,none⟩) rfl _) (a:=⟨jb,4,none⟩) rfl _) (a:=⟨jb,5,none⟩) rfl _) (a:=⟨jb,6,none⟩) rfl _) (a:=⟨jb,7,none⟩) rfl _
 have hb:=(((((h.blk.set 2 (.int .i64 (if f then 1 else 0))).set 3 (.int .i64 c.gen)).set 4 (.map (some mb'))).set 5 (.int .i64 c.wt)).set 6 (.int .u64 c.sum)).set 7 (.int .i64 c.ed)
 refine ⟨h.st.block (hG.block 0 h.st.pos (fun e=>by omega)),by rw [he]; exact hb,h.disk.grown hG (fun e=>by omega) (fun g hg e=>by have:=hg.2; omega),(hM.grown hG (fun e=>by omega) (fun g hg e=>by have:=hg.1; omega)).mono' (fun g hg=>⟨by omega,hg.2,by omega⟩),by rw [he]; exact hE,h.below.trans (hG.below (fun k e=>by omega) h.below.size),by omega,by omega⟩
set_option maxRecDepth 100000 in
set_option maxHeartbeats 4000000 in
/-- Open of a disk that may be -/
theorem open_c (db:Nat) (p:Nat→Prop) (d:DS) (w:World) (hs:St w) (hw:DW w db p d) (hok:d.Ok) (ha:∀ g,p g→g ≠ db∧g ≠ 0) :
 Calls Tryz.prog 10 #[.pointer (some ⟨db,0,none⟩)] w fun e w'=>∃ jb mb,e=.returned (.tuple #[.pointer (some ⟨jb,0,none⟩),.int .i64 0])∧w.heap.size≤jb∧w.heap.size≤mb∧JW w' jb db mb (fun g=>(p g∧g < w.heap.size)∨(w.heap.size≤g∧g ≠ mb∧g ≠ jb)) (jOpen d)∧Below w.heap.size w w':=by
 have hmm:=@run_makeMap Tryz.prog
 have HW:=Lib.hid hw
 have hwl:=hw.lt
 obtain ⟨v0,v1,q0,q1,hD,hr0,hr1,hq0,hq1⟩:=hw
 obtain ⟨a0,c0,rfl,_,_,_⟩:=hr0.toB.open_
 obtain ⟨a1,c1,rfl,_,_,_⟩:=hr1.toB.open_
 have HR0:=Lib.hid hr0.toB
 have HR1:=Lib.hid hr1.toB
 have d0:=hD.cell 0 (by simp)
 have d1:=hD.cell 1 (by simp)
 have d2:=hD.cell 2 (by simp)
 simp only [List.getD_cons_zero,List.getD_cons_succ] at d0 d1 d2
 have hpw:(decide (d.pw < -1))=false:=by have:=hok.pw0; simp; omega
 have hf0:(d.f0.length:Int)≤262144:=by have:=hok.f0; omega
 have hf1:(d.f1.length:Int)≤262144:=by have:=hok.f1; omega
 have hdl:=hD.lt
 have HH:=Lib.hid (And.intro hs (And.intro hok ha))
 have hd0:db ≠ 0:=hs.not hD (fun n e=>by cases e)
 clear hD hr0 hr1 hq0 hq1 hs hok ha
 go_enter Tryz.func10,Tryz.ntmps10
 go_wp2
 have hix0:=index0
 have hix1:=index1
 go_loopw [24] (fun i wr=>∃ j:Int,(j=0∨j=1∨j=2)∧i=.int .i64 j∧w=wr) (fun i _=>2 - (intOf i).toNat)
 case atStart=>exact ⟨0,Or.inl rfl,rfl,rfl⟩
 case round=>
  obtain ⟨j,hj,rfl,rfl⟩:=hrel
  rcases hj with rfl | rfl | rfl
  ·go_wp2
   go_roundw
   case rel=>exact ⟨1,Or.inr (Or.inl rfl),by first | trivial | rfl,by first | trivial | rfl⟩
   case measure=>simp [intOf]
  ·go_wp2
   go_roundw
   case rel=>exact ⟨2,Or.inr (Or.inr rfl),by first | trivial | rfl,by first | trivial | rfl⟩
   case measure=>simp [intOf]
  ·have hG1:Below w.heap.size w (w.alloc (.map #[] 0)):=(Below.refl _ _).alloc (Nat.le_refl _) _
   have hG2:Below w.heap.size w ((w.alloc (.map #[] 0)).alloc (.cells #[.pointer (some ⟨db,0,none⟩),.bool false,.int .i64 0,.int .i64 0,.map (some w.heap.size),.int .i64 0,.int .u64 0,.int .i64 0] 81)):=hG1.alloc hG1.size _
   have hB0:=Blk.new (w.alloc (.map #[] 0)) 81 [.pointer (some ⟨db,0,none⟩),.bool false,.int .i64 0,.int .i64 0,.map (some w.heap.size),.int .i64 0,.int .u64 0,.int .i64 0]
   have hz1:(w.alloc (.map #[] 0)).heap.size=w.heap.size+1:=by simp
   rw [hz1] at hB0
   have hM1:=(MapAt.made w (fun g=>w.heap.size≤g∧g ≠ w.heap.size∧g ≠ w.heap.size+1)).grown (S:=fun _=>False) (Grown.of_below ((Below.refl _ _).alloc (Nat.le_refl _) (.cells #[.pointer (some ⟨db,0,none⟩),.bool false,.int .i64 0,.int .i64 0,.map (some w.heap.size),.int .i64 0,.int .u64 0,.int .i64 0] 81))) (fun h=>h) (fun _ _ h=>h)
   have HO0:Hid (OpenW w ((w.alloc (.map #[] 0)).alloc (.cells #[.pointer (some ⟨db,0,none⟩),.bool false,.int .i64 0,.int .i64 0,.map (some w.heap.size),.int .i64 0,.int .u64 0,.int .i64 0] 81)) (w.heap.size+1) db p d 0 w.heap.size []):=
    Lib.hid ⟨HH.out.1.below hG2 HH.out.1.pos,hB0,HW.out.low.grown (Grown.of_below hG2 (S:=fun _=>False)) (fun h=>h) (fun _ _ h=>h),hM1,rfl,hG2,Nat.le_refl _,by omega⟩
   clear hG1 hG2 hB0 hz1 hM1
   go_wp2
   clear d0 d1 d2
   generalize (w.alloc (.map #[] 0)).alloc (.cells #[.pointer (some ⟨db,0,none⟩),.bool false,.int .i64 0,.int .i64 0,.map (some w.heap.size),.int .i64 0,.int .u64 0,.int .i64 0] 81)=w1 at *
   go_loopw [40] (fun i wr=>∃ (j:Int) (jn:Nat),(j=0∧jn=0∨j=1∧jn=1∨j=2∧jn=2)∧i=.int .i64 j∧∃ mb L,OpenW w wr (w.heap.size+1) db p d jn mb L) (fun i _=>2 - (intOf i).toNat)
   case atStart=>exact ⟨0,0,Or.inl ⟨rfl,rfl⟩,rfl,w.heap.size,[],HO0.out⟩
   case round=>
    obtain ⟨j,jn,hj,rfl,mb,L,hO⟩:=hrel
    have HO:=Lib.hid hO
    rcases hj with ⟨rfl,rfl⟩ | ⟨rfl,rfl⟩ | ⟨rfl,rfl⟩
    ·have HRD:=Lib.hid (read_c _ d.f0 wr.heap.size wr hO.st ((HR0.out.below hO.below).mono hO.below.size) (Nat.le_refl _) (by have:=HH.out.2.1.f0; omega))
     have HJC:=Lib.hid hO.blk
     clear hO
     go_wp2_with fail
     refine HRD.out.mono ?_
     rintro e w2 ⟨hres,hb2⟩
     cases hrf:readF d.f0 with
     | none=>
       rw [hrf] at hres
       obtain rfl:e=_:=hres
       have HP:Hid (openAt d 1=openAt d 0):=Lib.hid (by show pickC (readF d.f0) false (false,zeroC)=(false,zeroC); rw [hrf]; rfl)
       clear hrf
       have HB2:=Lib.hid hb2
       clear hb2
       unfold conV
       go_upto_region 14 with (fail)
       go_quiet (fail)
       all_goals
        go_wp2
        go_roundw
        case rel=>
         refine ⟨1,1,Or.inr (Or.inl ⟨rfl,rfl⟩),by first | trivial | rfl,mb,L,HO.out.keep ?_ HP.out⟩
         exact below_drewN (HB2.out.alloc HB2.out.size _) _
        case measure=>simp [intOf]
     | some c=>
       rw [hrf] at hres
       obtain ⟨mb',rfl,hmb',L',hM',hE'⟩:=hres
       have HRF:=Lib.hid hrf
       have HB3:=Lib.hid (hb2.alloc hb2.size (.cells #[.int .i64 c.gen,.map (some mb'),.int .i64 c.wt,.int .u64 c.sum,.int .i64 c.ed] 79))
       have hbk:=Blk.new w2 79 [.int .i64 c.gen,.map (some mb'),.int .i64 c.wt,.int .u64 c.sum,.int .i64 c.ed]
       have hM3:=hM'.grown (S:=fun _=>False) (Grown.of_below ((Below.refl _ w2).alloc (Nat.le_refl _) (.cells #[.int .i64 c.gen,.map (some mb'),.int .i64 c.wt,.int .u64 c.sum,.int .i64 c.ed] 79))) (fun h=>h) (fun _ _ h=>h)
       have hz2:=hb2.size
       clear hrf hM' hb2
       unfold conV
       go_upto_region 14 with (fail)
       have hbk:Blk (w2.alloc (.cells #[.int .i64 c.gen,.map (some mb'),.int .i64 c.wt,.int .u64 c.sum,.int .i64 c.ed] 79)) w2.heap.size 79 [.int .i64 c.gen,.map (some mb'),.int .i64 c.wt,.int .u64 c.sum,.int .i64 c.ed]:=hbk
       generalize w2.alloc (.cells #[.int .i64 c.gen,.map (some mb'),.int .i64 c.wt,.int .u64 c.sum,.int .i64 c.ed] 79)=w3 at *
       generalize w2.heap.size=gb at *
       have hO3:=HO.out.keep (j':=0) HB3.out rfl
       have y0:=hO3.blk.cell 3 (by simp)
       have x0:=hbk.cell 0 (by simp)
       simp only [List.getD_cons_zero,List.getD_cons_succ] at x0 y0
       by_cases hlt:(openAt d 0).2.gen < c.gen
       ·have hltb:(decide ((openAt d 0).2.gen < c.gen))=true:=by simpa using hlt
        have HP:Hid (openAt d 1=(false,c)):=Lib.hid (by show pickC (readF d.f0) false (openAt d 0)=(false,c); rw [HRF.out]; exact pickC_lt hlt)
        have x1:=hbk.cell 1 (by simp)
        have x2:=hbk.cell 2 (by simp)
        have x3:=hbk.cell 3 (by simp)
        have x4:=hbk.cell 4 (by simp)
        have y2:=hO3.blk.cell 2 (by simp)
        have y4:=hO3.blk.cell 4 (by simp)
        have y5:=hO3.blk.cell 5 (by simp)
        have y6:=hO3.blk.cell 6 (by simp)
        have y7:=hO3.blk.cell 7 (by simp)
        have hjl:=HO.out.blk.lt
        have hne1:gb ≠ w.heap.size+1:=by omega
        have hne2:w.heap.size+1 ≠ gb:=by omega
        have z2:=hO3.blk.frozen 2
        have z3:=hO3.blk.frozen 3
        have z4:=hO3.blk.frozen 4
        have z5:=hO3.blk.frozen 5
        have z6:=hO3.blk.frozen 6
        have z7:=hO3.blk.frozen 7
        simp only [List.getD_cons_zero,List.getD_cons_succ] at x1 x2 x3 x4 y2 y4 y5 y6 y7
        have HO3:=Lib.hid hO3
        have HM3:=Lib.hid hM3
        clear hlt hO3 hM3 hbk
        generalize (openAt d 0).2.gen=g0 at *
        generalize (openAt d 0).2.wt=g2 at *
        generalize (openAt d 0).2.sum=g3 at *
        generalize (openAt d 0).2.ed=g4 at *
        generalize hg5:(if (openAt d 0).1=true then (1:Int) else 0)=g5 at *
        clear hg5
        go_quiet (fail)
        all_goals
         go_upto_region 15 with (fail)
         go_region
         all_goals
          go_wp2
          go_roundw
          case rel=>exact ⟨1,1,Or.inr (Or.inl ⟨rfl,rfl⟩),by first | trivial | rfl,mb',L',(HO3.out.keep (j':=0) (below_drewN (Below.refl _ _) _) rfl).take (HM3.out.grown (S:=fun _=>False) (Grown.of_below (below_drewN (Below.refl _ _) _)) (fun h=>h) (fun _ _ h=>h)) hjl hmb' hwl (by omega) (by omega) hE' HP.out 0 rfl⟩
          case measure=>simp [intOf]
       ·have hltb:(decide ((openAt d 0).2.gen < c.gen))=false:=by simpa using hlt
        have HP:Hid (openAt d 1=openAt d 0):=Lib.hid (by show pickC (readF d.f0) false (openAt d 0)=openAt d 0; rw [HRF.out]; exact pickC_ge hlt)
        have HO3:=Lib.hid hO3
        clear hlt hO3 hM3 hbk
        generalize (openAt d 0).2.gen=g0 at *
        generalize c.gen=g1 at *
        go_quiet (fail)
        all_goals
         go_wp2
         go_roundw
         case rel=>
          refine ⟨1,1,Or.inr (Or.inl ⟨rfl,rfl⟩),by first | trivial | rfl,mb,L,HO.out.keep ?_ HP.out⟩
          exact below_drewN HB3.out _
         case measure=>simp [intOf]
    ·have HRD:=Lib.hid (read_c _ d.f1 wr.heap.size wr hO.st ((HR1.out.below hO.below).mono hO.below.size) (Nat.le_refl _) (by have:=HH.out.2.1.f1; omega))
     have HJC:=Lib.hid hO.blk
     clear hO
     go_wp2_with fail
     refine HRD.out.mono ?_
     rintro e w2 ⟨hres,hb2⟩
     cases hrf:readF d.f1 with
     | none=>
       rw [hrf] at hres
       obtain rfl:e=_:=hres
       have HP:Hid (openAt d 2=openAt d 1):=Lib.hid (by show pickC (readF d.f1) true (openAt d 1)=openAt d 1; rw [hrf]; rfl)
       clear hrf
       have HB2:=Lib.hid hb2
       clear hb2
       unfold conV
       go_upto_region 14 with (fail)
       go_quiet (fail)
       all_goals
        go_wp2
        go_roundw
        case rel=>
         refine ⟨2,2,Or.inr (Or.inr ⟨rfl,rfl⟩),by first | trivial | rfl,mb,L,HO.out.keep ?_ HP.out⟩
         exact below_drewN (HB2.out.alloc HB2.out.size _) _
        case measure=>simp [intOf]
     | some c=>
       rw [hrf] at hres
       obtain ⟨mb',rfl,hmb',L',hM',hE'⟩:=hres
       have HRF:=Lib.hid hrf
       have HB3:=Lib.hid (hb2.alloc hb2.size (.cells #[.int .i64 c.gen,.map (some mb'),.int .i64 c.wt,.int .u64 c.sum,.int .i64 c.ed] 79))
       have hbk:=Blk.new w2 79 [.int .i64 c.gen,.map (some mb'),.int .i64 c.wt,.int .u64 c.sum,.int .i64 c.ed]
       have hM3:=hM'.grown (S:=fun _=>False) (Grown.of_below ((Below.refl _ w2).alloc (Nat.le_refl _) (.cells #[.int .i64 c.gen,.map (some mb'),.int .i64 c.wt,.int .u64 c.sum,.int .i64 c.ed] 79))) (fun h=>h) (fun _ _ h=>h)
       have hz2:=hb2.size
       clear hrf hM' hb2
       unfold conV
       go_upto_region 14 with (fail)
       have hbk:Blk (w2.alloc (.cells #[.int .i64 c.gen,.map (some mb'),.int .i64 c.wt,.int .u64 c.sum,.int .i64 c.ed] 79)) w2.heap.size 79 [.int .i64 c.gen,.map (some mb'),.int .i64 c.wt,.int .u64 c.sum,.int .i64 c.ed]:=hbk
       generalize w2.alloc (.cells #[.int .i64 c.gen,.map (some mb'),.int .i64 c.wt,.int .u64 c.sum,.int .i64 c.ed] 79)=w3 at *
       generalize w2.heap.size=gb at *
       have hO3:=HO.out.keep (j':=1) HB3.out rfl
       have y0:=hO3.blk.cell 3 (by simp)
       have x0:=hbk.cell 0 (by simp)
       simp only [List.getD_cons_zero,List.getD_cons_succ] at x0 y0
       by_cases hlt:(openAt d 1).2.gen < c.gen
       ·have hltb:(decide ((openAt d 1).2.gen < c.gen))=true:=by simpa using hlt
        have HP:Hid (openAt d 2=(true,c)):=Lib.hid (by show pickC (readF d.f1) true (openAt d 1)=(true,c); rw [HRF.out]; exact pickC_lt hlt)
        have x1:=hbk.cell 1 (by simp)
        have x2:=hbk.cell 2 (by simp)
        have x3:=hbk.cell 3 (by simp)
        have x4:=hbk.cell 4 (by simp)
        have y2:=hO3.blk.cell 2 (by simp)
        have y4:=hO3.blk.cell 4 (by simp)
        have y5:=hO3.blk.cell 5 (by simp)
        have y6:=hO3.blk.cell 6 (by simp)
        have y7:=hO3.blk.cell 7 (by simp)
        have hjl:=HO.out.blk.lt
        have hne1:gb ≠ w.heap.size+1:=by omega
        have hne2:w.heap.size+1 ≠ gb:=by omega
        have z2:=hO3.blk.frozen 2
        have z3:=hO3.blk.frozen 3
        have z4:=hO3.blk.frozen 4
        have z5:=hO3.blk.frozen 5
        have z6:=hO3.blk.frozen 6
        have z7:=hO3.blk.frozen 7
        simp only [List.getD_cons_zero,List.getD_cons_succ] at x1 x2 x3 x4 y2 y4 y5 y6 y7
        have HO3:=Lib.hid hO3
        have HM3:=Lib.hid hM3
        clear hlt hO3 hM3 hbk
        generalize (openAt d 1).2.gen=g0 at *
        generalize (openAt d 1).2.wt=g2 at *
        generalize (openAt d 1).2.sum=g3 at *
        generalize (openAt d 1).2.ed=g4 at *
        generalize hg5:(if (openAt d 1).1=true then (1:Int) else 0)=g5 at *
        clear hg5
        go_quiet (fail)
        all_goals
         go_upto_region 15 with (fail)
         go_region
         all_goals
          go_wp2
          go_roundw
          case rel=>exact ⟨2,2,Or.inr (Or.inr ⟨rfl,rfl⟩),by first | trivial | rfl,mb',L',(HO3.out.keep (j':=1) (below_drewN (Below.refl _ _) _) rfl).take (HM3.out.grown (S:=fun _=>False) (Grown.of_below (below_drewN (Below.refl _ _) _)) (fun h=>h) (fun _ _ h=>h)) hjl hmb' hwl (by omega) (by omega) hE' HP.out 1 rfl⟩
          case measure=>simp [intOf]
       ·have hltb:(decide ((openAt d 1).2.gen < c.gen))=false:=by simpa using hlt
        have HP:Hid (openAt d 2=openAt d 1):=Lib.hid (by show pickC (readF d.f1) true (openAt d 1)=openAt d 1; rw [HRF.out]; exact pickC_ge hlt)
        have HO3:=Lib.hid hO3
        clear hlt hO3 hM3 hbk
        generalize (openAt d 1).2.gen=g0 at *
        generalize c.gen=g1 at *
        go_quiet (fail)
        all_goals
         go_wp2
         go_roundw
         case rel=>
          refine ⟨2,2,Or.inr (Or.inr ⟨rfl,rfl⟩),by first | trivial | rfl,mb,L,HO.out.keep ?_ HP.out⟩
          exact below_drewN HB3.out _
         case measure=>simp [intOf]
    ·have hk:=HO.out.fin HW.out (by omega) HH.out.2.1 HH.out.2.2
     have hb:=HO.out.below
     have hl:=HO.out.mlt
     go_wp2
     go_ret2
     exact ⟨_,_,rfl,by omega,hl,hk.mono (fun g hg=>hg) hk.away,hb⟩
end
section
open Go.RowKit SeedP Go.Maps Go.Shelf Go.Sort
/-- does p stand at the front of k -/
def isPref (p k:List UInt8):Bool:=decide (p.length≤k.length) && k.take p.length == p
set_option maxRecDepth 100000 in
theorem hasPrefixL_c (k p:List UInt8) (w:World) (hp:p.length≤140737488351232) :
 Calls Tryz.prog 85 #[strV k,strV p] w fun e w'=>e=.returned (.bool (isPref p k))∧w=w':=by
 have hks:(⟨k.toArray⟩:ByteArray).size=k.length:=by show k.toArray.size=_; simp
 have hps:(⟨p.toArray⟩:ByteArray).size=p.length:=by show p.toArray.size=_; simp
 by_cases hl:p.length≤k.length
 ·have hlb:(decide (p.length≤k.length))=true:=by simpa using hl
  have hl2:(p.length:Int)≤(k.length:Int):=by omega
  have h0:(0:Int)≤(p.length:Int):=by omega
  go_enter Tryz.func85,Tryz.ntmps85
  go_wp2
  go_ret
  refine ⟨?_,rfl⟩
  show Ending.returned (.bool (((⟨k.toArray⟩:ByteArray).extract 0 p.length).toList == p))=_
  have e:((⟨k.toArray⟩:ByteArray).extract 0 p.length).toList=k.take p.length:=by
   rw [ByteArray.toList_eq,Lib.extract_data]; simp
  rw [e]
  unfold isPref; rw [hlb,Bool.true_and]
 ·have hlb:(decide (p.length≤k.length))=false:=by simpa using hl
  go_enter Tryz.func85,Tryz.ntmps85
  go_wp2
  go_ret
  exact ⟨by unfold isPref; rw [hlb]; rfl,rfl⟩
set_option maxRecDepth 100000 in
theorem hasPrefix_c (k p:List UInt8) (w:World) (hp:p.length≤140737488351232) :
 Calls Tryz.prog 66 #[strV k,strV p] w fun e w'=>e=.returned (.bool (isPref p k))∧w=w':=by
 have HL:=Lib.hid (hasPrefixL_c k p w hp)
 clear hp
 generalize isPref p k=b at *
 go_enter Tryz.func66,Tryz.ntmps66
 go_wp2_with fail
 refine HL.out.mono ?_
 rintro e w1 ⟨rfl,rfl⟩
 go_wp2
 go_ret
 exact ⟨rfl,rfl⟩
theorem infoS:(Tryz.prog.info? 9).map (fun i=>(i.zero,i.size,i.bytes))=some (some (.string ⟨#[]⟩),1,16):=by kernel_rfl
theorem sort_filter {P:PEnts} (ho:Ordered P) {ss:List (List UInt8)} (h:ss.Perm (keysOf P)) (f:List UInt8→Bool):(ss.filter f).mergeSort (fun x y=>decide (x≤y))=(keysOf P).filter f:=by
 have e:=mergeSort_of_perm (h.filter f)
 have e2:(ss.filter f).mergeSort (fun x y=>decide (x≤y))=(ss.filter f).mergeSort Go.leB:=rfl
 rw [e2,e]
 refine List.mergeSort_of_pairwise ?_
 refine List.Pairwise.sublist List.filter_sublist ?_
 unfold keysOf
 rw [List.pairwise_map]
 refine ho.imp ?_
 intro a b hab
 simp only [Go.leB,decide_eq_true_eq]
 exact List.le_of_lt (blt_lt hab)
set_option maxRecDepth 100000 in
set_option maxHeartbeats 2000000 in
/-- Keys -/
theorem keysFn_c {jb db mb:Nat} {p:Nat→Prop} {s:JS} (pf:List UInt8) (w:World) (h:JW w jb db mb p s) (hpf:pf.length≤140737488351232) :
 Calls Tryz.prog 34 #[.pointer (some ⟨jb,0,none⟩),strV pf] w fun e w'=>∃ v,e=.returned v ∧
  w'.ownsRow w.heap.size 9 1 v (if s.down then [] else (keysOf s.c.ents).filter (isPref pf)).length ((if s.down then [] else (keysOf s.c.ents).filter (isPref pf)).map strV)∧Below w.heap.size w w':=by
 obtain ⟨i0,hi,hz0,hz1,hz2⟩:=info_parts infoS
 have k4:=h.cells.2.2.2.2.1
 have HU:=Lib.hid (usable_c w h)
 obtain ⟨L,hM,hE⟩:=h.map
 have hown:=hM.own
 have hml:=hM.lt
 have hll:L.length≤131072:=by
  have h1:=pWt_len s.c.ents
  have h2:=h.ok.wt
  have h3:=h.ok.max
  have:L.length=s.c.ents.length:=by rw [← hE,EB_length]
  omega
 have HS:=Lib.hid (And.intro h.ord (And.intro h.small hE))
 clear h hM
 generalize s.down=d at *
 cases d
 ·simp only [Bool.false_eq_true,if_false]
  go_enter Tryz.func34,Tryz.ntmps34
  go_wp2_with fail
  refine HU.out.mono ?_
  rintro e w1 ⟨rfl,rfl⟩
  clear HU
  go_wp2_with (first
   | (at_range; refine wpList_range_own _ rfl _ 77 rfl 9 _ keyed Tryz.underlying77 _ mb _ _ rfl hown ?_; intro w0 hrg0 hg0 hs0)
   | fail)
  go_frame
  generalize hF:isPref pf=f at *
  have HFF:=Lib.hid hF
  clear hF
  have hsz0:Maps.size (toD L)=L.length:=toD_size L
  go_loopw [5] (fun v wr=>∃ (left:Lit→Bool) (cnt:Nat) (ss:List (List UInt8)),wr.ranges Tryz.prog 9 tokR mb w.heap.size L.length (toD L) left cnt∧ss.length+cnt≤L.length ∧
   wr.ownsRow w.heap.size 9 1 v (ss.filter f).length ((ss.filter f).map encStr)∧Collected (toD L) left ss∧Below w.heap.size w wr)
   (fun _ wr=>wr.rangeLeft mb w.heap.size)
  case atStart=>
   exact ⟨_,_,[],hrg0,by rw [hsz0]; simp,by simpa using World.ownsRow_nil w0 w.heap.size 9 1,Collected.start _,(Below.refl _ _).grown hg0 (Nat.le_refl _) (fun j hj=>by cases hj)⟩
  case round=>
   obtain ⟨left,cnt,ss,hrg,hcs,hrow,hC,hnx⟩:=hrel
   go_wp2_with (first
    | (at_next; refine wpList_next_ranges _ rfl _ rfl 9 keyed tokR encStr (fun v:Value=>v) (fun key kl hk=>by obtain ⟨x,hx,_⟩:=Maps.keyOf_str Tryz.underlying9 hk; exact ⟨x,hx⟩) (fun v y hv=>⟨v,rfl⟩) mb w.heap.size L.length _ _ _ rfl hrg ?_ ?_)
    | fail)
   ·intro hc0 hl0
    have hperm:=hC.perm hown keyed Tryz.underlying9 hl0
    rw [strKeys_toD,hE] at hperm
    have HSF:=Lib.hid (sort_filter HS.out.1 hperm f)
    have hfl:(ss.filter f).length=((keysOf s.c.ents).filter f).length:=(hperm.filter f).length_eq
    rcases hrow.2 with ⟨rfl,hx⟩ | ⟨g,cap,cur,rfl,hbase,hb,h1,h2,h3,h4⟩
    ·have hnil:ss.filter f=[]:=by simpa using hx
     have HSN:=Lib.hid (AnyM.slices_Sort_string_none Tryz.sort67 none 0 wr)
     have hk0:(keysOf s.c.ents).filter f=[]:=by
      rw [hnil] at hfl
      exact List.eq_nil_of_length_eq_zero (by simpa using hfl.symm)
     have HK0:=Lib.hid hk0
     have HNX:=Lib.hid hnx
     clear hrow hperm hfl hx hnil hk0 hcs hC hrg hrg0 hg0 hs0
     go_wp2_with (first | (go_at_call 67; refine HSN.out.mono ?_; rintro e w' ⟨rfl,rfl⟩) | fail)
     go_ret
     refine ⟨_,rfl,?_,HNX.out⟩
     rw [HFF.out,HK0.out]
     simpa using World.ownsRow_nil w' w.heap.size 9 1
    ·have hH:Holds encStr wr g 0 (ss.filter f).toArray:=holds_of_block hb (by simpa using h4)
     have hgl:g < wr.heap.size:=(Array.getElem?_eq_some_iff.1 hb).1
     have hfl2:(ss.filter f).length≤ss.length:=List.length_filter_le _ _
     have HSN:=Lib.hid (AnyM.slices_Sort_string Tryz.sort67 g 0 cap (ss.filter f) wr hH hgl (by omega))
     have HFI:=Lib.hid (fun (nn:Nat) (os:Array Obj)=>And.intro (ownsRow_sorted (n:=nn) (os:=os) (ss:=ss.filter f) (ts:=(ss.filter f).mergeSort (fun x y=>decide (x≤y))) (by simp) hbase hb h1 h2 h3) (hnx.grown (grownBy_sorted (n:=nn) (os:=os) ((ss.filter f).mergeSort (fun x y=>decide (x≤y))).toArray) hnx.size (fun j hj=>by cases hj; exact hbase)))
     have HFL:=Lib.hid hfl
     clear hrow hperm hfl hfl2 hH hb h1 h2 h3 h4 hcs hC hrg hrg0 hg0 hs0
     go_wp2_with (first | (go_at_call 67; refine HSN.out.mono ?_; rintro e w' ⟨rfl,nn,os,rfl⟩) | fail)
     go_ret
     have hfi:=HFI.out nn os
     rw [HSF.out] at hfi
     refine ⟨_,rfl,?_,?_⟩
     ·rw [HFF.out,← HFL.out,HSF.out]; exact hfi.1
     ·rw [HSF.out]; exact hfi.2
   ·intro x c kl yd yp w2 cnt2 hkey hlk hv hat hrg2 hlt hg2 hs2 hen
    obtain ⟨x',ex,rfl,_⟩:=Maps.keyOf_str Tryz.underlying9 hkey
    obtain rfl:x=x':=encStr_inj ex
    have hrow2:=hrow.kept hg2 (Or.inr (row_ne_iter hrow hrg).symm)
    have hC2:=hC.step hlk hat
    have hB2:Below w.heap.size w w2:=hnx.grown hg2 hnx.size (fun j hj=>by cases hj; exact Nat.le_refl _)
    have HP:=Lib.hid (hasPrefix_c x pf w2 hpf)
    rw [HFF.out] at HP
    have HLE:=Lib.hid (And.intro hrg.left_eq (And.intro hB2 hC2))
    clear hs2 hat hlk hkey hC ex
    cases hfx:f x with
    | false=>
      rw [hfx] at HP
      have hff:(ss ++ [x]).filter f=ss.filter f:=by rw [List.filter_append]; simp [hfx]
      have HFX:=Lib.hid hff
      clear hff hfx
      go_wp2_with (first | (go_at_call 66; refine HP.out.mono ?_; rintro e w' ⟨rfl,rfl⟩) | fail)
      go_roundw
      case rel=>exact ⟨_,cnt2,ss ++ [x],hrg2,by simp; omega,by rw [HFX.out]; exact hrow2,HLE.out.2.2,HLE.out.2.1⟩
      case measure=>rw [hrg2.left_eq,HLE.out.1]; exact hlt
    | true=>
      rw [hfx] at HP
      have hff:(ss ++ [x]).filter f=ss.filter f ++ [x]:=by rw [List.filter_append]; simp [hfx]
      have HFX:=Lib.hid hff
      have hfl2:(ss.filter f).length≤ss.length:=List.length_filter_le _ _
      clear hff hfx
      have hz:=hB2.size
      go_wp2_with (first
       | (go_at_call 66; refine HP.out.mono ?_; rintro e w' ⟨rfl,rfl⟩)
       | (at_builtin; refine wpList_append_own _ rfl _ _ 75 rfl w.heap.size 9 i0 (.string ⟨#[]⟩) 1 16 Tryz.underlying75 hi hz0 hz1 hz2 rfl (by decide) _ _ _ rfl (hrow2.alloc _) ⟨w2.heap.size,0,none⟩ 1 1 [encStr x] rfl rfl (cell_one_new _ _ _) (by simp [Value.oneCell',encStr]) (by unfold maxLen; omega) (by omega) (by simp; omega) ?_; intro v' w3 hown' hg3 hnil3)
       | fail)
      have hrg3:=(hrg2.alloc _).kept hg3 (row_ne_low hrow2 hml) (row_ne_iter hrow2 hrg2)
      go_roundw
      case rel=>
       refine ⟨_,cnt2,ss ++ [x],hrg3,by simp; omega,?_,HLE.out.2.2,?_⟩
       ·rw [HFX.out]; simpa using hown'
       ·exact (HLE.out.2.1.alloc HLE.out.2.1.size _).grown hg3 (by simp; omega) (fun j hj=>(hrow2.lt j hj).1)
      case measure=>rw [hrg3.left_eq,HLE.out.1]; exact hlt
 ·simp only [if_true]
  go_enter Tryz.func34,Tryz.ntmps34
  go_wp2_with fail
  refine HU.out.mono ?_
  rintro e w1 ⟨rfl,rfl⟩
  go_wp2
  go_ret
  exact ⟨_,rfl,by simpa using World.ownsRow_nil w w.heap.size 9 1,Below.refl _ _⟩
end
end Go.Proofs.YtondomklkapogaaGreatDoor
