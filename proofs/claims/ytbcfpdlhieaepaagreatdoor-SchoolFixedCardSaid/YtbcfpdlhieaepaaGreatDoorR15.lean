/- The walk of the closure in which Commit writes. -/
import Derived.Test.YtbcfpdlhieaepaaGreatDoorR14
import Derived.Test.YtbcfpdlhieaepaaGreatDoorR10
import Derived.Deep.CutRange
import Derived.BigQuiet
import Derived.BigRegion
import Derived.StillTailTactics
import Derived.Recover
import Derived.Defers
namespace Go.Proofs.YtbcfpdlhieaepaaGreatDoor
section
open Go.RowKit SeedP Go.Maps
/-- what the closure has caught -/
structure Env (w:World) (jb db mb b0 b1 b2:Nat) (vc v:Value) (cs:List Chg):Prop where
 c0:w.cell? ⟨b0,0,none⟩=some (.pointer (some ⟨jb,0,none⟩))
 c1:w.cell? ⟨b1,0,none⟩=some vc
 c2:w.cell? ⟨b2,0,none⟩=some v
 code:RdP w (fun g=>g ≠ jb∧g ≠ db∧g ≠ mb) vc (codeOf cs)
 chgs:ChgsP w (fun g=>g ≠ jb∧g ≠ db∧g ≠ mb) v cs
 n0:b0 ≠ jb∧b0 ≠ db∧b0 ≠ mb
 n1:b1 ≠ jb∧b1 ≠ db∧b1 ≠ mb
 n2:b2 ≠ jb∧b2 ≠ db∧b2 ≠ mb
theorem Env.grown {w w':World} {jb db mb b0 b1 b2:Nat} {vc v:Value} {cs:List Chg} (h:Env w jb db mb b0 b1 b2 vc v cs) (hg:Grown (fun k=>k=jb∨k=db∨k=mb) w w'):Env w' jb db mb b0 b1 b2 vc v cs:=by
 have e:∀ b x,(b ≠ jb∧b ≠ db∧b ≠ mb)→w.cell? ⟨b,0,none⟩=some x→w'.cell? ⟨b,0,none⟩=some x:=fun b x hn hc=>
  (World.cell?_of_block (a:=⟨b,0,none⟩) (hg.block b (World.block_lt_of_cell? w _ hc) (fun hs=>by rcases hs with hs | hs | hs; exact hn.1 hs; exact hn.2.1 hs; exact hn.2.2 hs))).trans hc
 have a:∀ g,(g ≠ jb∧g ≠ db∧g ≠ mb)→¬ (g=jb∨g=db∨g=mb):=fun g hn hs=>by rcases hs with hs | hs | hs; exact hn.1 hs; exact hn.2.1 hs; exact hn.2.2 hs
 exact ⟨e _ _ h.n0 h.c0,e _ _ h.n1 h.c1,e _ _ h.n2 h.c2,h.code.grown hg a,h.chgs.grown hg a,h.n0,h.n1,h.n2⟩
theorem Grown.below3 {w w':World} {jb db mb:Nat} (h:Below w.heap.size w w'):Grown (fun k=>k=jb∨k=db∨k=mb) w w':=Grown.of_below h
theorem Grown.three {w w':World} {jb db mb:Nat} (h:Grown (fun k=>k=jb∨k=db) w w'):Grown (fun k=>k=jb∨k=db∨k=mb) w w':=h.mono (fun _ _ hs=>by rcases hs with hs | hs; exact Or.inl hs; exact Or.inr (Or.inl hs))
theorem Grown.dthree {w w':World} {jb db mb:Nat} (h:Grown (fun k=>k=db) w w'):Grown (fun k=>k=jb∨k=db∨k=mb) w w':=h.mono (fun _ _ hs=>Or.inr (Or.inl hs))
/-- overfull -/
theorem overfull_c {jb db mb:Nat} {p:Nat→Prop} {s:JS} (n:Nat) (w:World) (h:JW w jb db mb p s) (hn:n≤1073741824) :
 Calls Tryz.prog 98 #[.pointer (some ⟨jb,0,none⟩),.int .i64 n] w fun e w'=>e=.returned (.bool (overfullP s n))∧w=w':=by
 obtain ⟨_,_,_,_,_,_,_,k7⟩:=h.cells
 have he:=h.ok.ed
 have hb:(decide ((s.c.ed:Int)+12+n > 262144))=overfullP s n:=by unfold overfullP; rw [decide_eq_decide]; omega
 generalize overfullP s n=b at *
 go_enter Tryz.func98,Tryz.ntmps98
 go_wp2
 go_ret
 exact ⟨rfl,rfl⟩
theorem jDo4_fail {s:JS} {cs:List Chg} (h:(dWrite s.file (blockB (subI s.c.sum (codeOf cs)) (codeOf cs)) s.d).2=false):jDo4 cs s=(⟨(dWrite s.file (blockB (subI s.c.sum (codeOf cs)) (codeOf cs)) s.d).1,s.down,s.file,s.c⟩,false):=by
 unfold jDo4; simp only []
 rcases hx:dWrite s.file (blockB (subI s.c.sum (codeOf cs)) (codeOf cs)) s.d with ⟨d2,b2⟩
 rw [hx] at h
 obtain rfl:b2=false:=h
 rfl
theorem jDo4_done {s:JS} {cs:List Chg} (h:(dWrite s.file (blockB (subI s.c.sum (codeOf cs)) (codeOf cs)) s.d).2=true):jDo4 cs s=(⟨(dWrite s.file (blockB (subI s.c.sum (codeOf cs)) (codeOf cs)) s.d).1,s.down,s.file,⟨s.c.gen,pChgs s.c.ents cs,pWAfter s.c.ents s.c.wt cs,subI s.c.sum (codeOf cs),s.c.ed+12+(codeOf cs).length⟩⟩,true):=by
 unfold jDo4; simp only []
 rcases hx:dWrite s.file (blockB (subI s.c.sum (codeOf cs)) (codeOf cs)) s.d with ⟨d2,b2⟩
 rw [hx] at h
 obtain rfl:b2=true:=h
 rfl
/-- the sum and the end are set -/
theorem JW.set2 {w:World} {jb db mb:Nat} {p:Nat→Prop} {s:JS} (h:JW w jb db mb p s) (sum ei:Int) (ed:Nat) (he:ei=ed) (h0:0≤sum) (h1:sum≤18446744073709551615) (h2:ed≤262144) :
 JW ((w.setCell ⟨jb,6,none⟩ (.int .u64 sum)).setCell ⟨jb,7,none⟩ (.int .i64 ei)) jb db mb p ⟨s.d,s.down,s.file,⟨s.c.gen,s.c.ents,s.c.wt,sum,ed⟩⟩ ∧
 Grown (fun k=>k=jb) w ((w.setCell ⟨jb,6,none⟩ (.int .u64 sum)).setCell ⟨jb,7,none⟩ (.int .i64 ei)):=by
 subst he
 have hG:Grown (fun k=>k=jb) w ((w.setCell ⟨jb,6,none⟩ (.int .u64 sum)).setCell ⟨jb,7,none⟩ (.int .i64 ed)):=
  Grown.setCell (S:=fun k=>k=jb) (Grown.setCell (S:=fun k=>k=jb) (Grown.refl _ _) (a:=⟨jb,6,none⟩) rfl _) (a:=⟨jb,7,none⟩) rfl _
 obtain ⟨L,hM,hE⟩:=h.map
 have ok:=h.ok
 exact ⟨⟨h.st.block (hG.block 0 h.st.pos (fun e=>h.zero.1 e.symm)),(h.blk.set 6 _).set 7 _,h.disk.grown hG (fun e=>h.jd e.symm) (fun g hg e=>(h.away g hg).1 e),⟨L,hM.grown hG (fun e=>h.jm e.symm) (fun g hg e=>(h.away g hg).1 e),hE⟩,h.away,
  ⟨ok.pw0,ok.pw1,ok.f0,ok.f1,ok.apart,ok.wt,ok.max,ok.gen,h2,h0,h1⟩,h.ord,h.small⟩,hG⟩
/-- change, over the journal -/
theorem JW.change_c {w:World} {jb db mb:Nat} {p:Nat→Prop} {s:JS} (h:JW w jb db mb p s) (v:Value) (cs:List Chg) (hv:ChgsP w (fun g=>g ≠ jb∧g ≠ db∧g ≠ mb) v cs) (hV:Valid cs) (hn:cs.length≤64) (hw:pWAfter s.c.ents s.c.wt cs≤131072) :
 Calls Tryz.prog 93 #[.pointer (some ⟨jb,3,none⟩),v] w fun e w'=>e=.returned (.tuple #[])∧JW w' jb db mb (fun g=>p g∨w.heap.size≤g) ⟨s.d,s.down,s.file,⟨s.c.gen,pChgs s.c.ents cs,pWAfter s.c.ents s.c.wt cs,s.c.sum,s.c.ed⟩⟩∧Grown (fun k=>k=jb∨k=db∨k=mb) w w':=by
 obtain ⟨L,hM,hE⟩:=h.map
 obtain ⟨_,_,_,_,k4,k5,_,_⟩:=h.cells
 have ok:=h.ok
 have hl:=pWt_len s.c.ents
 have hlt:=h.lt
 have hpos:=h.st.pos
 have hwt:=ok.wt
 have hmx:=ok.max
 have hl2:L.length=s.c.ents.length:=by rw [← hE,EB_length]
 have hll:L.length≤131072:=by omega
 have hM':MapAt w mb (fun g=>p g∨w.heap.size≤g) L:=hM.mono' (fun g hg=>Or.inl hg)
 have hent:∀ e ∈ L,e.bytes.length≤4294967296:=by
  intro e he
  have hm:(e.key,e.bytes) ∈ s.c.ents:=by rw [← hE]; exact List.mem_map.2 ⟨e,he,rfl⟩
  have:=h.small.val _ hm
  simp only at this; omega
 have hwn:=pWt_nonneg s.c.ents
 refine (Go.Proofs.YtbcfpdlhieaepaaGreatDoor.change_c jb 3 mb s.c.wt v cs L (fun g=>p g∨w.heap.size≤g) (fun g=>g ≠ jb∧g ≠ db∧g ≠ mb) w k4 k5 (h.frozen 5) hM' hv (by omega) (fun c hc=>by have:=(hV.key c hc).2; have:=hV.val c hc; omega) hent (by omega) (by omega) h.jm (fun g hg=>⟨(h.fresh (Nat.le_refl _) g hg).1,(h.fresh (Nat.le_refl _) g hg).2.2.1⟩) (fun g hg=>Or.inr hg) (fun g hg=>⟨hg.1,hg.2.2⟩) (by omega)).mono ?_
 rintro e w' ⟨rfl,hG,hj,L',hM2,hE2⟩
 have hG3:Grown (fun k=>k=jb∨k=db∨k=mb) w w':=hG.mono (fun _ _ hs=>by rcases hs with hs | hs; exact Or.inl hs; exact Or.inr (Or.inr hs))
 refine ⟨rfl,⟨h.st.block (hG.block 0 hpos (fun hs=>?_)),?_,(h.disk.mono (fun g hg=>Or.inl hg)).grown hG (fun hs=>?_) (fun g hg hs=>?_),⟨L',hM2,by rw [hE2,hE]⟩,h.fresh (Nat.le_refl _),?_,pChgs_ord h.ord cs,h.small.chgs hV.key hV.val⟩,hG3⟩
 ·rcases hs with hs | hs
  ·exact h.zero.1 hs.symm
  ·exact h.zero.2.2 hs.symm
 ·have hb:=h.blk.set 5 (.int .i64 (wAfter L s.c.wt cs))
  unfold Blk at hb ⊢
  rw [hj]
  rw [EB_wAfter,hE] at hb ⊢
  exact hb
 ·rcases hs with hs | hs
  ·exact h.jd hs.symm
  ·exact h.dm hs
 ·rcases hs with hs | hs
  ·exact (h.fresh (Nat.le_refl _) g hg).1 hs
  ·exact (h.fresh (Nat.le_refl _) g hg).2.2.1 hs
 ·have h3:=pChgs_wt s.c.ents cs ok.apart hV.apart
  refine ⟨ok.pw0,ok.pw1,ok.f0,ok.f1,h3.1,?_,hw,ok.gen,ok.ed,ok.sum0,ok.sum1⟩
  show pWAfter s.c.ents s.c.wt cs=_
  rw [h3.2,← ok.wt]
set_option maxRecDepth 100000 in
set_option maxHeartbeats 4000000 in
/-- what Commit does under power -/
theorem do_c {jb db mb b0 b1 b2:Nat} {p:Nat→Prop} {s:JS} (vc v:Value) (cs:List Chg) (w:World) (h:JW w jb db mb p s) (hE:Env w jb db mb b0 b1 b2 vc v cs) (hv:Valid cs) (hn2:cs.length≤64) (hw:pWAfter s.c.ents s.c.wt cs≤131072) (hm:s.c.gen=4611686018427387904→overfullP s (codeOf cs).length=false) :
 Calls Tryz.prog 100 #[.pointer (some ⟨b0,0,none⟩),.pointer (some ⟨b1,0,none⟩),.pointer (some ⟨b2,0,none⟩)] w fun e w'=>e=endOf (jDo cs s)∧JW w' jb db mb (fun g=>p g∨w.heap.size≤g) (jDo cs s).1∧Grown (fun k=>k=jb∨k=db∨k=mb) w w':=by
 have hlen:=codeOf_len cs
 have hsz:=hv.size
 obtain ⟨av,cv,rfl,_,_,_⟩:∃ a c,vc=.slice a (codeOf cs).length c∧True∧True∧True:=by obtain ⟨a,c,e,_⟩:=hE.code.toB.open_; exact ⟨a,c,e,trivial,trivial,trivial⟩
 obtain ⟨al,cl,rfl⟩:∃ a c,v=.slice a cs.length c:=by obtain ⟨a,c,e,_⟩:=hE.chgs; exact ⟨a,c,e⟩
 have H3:=Lib.hid (jDo3_ok (n:=(codeOf cs).length) h.ok (by omega) hm)
 have hlm:(codeOf cs).length≤65536:=by omega
 clear hlen hsz
 have HJ:=Lib.hid h
 have HE:=Lib.hid hE
 obtain ⟨k0,k1,k2,k3,k4,k5,k6,k7⟩:=h.cells
 obtain ⟨c0,c1,c2,_,_,_,_,_⟩:=hE
 have HC1:=Lib.hid (fun hg:s.c.gen < 4611686018427387904=>compact_c w h hg)
 clear h k0 k1 k2 k4 k5 k6 k7 c1 c2
 go_enter Tryz.func100,Tryz.ntmps100
 go_upto_if 9 with (fail)
 go_cut [] from 4 to 11 (fun wx=>(jDo1 s).2=true∧JW wx jb db mb (fun g=>p g∨w.heap.size≤g) (jDo1 s).1∧Grown (fun k=>k=jb∨k=db∨k=mb) w wx)
 case first=>
  have hz:((s.c.gen:Int) == 0)=true∨((s.c.gen:Int) == 0)=false:=by cases ((s.c.gen:Int) == 0) <;> simp
  rcases hz with hzb | hzb
  ·have HZ:Hid (s.c.gen=0):=Lib.hid (by simpa using hzb)
   have HE1:Hid (jDo1 s=jCompact s):=Lib.hid (by unfold jDo1; rw [if_pos HZ.out])
   have HC2:=Lib.hid (HC1.out (by have:=HZ.out; omega))
   go_wp2_with fail
   refine HC2.out.mono ?_
   rintro e w1 ⟨he,hJ,hG⟩
   unfold endOf at he
   split at he <;> rename_i hk
   ·subst he
    go_wp2_with fail
    go_meet
    rw [HE1.out]
    exact ⟨hk,hJ,hG.three⟩
   ·subst he
    unfold noPower
    go_wp2
    have e:jDo cs s=jCompact s:=by
     have hk:(jDo1 s).2=false:=by rw [HE1.out]; simpa using hk
     unfold jDo; rw [jThen_no hk,jThen_no hk,jThen_no hk,HE1.out]
    rw [e]
    exact ⟨rfl,by unfold endOf; rw [if_neg hk]; rfl,hJ,hG.three⟩
  ·have HZ:Hid (¬ s.c.gen=0):=Lib.hid (by simpa using hzb)
   have HE1:Hid (jDo1 s=(s,true)):=Lib.hid (by unfold jDo1; rw [if_neg HZ.out])
   go_wp2_with fail
   go_meet
   rw [HE1.out]
   exact ⟨rfl,HJ.out.mono (fun g hg=>Or.inl hg) (HJ.out.fresh (Nat.le_refl _)),Grown.refl _ _⟩
 case rest=>
  obtain ⟨hk1,hJ1,hG1⟩:=hcut
  have ho1:=H3.out.2.2.2 hk1
  have HJD:Hid (jDo cs s=jThen (jThen (jDo2 (jDo1 s).1) (jDo3 (codeOf cs).length)) (jDo4 cs)):=Lib.hid (by unfold jDo; rw [jThen_ok hk1])
  have H31:=Lib.hid H3.out.2.1
  rw [jThen_ok hk1] at H31
  have HP1:=Lib.hid (show (jDo1 s).1.c.ents=s.c.ents∧(jDo1 s).1.c.wt=s.c.wt by
   unfold jDo1; split
   ·rcases jCompact_cases s with ⟨d,he,_⟩ | ⟨d,he,_⟩ <;> rw [he] <;> exact ⟨rfl,rfl⟩
   ·exact ⟨rfl,rfl⟩)
  generalize (jDo1 s).1=s1 at *
  have hE1:=HE.out.grown hG1
  clear HC1 c0 k3 hm H3
  have z1:=hG1.size
  have HJ1:=Lib.hid hJ1
  have HE1:=Lib.hid hE1
  have HG1:=Lib.hid hG1
  clear hJ1 hE1 hG1
  go_upto_region 2 with (fail)
  go_cut [30] from 4 to 30 (fun t wx=>t=.bool (decide (s1.c.ed < (s1.d.get s1.file).length))∧JW wx jb db mb (fun g=>p g∨w.heap.size≤g) s1∧Grown (fun k=>k=jb∨k=db∨k=mb) wc wx)
  case first=>
   obtain ⟨k0,k1,k2,k3,k4,k5,k6,k7⟩:=HJ1.out.cells
   have c0:=HE1.out.c0
   obtain ⟨v0,v1,q0,q1,hD,hr0,hr1,_,_⟩:=HJ1.out.disk
   have d1:=hD.cell 1 (by simp)
   have d2:=hD.cell 2 (by simp)
   simp only [List.getD_cons_zero,List.getD_cons_succ] at d1 d2
   obtain ⟨a0,cp0,rfl,_,_,_⟩:=hr0.toB.open_
   obtain ⟨a1,cp1,rfl,_,_,_⟩:=hr1.toB.open_
   have hfin:=Lib.hid (fun n=>And.intro (HJ1.out.drewN n) ((Grown.refl (fun k=>k=jb∨k=db∨k=mb) wc).drewN n))
   clear hD hr0 hr1 k1 k3 k4 k5 k6
   cases hfl:s1.file
   all_goals
    rw [hfl] at k2
    simp only [Bool.false_eq_true,if_false,if_true] at k2
    have HFL:=Lib.hid hfl
    clear hfl
    go_quiet (fail)
   all_goals
    go_wp2_with fail
    go_meet
    refine ⟨?_,(hfin.out _).1,(hfin.out _).2⟩
    rw [HFL.out]; rfl
  case rest=>
   obtain ⟨rfl,hJ2,hG2⟩:=hcut
   have HJ2:=Lib.hid hJ2
   have HE2:=Lib.hid (HE1.out.grown hG2)
   have HG2:=Lib.hid (HG1.out.trans hG2)
   have z2:=Nat.le_trans z1 hG2.size
   clear HJ1 HE1 HG1 hJ2 hG2 z1
   generalize hb:decide (s1.c.ed < (s1.d.get s1.file).length)=b
   have HBB:=Lib.hid hb
   clear hb
   go_upto_if 30 with (fail)
   have hb0:=HE2.out.c0
   obtain ⟨k0,k1,k2,k3,k4,k5,k6,k7⟩:=HJ2.out.cells
   have HC:=Lib.hid (fun h=>HJ2.out.drew.cut_c s1.file s1.c.ed h)
   clear k0 k1 k3 k4 k5 k6
   generalize hfi:(if s1.file=true then (1:Int) else 0)=fi at *
   have HQ0:=Lib.hid (fun (w3:World) (hG3:Grown (fun k=>k=db) wc.drew w3)=>(HE2.out.grown ((Grown.refl (fun k=>k=jb∨k=db∨k=mb) wc).drew.trans hG3.dthree)).c0)
   cases hk2:(jDo2 s1).2 with
   | false=>
     have HLT:Hid (s1.c.ed < (s1.d.get s1.file).length∧(dCut s1.file s1.c.ed s1.d).2=false∧(jDo2 s1).1=⟨(dCut s1.file s1.c.ed s1.d).1,s1.down,s1.file,s1.c⟩):=Lib.hid (by
      by_cases hl:s1.c.ed < (s1.d.get s1.file).length
      ·have e:jDo2 s1=(⟨(dCut s1.file s1.c.ed s1.d).1,s1.down,s1.file,s1.c⟩,(dCut s1.file s1.c.ed s1.d).2):=by unfold jDo2; rw [if_pos hl]
       rw [e] at hk2
       exact ⟨hl,hk2,by rw [e]⟩
      ·unfold jDo2 at hk2; rw [if_neg hl] at hk2; cases hk2)
     obtain rfl:b=true:=by rw [← HBB.out]; simpa using HLT.out.1
     have HC:=Lib.hid (HC.out (Nat.le_of_lt HLT.out.1))
     rw [HLT.out.2.1] at HC
     simp only [Bool.false_eq_true,if_false,noPower] at HC
     have HK2:=Lib.hid hk2
     clear hk2
     go_upto_region 3 with (fail)
     go_still_tail 10,(by kernel_rfl)
     change wpList _ _ _ _ _ wc.drew
     go_wp2_with fail
     refine HC.out.mono ?_
     rintro e w3 ⟨rfl,hJ3,hG3⟩
     go_wp2
     have e:jDo cs s=jDo2 s1:=by rw [HJD.out,jThen_no HK2.out,jThen_no HK2.out]
     rw [e]
     refine ⟨rfl,by unfold endOf; rw [HK2.out]; rfl,?_,HG2.out.drew.trans hG3.dthree⟩
     rw [HLT.out.2.2]
     exact hJ3.mono (fun g hg=>by rcases hg with hg | hg; exact hg; exact Or.inr (Nat.le_trans z2 hg)) (HJ.out.fresh (Nat.le_refl _))
   | true=>
     have HK2:=Lib.hid hk2
     clear hk2
     go_cut [] from 4 to 41 (fun wx=>JW wx jb db mb (fun g=>p g∨w.heap.size≤g) (jDo2 s1).1∧Grown (fun k=>k=jb∨k=db∨k=mb) w wx)
     case first=>
      cases b
      ·have HE:Hid (jDo2 s1=(s1,true)):=Lib.hid (by unfold jDo2; rw [if_neg (by have:=HBB.out; simpa using this)])
       go_wp2_with fail
       go_meet
       rw [HE.out]
       exact ⟨HJ2.out,HG2.out⟩
      ·have HLT:Hid (s1.c.ed < (s1.d.get s1.file).length):=Lib.hid (by have:=HBB.out; simpa using this)
       have HE:Hid (jDo2 s1=(⟨(dCut s1.file s1.c.ed s1.d).1,s1.down,s1.file,s1.c⟩,(dCut s1.file s1.c.ed s1.d).2)):=Lib.hid (by unfold jDo2; rw [if_pos HLT.out])
       have HC:=Lib.hid (HC.out (Nat.le_of_lt HLT.out))
       have hk:=HK2.out
       rw [HE.out] at hk
       rw [hk] at HC
       simp only [if_true] at HC
       clear hk
       go_upto_region 3 with (fail)
       go_region_held3 (fun w'=>w'.cell? ⟨b0,0,none⟩=some (.pointer (some ⟨jb,0,none⟩))∧w'.cell? ⟨jb,2,none⟩=some (.int .i64 fi)∧w'.cell? ⟨jb,7,none⟩=some (.int .i64 s1.c.ed))
        (first | exact ⟨q0,q2,q7⟩ | exact ⟨hb0,k2,k7⟩)
        (first
         | (go_at_call 102; go_must (refine HC.out.mono ?_); rintro e w3 ⟨rfl,hJ3,hG3⟩
            have q0:=HQ0.out w3 hG3
            have q2:=hJ3.cells.2.2.1
            have q7:=hJ3.cells.2.2.2.2.2.2.2
            simp only [hfi] at q2 q7))
       all_goals
        go_wp2_with fail
        go_meet
        rw [HE.out]
        refine ⟨hJ3.mono (fun g hg=>?_) (HJ.out.fresh (Nat.le_refl _)),HG2.out.drew.trans hG3.dthree⟩
        rcases hg with hg | hg
        ·exact hg
        ·exact Or.inr (Nat.le_trans z2 hg)
     case rest=>
      obtain ⟨hJ3,hG3⟩:=hcut
      have HO:=Lib.hid (ho1.2 HK2.out)
      have H32:=H31.out
      have hje:=HJD.out
      rw [jThen_ok HK2.out] at H32 hje
      have HH3:=Lib.hid H32
      have HJE:=Lib.hid hje
      clear hje
      have HP2:=Lib.hid (show (jDo2 s1).1.c.ents=s.c.ents∧(jDo2 s1).1.c.wt=s.c.wt by
       have h:=HP1.out
       have e:(jDo2 s1).1.c=s1.c:=by unfold jDo2; split <;> rfl
       rw [e]; exact h)
      clear ho1 H31 HJD HP1 HC HQ0 hb0 k2 k7 HJ2 HBB H32
      generalize (jDo2 s1).1=s2 at *
      have z3:=hG3.size
      have HE3:=Lib.hid (HE.out.grown hG3)
      have HOF:=Lib.hid (overfull_c (codeOf cs).length wc hJ3 (by omega))
      have HJ3:=Lib.hid hJ3
      have HG3:=Lib.hid hG3
      have c0:=HE3.out.c0
      have c1:=HE3.out.c1
      clear hJ3 hG3 HE2 HG2 z2 hfi
      go_wp2_with fail
      refine HOF.out.mono ?_
      rintro e w4 ⟨rfl,rfl⟩
      have hob:overfullP s2 (codeOf cs).length=true∨overfullP s2 (codeOf cs).length=false:=by cases overfullP s2 (codeOf cs).length <;> simp
      generalize hof:overfullP s2 (codeOf cs).length=bo at *
      have HBO:=Lib.hid hof
      clear hof hob
      go_upto_if 45 with (fail)
      have HCC:=Lib.hid (fun hg:s2.c.gen < 4611686018427387904=>compact_c wc HJ3.out hg)
      cases hk3:(jDo3 (codeOf cs).length s2).2 with
      | false=>
        have HE:Hid (bo=true∧jDo3 (codeOf cs).length s2=jCompact s2):=Lib.hid (by
         cases bo
         ·unfold jDo3 at hk3; rw [if_neg (by rw [HBO.out]; simp)] at hk3; cases hk3
         ·exact ⟨rfl,by unfold jDo3; rw [if_pos HBO.out]⟩)
        obtain rfl:=HE.out.1
        have HC:=Lib.hid (HCC.out (HO.out rfl))
        have hkc:(jCompact s2).2=false:=by rw [← HE.out.2]; exact hk3
        have HEN:Hid (endOf (jCompact s2)=noPower):=Lib.hid (by unfold endOf; rw [hkc]; rfl)
        rw [HEN.out] at HC
        have HK3:=Lib.hid hk3
        clear hk3 hkc
        go_wp2_with fail
        refine HC.out.mono ?_
        unfold noPower
        rintro e w5 ⟨rfl,hJ5,hG5⟩
        go_wp2
        have e:jDo cs s=jCompact s2:=by rw [HJE.out,jThen_no HK3.out,HE.out.2]
        rw [e]
        refine ⟨rfl,HEN.out.symm,?_,HG3.out.trans hG5.three⟩
        exact hJ5.mono (fun g hg=>by rcases hg with hg | hg; exact hg; exact Or.inr (Nat.le_trans z3 hg)) (HJ.out.fresh (Nat.le_refl _))
      | true=>
        have HK3:=Lib.hid hk3
        have HFT:=Lib.hid (HH3.out hk3)
        have hje:=HJE.out
        rw [jThen_ok hk3] at hje
        have HJE:=Lib.hid hje
        clear hje hk3 HH3
        go_cut [] from 4 to 47 (fun wx=>JW wx jb db mb (fun g=>p g∨w.heap.size≤g) (jDo3 (codeOf cs).length s2).1∧Grown (fun k=>k=jb∨k=db∨k=mb) w wx)
        case first=>
         cases bo
         ·have HE:Hid (jDo3 (codeOf cs).length s2=(s2,true)):=Lib.hid (by unfold jDo3; rw [if_neg (by rw [HBO.out]; simp)])
          go_wp2_with fail
          go_meet
          rw [HE.out]
          exact ⟨HJ3.out,HG3.out⟩
         ·have HE:Hid (jDo3 (codeOf cs).length s2=jCompact s2):=Lib.hid (by unfold jDo3; rw [if_pos HBO.out])
          have HC:=Lib.hid (HCC.out (HO.out rfl))
          have HEN:Hid (endOf (jCompact s2)=.returned (.tuple #[])):=Lib.hid (by unfold endOf; rw [← HE.out,HK3.out]; rfl)
          rw [HEN.out] at HC
          go_wp2_with fail
          refine HC.out.mono ?_
          rintro e w5 ⟨rfl,hJ5,hG5⟩
          go_wp2_with fail
          go_meet
          rw [HE.out]
          exact ⟨hJ5.mono (fun g hg=>by rcases hg with hg | hg; exact hg; exact Or.inr (Nat.le_trans z3 hg)) (HJ.out.fresh (Nat.le_refl _)),HG3.out.trans hG5.three⟩
        case rest=>
         obtain ⟨hJ5,hG5⟩:=hcut
         have HP3:=Lib.hid (show (jDo3 (codeOf cs).length s2).1.c.ents=s.c.ents∧(jDo3 (codeOf cs).length s2).1.c.wt=s.c.wt by
          unfold jDo3; split
          ·rcases jCompact_cases s2 with ⟨d,he,_⟩ | ⟨d,he,_⟩ <;> rw [he] <;> exact HP2.out
          ·exact HP2.out)
         clear HCC HOF HO HBO HP2 HJ3 HG3 HE3 HK3 c0 c1 z3
         generalize (jDo3 (codeOf cs).length s2).1=s3 at *
         have z5:=hG5.size
         have HE5:=Lib.hid (HE.out.grown hG5)
         have c0:=HE5.out.c0
         have c1:=HE5.out.c1
         have k6:=hJ5.cells.2.2.2.2.2.2.1
         have hcd:=(HE5.out.code.toB).drew
         have HS:=Lib.hid (sum_c s3.c.sum _ (codeOf cs) wc.heap.size wc.drew hJ5.st.drew hcd)
         have HJ5:=Lib.hid hJ5
         have HG5:=Lib.hid hG5
         clear hJ5 hG5 hcd
         go_upto_region 6 with (fail)
         go_still_tail 6,(by kernel_rfl)
         change wpList _ _ _ _ _ wc.drew
         go_wp2_with fail
         refine HS.out.mono ?_
         rintro e w6 ⟨rfl,hb6⟩
         have hJ6:=HJ5.out.drew.below hb6
         have hE6:=HE5.out.grown ((Grown.refl (fun k=>k=jb∨k=db∨k=mb) wc).drew.trans (Grown.below3 hb6))
         have hG6:=HG5.out.drew.trans (Grown.below3 hb6)
         have z6:=hG6.size
         clear HS hb6 HJ5 HE5 HG5 c0 c1 k6 z5
         have hs6:=subI_range s3.c.sum (codeOf cs)
         have c0:=hE6.c0
         have c1:=hE6.c1
         have k2:=hJ6.cells.2.2.1
         have HB7:=Lib.hid (block_c (subI s3.c.sum (codeOf cs)) _ (codeOf cs) w6.drew hE6.code.toB.drew hs6.1 hs6.2 (by omega))
         have HJ6:=Lib.hid hJ6
         have HE6:=Lib.hid hE6
         have HG6:=Lib.hid hG6
         have HS6:=Lib.hid hs6
         have hd6:=hJ6.lt.2.1
         have HW:=Lib.hid (fun (w7:World) (v7:Value) (hb7:Below w6.drew.heap.size w6.drew w7) (hy7:w7.ownsRow w6.drew.heap.size 5 1 v7 (blockB (subI s3.c.sum (codeOf cs)) (codeOf cs)).length (byts (blockB (subI s3.c.sum (codeOf cs)) (codeOf cs))))=>
          (HJ6.out.drew.below hb7).write_c s3.file v7 (blockB (subI s3.c.sum (codeOf cs)) (codeOf cs)) (RdP.of_ownJ hy7) (by rw [blockB_len]; have:=HFT.out.1; have:=HFT.out.2; omega) (fun g hg e=>by have hg:w6.heap.size≤g:=hg; omega))
         clear hJ6 hE6 hG6 hs6
         generalize hfi2:(if s3.file=true then (1:Int) else 0)=fi2 at *
         generalize hsm:subI s3.c.sum (codeOf cs)=sm at *
         have HSM:=Lib.hid hsm
         clear hsm
         have HR7:=Lib.hid (fun (w7:World) (hb7:Below w6.drew.heap.size w6.drew w7)=>by
          have hE:=HE6.out.grown ((Grown.refl (fun k=>k=jb∨k=db∨k=mb) w6).drew.trans (Grown.below3 hb7))
          have hk:=(HJ6.out.drew.below hb7).cells.2.2.1
          simp only [hfi2] at hk
          exact And.intro hE.c0 (And.intro hE.c1 hk))
         have HR8:=Lib.hid (fun (w7 w8:World) (hb7:Below w6.drew.heap.size w6.drew w7) (hG8:Grown (fun k=>k=db) w7 w8)=>by
          have hE:=HE6.out.grown (((Grown.refl (fun k=>k=jb∨k=db∨k=mb) w6).drew.trans (Grown.below3 hb7)).trans hG8.dthree)
          have hJ:=(HJ6.out.drew.below hb7).blk.grown hG8 (fun e=>HJ6.out.jd e)
          have hk:=hJ.cell 2 (by simp)
          simp only [List.getD_cons_zero,List.getD_cons_succ,hfi2] at hk
          exact And.intro hE.c0 (And.intro hE.c1 hk))
         have HFIN:=Lib.hid (fun (w7 w8:World) (s8:JS) (hb7:Below w6.drew.heap.size w6.drew w7) (hJ8:JW w8 jb db mb (fun g=>(p g∨w.heap.size≤g)∨w7.heap.size≤g) s8) (hG8:Grown (fun k=>k=db) w7 w8)=>by
          have hz7:w.heap.size≤w7.heap.size:=Nat.le_trans z6 hb7.size
          have hG78:Grown (fun k=>k=jb∨k=db∨k=mb) w6.drew w8:=(Grown.below3 hb7).trans hG8.dthree
          exact And.intro (hJ8.mono (p':=fun g=>p g∨w.heap.size≤g) (fun g hg=>by rcases hg with hg | hg; exact hg; exact Or.inr (Nat.le_trans hz7 hg)) (HJ.out.fresh (Nat.le_refl _)))
           (And.intro (HE6.out.grown ((Grown.refl (fun k=>k=jb∨k=db∨k=mb) w6).drew.trans hG78)) (HG6.out.drew.trans hG78)))
         go_upto_region 7 with (fail)
         go_region_held (fun w'=>w'.cell? ⟨b0,0,none⟩=some (.pointer (some ⟨jb,0,none⟩))∧w'.cell? ⟨b1,0,none⟩=some (.slice av (codeOf cs).length cv)∧w'.cell? ⟨jb,2,none⟩=some (.int .i64 fi2))
          (first | exact ⟨q0,q1,q2⟩ | exact ⟨r0,r1,r2⟩ | exact ⟨c0,c1,k2⟩)
          (first
           | (go_at_call 105; go_must (refine HB7.out.mono ?_); rintro e w7 ⟨⟨v7,rfl,hy7⟩,hb7⟩
              have HW7:=Lib.hid (HW.out w7 v7 hb7 hy7)
              obtain ⟨r0,r1,r2⟩:=HR7.out w7 hb7)
           | (go_at_call 104; go_must (refine HW7.out.mono ?_); rintro e w8 ⟨he,hJ8,hG8⟩
              obtain ⟨q0,q1,q2⟩:=HR8.out w7 w8 hb7 hG8
              split at he <;> rename_i hkw
              rotate_left
              ·subst he
               unfold noPower
               go_wp2
               obtain ⟨hJ8,hE8,hG8⟩:=HFIN.out w7 w8 _ hb7 hJ8 hG8
               have hkw:(dWrite s3.file (blockB (subI s3.c.sum (codeOf cs)) (codeOf cs)) s3.d).2=false:=by rw [HSM.out]; simpa using hkw
               rw [HJE.out,jDo4_fail hkw,HSM.out]
               exact ⟨rfl,rfl,hJ8,hG8⟩
              subst he))
         ·have HKW:=Lib.hid hkw
          clear hkw
          all_goals
           obtain ⟨hJ8,hE8,hG8⟩:=HFIN.out w7 w8 _ hb7 hJ8 hG8
           have c0:=hE8.c0
           have c1:=hE8.c1
           have k6:=hJ8.cells.2.2.2.2.2.2.1
           have f6:=hJ8.frozen 6
           have f7:=hJ8.frozen 7
           have k7:=hJ8.cells.2.2.2.2.2.2.2
           simp only at k6 k7
           have hed:=HFT.out.2
           have hw1:IntKind.i64.wrap ((s3.c.ed:Int)+12)=(s3.c.ed:Int)+12:=by rw [IntKind.wrap_i64]; omega
           have hw2:IntKind.i64.wrap ((s3.c.ed:Int)+12+((codeOf cs).length:Int))=(s3.c.ed:Int)+12+((codeOf cs).length:Int):=by rw [IntKind.wrap_i64]; omega
           have h2:=hJ8.set2 sm ((s3.c.ed:Int)+12+((codeOf cs).length:Int)) (s3.c.ed+12+(codeOf cs).length) (by omega) HS6.out.1 HS6.out.2 (by omega)
           have hG3:Grown (fun k=>k=jb∨k=db∨k=mb) w8 ((w8.setCell ⟨jb,6,none⟩ (.int .u64 sm)).setCell ⟨jb,7,none⟩ (.int .i64 ((s3.c.ed:Int)+12+((codeOf cs).length:Int)))):=h2.2.mono (fun _ _ e=>Or.inl e)
           have HALL:=Lib.hid (And.intro h2.1.drew (And.intro (hE8.grown hG3.drew) (hG8.trans hG3.drew)))
           clear hJ8 hE8 hG8 h2 hG3 HB7 HW HW7 HR7 HR8 HFIN HJ6 HE6 HG6 k2 hy7 hb7
           clear q0 q1 q2
           go_upto_region 8 with (fail)
           go_region
           all_goals
            change Exit.then _ _ Exit.normal _ ((w8.setCell ⟨jb,6,none⟩ (.int .u64 sm)).setCell ⟨jb,7,none⟩ (.int .i64 ((s3.c.ed:Int)+12+((codeOf cs).length:Int)))).drew
            generalize ((w8.setCell ⟨jb,6,none⟩ (.int .u64 sm)).setCell ⟨jb,7,none⟩ (.int .i64 ((s3.c.ed:Int)+12+((codeOf cs).length:Int)))).drew=w10 at *
            have c0:=HALL.out.2.1.c0
            have c2:=HALL.out.2.1.c2
            have hpw:pWAfter s3.c.ents s3.c.wt cs≤131072:=by rw [HP3.out.1,HP3.out.2]; exact hw
            have HCH:=Lib.hid (HALL.out.1.drew.change_c _ cs (HALL.out.2.1.chgs.grown ((Grown.refl (fun _=>False) w10).drew) (fun _ _ h=>h)) hv hn2 hpw)
            clear k6 k7 f6 f7 c1
            go_upto_region 9 with (fail)
            go_still_tail 4,(by kernel_rfl)
            change wpList _ _ _ _ _ w10.drew
            go_wp2_with fail
            refine HCH.out.mono ?_
            rintro e w11 ⟨rfl,hJ11,hG11⟩
            go_wp2
            go_end0
            have hkw:(dWrite s3.file (blockB (subI s3.c.sum (codeOf cs)) (codeOf cs)) s3.d).2=true:=by rw [HSM.out]; exact HKW.out
            rw [HJE.out,jDo4_done hkw,HSM.out]
            have hz10:w.heap.size≤w10.heap.size:=HALL.out.2.2.size
            refine ⟨rfl,?_,HALL.out.2.2.drew.trans hG11⟩
            exact hJ11.mono (p':=fun g=>p g∨w.heap.size≤g) (fun g hg=>by rcases hg with hg | hg; exact hg; exact Or.inr (Nat.le_trans hz10 hg)) (HJ.out.fresh (Nat.le_refl _))
end
section
open Go.RowKit SeedP Go.Maps
theorem as_failure (v:Value) (w:World):(Instr.typeAssert (.iface 199 v) 20 199 true).run Tryz.prog w=.ok (.tuple #[v,.bool true]) w:=by kernel_rfl
set_option maxRecDepth 100000 in
set_option maxHeartbeats 2000000 in
theorem catch_idle (bx be:Nat) (w:World) :
 CallsD Tryz.prog 136 #[.pointer (some ⟨bx,0,none⟩),.pointer (some ⟨be,0,none⟩)] .returning w fun e u' w'=>e=.returned (.tuple #[])∧u'=.returning∧w'=w:=by
 refine callsD_of_wpS Tryz.func136 rfl fun c₀ cs hu=>?_
 apply wpS_seq
 apply wpS_region
 simp [wpOpsS,go_sem,recoverD,hu,Tryz.ntmps136,Exit.thenS]
 refine wpS_of_wp ?_
 simp only [Array.replicate_succ,Array.replicate_zero,List.push_toArray,List.append_toArray,List.nil_append,List.cons_append,List.setIfInBounds_toArray,List.set_cons_zero,List.set_cons_succ]
 go_wp2
 cases c₀
 simp_all [bodyPostS,results,Tryz.results136]
set_option maxRecDepth 100000 in
set_option maxHeartbeats 2000000 in
theorem catch_panicking (jb bx be:Nat) (d:Bool) (x:Int) (w:World) (hx:w.cell? ⟨bx,0,none⟩=some (.pointer (some ⟨jb,0,none⟩))) (h1:w.cell? ⟨jb,1,none⟩=some (.bool d)) (f1:w.frozen? ⟨jb,1,none⟩=false) (h2:w.cell? ⟨be,0,none⟩=some (.int .i64 x)) (f2:w.frozen? ⟨be,0,none⟩=false) :
 CallsD Tryz.prog 136 #[.pointer (some ⟨bx,0,none⟩),.pointer (some ⟨be,0,none⟩)] (.panicking [{ v:=.iface 199 (.agg #[]),recovered:=false }]) w fun e u' w'=>
  e=.returned (.tuple #[])∧u'=.panicking [{ v:=.iface 199 (.agg #[]),recovered:=true }]∧w'=((w.setCell ⟨jb,1,none⟩ (.bool true)).setCell ⟨be,0,none⟩ (.int .i64 360)).alloc (.cells #[] 199):=by
 refine callsD_of_wpS Tryz.func136 rfl fun c₀ cs hu=>?_
 apply wpS_seq
 apply wpS_region
 simp [wpOpsS,go_sem,recoverD,hu,Tryz.ntmps136,Exit.thenS]
 refine wpS_of_wp ?_
 simp only [Array.replicate_succ,Array.replicate_zero,List.push_toArray,List.append_toArray,List.nil_append,List.cons_append,List.setIfInBounds_toArray,List.set_cons_zero,List.set_cons_succ]
 have hta:=as_failure
 have hB:Below w.heap.size w (w.alloc (.cells #[] 199)):=(Below.refl _ _).alloc (Nat.le_refl _) _
 have l1:=World.block_lt_of_cell? w _ h1
 have l2:=World.block_lt_of_cell? w _ h2
 have hx':=keep_cell hB hx
 have h1':=keep_cell hB h1
 have h2':=keep_cell hB h2
 have f1':(w.alloc (.cells #[] 199)).frozen? ⟨jb,1,none⟩=false:=keep_frozen hB l1 f1
 have f2':(w.alloc (.cells #[] 199)).frozen? ⟨be,0,none⟩=false:=keep_frozen hB l2 f2
 have HB:=Lib.hid hB
 clear hB
 go_wp2
 clear hx h1 f1 h2 f2 hta hx' h1' h2' f1' f2' HB
 cases c₀
 simp_all [bodyPostS,results,Tryz.results136]
theorem DW.low {w:World} {db:Nat} {p:Nat→Prop} {d:DS} (h:DW w db p d):DW w db (fun g=>p g∧g < w.heap.size) d:=by
 obtain ⟨v0,v1,q0,q1,h1,h2,h3,h4,h5,h6⟩:=h
 exact ⟨v0,v1,fun g=>q0 g∧g < w.heap.size,fun g=>q1 g∧g < w.heap.size,h1,h2.mono (fun g hl hq=>⟨hq,hl⟩),h3.mono (fun g hl hq=>⟨hq,hl⟩),fun g hg=>⟨⟨(h4 g hg.1).1,hg.2⟩,fun h=>(h4 g hg.1).2 h.1⟩,fun g hg=>⟨h5 g hg.1,hg.2⟩,fun g hg=>h6 g (by rcases hg with hg | hg; exact Or.inl hg.1; exact Or.inr hg.1)⟩
theorem JW.low {w:World} {jb db mb:Nat} {p:Nat→Prop} {s:JS} (h:JW w jb db mb p s):JW w jb db mb (fun g=>p g∧g < w.heap.size) s:=by
 obtain ⟨L,hM,hE⟩:=h.map
 exact ⟨h.st,h.blk,h.disk.low,⟨L,⟨hM.own,fun e he=>(hM.val e he).mono (fun g hl hg=>⟨hg,hl⟩)⟩,hE⟩,fun g hg=>h.away g hg.1,h.ok,h.ord,h.small⟩
theorem JW.down {w:World} {jb db mb:Nat} {p:Nat→Prop} {s:JS} (h:JW w jb db mb p s):JW (w.setCell ⟨jb,1,none⟩ (.bool true)) jb db mb p ⟨s.d,true,s.file,s.c⟩:=by
 have hG:Grown (fun k=>k=jb) w (w.setCell ⟨jb,1,none⟩ (.bool true)):=Grown.setCell (S:=fun k=>k=jb) (Grown.refl _ _) (a:=⟨jb,1,none⟩) rfl _
 obtain ⟨L,hM,hE⟩:=h.map
 have ok:=h.ok
 exact ⟨h.st.block (hG.block 0 h.st.pos (fun e=>h.zero.1 e.symm)),h.blk.set 1 _,h.disk.grown hG (fun e=>h.jd e.symm) (fun g hg e=>(h.away g hg).1 e),⟨L,hM.grown hG (fun e=>h.jm e.symm) (fun g hg e=>(h.away g hg).1 e),hE⟩,h.away,
  ⟨ok.pw0,ok.pw1,ok.f0,ok.f1,ok.apart,ok.wt,ok.max,ok.gen,ok.ed,ok.sum0,ok.sum1⟩,h.ord,h.small⟩
/-- a block that is newer than w may be turned -/
theorem Grown.skip {S:Nat→Prop} {w w2 w4:World} (h:Grown S w w2) {be:Nat} (hbe:w.heap.size≤be) (h4:Grown (fun k=>S k∨k=be) w2 w4):Grown S w w4:=
 ⟨h4.os.trans h.os,h4.tape.trans h.tape,h4.output.trans h.output,Nat.le_trans h.size h4.size,fun k hk hn=>(h4.block k (Nat.lt_of_lt_of_le hk h.size) (fun hs=>by rcases hs with hs | hs; exact hn hs; omega)).trans (h.block k hk hn)⟩
set_option maxRecDepth 100000 in
set_option maxHeartbeats 2000000 in
/-- powered, over what Commit does -/
theorem powered_do {jb db mb b0 b1 b2:Nat} {p:Nat→Prop} {s:JS} (vc v:Value) (cs:List Chg) (w:World) (h:JW w jb db mb p s) (hE:Env w jb db mb b0 b1 b2 vc v cs) (hv:Valid cs) (hn2:cs.length≤64) (hw:pWAfter s.c.ents s.c.wt cs≤131072) (hm:s.c.gen=4611686018427387904→overfullP s (codeOf cs).length=false) :
 Calls Tryz.prog 99 #[.pointer (some ⟨jb,0,none⟩),.func (.func 100) #[] #[.pointer (some ⟨b0,0,none⟩),.pointer (some ⟨b1,0,none⟩),.pointer (some ⟨b2,0,none⟩)]] w fun e w'=>e=.returned (.int .i64 (jPowered (jDo cs s)).2)∧JW w' jb db mb (fun g=>p g∨w.heap.size≤g) (jPowered (jDo cs s)).1∧Grown (fun k=>k=jb∨k=db∨k=mb) w w':=by
 have hmf:∀ (fn:Fn) (first cap:Array Value) (w:World),(Instr.makeFunc fn first cap).run Tryz.prog w=.ok (.func fn first cap) w:=fun _ _ _ _=>rfl
 have hlt:=h.lt
 have hB1:Below w.heap.size w (w.alloc (.cells #[.pointer (some ⟨jb,0,none⟩)] 52)):=(Below.refl _ _).alloc (Nat.le_refl _) _
 have hB2:Below w.heap.size w ((w.alloc (.cells #[.pointer (some ⟨jb,0,none⟩)] 52)).alloc (.cells #[.int .i64 0] 31)):=hB1.alloc (by simp) _
 have HDO:=Lib.hid (do_c vc v cs _ (h.low.below hB2) (hE.grown (Grown.below3 hB2)) hv hn2 hw hm)
 go_enter_defers Tryz.func99,Tryz.ntmps99
 go_wp2_with fail
 refine HDO.out.mono ?_
 rintro e w3 ⟨he,hJ3,hG3⟩
 have X2:Blk ((w.alloc (.cells #[.pointer (some ⟨jb,0,none⟩)] 52)).alloc (.cells #[.int .i64 0] 31)) w.heap.size 52 [.pointer (some ⟨jb,0,none⟩)]:=(Blk.new w 52 [.pointer (some ⟨jb,0,none⟩)]).alloc _
 have E2:Blk ((w.alloc (.cells #[.pointer (some ⟨jb,0,none⟩)] 52)).alloc (.cells #[.int .i64 0] 31)) (w.heap.size+1) 31 [.int .i64 0]:=by
  have:=Blk.new (w.alloc (.cells #[.pointer (some ⟨jb,0,none⟩)] 52)) 31 [.int .i64 0]
  simpa using this
 have hz2:((w.alloc (.cells #[.pointer (some ⟨jb,0,none⟩)] 52)).alloc (.cells #[.int .i64 0] 31)).heap.size=w.heap.size+2:=by simp
 have hG2:Grown (fun k=>k=jb∨k=db∨k=mb) w ((w.alloc (.cells #[.pointer (some ⟨jb,0,none⟩)] 52)).alloc (.cells #[.int .i64 0] 31)):=Grown.below3 hB2
 clear HDO hB1 hB2 h hE hm hw hv
 generalize (w.alloc (.cells #[.pointer (some ⟨jb,0,none⟩)] 52)).alloc (.cells #[.int .i64 0] 31)=w2 at *
 have hnx:¬ (w.heap.size=jb∨w.heap.size=db∨w.heap.size=mb):=by omega
 have hne:¬ (w.heap.size+1=jb∨w.heap.size+1=db∨w.heap.size+1=mb):=by omega
 have X3:=X2.grown hG3 hnx
 have E3:=E2.grown hG3 hne
 have x0:=X3.cell 0 (by simp)
 have e0:=E3.cell 0 (by simp)
 have ef:=E3.frozen 0
 simp only [List.getD_cons_zero] at x0 e0
 generalize hbe:w.heap.size+1=be at *
 have hp3:∀ g,((p g∧g < w.heap.size)∨w2.heap.size≤g)→g ≠ be:=by intro g hg; omega
 have hfin:∀ (W:World) (s':JS),JW W jb db mb (fun g=>(p g∧g < w.heap.size)∨w2.heap.size≤g) s'→JW W jb db mb (fun g=>p g∨w.heap.size≤g) s':=fun _ _ hJ=>hJ.mono (fun g hg=>by rcases hg with hg | hg; exact Or.inl hg.1; exact Or.inr (by omega)) (fun g hg=>by
  have hz:=hJ.zero
  have hj:=hJ.away g
  rcases hg with hg | hg
  ·by_cases hl:g < w.heap.size
   ·exact hj (Or.inl ⟨hg,hl⟩)
   ·omega
  ·omega)
 have HF:=Lib.hid hfin
 have HP3:=Lib.hid (And.intro hp3 (And.intro hG2 hz2))
 clear hfin hp3 X2 E2 X3 hG2 hz2
 unfold endOf at he
 split at he <;> rename_i hk
 ·subst he
  have hJ:=hJ3.zero
  go_wp2
  refine leaves_cons (f:=136) (args:=#[.pointer (some ⟨w.heap.size,0,none⟩),.pointer (some ⟨be,0,none⟩)]) (by simp) (by simp [go_sem]) ?_
  refine (catch_idle _ _ _).mono ?_
  rintro e u' w'' ⟨rfl,rfl,rfl⟩
  have hG4:Grown (fun k=>k=be) w3 (w3.setCell ⟨be,0,none⟩ (.int .i64 0)):=Grown.setCell (S:=fun k=>k=be) (Grown.refl _ _) (a:=⟨be,0,none⟩) rfl _
  have e4:=(E3.set 0 (.int .i64 0)).cell 0 (by simp)
  simp only [List.set_cons_zero,List.getD_cons_zero] at e4
  have hJ4:=HF.out _ _ (hJ3.grown hG4 (by omega) (by omega) (by omega) (by omega) HP3.out.1)
  have hP:jPowered (jDo cs s)=((jDo cs s).1,0):=by unfold jPowered; rw [if_pos hk]
  have hGa:=HP3.out.2.1.skip (be:=be) (by omega) ((hG3.mono (fun _ _ h=>Or.inl h)).trans (hG4.mono (fun _ _ h=>Or.inr h)))
  rw [hP]
  dsimp only
  clear hP hJ3 hG3 E3 hG4 HF HP3 e0 x0 hk
  generalize (jDo cs s).1=sf at *
  generalize w3.setCell ⟨be,0,none⟩ (.int .i64 0)=w4 at *
  simp [Leaves,settle,results,Tryz.results99,go_sem,e4]
  exact ⟨hJ4,hGa⟩
 ·subst he
  unfold noPower
  go_wp2
  have k1:=hJ3.cells.2.1
  have f1:=hJ3.frozen 1
  have hJz:=hJ3.zero
  have hG4:Grown (fun k=>k=be∨k=jb) w3 (((w3.setCell ⟨jb,1,none⟩ (.bool true)).setCell ⟨be,0,none⟩ (.int .i64 360)).alloc (.cells #[] 199)):=
   (Grown.setCell (S:=fun k=>k=be∨k=jb) (Grown.setCell (S:=fun k=>k=be∨k=jb) (Grown.refl _ _) (a:=⟨jb,1,none⟩) (Or.inr rfl) _) (a:=⟨be,0,none⟩) (Or.inl rfl) _).alloc _
  have hG5:Grown (fun k=>k=be) (w3.setCell ⟨jb,1,none⟩ (.bool true)) (((w3.setCell ⟨jb,1,none⟩ (.bool true)).setCell ⟨be,0,none⟩ (.int .i64 360)).alloc (.cells #[] 199)):=
   (Grown.setCell (S:=fun k=>k=be) (Grown.refl _ _) (a:=⟨be,0,none⟩) rfl _).alloc _
  have hJ4:=HF.out _ _ (hJ3.down.grown hG5 (by omega) (by omega) (by omega) (by omega) HP3.out.1)
  have E4:Blk (w3.setCell ⟨jb,1,none⟩ (.bool true)) be 31 [.int .i64 0]:=E3.grown (Grown.setCell (S:=fun k=>k=jb) (Grown.refl _ _) (a:=⟨jb,1,none⟩) rfl _) (by omega)
  have e5:=((E4.set 0 (.int .i64 360)).alloc (.cells #[] 199)).cell 0 (by simp)
  simp only [List.set_cons_zero,List.getD_cons_zero] at e5
  have hP:jPowered (jDo cs s)=(⟨(jDo cs s).1.d,true,(jDo cs s).1.file,(jDo cs s).1.c⟩,360):=by unfold jPowered; rw [if_neg hk]
  have hGa:Grown (fun k=>k=jb∨k=db∨k=mb) w _:=HP3.out.2.1.skip (be:=be) (by omega) ((hG3.mono (fun _ _ h=>Or.inl h)).trans (hG4.mono (fun _ _ h=>by rcases h with h | h; exact Or.inr h; exact Or.inl (Or.inl h))))
  rw [hP]
  dsimp only
  clear hP hG3 E3 E4 hG4 hG5 HF HP3 hk
  generalize (jDo cs s).1=sf at *
  refine leaves_cons (f:=136) (args:=#[.pointer (some ⟨w.heap.size,0,none⟩),.pointer (some ⟨be,0,none⟩)]) (by simp) (by simp [go_sem]) ?_
  refine (catch_panicking jb _ _ _ 0 _ x0 k1 f1 e0 ef).mono ?_
  rintro e u' w'' ⟨rfl,rfl,rfl⟩
  clear x0 k1 f1 e0 ef hJ3
  generalize ((w3.setCell ⟨jb,1,none⟩ (.bool true)).setCell ⟨be,0,none⟩ (.int .i64 360)).alloc (.cells #[] 199)=w5 at *
  simp [Leaves,settle,results,Tryz.results99,go_sem,e5]
  exact ⟨hJ4,hGa⟩
end
end Go.Proofs.YtbcfpdlhieaepaaGreatDoor
