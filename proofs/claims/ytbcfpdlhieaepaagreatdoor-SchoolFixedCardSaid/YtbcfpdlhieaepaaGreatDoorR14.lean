/- The walk of compact. -/
import Derived.Test.YtbcfpdlhieaepaaGreatDoorR13
import Derived.Deep.RegionLaw
namespace Go.Proofs.YtbcfpdlhieaepaaGreatDoor
open Go.RowKit SeedP Go.Maps
theorem jCompact_cutfail {s:JS} {f:Bool} (hf:compactFile s=f) (h:(dCut f 0 s.d).2=false):jCompact s=(⟨(dCut f 0 s.d).1,s.down,s.file,s.c⟩,false):=by
 subst hf
 unfold jCompact; simp only []
 rcases hc:dCut (compactFile s) 0 s.d with ⟨d1,b1⟩
 rw [hc] at h
 obtain rfl:b1=false:=h
 rfl
theorem jCompact_wfail {s:JS} {f:Bool} (hf:compactFile s=f) (h:(dCut f 0 s.d).2=true) (h2:(dWrite f (blockB (subI 0 (stateB (s.c.gen+1) s.c.ents)) (stateB (s.c.gen+1) s.c.ents)) (dCut f 0 s.d).1).2=false) :
 jCompact s=(⟨(dWrite f (blockB (subI 0 (stateB (s.c.gen+1) s.c.ents)) (stateB (s.c.gen+1) s.c.ents)) (dCut f 0 s.d).1).1,s.down,s.file,s.c⟩,false):=by
 subst hf
 unfold jCompact; simp only []
 generalize stateB (s.c.gen+1) s.c.ents=code at *
 rcases hc:dCut (compactFile s) 0 s.d with ⟨d1,b1⟩
 rw [hc] at h h2
 obtain rfl:b1=true:=h
 simp only [] at h2 ⊢
 rcases hw:dWrite (compactFile s) (blockB (subI 0 code) code) d1 with ⟨d2,b2⟩
 rw [hw] at h2
 obtain rfl:b2=false:=h2
 rfl
theorem jCompact_done {s:JS} {f:Bool} (hf:compactFile s=f) (h:(dCut f 0 s.d).2=true) (h2:(dWrite f (blockB (subI 0 (stateB (s.c.gen+1) s.c.ents)) (stateB (s.c.gen+1) s.c.ents)) (dCut f 0 s.d).1).2=true) :
 jCompact s=(⟨(dWrite f (blockB (subI 0 (stateB (s.c.gen+1) s.c.ents)) (stateB (s.c.gen+1) s.c.ents)) (dCut f 0 s.d).1).1,s.down,f,⟨s.c.gen+1,s.c.ents,s.c.wt,subI 0 (stateB (s.c.gen+1) s.c.ents),12+(stateB (s.c.gen+1) s.c.ents).length⟩⟩,true):=by
 subst hf
 unfold jCompact; simp only []
 generalize stateB (s.c.gen+1) s.c.ents=code at *
 rcases hc:dCut (compactFile s) 0 s.d with ⟨d1,b1⟩
 rw [hc] at h h2
 obtain rfl:b1=true:=h
 simp only [] at h2 ⊢
 rcases hw:dWrite (compactFile s) (blockB (subI 0 code) code) d1 with ⟨d2,b2⟩
 rw [hw] at h2
 obtain rfl:b2=true:=h2
 rfl
theorem stateCode_i (cb co mb gen:Nat) (gi:Int) (hgi:gi=(gen:Int)) (L:List Ent) (p:Nat→Prop) (w:World) (hm:w.cell? ⟨cb,co+1,none⟩=some (.map (some mb))) (hM:MapAt w mb p L) (ho:Ordered (EB L)) (hw:pWt (EB L)≤131072) (hnd:(keysOf (EB L)).Nodup) (hsm:SmallEnts (EB L)) (hg:gen≤9223372036854775807) :
 Calls Tryz.prog 137 #[.pointer (some ⟨cb,co,none⟩),.int .i64 gi] w fun e w'=>(∃ v',e=.returned v'∧w'.ownsRow w.heap.size 5 1 v' (stateB gen (EB L)).length (byts (stateB gen (EB L))))∧Below w.heap.size w w':=by
 subst hgi; exact stateCode_c cb co mb gen L p w hm hM ho hw hnd hsm hg
/-- four fields of the journal are set -/
theorem JW.set4 {w:World} {jb db mb:Nat} {p:Nat→Prop} {s:JS} (h:JW w jb db mb p s) (f:Bool) (fi gi sum ei:Int) (gen ed:Nat) (hf:fi=if f then 1 else 0) (hg:gi=gen) (he:ei=ed) (hok:JS.Ok ⟨s.d,s.down,f,⟨gen,s.c.ents,s.c.wt,sum,ed⟩⟩) :
 JW ((((w.setCell ⟨jb,2,none⟩ (.int .i64 fi)).setCell ⟨jb,3,none⟩ (.int .i64 gi)).setCell ⟨jb,6,none⟩ (.int .u64 sum)).setCell ⟨jb,7,none⟩ (.int .i64 ei)) jb db mb p ⟨s.d,s.down,f,⟨gen,s.c.ents,s.c.wt,sum,ed⟩⟩ ∧
 Grown (fun k=>k=jb) w ((((w.setCell ⟨jb,2,none⟩ (.int .i64 fi)).setCell ⟨jb,3,none⟩ (.int .i64 gi)).setCell ⟨jb,6,none⟩ (.int .u64 sum)).setCell ⟨jb,7,none⟩ (.int .i64 ei)):=by
 subst hf hg he
 have hG:Grown (fun k=>k=jb) w ((((w.setCell ⟨jb,2,none⟩ (.int .i64 (if f then 1 else 0))).setCell ⟨jb,3,none⟩ (.int .i64 gen)).setCell ⟨jb,6,none⟩ (.int .u64 sum)).setCell ⟨jb,7,none⟩ (.int .i64 ed)):=
  Grown.setCell (S:=fun k=>k=jb) (Grown.setCell (S:=fun k=>k=jb) (Grown.setCell (S:=fun k=>k=jb) (Grown.setCell (S:=fun k=>k=jb) (Grown.refl _ _) (a:=⟨jb,2,none⟩) rfl _) (a:=⟨jb,3,none⟩) rfl _) (a:=⟨jb,6,none⟩) rfl _) (a:=⟨jb,7,none⟩) rfl _
 obtain ⟨L,hM,hE⟩:=h.map
 refine ⟨⟨h.st.block (hG.block 0 h.st.pos (fun e=>h.zero.1 e.symm)),(((h.blk.set 2 _).set 3 _).set 6 _).set 7 _,h.disk.grown hG (fun e=>h.jd e.symm) (fun g hg e=>(h.away g hg).1 e),⟨L,hM.grown hG (fun e=>h.jm e.symm) (fun g hg e=>(h.away g hg).1 e),hE⟩,h.away,hok,h.ord,h.small⟩,hG⟩
theorem RdP.of_ownJ {w:World} {B n:Nat} {v:Value} {l:List UInt8} (h:w.ownsRow B 5 1 v n (byts l)):RdP w (fun g=>B≤g) v l:=RdP.own h (fun _ hg _=>hg)
/-- how a step ends -/
def endOf (r:JS × Bool):Ending:=if r.2 then .returned (.tuple #[]) else noPower
set_option maxRecDepth 100000 in
set_option maxHeartbeats 2000000 in
/-- compact -/
theorem compact_c {jb db mb:Nat} {p:Nat→Prop} {s:JS} (w:World) (h:JW w jb db mb p s) (hgen:s.c.gen < 4611686018427387904) :
 Calls Tryz.prog 101 #[.pointer (some ⟨jb,0,none⟩)] w fun e w'=>e=endOf (jCompact s)∧JW w' jb db mb (fun g=>p g∨w.heap.size≤g) (jCompact s).1∧Grown (fun k=>k=jb∨k=db) w w':=by
 obtain ⟨k0,k1,k2,k3,k4,k5,k6,k7⟩:=h.cells
 have HJ:=Lib.hid h
 have HOK:=Lib.hid (jCompact_ok h.ok hgen)
 have hcase:(s.c.gen=0∧compactFile s=false)∨(0 < s.c.gen∧s.file=false∧compactFile s=true)∨(0 < s.c.gen∧s.file=true∧compactFile s=false):=by
  rcases Nat.eq_zero_or_pos s.c.gen with hz | hp
  ·exact Or.inl ⟨hz,by unfold compactFile; rw [if_pos hz]⟩
  ·have e:compactFile s=!s.file:=by unfold compactFile; rw [if_neg (by omega)]
   cases hf:s.file
   ·exact Or.inr (Or.inl ⟨hp,rfl,by rw [e,hf]; rfl⟩)
   ·exact Or.inr (Or.inr ⟨hp,rfl,by rw [e,hf]; rfl⟩)
 have HG:Hid (s.c.gen < 4611686018427387904):=Lib.hid hgen
 have HC0:=Lib.hid (h.cut_c (compactFile s) 0 (Nat.zero_le _))
 clear h hgen
 have hgx:(s.c.gen:Int)≤4611686018427387904:=by have:=HG.out; omega
 have hwt:pWt s.c.ents≤131072:=by have:=HJ.out.ok.wt; have:=HJ.out.ok.max; omega
 have hcl:=stateB_len (s.c.gen+1) s.c.ents
 have hwr:IntKind.i64.wrap ((s.c.gen:Int)+1)=(s.c.gen:Int)+1:=by rw [IntKind.wrap_i64]; omega
 rcases hcase with ⟨hg0,hf⟩ | ⟨hg0,hfl,hf⟩ | ⟨hg0,hfl,hf⟩
 ·have hgt:(decide (0 < s.c.gen))=false:=by simp; omega
  rw [hf] at HC0
  have HFF:=Lib.hid hf
  simp only [Bool.false_eq_true,if_false] at HC0
  clear hf hg0
  go_enter Tryz.func101,Tryz.ntmps101
  go_wp2_with fail
  refine HC0.out.mono ?_
  rintro e w1 ⟨he,hJ1,hG1⟩
  split at he <;> rename_i hk
  ·subst he
   have z1:=hG1.size
   have hget:=(dCut_get hk (Nat.zero_le _)).1
   clear k0 k1 k2 k3 k4 k5 k6 k7
   have hJ1':=hJ1
   obtain ⟨k0,k1,k2,k3,k4,k5,k6,k7⟩:=hJ1.cells
   obtain ⟨L,hM,hE⟩:=hJ1.map
   have HS:=Lib.hid (stateCode_i jb 3 mb (s.c.gen+1) ((s.c.gen:Int)+1) (by omega) L _ w1.drew k4 (Grown.map_drew hM) (by rw [hE]; exact HJ.out.ord) (by rw [hE]; exact hwt) (by rw [hE]; exact HJ.out.ok.apart) (by rw [hE]; exact HJ.out.small) (by omega))
   rw [hE] at HS
   have HJ1:=Lib.hid hJ1
   clear hM hE hJ1 hJ1' k1 k2 k4 k5 k6 k7 L HC0
   simp only at k3
   go_upto_region 4 with (fail)
   go_region_with (go_at_call 137; go_must (refine HS.out.mono ?_); rintro e w2 ⟨⟨v2,rfl,hy2⟩,hb2⟩)
   all_goals
    obtain ⟨a2,c2,rfl⟩:=own_slice hy2
    have hJ2:=HJ1.out.drew.below hb2
    have hv2:=RdB.of_own hy2
    have hn2:(stateB (s.c.gen+1) s.c.ents).length≤131084:=by omega
    have HW1:=Lib.hid (sum_c 0 _ (stateB (s.c.gen+1) s.c.ents) w2.heap.size w2 hJ2.st hv2)
    clear HS hy2 k0 k3
    go_wp2_with fail
    refine HW1.out.mono ?_
    rintro e w3 ⟨rfl,hb3⟩
    have hJ3:=hJ2.below hb3
    have hv3:=(hv2.below hb3).mono hb3.size
    have hr3:=subI_range 0 (stateB (s.c.gen+1) s.c.ents)
    have HW2:=Lib.hid (block_c (subI 0 (stateB (s.c.gen+1) s.c.ents)) _ (stateB (s.c.gen+1) s.c.ents) w3 hv3 hr3.1 hr3.2 (by omega))
    clear HW1
    go_wp2_with fail
    refine HW2.out.mono ?_
    rintro e w4 ⟨⟨v4,rfl,hy4⟩,hb4⟩
    have hJ4:=hJ3.below hb4
    have hd3:=hJ3.lt.2.1
    have HW3:=Lib.hid (hJ4.write_c false v4 (blockB (subI 0 (stateB (s.c.gen+1) s.c.ents)) (stateB (s.c.gen+1) s.c.ents)) (RdP.of_ownJ hy4) (by
     show ((dCut false 0 s.d).1.get false).length+_≤_
     rw [hget,blockB_len,List.take_zero,List.length_nil]; omega) (fun g hg e=>by omega))
    simp only [Bool.false_eq_true,if_false] at HW3
    have hG4:Grown (fun k=>k=jb∨k=db) w w4:=((hG1.mono (fun k _ h=>Or.inr h)).drew.trans (Grown.of_below hb2)).trans ((Grown.of_below hb3).trans (Grown.of_below hb4))
    have hz4:=hG4.size
    clear HW2 hJ2 hJ3 hJ4 hy4 hv2 hv3 hb2 hb3 hb4
    go_wp2_with fail
    refine HW3.out.mono ?_
    rintro e w5 ⟨he,hJ5,hG5⟩
    have hJ6:JW w5 jb db mb (fun g=>p g∨w.heap.size≤g) _:=hJ5.mono (fun g hg=>by rcases hg with (hg | hg) | hg; exact Or.inl hg; exact Or.inr (by omega); exact Or.inr (by omega)) (HJ.out.fresh (Nat.le_refl _))
    have hG6:=hG4.trans (hG5.mono (fun k _ h=>Or.inr h))
    clear HW3 hJ5 hG5 hG4
    split at he <;> rename_i hk2
    ·subst he
     obtain ⟨k0,k1,k2,k3,k4,k5,k6,k7⟩:=hJ6.cells
     have f2:=hJ6.frozen 2
     have f3:=hJ6.frozen 3
     have f6:=hJ6.frozen 6
     have f7:=hJ6.frozen 7
     simp only at k3
     clear k0 k1 k4 k5
     have hlc:((stateB (s.c.gen+1) s.c.ents).length:Int)≤131084:=by omega
     clear hcl
     generalize hsb:stateB (s.c.gen+1) s.c.ents=code at *
     have HSB:=Lib.hid hsb
     clear hsb
     go_wp2
     go_end0
     have ok:=HOK.out.1
     have e:=jCompact_done HFF.out hk (by rw [HSB.out]; exact hk2)
     rw [HSB.out] at e
     rw [e] at ok ⊢
     have h4:=hJ6.set4 false 0 ((s.c.gen:Int)+1) (subI 0 code) (12+(code.length:Int)) (s.c.gen+1) (12+code.length) (by simp) (by omega) (by omega) ok
     exact ⟨rfl,h4.1,hG6.trans (h4.2.mono (fun k _ h=>Or.inl h))⟩
    ·subst he
     unfold noPower
     go_wp2
     rw [jCompact_wfail HFF.out hk (by simpa using hk2)]
     exact ⟨rfl,rfl,hJ6,hG6⟩
  ·subst he
   unfold noPower
   go_wp2
   rw [jCompact_cutfail HFF.out (by simpa using hk)]
   exact ⟨rfl,rfl,hJ1,hG1.mono (fun k _ h=>Or.inr h)⟩
 ·have hgt:(decide (0 < s.c.gen))=true:=by simp; omega
  rw [hfl] at k2
  simp only [Bool.false_eq_true,if_false] at k2
  clear hfl
  rw [hf] at HC0
  have HFF:=Lib.hid hf
  simp only [if_true] at HC0
  clear hf hg0
  go_enter Tryz.func101,Tryz.ntmps101
  go_wp2_with fail
  refine HC0.out.mono ?_
  rintro e w1 ⟨he,hJ1,hG1⟩
  split at he <;> rename_i hk
  ·subst he
   have z1:=hG1.size
   have hget:=(dCut_get hk (Nat.zero_le _)).1
   clear k0 k1 k2 k3 k4 k5 k6 k7
   have hJ1':=hJ1
   obtain ⟨k0,k1,k2,k3,k4,k5,k6,k7⟩:=hJ1.cells
   obtain ⟨L,hM,hE⟩:=hJ1.map
   have HS:=Lib.hid (stateCode_i jb 3 mb (s.c.gen+1) ((s.c.gen:Int)+1) (by omega) L _ w1.drew k4 (Grown.map_drew hM) (by rw [hE]; exact HJ.out.ord) (by rw [hE]; exact hwt) (by rw [hE]; exact HJ.out.ok.apart) (by rw [hE]; exact HJ.out.small) (by omega))
   rw [hE] at HS
   have HJ1:=Lib.hid hJ1
   clear hM hE hJ1 hJ1' k1 k2 k4 k5 k6 k7 L HC0
   simp only at k3
   go_upto_region 4 with (fail)
   go_region_with (go_at_call 137; go_must (refine HS.out.mono ?_); rintro e w2 ⟨⟨v2,rfl,hy2⟩,hb2⟩)
   all_goals
    obtain ⟨a2,c2,rfl⟩:=own_slice hy2
    have hJ2:=HJ1.out.drew.below hb2
    have hv2:=RdB.of_own hy2
    have hn2:(stateB (s.c.gen+1) s.c.ents).length≤131084:=by omega
    have HW1:=Lib.hid (sum_c 0 _ (stateB (s.c.gen+1) s.c.ents) w2.heap.size w2 hJ2.st hv2)
    clear HS hy2 k0 k3
    go_wp2_with fail
    refine HW1.out.mono ?_
    rintro e w3 ⟨rfl,hb3⟩
    have hJ3:=hJ2.below hb3
    have hv3:=(hv2.below hb3).mono hb3.size
    have hr3:=subI_range 0 (stateB (s.c.gen+1) s.c.ents)
    have HW2:=Lib.hid (block_c (subI 0 (stateB (s.c.gen+1) s.c.ents)) _ (stateB (s.c.gen+1) s.c.ents) w3 hv3 hr3.1 hr3.2 (by omega))
    clear HW1
    go_wp2_with fail
    refine HW2.out.mono ?_
    rintro e w4 ⟨⟨v4,rfl,hy4⟩,hb4⟩
    have hJ4:=hJ3.below hb4
    have hd3:=hJ3.lt.2.1
    have HW3:=Lib.hid (hJ4.write_c true v4 (blockB (subI 0 (stateB (s.c.gen+1) s.c.ents)) (stateB (s.c.gen+1) s.c.ents)) (RdP.of_ownJ hy4) (by
     show ((dCut true 0 s.d).1.get true).length+_≤_
     rw [hget,blockB_len,List.take_zero,List.length_nil]; omega) (fun g hg e=>by omega))
    simp only [if_true] at HW3
    have hG4:Grown (fun k=>k=jb∨k=db) w w4:=((hG1.mono (fun k _ h=>Or.inr h)).drew.trans (Grown.of_below hb2)).trans ((Grown.of_below hb3).trans (Grown.of_below hb4))
    have hz4:=hG4.size
    clear HW2 hJ2 hJ3 hJ4 hy4 hv2 hv3 hb2 hb3 hb4
    go_wp2_with fail
    refine HW3.out.mono ?_
    rintro e w5 ⟨he,hJ5,hG5⟩
    have hJ6:JW w5 jb db mb (fun g=>p g∨w.heap.size≤g) _:=hJ5.mono (fun g hg=>by rcases hg with (hg | hg) | hg; exact Or.inl hg; exact Or.inr (by omega); exact Or.inr (by omega)) (HJ.out.fresh (Nat.le_refl _))
    have hG6:=hG4.trans (hG5.mono (fun k _ h=>Or.inr h))
    clear HW3 hJ5 hG5 hG4
    split at he <;> rename_i hk2
    ·subst he
     obtain ⟨k0,k1,k2,k3,k4,k5,k6,k7⟩:=hJ6.cells
     have f2:=hJ6.frozen 2
     have f3:=hJ6.frozen 3
     have f6:=hJ6.frozen 6
     have f7:=hJ6.frozen 7
     simp only at k3
     clear k0 k1 k4 k5
     have hlc:((stateB (s.c.gen+1) s.c.ents).length:Int)≤131084:=by omega
     clear hcl
     generalize hsb:stateB (s.c.gen+1) s.c.ents=code at *
     have HSB:=Lib.hid hsb
     clear hsb
     go_wp2
     go_end0
     have ok:=HOK.out.1
     have e:=jCompact_done HFF.out hk (by rw [HSB.out]; exact hk2)
     rw [HSB.out] at e
     rw [e] at ok ⊢
     have h4:=hJ6.set4 true 1 ((s.c.gen:Int)+1) (subI 0 code) (12+(code.length:Int)) (s.c.gen+1) (12+code.length) (by simp) (by omega) (by omega) ok
     exact ⟨rfl,h4.1,hG6.trans (h4.2.mono (fun k _ h=>Or.inl h))⟩
    ·subst he
     unfold noPower
     go_wp2
     rw [jCompact_wfail HFF.out hk (by simpa using hk2)]
     exact ⟨rfl,rfl,hJ6,hG6⟩
  ·subst he
   unfold noPower
   go_wp2
   rw [jCompact_cutfail HFF.out (by simpa using hk)]
   exact ⟨rfl,rfl,hJ1,hG1.mono (fun k _ h=>Or.inr h)⟩
 ·have hgt:(decide (0 < s.c.gen))=true:=by simp; omega
  rw [hfl] at k2
  simp only [if_true] at k2
  clear hfl
  rw [hf] at HC0
  have HFF:=Lib.hid hf
  simp only [Bool.false_eq_true,if_false] at HC0
  clear hf hg0
  go_enter Tryz.func101,Tryz.ntmps101
  go_wp2_with fail
  refine HC0.out.mono ?_
  rintro e w1 ⟨he,hJ1,hG1⟩
  split at he <;> rename_i hk
  ·subst he
   have z1:=hG1.size
   have hget:=(dCut_get hk (Nat.zero_le _)).1
   clear k0 k1 k2 k3 k4 k5 k6 k7
   have hJ1':=hJ1
   obtain ⟨k0,k1,k2,k3,k4,k5,k6,k7⟩:=hJ1.cells
   obtain ⟨L,hM,hE⟩:=hJ1.map
   have HS:=Lib.hid (stateCode_i jb 3 mb (s.c.gen+1) ((s.c.gen:Int)+1) (by omega) L _ w1.drew k4 (Grown.map_drew hM) (by rw [hE]; exact HJ.out.ord) (by rw [hE]; exact hwt) (by rw [hE]; exact HJ.out.ok.apart) (by rw [hE]; exact HJ.out.small) (by omega))
   rw [hE] at HS
   have HJ1:=Lib.hid hJ1
   clear hM hE hJ1 hJ1' k1 k2 k4 k5 k6 k7 L HC0
   simp only at k3
   go_upto_region 4 with (fail)
   go_region_with (go_at_call 137; go_must (refine HS.out.mono ?_); rintro e w2 ⟨⟨v2,rfl,hy2⟩,hb2⟩)
   all_goals
    obtain ⟨a2,c2,rfl⟩:=own_slice hy2
    have hJ2:=HJ1.out.drew.below hb2
    have hv2:=RdB.of_own hy2
    have hn2:(stateB (s.c.gen+1) s.c.ents).length≤131084:=by omega
    have HW1:=Lib.hid (sum_c 0 _ (stateB (s.c.gen+1) s.c.ents) w2.heap.size w2 hJ2.st hv2)
    clear HS hy2 k0 k3
    go_wp2_with fail
    refine HW1.out.mono ?_
    rintro e w3 ⟨rfl,hb3⟩
    have hJ3:=hJ2.below hb3
    have hv3:=(hv2.below hb3).mono hb3.size
    have hr3:=subI_range 0 (stateB (s.c.gen+1) s.c.ents)
    have HW2:=Lib.hid (block_c (subI 0 (stateB (s.c.gen+1) s.c.ents)) _ (stateB (s.c.gen+1) s.c.ents) w3 hv3 hr3.1 hr3.2 (by omega))
    clear HW1
    go_wp2_with fail
    refine HW2.out.mono ?_
    rintro e w4 ⟨⟨v4,rfl,hy4⟩,hb4⟩
    have hJ4:=hJ3.below hb4
    have hd3:=hJ3.lt.2.1
    have HW3:=Lib.hid (hJ4.write_c false v4 (blockB (subI 0 (stateB (s.c.gen+1) s.c.ents)) (stateB (s.c.gen+1) s.c.ents)) (RdP.of_ownJ hy4) (by
     show ((dCut false 0 s.d).1.get false).length+_≤_
     rw [hget,blockB_len,List.take_zero,List.length_nil]; omega) (fun g hg e=>by omega))
    simp only [Bool.false_eq_true,if_false] at HW3
    have hG4:Grown (fun k=>k=jb∨k=db) w w4:=((hG1.mono (fun k _ h=>Or.inr h)).drew.trans (Grown.of_below hb2)).trans ((Grown.of_below hb3).trans (Grown.of_below hb4))
    have hz4:=hG4.size
    clear HW2 hJ2 hJ3 hJ4 hy4 hv2 hv3 hb2 hb3 hb4
    go_wp2_with fail
    refine HW3.out.mono ?_
    rintro e w5 ⟨he,hJ5,hG5⟩
    have hJ6:JW w5 jb db mb (fun g=>p g∨w.heap.size≤g) _:=hJ5.mono (fun g hg=>by rcases hg with (hg | hg) | hg; exact Or.inl hg; exact Or.inr (by omega); exact Or.inr (by omega)) (HJ.out.fresh (Nat.le_refl _))
    have hG6:=hG4.trans (hG5.mono (fun k _ h=>Or.inr h))
    clear HW3 hJ5 hG5 hG4
    split at he <;> rename_i hk2
    ·subst he
     obtain ⟨k0,k1,k2,k3,k4,k5,k6,k7⟩:=hJ6.cells
     have f2:=hJ6.frozen 2
     have f3:=hJ6.frozen 3
     have f6:=hJ6.frozen 6
     have f7:=hJ6.frozen 7
     simp only at k3
     clear k0 k1 k4 k5
     have hlc:((stateB (s.c.gen+1) s.c.ents).length:Int)≤131084:=by omega
     clear hcl
     generalize hsb:stateB (s.c.gen+1) s.c.ents=code at *
     have HSB:=Lib.hid hsb
     clear hsb
     go_wp2
     go_end0
     have ok:=HOK.out.1
     have e:=jCompact_done HFF.out hk (by rw [HSB.out]; exact hk2)
     rw [HSB.out] at e
     rw [e] at ok ⊢
     have h4:=hJ6.set4 false 0 ((s.c.gen:Int)+1) (subI 0 code) (12+(code.length:Int)) (s.c.gen+1) (12+code.length) (by simp) (by omega) (by omega) ok
     exact ⟨rfl,h4.1,hG6.trans (h4.2.mono (fun k _ h=>Or.inl h))⟩
    ·subst he
     unfold noPower
     go_wp2
     rw [jCompact_wfail HFF.out hk (by simpa using hk2)]
     exact ⟨rfl,rfl,hJ6,hG6⟩
  ·subst he
   unfold noPower
   go_wp2
   rw [jCompact_cutfail HFF.out (by simpa using hk)]
   exact ⟨rfl,rfl,hJ1,hG1.mono (fun k _ h=>Or.inr h)⟩
end Go.Proofs.YtbcfpdlhieaepaaGreatDoor
