/- The reference's Open: the walk. -/
import Derived.Test.YtondomklkapogaaGreatDoorM31
import Derived.Test.YtondomklkapogaaGreatDoorM32
import Derived.Test.YtondomklkapogaaGreatDoorM23
namespace Go.Proofs.YtondomklkapogaaGreatDoor
section
open Go.RowKit SeedP Go.Maps
theorem getD_zero {file:List UInt8} (h:((readF file).getD zeroC).gen=0):(readF file).getD zeroC=zeroC:=by
 cases hr:readF file with
 | none=>rfl
 | some c=>rw [hr] at h; have:=readF_gen hr; simp at h; omega
/-- Open's memory: the disk, the result, and a journal that was read -/
structure OpM (w W:World) (pw:Int) (a0 a1:Option Addr) (n0 n1 c0 c1:Nat):Prop where
 dk:Blk W w.heap.size 47 [.int .i64 pw,.slice a0 n0 c0,.slice a1 n1 c1]
 zb:Blk W (w.heap.size+1) 52 (rjC 0 (.slice none 0 0) (.slice none 0 0) (.slice none 0 0) 0 0 0 0 false)
 be:Below w.heap.size w W
theorem OpM.start (w:World) (pw:Int) (a0 a1:Option Addr) (n0 n1 c0 c1:Nat):OpM w ((w.alloc (.cells #[.int .i64 pw,.slice a0 n0 c0,.slice a1 n1 c1] 47)).alloc (.cells #[.int .i64 0,.slice none 0 0,.slice none 0 0,.slice none 0 0,.int .i64 0,.int .i64 0,.int .i64 0,.int .u64 0,.bool false] 52)) pw a0 a1 n0 n1 c0 c1:=
 ⟨(Blk.new w _ [.int .i64 pw,.slice a0 n0 c0,.slice a1 n1 c1]).alloc _,Blk.at (g:=w.heap.size+1) _ _ [.int .i64 0,.slice none 0 0,.slice none 0 0,.slice none 0 0,.int .i64 0,.int .i64 0,.int .i64 0,.int .u64 0,.bool false] (by simp),((Below.refl w.heap.size w).alloc (Nat.le_refl _) _).alloc (by simp) _⟩
theorem OpM.below {w W W':World} {pw:Int} {a0 a1:Option Addr} {n0 n1 c0 c1:Nat} (h:OpM w W pw a0 a1 n0 n1 c0 c1) (hb:Below W.heap.size W W'):OpM w W' pw a0 a1 n0 n1 c0 c1:=⟨h.dk.below hb,h.zb.below hb,h.be.trans (hb.mono h.be.size)⟩
theorem OpM.copied {w W:World} {pw:Int} {a0 a1:Option Addr} {n0 n1 c0 c1:Nat} (h:OpM w W pw a0 a1 n0 n1 c0 c1) {ve:Value} {P:PEnts} (he:EntsAt W W.heap.size ve P) (y0 y1 y2 y3 y4 y5 y6 y7 y8:Value):Below w.heap.size w (set9 W (w.heap.size+1) y0 y1 y2 y3 y4 y5 y6 y7 y8)∧EntsAt (set9 W (w.heap.size+1) y0 y1 y2 y3 y4 y5 y6 y7 y8) (set9 W (w.heap.size+1) y0 y1 y2 y3 y4 y5 y6 y7 y8).heap.size ve P:=by
 have hg:=set9_grown W (w.heap.size+1) y0 y1 y2 y3 y4 y5 y6 y7 y8
 exact ⟨h.be.trans (hg.below (fun q e=>by have e:q=w.heap.size+1:=e; omega) h.be.size),(he.away h.zb (rjC_nobyte _ _ _ _ _ _ _ _ _ _ _ _ _ _ _) (rjC_nostr _ _ _ _ _ _ _ _ _ _ _ _ _ _ _) hg).mono hg.size⟩
set_option maxRecDepth 100000 in
set_option maxHeartbeats 4000000 in
/-- Open, of a disk that may be -/
theorem ropen_c (d:DS) (v0 v1:Value) (w:World) (hrd:RD w v0 v1 d) (hok:d.Ok) :
 Calls Tryz.prog 16 #[.agg #[.int .i64 d.pw,v0,v1]] w fun e w'=>(∃ ae ce,e=.returned (.tuple #[rjV d.pw v0 v1 (.slice ae (jOpen d).c.ents.length ce) (jOpen d).c.gen (rFl (jOpen d)) (jOpen d).c.ed (jOpen d).c.sum false,.int .i64 0])∧EntsAt w' w'.heap.size (.slice ae (jOpen d).c.ents.length ce) (jOpen d).c.ents)∧Below w.heap.size w w':=by
 obtain ⟨a0,c0,a1,c1,rfl,rfl⟩:=hrd.slices
 have HRD:=Lib.hid hrd
 have hpw:=hok.pw0
 have hf0:=hok.f0
 have hf1:=hok.f1
 have t1:decide (d.pw < -1)=false:=decide_eq_false (by omega)
 have t2:decide ((262144:Int) < (d.f0.length:Int))=false:=decide_eq_false (by omega)
 have t3:decide ((262144:Int) < (d.f1.length:Int))=false:=decide_eq_false (by omega)
 have HM0:=Lib.hid (OpM.start w d.pw a0 a1 d.f0.length d.f1.length c0 c1)
 have HP:=Lib.hid (openP_pick d)
 clear hrd
 go_enter Tryz.func16,Tryz.ntmps16
 go_upto_region 1 with (fail)
 change Code.wp _ _ _ _ ((w.alloc (.cells #[.int .i64 d.pw,.slice a0 d.f0.length c0,.slice a1 d.f1.length c1] 47)).alloc (.cells #[.int .i64 0,.slice none 0 0,.slice none 0 0,.slice none 0 0,.int .i64 0,.int .i64 0,.int .i64 0,.int .u64 0,.bool false] 52))
 generalize ((w.alloc (.cells #[.int .i64 d.pw,.slice a0 d.f0.length c0,.slice a1 d.f1.length c1] 47)).alloc (.cells #[.int .i64 0,.slice none 0 0,.slice none 0 0,.slice none 0 0,.int .i64 0,.int .i64 0,.int .i64 0,.int .u64 0,.bool false] 52))=W at *
 have d0:=HM0.out.dk.cell 0 (by simp)
 have d1:=HM0.out.dk.cell 1 (by simp)
 have d2:=HM0.out.dk.cell 2 (by simp)
 simp only [List.getD_cons_zero,List.getD_cons_succ] at d0 d1 d2
 have HR0:=Lib.hid (rread_k d.pw a0 a1 d.f0.length d.f1.length c0 c1 0 (by omega) a0 c0 d.f0 W rfl ((HRD.out.below HM0.out.be).r0) (by omega))
 go_wp2_with fail
 refine HR0.out.mono ?_
 rintro e w3 ⟨⟨ae,ce,rfl,hent⟩,hb3⟩
 have HM3:=Lib.hid (HM0.out.below hb3)
 have HEA:=Lib.hid hent
 have HZA:=Lib.hid (fun h=>getD_zero (file:=d.f0) h)
 clear HR0 hb3 d0 d1 d2 t1 t2 t3 HM0 hent
 generalize (readF d.f0).getD zeroC=cA at *
 have d0:=HM3.out.dk.cell 0 (by simp)
 have d1:=HM3.out.dk.cell 1 (by simp)
 have d2:=HM3.out.dk.cell 2 (by simp)
 simp only [List.getD_cons_zero,List.getD_cons_succ] at d0 d1 d2
 have HXA:Hid (Blk (w3.alloc (.cells #[.int .i64 d.pw,.slice a0 d.f0.length c0,.slice a1 d.f1.length c1,.slice ae cA.ents.length ce,.int .i64 cA.gen,.int .i64 (0:Int),.int .i64 cA.ed,.int .u64 cA.sum,.bool false] 52)) w3.heap.size 52 (rjC d.pw (.slice a0 d.f0.length c0) (.slice a1 d.f1.length c1) (.slice ae cA.ents.length ce) cA.gen (0:Int) cA.ed cA.sum false)):=Lib.hid (Blk.new w3 _ [.int .i64 d.pw,.slice a0 d.f0.length c0,.slice a1 d.f1.length c1,.slice ae cA.ents.length ce,.int .i64 cA.gen,.int .i64 (0:Int),.int .i64 cA.ed,.int .u64 cA.sum,.bool false])
 have hba:=(Below.refl w3.heap.size w3).alloc (Nat.le_refl _) (.cells #[.int .i64 d.pw,.slice a0 d.f0.length c0,.slice a1 d.f1.length c1,.slice ae cA.ents.length ce,.int .i64 cA.gen,.int .i64 (0:Int),.int .i64 cA.ed,.int .u64 cA.sum,.bool false] 52)
 have HM4:=Lib.hid (HM3.out.below hba)
 have HEA4:=Lib.hid ((HEA.out.below hba).mono hba.size)
 clear hba
 go_upto_region 4 with (fail)
 change Code.wp _ _ _ _ (w3.alloc (.cells #[.int .i64 d.pw,.slice a0 d.f0.length c0,.slice a1 d.f1.length c1,.slice ae cA.ents.length ce,.int .i64 cA.gen,.int .i64 (0:Int),.int .i64 cA.ed,.int .u64 cA.sum,.bool false] 52))
 generalize w3.alloc (.cells #[.int .i64 d.pw,.slice a0 d.f0.length c0,.slice a1 d.f1.length c1,.slice ae cA.ents.length ce,.int .i64 cA.gen,.int .i64 (0:Int),.int .i64 cA.ed,.int .u64 cA.sum,.bool false] 52)=w4 at *
 clear d0 d1 d2 HM3 HEA
 have d0:=HM4.out.dk.cell 0 (by simp)
 have d1:=HM4.out.dk.cell 1 (by simp)
 have d2:=HM4.out.dk.cell 2 (by simp)
 simp only [List.getD_cons_zero,List.getD_cons_succ] at d0 d1 d2
 have HR1:=Lib.hid (rread_k d.pw a0 a1 d.f0.length d.f1.length c0 c1 1 (by omega) a1 c1 d.f1 w4 rfl ((HRD.out.below HM4.out.be).r1) (by omega))
 go_wp2_with fail
 refine HR1.out.mono ?_
 rintro e w5 ⟨⟨ae1,ce1,rfl,hent⟩,hb5⟩
 have HM5:=Lib.hid (HM4.out.below hb5)
 have HEA5:=Lib.hid ((HEA4.out.below hb5).mono hb5.size)
 have HXA5:=Lib.hid (HXA.out.below hb5)
 have HEB:=Lib.hid hent
 have HZB:=Lib.hid (fun h=>getD_zero (file:=d.f1) h)
 clear HR1 hb5 d0 d1 d2 hent HM4 HEA4 HXA
 generalize (readF d.f1).getD zeroC=cB at *
 have HXB:Hid (Blk (w5.alloc (.cells #[.int .i64 d.pw,.slice a0 d.f0.length c0,.slice a1 d.f1.length c1,.slice ae1 cB.ents.length ce1,.int .i64 cB.gen,.int .i64 (1:Int),.int .i64 cB.ed,.int .u64 cB.sum,.bool false] 52)) w5.heap.size 52 (rjC d.pw (.slice a0 d.f0.length c0) (.slice a1 d.f1.length c1) (.slice ae1 cB.ents.length ce1) cB.gen (1:Int) cB.ed cB.sum false)):=Lib.hid (Blk.new w5 _ [.int .i64 d.pw,.slice a0 d.f0.length c0,.slice a1 d.f1.length c1,.slice ae1 cB.ents.length ce1,.int .i64 cB.gen,.int .i64 (1:Int),.int .i64 cB.ed,.int .u64 cB.sum,.bool false])
 have hbb:=(Below.refl w5.heap.size w5).alloc (Nat.le_refl _) (.cells #[.int .i64 d.pw,.slice a0 d.f0.length c0,.slice a1 d.f1.length c1,.slice ae1 cB.ents.length ce1,.int .i64 cB.gen,.int .i64 (1:Int),.int .i64 cB.ed,.int .u64 cB.sum,.bool false] 52)
 have HM:=Lib.hid (HM5.out.below hbb)
 have HA:=Lib.hid (HXA5.out.below hbb)
 have HEA6:=Lib.hid ((HEA5.out.below hbb).mono hbb.size)
 have HEB6:=Lib.hid ((HEB.out.below hbb).mono hbb.size)
 clear hbb
 go_upto_region 5 with (fail)
 change Code.wp _ _ _ _ (w5.alloc (.cells #[.int .i64 d.pw,.slice a0 d.f0.length c0,.slice a1 d.f1.length c1,.slice ae1 cB.ents.length ce1,.int .i64 cB.gen,.int .i64 (1:Int),.int .i64 cB.ed,.int .u64 cB.sum,.bool false] 52))
 generalize w5.alloc (.cells #[.int .i64 d.pw,.slice a0 d.f0.length c0,.slice a1 d.f1.length c1,.slice ae1 cB.ents.length ce1,.int .i64 cB.gen,.int .i64 (1:Int),.int .i64 cB.ed,.int .u64 cB.sum,.bool false] 52)=w6 at *
 clear HM5 HEA5 HXA5 HEB
 have g0:=(rb_of HA.out).k4
 have g1:=(rb_of HXB.out).k4
 have d0:=HM.out.dk.cell 0 (by simp)
 have d1:=HM.out.dk.cell 1 (by simp)
 have d2:=HM.out.dk.cell 2 (by simp)
 simp only [List.getD_cons_zero,List.getD_cons_succ] at d0 d1 d2
 have HFI:Hid (∀ x:Bool × Cont,openP d=x→jOpen d=⟨d,false,x.1,x.2⟩):=Lib.hid (fun x h=>by unfold jOpen; rw [h])
 by_cases hA:cA.gen=0
 ·by_cases hB:cB.gen=0
  ·have HJ:Hid (jOpen d=⟨d,false,false,zeroC⟩):=Lib.hid (HFI.out _ (by rw [HP.out,if_neg (by omega),HZA.out hA]))
   have u0:((cA.gen:Int) == 0)=true:=by rw [hA]; rfl
   have u1:((cB.gen:Int) == 0)=true:=by rw [hB]; rfl
   clear hA hB
   obtain ⟨z0,z1,z2,z3,z4,z5,z6,z7,z8,zf⟩:=rb_of HM.out.zb
   have zf0:=zf 0
   have zf1:=zf 1
   have zf2:=zf 2
   have zf3:=zf 3
   have zf4:=zf 4
   have zf5:=zf 5
   have zf6:=zf 6
   have zf7:=zf 7
   have zf8:=zf 8
   clear zf
   go_wp2
   obtain ⟨hb9,he9⟩:=HM.out.copied (EntsAt.nil _ _) (.int .i64 d.pw) (.slice a0 d.f0.length c0) (.slice a1 d.f1.length c1) (.slice none 0 0) (.int .i64 0) (.int .i64 1) (.int .i64 0) (.int .u64 0) (.bool false)
   have hz9:=set9_blk HM.out.zb (.int .i64 d.pw) (.slice a0 d.f0.length c0) (.slice a1 d.f1.length c1) (.slice none 0 0) (.int .i64 0) (.int .i64 1) (.int .i64 0) (.int .u64 0) (.bool false)
   change bodyPost _ _ _ _ _ (set9 w6 (w.heap.size+1) (.int .i64 d.pw) (.slice a0 d.f0.length c0) (.slice a1 d.f1.length c1) (.slice none 0 0) (.int .i64 0) (.int .i64 1) (.int .i64 0) (.int .u64 0) (.bool false))
   generalize set9 w6 (w.heap.size+1) (.int .i64 d.pw) (.slice a0 d.f0.length c0) (.slice a1 d.f1.length c1) (.slice none 0 0) (.int .i64 0) (.int .i64 1) (.int .i64 0) (.int .u64 0) (.bool false)=w9 at *
   obtain ⟨j0,j1,j2,j3,j4,j5,j6,j7,j8,_⟩:=rb_of hz9
   exact bodyPost_ret (v:=.tuple #[rjV d.pw (.slice a0 d.f0.length c0) (.slice a1 d.f1.length c1) (.slice none 0 0) 0 1 0 0 false,.int .i64 0]) (by simp [results,Tryz.results16,go_sem,j0,j1,j2,j3,j4,j5,j6,j7,j8]) rfl (by rw [HJ.out]; exact ⟨⟨_,_,rfl,he9⟩,hb9⟩)
  ·have HJ:Hid (jOpen d=⟨d,false,true,cB⟩):=Lib.hid (HFI.out _ (by rw [HP.out,if_pos (by omega)]))
   have HF:Hid (rFl ⟨d,false,true,cB⟩=1):=Lib.hid (by unfold rFl; rw [if_neg hB]; rfl)
   have u0:((cA.gen:Int) == 0)=true:=by rw [hA]; rfl
   have u1:((cB.gen:Int) == 0)=false:=by rw [beq_eq_false_iff_ne]; omega
   have u2:decide (cA.gen < cB.gen)=true:=decide_eq_true (by omega)
   clear hA hB
   obtain ⟨k0,k1,k2,k3,k4,k5,k6,k7,k8,_⟩:=rb_of HXB.out
   obtain ⟨z0,z1,z2,z3,z4,z5,z6,z7,z8,zf⟩:=rb_of HM.out.zb
   have zf0:=zf 0
   have zf1:=zf 1
   have zf2:=zf 2
   have zf3:=zf 3
   have zf4:=zf 4
   have zf5:=zf 5
   have zf6:=zf 6
   have zf7:=zf 7
   have zf8:=zf 8
   clear zf
   go_wp2
   obtain ⟨hb9,he9⟩:=HM.out.copied HEB6.out (.int .i64 d.pw) (.slice a0 d.f0.length c0) (.slice a1 d.f1.length c1) (.slice ae1 cB.ents.length ce1) (.int .i64 cB.gen) (.int .i64 (1:Int)) (.int .i64 cB.ed) (.int .u64 cB.sum) (.bool false)
   have hz9:=set9_blk HM.out.zb (.int .i64 d.pw) (.slice a0 d.f0.length c0) (.slice a1 d.f1.length c1) (.slice ae1 cB.ents.length ce1) (.int .i64 cB.gen) (.int .i64 (1:Int)) (.int .i64 cB.ed) (.int .u64 cB.sum) (.bool false)
   change bodyPost _ _ _ _ _ (set9 w6 (w.heap.size+1) (.int .i64 d.pw) (.slice a0 d.f0.length c0) (.slice a1 d.f1.length c1) (.slice ae1 cB.ents.length ce1) (.int .i64 cB.gen) (.int .i64 (1:Int)) (.int .i64 cB.ed) (.int .u64 cB.sum) (.bool false))
   generalize set9 w6 (w.heap.size+1) (.int .i64 d.pw) (.slice a0 d.f0.length c0) (.slice a1 d.f1.length c1) (.slice ae1 cB.ents.length ce1) (.int .i64 cB.gen) (.int .i64 (1:Int)) (.int .i64 cB.ed) (.int .u64 cB.sum) (.bool false)=w9 at *
   obtain ⟨j0,j1,j2,j3,j4,j5,j6,j7,j8,_⟩:=rb_of hz9
   exact bodyPost_ret (v:=.tuple #[rjV d.pw (.slice a0 d.f0.length c0) (.slice a1 d.f1.length c1) (.slice ae1 cB.ents.length ce1) cB.gen (1:Int) cB.ed cB.sum false,.int .i64 0]) (by simp [results,Tryz.results16,go_sem,j0,j1,j2,j3,j4,j5,j6,j7,j8]) rfl (by rw [HJ.out,HF.out]; exact ⟨⟨_,_,rfl,he9⟩,hb9⟩)
 ·have u0:((cA.gen:Int) == 0)=false:=by rw [beq_eq_false_iff_ne]; omega
  by_cases hlt:cA.gen < cB.gen
  ·have HJ:Hid (jOpen d=⟨d,false,true,cB⟩):=Lib.hid (HFI.out _ (by rw [HP.out,if_pos hlt]))
   have HF:Hid (rFl ⟨d,false,true,cB⟩=1):=Lib.hid (by unfold rFl; rw [if_neg (show ¬ cB.gen=0 by omega)]; rfl)
   have u2:decide (cA.gen < cB.gen)=true:=decide_eq_true (by omega)
   clear hA hlt
   obtain ⟨k0,k1,k2,k3,k4,k5,k6,k7,k8,_⟩:=rb_of HXB.out
   obtain ⟨z0,z1,z2,z3,z4,z5,z6,z7,z8,zf⟩:=rb_of HM.out.zb
   have zf0:=zf 0
   have zf1:=zf 1
   have zf2:=zf 2
   have zf3:=zf 3
   have zf4:=zf 4
   have zf5:=zf 5
   have zf6:=zf 6
   have zf7:=zf 7
   have zf8:=zf 8
   clear zf
   go_wp2
   obtain ⟨hb9,he9⟩:=HM.out.copied HEB6.out (.int .i64 d.pw) (.slice a0 d.f0.length c0) (.slice a1 d.f1.length c1) (.slice ae1 cB.ents.length ce1) (.int .i64 cB.gen) (.int .i64 (1:Int)) (.int .i64 cB.ed) (.int .u64 cB.sum) (.bool false)
   have hz9:=set9_blk HM.out.zb (.int .i64 d.pw) (.slice a0 d.f0.length c0) (.slice a1 d.f1.length c1) (.slice ae1 cB.ents.length ce1) (.int .i64 cB.gen) (.int .i64 (1:Int)) (.int .i64 cB.ed) (.int .u64 cB.sum) (.bool false)
   change bodyPost _ _ _ _ _ (set9 w6 (w.heap.size+1) (.int .i64 d.pw) (.slice a0 d.f0.length c0) (.slice a1 d.f1.length c1) (.slice ae1 cB.ents.length ce1) (.int .i64 cB.gen) (.int .i64 (1:Int)) (.int .i64 cB.ed) (.int .u64 cB.sum) (.bool false))
   generalize set9 w6 (w.heap.size+1) (.int .i64 d.pw) (.slice a0 d.f0.length c0) (.slice a1 d.f1.length c1) (.slice ae1 cB.ents.length ce1) (.int .i64 cB.gen) (.int .i64 (1:Int)) (.int .i64 cB.ed) (.int .u64 cB.sum) (.bool false)=w9 at *
   obtain ⟨j0,j1,j2,j3,j4,j5,j6,j7,j8,_⟩:=rb_of hz9
   exact bodyPost_ret (v:=.tuple #[rjV d.pw (.slice a0 d.f0.length c0) (.slice a1 d.f1.length c1) (.slice ae1 cB.ents.length ce1) cB.gen (1:Int) cB.ed cB.sum false,.int .i64 0]) (by simp [results,Tryz.results16,go_sem,j0,j1,j2,j3,j4,j5,j6,j7,j8]) rfl (by rw [HJ.out,HF.out]; exact ⟨⟨_,_,rfl,he9⟩,hb9⟩)
  ·have HJ:Hid (jOpen d=⟨d,false,false,cA⟩):=Lib.hid (HFI.out _ (by rw [HP.out,if_neg hlt]))
   have HF:Hid (rFl ⟨d,false,false,cA⟩=0):=Lib.hid (by unfold rFl; rw [if_neg hA]; rfl)
   have u2:decide (cA.gen < cB.gen)=false:=decide_eq_false (by omega)
   clear hA hlt
   obtain ⟨k0,k1,k2,k3,k4,k5,k6,k7,k8,_⟩:=rb_of HA.out
   obtain ⟨z0,z1,z2,z3,z4,z5,z6,z7,z8,zf⟩:=rb_of HM.out.zb
   have zf0:=zf 0
   have zf1:=zf 1
   have zf2:=zf 2
   have zf3:=zf 3
   have zf4:=zf 4
   have zf5:=zf 5
   have zf6:=zf 6
   have zf7:=zf 7
   have zf8:=zf 8
   clear zf
   go_wp2
   obtain ⟨hb9,he9⟩:=HM.out.copied HEA6.out (.int .i64 d.pw) (.slice a0 d.f0.length c0) (.slice a1 d.f1.length c1) (.slice ae cA.ents.length ce) (.int .i64 cA.gen) (.int .i64 (0:Int)) (.int .i64 cA.ed) (.int .u64 cA.sum) (.bool false)
   have hz9:=set9_blk HM.out.zb (.int .i64 d.pw) (.slice a0 d.f0.length c0) (.slice a1 d.f1.length c1) (.slice ae cA.ents.length ce) (.int .i64 cA.gen) (.int .i64 (0:Int)) (.int .i64 cA.ed) (.int .u64 cA.sum) (.bool false)
   change bodyPost _ _ _ _ _ (set9 w6 (w.heap.size+1) (.int .i64 d.pw) (.slice a0 d.f0.length c0) (.slice a1 d.f1.length c1) (.slice ae cA.ents.length ce) (.int .i64 cA.gen) (.int .i64 (0:Int)) (.int .i64 cA.ed) (.int .u64 cA.sum) (.bool false))
   generalize set9 w6 (w.heap.size+1) (.int .i64 d.pw) (.slice a0 d.f0.length c0) (.slice a1 d.f1.length c1) (.slice ae cA.ents.length ce) (.int .i64 cA.gen) (.int .i64 (0:Int)) (.int .i64 cA.ed) (.int .u64 cA.sum) (.bool false)=w9 at *
   obtain ⟨j0,j1,j2,j3,j4,j5,j6,j7,j8,_⟩:=rb_of hz9
   exact bodyPost_ret (v:=.tuple #[rjV d.pw (.slice a0 d.f0.length c0) (.slice a1 d.f1.length c1) (.slice ae cA.ents.length ce) cA.gen (0:Int) cA.ed cA.sum false,.int .i64 0]) (by simp [results,Tryz.results16,go_sem,j0,j1,j2,j3,j4,j5,j6,j7,j8]) rfl (by rw [HJ.out,HF.out]; exact ⟨⟨_,_,rfl,he9⟩,hb9⟩)
end
section
open Go.RowKit SeedP Go.Maps
set_option maxRecDepth 100000 in
theorem rgone_c (pw:Int) (a0 a1 ae:Option Addr) (n0 c0 n1 c1 ne ce:Nat) (gen fl ed sum:Int) (down:Bool) (w:World) :
 Calls Tryz.prog 61 #[rjV pw (.slice a0 n0 c0) (.slice a1 n1 c1) (.slice ae ne ce) gen fl ed sum down] w fun e w'=>e=.returned (.int .i64 (if down then 360 else 0))∧Below w.heap.size w w':=by
 have HB:=Lib.hid (((Below.refl w.heap.size w).alloc (Nat.le_refl _) (.cells #[.int .i64 pw,.slice a0 n0 c0,.slice a1 n1 c1,.slice ae ne ce,.int .i64 gen,.int .i64 fl,.int .i64 ed,.int .u64 sum,.bool down] 52)))
 cases down with
 | true=>
   go_enter Tryz.func61,Tryz.ntmps61
   go_wp2
   go_ret
   exact ⟨rfl,HB.out⟩
 | false=>
   go_enter Tryz.func61,Tryz.ntmps61
   go_wp2
   go_ret
   exact ⟨rfl,HB.out⟩
end
section
open Go.RowKit SeedP Go.Maps
set_option maxRecDepth 100000 in
set_option maxHeartbeats 2000000 in
/-- Compact, of a journal that is down, or at its last generation -/
theorem rcompact_not (s:JS) (a0 a1 ae:Option Addr) (n0 c0 n1 c1 ne ce:Nat) (fl:Int) (w:World) (hn:s.down=true∨s.c.gen=4611686018427387904) :
 Calls Tryz.prog 29 #[rjV s.d.pw (.slice a0 n0 c0) (.slice a1 n1 c1) (.slice ae ne ce) s.c.gen fl s.c.ed s.c.sum s.down] w fun e w'=>e=.returned (.tuple #[rjV s.d.pw (.slice a0 n0 c0) (.slice a1 n1 c1) (.slice ae ne ce) s.c.gen fl s.c.ed s.c.sum s.down,.int .i64 (if s.down then 360 else 4)])∧Below w.heap.size w w':=by
 have HB:=Lib.hid (((Below.refl w.heap.size w).alloc (Nat.le_refl _) (.cells #[.int .i64 s.d.pw,.slice a0 n0 c0,.slice a1 n1 c1,.slice ae ne ce,.int .i64 s.c.gen,.int .i64 fl,.int .i64 s.c.ed,.int .u64 s.c.sum,.bool s.down] 52)))
 cases hd:s.down with
 | true=>
   rw [hd] at HB
   go_enter Tryz.func29,Tryz.ntmps29
   go_wp2
   exact bodyPost_ret (v:=.tuple #[rjV s.d.pw (.slice a0 n0 c0) (.slice a1 n1 c1) (.slice ae ne ce) s.c.gen fl s.c.ed s.c.sum true,.int .i64 360]) (by simp [results,Tryz.results29,go_sem]) rfl ⟨rfl,HB.out.alloc HB.out.size _⟩
 | false=>
   rw [hd] at HB hn
   have hg:s.c.gen=4611686018427387904:=by simpa using hn
   rw [hg] at HB ⊢
   clear hn
   go_enter Tryz.func29,Tryz.ntmps29
   go_wp2
   exact bodyPost_ret (v:=.tuple #[rjV s.d.pw (.slice a0 n0 c0) (.slice a1 n1 c1) (.slice ae ne ce) 4611686018427387904 fl s.c.ed s.c.sum false,.int .i64 4]) (by simp [results,Tryz.results29,go_sem]) rfl ⟨rfl,HB.out.alloc HB.out.size _⟩
/-- what holds while Compact's region is under way -/
structure CpG (w5:World) (Z:Nat) (n:Int) (y0 y1 y2 y3 y4 y5 y6 y7 y8:Value) (ds:List Bool) (vs:List Value) (w:World):Prop where
 g0:ds.getD 1 false=false→Below w5.heap.size w5 w
 g1:ds.getD 0 false=true→vs.getD 0 undef=.int .i64 n
 g2:ds.getD 1 false=true→∃ w',Below w5.heap.size w5 w'∧w=set9 w' Z y0 y1 y2 y3 y4 y5 y6 y7 y8
 g3:ds.getD 2 false=true→vs.getD 2 undef=.int .i64 n
/-- the number of a write -/
def pwN (ok:Bool):Int:=if ok then 0 else 360
theorem pwN_gone (ok:Bool):(if (!ok)=true then 360 else 0)=pwN ok:=by cases ok <;> rfl
set_option maxRecDepth 100000 in
set_option maxHeartbeats 2000000 in
/-- Compact -/
theorem rcompact_do (s:JS) (v0 v1 ve:Value) (w:World) (hrd:RD w v0 v1 s.d) (hve:EntsAt w w.heap.size ve s.c.ents) (hok:s.Ok) (hgen:s.c.gen < 4611686018427387904) :
 Calls Tryz.prog 29 #[rjV s.d.pw v0 v1 ve s.c.gen (rFl s) s.c.ed s.c.sum false] w fun e w'=>(∃ v0' v1',e=.returned (.tuple #[rjV (jCompact s).1.d.pw v0' v1' ve (jCompact s).1.c.gen (rFl (jCompact s).1) (jCompact s).1.c.ed (jCompact s).1.c.sum (!(jCompact s).2),.int .i64 (pwN (jCompact s).2)])∧RD w' v0' v1' (jCompact s).1.d)∧Below w.heap.size w w':=by
 obtain ⟨a0,c0,a1,c1,rfl,rfl⟩:=hrd.slices
 have HVE:=Lib.hid hve
 obtain ⟨ae,ce,rfl,_,_,_⟩:=hve
 obtain ⟨tA,tZ,tB,tS⟩:=rb_two w s.d.pw (.slice a0 s.d.f0.length c0) (.slice a1 s.d.f1.length c1) (.slice ae s.c.ents.length ce) s.c.gen (rFl s) s.c.ed s.c.sum false
 have HA:=Lib.hid tA
 have HZ:=Lib.hid tZ
 have HB:=Lib.hid tB
 have HRD:=Lib.hid hrd
 have HOK:=Lib.hid hok
 have hne:((s.c.gen:Int) == 4611686018427387904)=false:=by rw [beq_eq_false_iff_ne]; omega
 clear tA tZ tB tS hrd hok
 go_enter Tryz.func29,Tryz.ntmps29
 go_upto_region 1 with (fail)
 change Code.wp _ _ _ _ ((w.alloc (.cells (rjC s.d.pw (.slice a0 s.d.f0.length c0) (.slice a1 s.d.f1.length c1) (.slice ae s.c.ents.length ce) s.c.gen (rFl s) s.c.ed s.c.sum false).toArray 52)).alloc (.cells (rjC 0 (.slice none 0 0) (.slice none 0 0) (.slice none 0 0) 0 0 0 0 false).toArray 52))
 generalize (w.alloc (.cells (rjC s.d.pw (.slice a0 s.d.f0.length c0) (.slice a1 s.d.f1.length c1) (.slice ae s.c.ents.length ce) s.c.gen (rFl s) s.c.ed s.c.sum false).toArray 52)).alloc (.cells (rjC 0 (.slice none 0 0) (.slice none 0 0) (.slice none 0 0) 0 0 0 0 false).toArray 52)=w2 at *
 have HS:=Lib.hid (rshorten_c s (.slice a0 s.d.f0.length c0) (.slice a1 s.d.f1.length c1) (.slice ae s.c.ents.length ce) w2 (HRD.out.below HB.out) ((HVE.out.below HB.out).mono HB.out.size) HOK.out (by omega))
 obtain ⟨k0,k1,k2,k3,k4,k5,k6,k7,k8,_⟩:=rb_of HA.out
 go_wp2_with fail
 refine HS.out.mono ?_
 rintro e w3 ⟨⟨v0',v1',rfl,hrd3⟩,hb3⟩
 clear HS k0 k1 k2 k3 k4 k5 k6 k7 k8
 obtain ⟨b0,e0,b1,e1,rfl,rfl⟩:=hrd3.slices
 have hA3:=HA.out.below hb3
 have HA3:=Lib.hid hA3
 have HZ3:=Lib.hid (HZ.out.below hb3)
 have HB3:=Lib.hid (HB.out.trans (hb3.mono HB.out.size))
 have HRD3:=Lib.hid hrd3
 obtain ⟨k0,k1,k2,k3,k4,k5,k6,k7,k8,fr⟩:=rb_of hA3
 have f0:=fr 0
 have f1:=fr 1
 have f2:=fr 2
 have f3:=fr 3
 have f4:=fr 4
 have f5:=fr 5
 have f6:=fr 6
 have f7:=fr 7
 have f8:=fr 8
 clear fr hA3 hrd3 hb3 HA HZ HB
 go_upto_region 6 with (fail)
 have hg5:=set9_grown w3 w.heap.size (.int .i64 (jCompact s).1.d.pw) (.slice b0 (jCompact s).1.d.f0.length e0) (.slice b1 (jCompact s).1.d.f1.length e1) (.slice ae s.c.ents.length ce) (.int .i64 (jCompact s).1.c.gen) (.int .i64 (rFl (jCompact s).1)) (.int .i64 (jCompact s).1.c.ed) (.int .u64 (jCompact s).1.c.sum) (.bool (!(jCompact s).2))
 have HA5:Hid (Blk (set9 w3 w.heap.size (.int .i64 (jCompact s).1.d.pw) (.slice b0 (jCompact s).1.d.f0.length e0) (.slice b1 (jCompact s).1.d.f1.length e1) (.slice ae s.c.ents.length ce) (.int .i64 (jCompact s).1.c.gen) (.int .i64 (rFl (jCompact s).1)) (.int .i64 (jCompact s).1.c.ed) (.int .u64 (jCompact s).1.c.sum) (.bool (!(jCompact s).2))) w.heap.size 52 (rjC (jCompact s).1.d.pw (.slice b0 (jCompact s).1.d.f0.length e0) (.slice b1 (jCompact s).1.d.f1.length e1) (.slice ae s.c.ents.length ce) (jCompact s).1.c.gen (rFl (jCompact s).1) (jCompact s).1.c.ed (jCompact s).1.c.sum (!(jCompact s).2))):=Lib.hid (set9_blk HA3.out (.int .i64 (jCompact s).1.d.pw) (.slice b0 (jCompact s).1.d.f0.length e0) (.slice b1 (jCompact s).1.d.f1.length e1) (.slice ae s.c.ents.length ce) (.int .i64 (jCompact s).1.c.gen) (.int .i64 (rFl (jCompact s).1)) (.int .i64 (jCompact s).1.c.ed) (.int .u64 (jCompact s).1.c.sum) (.bool (!(jCompact s).2)))
 have HZ5:=Lib.hid (HZ3.out.grown hg5 (fun e=>by have e:w.heap.size+1=w.heap.size:=e; omega))
 have HB5:=Lib.hid (HB3.out.trans (hg5.below (fun k e=>by have e:k=w.heap.size:=e; omega) HB3.out.size))
 have HRD5:=Lib.hid (HRD3.out.away HA3.out (rjC_nobyte _ _ _ _ _ _ _ _ _ _ _ _ _ _ _) hg5)
 change Code.wp _ _ _ _ (set9 w3 w.heap.size (.int .i64 (jCompact s).1.d.pw) (.slice b0 (jCompact s).1.d.f0.length e0) (.slice b1 (jCompact s).1.d.f1.length e1) (.slice ae s.c.ents.length ce) (.int .i64 (jCompact s).1.c.gen) (.int .i64 (rFl (jCompact s).1)) (.int .i64 (jCompact s).1.c.ed) (.int .u64 (jCompact s).1.c.sum) (.bool (!(jCompact s).2)))
 clear k0 k1 k2 k3 k4 k5 k6 k7 k8 f0 f1 f2 f3 f4 f5 f6 f7 f8 hg5 HA3 HZ3 HB3 HRD3
 generalize set9 w3 w.heap.size (.int .i64 (jCompact s).1.d.pw) (.slice b0 (jCompact s).1.d.f0.length e0) (.slice b1 (jCompact s).1.d.f1.length e1) (.slice ae s.c.ents.length ce) (.int .i64 (jCompact s).1.c.gen) (.int .i64 (rFl (jCompact s).1)) (.int .i64 (jCompact s).1.c.ed) (.int .u64 (jCompact s).1.c.sum) (.bool (!(jCompact s).2))=w5 at *
 obtain ⟨n,hn⟩:∃ n:Int,pwN (jCompact s).2=n:=⟨_,rfl⟩
 have HN:=Lib.hid ((pwN_gone _).trans hn)
 have HN2:=Lib.hid hn
 clear hn hne
 have hZlt:=HZ5.out.lt
 refine wp_region_mix (by kernel_rfl) (by kernel_rfl) (by kernel_rfl) [some (rjV (jCompact s).1.d.pw (.slice b0 (jCompact s).1.d.f0.length e0) (.slice b1 (jCompact s).1.d.f1.length e1) (.slice ae s.c.ents.length ce) (jCompact s).1.c.gen (rFl (jCompact s).1) (jCompact s).1.c.ed (jCompact s).1.c.sum (!(jCompact s).2)),some (rjV (jCompact s).1.d.pw (.slice b0 (jCompact s).1.d.f0.length e0) (.slice b1 (jCompact s).1.d.f1.length e1) (.slice ae s.c.ents.length ce) (jCompact s).1.c.gen (rFl (jCompact s).1) (jCompact s).1.c.ed (jCompact s).1.c.sum (!(jCompact s).2)),none,none,none] [2,3,4] (by kernel_rfl) (by kernel_rfl) (CpG w5 (w.heap.size+1) n (.int .i64 (jCompact s).1.d.pw) (.slice b0 (jCompact s).1.d.f0.length e0) (.slice b1 (jCompact s).1.d.f1.length e1) (.slice ae s.c.ents.length ce) (.int .i64 (jCompact s).1.c.gen) (.int .i64 (rFl (jCompact s).1)) (.int .i64 (jCompact s).1.c.ed) (.int .u64 (jCompact s).1.c.sum) (.bool (!(jCompact s).2))) ⟨fun _=>bl_drew w5,(fun h=>by cases h),(fun h=>by cases h),(fun h=>by cases h)⟩ ?_ ?_
 ·refine EachI.cons (MixOk.look (by kernel_rfl) (fun _=>by kernel_rfl) (fun dn ws wx hG hdep hcl hni=>?_)) ?_
  ·have h3:=not_done (hcl 3 0 (by kernel_rfl)) hni
   exact xs_load9 _ _ _ _ _ _ _ w.heap.size _ _ _ _ _ _ _ _ _ wx (by kernel_rfl) (rb_of (HA5.out.below (hG.g0 h3)))
  refine EachI.cons (MixOk.look (by kernel_rfl) (fun _=>by kernel_rfl) (fun dn ws wx hG hdep hcl hni=>?_)) ?_
  ·have h2:=not_done (hcl 2 1 (by kernel_rfl)) hni
   have h3:=not_done (hcl 3 2 (by kernel_rfl)) h2
   exact xs_load9 _ _ _ _ _ _ _ w.heap.size _ _ _ _ _ _ _ _ _ wx (by kernel_rfl) (rb_of (HA5.out.below (hG.g0 h3)))
  refine EachI.cons (MixOk.turn (by kernel_rfl) (fun dn ws wx hG hdep hcl hni=>?_)) ?_
  ·have h3:=not_done (hcl 3 2 (by kernel_rfl)) hni
   have h4:=not_done (hcl 4 2 (by kernel_rfl)) hni
   have hb0:=hG.g0 h3
   have hgn:=rgone_c (jCompact s).1.d.pw b0 b1 ae (jCompact s).1.d.f0.length e0 (jCompact s).1.d.f1.length e1 s.c.ents.length ce (jCompact s).1.c.gen (rFl (jCompact s).1) (jCompact s).1.c.ed (jCompact s).1.c.sum (!(jCompact s).2) wx
   rw [HN.out] at hgn
   refine turn_call (by kernel_rfl) 61 #[rjV (jCompact s).1.d.pw (.slice b0 (jCompact s).1.d.f0.length e0) (.slice b1 (jCompact s).1.d.f1.length e1) (.slice ae s.c.ents.length ce) (jCompact s).1.c.gen (rFl (jCompact s).1) (jCompact s).1.c.ed (jCompact s).1.c.sum (!(jCompact s).2)] (by kernel_rfl) (hgn.mono ?_)
   rintro e w' ⟨rfl,hb'⟩
   exact ⟨_,rfl,fun _=>hb0.trans (hb'.mono hb0.size),fun _=>rfl,(fun h=>by have h:dn 3=true:=h; rw [h3] at h; cases h),(fun h=>by have h:dn 4=true:=h; rw [h4] at h; cases h)⟩
  refine EachI.cons (MixOk.turn (by kernel_rfl) (fun dn ws wx hG hdep hcl hni=>?_)) ?_
  ·have hb0:=hG.g0 hni
   refine turn_void (by kernel_rfl) _ (xs_store9 _ _ _ _ _ _ _ _ (w.heap.size+1) _ _ _ _ _ _ _ _ _ _ _ _ _ _ _ _ _ _ _ _ _ _ _ _ wx (by kernel_rfl) (by kernel_rfl:_=rjV (jCompact s).1.d.pw (.slice b0 (jCompact s).1.d.f0.length e0) (.slice b1 (jCompact s).1.d.f1.length e1) (.slice ae s.c.ents.length ce) (jCompact s).1.c.gen (rFl (jCompact s).1) (jCompact s).1.c.ed (jCompact s).1.c.sum (!(jCompact s).2)) (rb_of (HZ5.out.below hb0))) ?_
   exact ⟨(fun h=>by cases h),hG.g1,fun _=>⟨wx,hb0,rfl⟩,hG.g3⟩
  refine EachI.cons (MixOk.turn (by kernel_rfl) (fun dn ws wx hG hdep hcl hni=>?_)) ?_
  ·have e2:ws 2=.int .i64 n:=hG.g1 (hdep 2 (by kernel_rfl))
   refine turn_run (by kernel_rfl) (ws 2) wx (by kernel_rfl) ⟨hG.g0,hG.g1,hG.g2,fun _=>e2⟩
  exact EachI.nil
 ·intro ws L' hL' w7 hG7
  obtain ⟨w6,hb6,rfl⟩:=hG7.g2 rfl
  have e2:ws 2=.int .i64 n:=hG7.g1 rfl
  have e4:ws 4=.int .i64 n:=hG7.g3 rfl
  simp only [setAll,mix,List.set_cons_succ,List.set_cons_zero,List.getElem?_cons_succ,List.getElem?_cons_zero,Option.join_some,Option.getD_some,Option.getD_none,Nat.reduceAdd,e2,e4] at hL'
  subst hL'
  have hZ6:=HZ5.out.below hb6
  have hz9:=set9_blk hZ6 (.int .i64 (jCompact s).1.d.pw) (.slice b0 (jCompact s).1.d.f0.length e0) (.slice b1 (jCompact s).1.d.f1.length e1) (.slice ae s.c.ents.length ce) (.int .i64 (jCompact s).1.c.gen) (.int .i64 (rFl (jCompact s).1)) (.int .i64 (jCompact s).1.c.ed) (.int .u64 (jCompact s).1.c.sum) (.bool (!(jCompact s).2))
  have hg9:=set9_grown w6 (w.heap.size+1) (.int .i64 (jCompact s).1.d.pw) (.slice b0 (jCompact s).1.d.f0.length e0) (.slice b1 (jCompact s).1.d.f1.length e1) (.slice ae s.c.ents.length ce) (.int .i64 (jCompact s).1.c.gen) (.int .i64 (rFl (jCompact s).1)) (.int .i64 (jCompact s).1.c.ed) (.int .u64 (jCompact s).1.c.sum) (.bool (!(jCompact s).2))
  have hB6:=HB5.out.trans (hb6.mono HB5.out.size)
  have hr9:=(HRD5.out.below hb6).away hZ6 (rjC_nobyte _ _ _ _ _ _ _ _ _ _ _ _ _ _ _) hg9
  have hB9:=hB6.trans (hg9.below (fun k e=>by have e:k=w.heap.size+1:=e; omega) hB6.size)
  clear hG7 hb6 hZ6 e2 e4
  generalize set9 w6 (w.heap.size+1) (.int .i64 (jCompact s).1.d.pw) (.slice b0 (jCompact s).1.d.f0.length e0) (.slice b1 (jCompact s).1.d.f1.length e1) (.slice ae s.c.ents.length ce) (.int .i64 (jCompact s).1.c.gen) (.int .i64 (rFl (jCompact s).1)) (.int .i64 (jCompact s).1.c.ed) (.int .u64 (jCompact s).1.c.sum) (.bool (!(jCompact s).2))=w9 at *
  obtain ⟨j0,j1,j2,j3,j4,j5,j6,j7,j8,_⟩:=rb_of hz9
  go_wp2
  exact bodyPost_ret (v:=.tuple #[rjV (jCompact s).1.d.pw (.slice b0 (jCompact s).1.d.f0.length e0) (.slice b1 (jCompact s).1.d.f1.length e1) (.slice ae s.c.ents.length ce) (jCompact s).1.c.gen (rFl (jCompact s).1) (jCompact s).1.c.ed (jCompact s).1.c.sum (!(jCompact s).2),.int .i64 n]) (by simp [results,Tryz.results29,go_sem,j0,j1,j2,j3,j4,j5,j6,j7,j8]) rfl (by rw [HN2.out]; exact ⟨⟨_,_,rfl,hr9⟩,hB9⟩)
theorem jCompact_down (s:JS):(jCompact s).1.down=s.down:=by
 unfold jCompact
 simp only []
 split
 ·rfl
 ·split <;> rfl
/-- Compact, whatever the journal -/
theorem rcompact_c (s:JS) (v0 v1 ve:Value) (w:World) (hrd:RD w v0 v1 s.d) (hve:EntsAt w w.heap.size ve s.c.ents) (hok:s.Ok) :
 Calls Tryz.prog 29 #[rjV s.d.pw v0 v1 ve s.c.gen (rFl s) s.c.ed s.c.sum s.down] w fun e w'=>(∃ v0' v1',e=.returned (.tuple #[rjV (jCompactOp s).1.d.pw v0' v1' ve (jCompactOp s).1.c.gen (rFl (jCompactOp s).1) (jCompactOp s).1.c.ed (jCompactOp s).1.c.sum (jCompactOp s).1.down,.int .i64 (jCompactOp s).2])∧RD w' v0' v1' (jCompactOp s).1.d)∧Below w.heap.size w w':=by
 by_cases hn:s.down=true∨s.c.gen=4611686018427387904
 ·obtain ⟨a0,c0,a1,c1,rfl,rfl⟩:=hrd.slices
  obtain ⟨ae,ce,rfl,_,_,_⟩:=hve
  refine (rcompact_not s a0 a1 ae _ c0 _ c1 _ ce (rFl s) w hn).mono ?_
  rintro e w' ⟨rfl,hb⟩
  have hj:jCompactOp s=(s,if s.down then 360 else 4):=by
   unfold jCompactOp
   cases hd:s.down with
   | true=>simp
   | false=>
     rw [hd] at hn
     have hg:s.c.gen=4611686018427387904:=by simpa using hn
     simp [hg]
  rw [hj]
  exact ⟨⟨_,_,rfl,hrd.below hb⟩,hb⟩
 ·have hd:s.down=false:=by cases h:s.down with | false=>rfl | true=>exact absurd (Or.inl h) hn
  have hg:s.c.gen ≠ 4611686018427387904:=fun e=>hn (Or.inr e)
  have hg2:=hok.gen
  rw [hd]
  refine (rcompact_do s v0 v1 ve w hrd hve hok (by omega)).mono ?_
  rintro e w' ⟨⟨v0',v1',rfl,hr⟩,hb⟩
  have hj:jCompactOp s=jPowered (jCompact s):=by unfold jCompactOp; rw [if_neg (by rw [hd]; decide),if_neg hg]
  have hdn:=jCompact_down s
  rw [hj]
  unfold jPowered
  generalize jCompact s=r at *
  obtain ⟨r1,ok⟩:=r
  cases ok with
  | true=>simp only [if_true]; rw [hdn,hd]; exact ⟨⟨_,_,rfl,hr⟩,hb⟩
  | false=>simp only [Bool.false_eq_true,if_false]; exact ⟨⟨_,_,rfl,hr⟩,hb⟩
end
end Go.Proofs.YtondomklkapogaaGreatDoor
