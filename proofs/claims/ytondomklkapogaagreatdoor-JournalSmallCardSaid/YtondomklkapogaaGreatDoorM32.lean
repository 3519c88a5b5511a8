/- The reference's shorten. -/
import Derived.Test.YtondomklkapogaaGreatDoorM24
import Derived.Test.YtondomklkapogaaGreatDoorM29
import Derived.Test.YtondomklkapogaaGreatDoorM30
namespace Go.Proofs.YtondomklkapogaaGreatDoor
open Go.RowKit SeedP Go.Maps
/-- the file as the reference numbers it -/
def rFl (s:JS):Int:=if s.c.gen=0 then 1 else if s.file then 1 else 0
theorem rFl_compact (s:JS):1 - rFl s=(if compactFile s then 1 else 0):=by
 unfold rFl compactFile
 by_cases h:s.c.gen=0
 ·rw [if_pos h,if_pos h]; simp
 ·rw [if_neg h,if_neg h]; cases s.file <;> simp
theorem rFl_range (s:JS):0≤rFl s∧rFl s≤1:=by
 unfold rFl; split
 ·omega
 ·split <;> omega
/-- the slices of a disk's files -/
theorem RD.slices {w:World} {v0 v1:Value} {d:DS} (h:RD w v0 v1 d):∃ a0 c0 a1 c1,v0=.slice a0 d.f0.length c0∧v1=.slice a1 d.f1.length c1:=by
 obtain ⟨a0,c0,e0,_⟩:=h.r0.open_
 obtain ⟨a1,c1,e1,_⟩:=h.r1.open_
 exact ⟨a0,c0,a1,c1,e0,e1⟩
theorem xr_int (ρ:Operand→Value) (d:Option Tmp) (x:Operand) (ty:TypeId) (pos:String) (af:Array Edge) (gd:Option (Nat × Bool)) (ad:Addr) (v:Value) (w:World) (hx:ρ x=.pointer (some ad)) (hc:w.cell? ad=some v) :
 (execOp ρ ⟨d,.load 3 x,ty,pos,af,gd⟩).run Tryz.prog w=.ok (.value v) w:=by
 simp [go_sem,hx,hc]
theorem xr_sub1 (ρ:Operand→Value) (hρ:∀ v,ρ (.const v)=v) (d:Option Tmp) (y:Operand) (ty:TypeId) (pos:String) (af:Array Edge) (gd:Option (Nat × Bool)) (fl:Int) (w:World) (hy:ρ y=.int .i64 fl) (h0:0≤fl) (h1:fl≤1) :
 (execOp ρ ⟨d,.binOp .sub 3 (.const (.int .i64 1)) y 3,ty,pos,af,gd⟩).run Tryz.prog w=.ok (.value (.int .i64 (1 - fl))) w:=by
 have hw:IntKind.i64.wrap (1 - fl)=1 - fl:=IntWalk.i64_in _ (by omega)
 simp [go_sem,hρ,hy,hw]
/-- what holds while shorten's region is under way -/
structure ShG (w5:World) (A:Nat) (ve:Value) (gen fl ed sum:Int) (bl:List UInt8) (d2:DS) (ok2:Bool) (ds:List Bool) (vs:List Value) (w:World):Prop where
 g0:ds.getD 2 false=false→Below w5.heap.size w5 w
 g1:ds.getD 0 false=true→ds.getD 1 false=false→w.ownsRow w5.heap.size 5 1 (vs.getD 0 undef) bl.length (byts bl)
 g2:ds.getD 1 false=true→ds.getD 2 false=false→∃ a0 c0 a1 c1,vs.getD 1 undef=rjV d2.pw (.slice a0 d2.f0.length c0) (.slice a1 d2.f1.length c1) ve gen fl ed sum (!ok2)∧RD w (.slice a0 d2.f0.length c0) (.slice a1 d2.f1.length c1) d2
 g3:ds.getD 2 false=true→∃ w' a0 c0 a1 c1,Below w5.heap.size w5 w'∧RD w' (.slice a0 d2.f0.length c0) (.slice a1 d2.f1.length c1) d2∧vs.getD 1 undef=rjV d2.pw (.slice a0 d2.f0.length c0) (.slice a1 d2.f1.length c1) ve gen fl ed sum (!ok2)∧w=set9 w' A (.int .i64 d2.pw) (.slice a0 d2.f0.length c0) (.slice a1 d2.f1.length c1) ve (.int .i64 gen) (.int .i64 fl) (.int .i64 ed) (.int .u64 sum) (.bool (!ok2))
set_option maxRecDepth 100000 in
set_option maxHeartbeats 2000000 in
theorem rshorten_c (s:JS) (v0 v1 ve:Value) (w:World) (hrd:RD w v0 v1 s.d) (hve:EntsAt w w.heap.size ve s.c.ents) (hok:s.Ok) (hgen:s.c.gen≤4611686018427387904) :
 Calls Tryz.prog 56 #[rjV s.d.pw v0 v1 ve s.c.gen (rFl s) s.c.ed s.c.sum false] w fun e w'=>(∃ v0' v1',e=.returned (rjV (jCompact s).1.d.pw v0' v1' ve (jCompact s).1.c.gen (rFl (jCompact s).1) (jCompact s).1.c.ed (jCompact s).1.c.sum (!(jCompact s).2))∧RD w' v0' v1' (jCompact s).1.d)∧Below w.heap.size w w':=by
 obtain ⟨a0,c0,a1,c1,rfl,rfl⟩:=hrd.slices
 have HVE:=Lib.hid hve
 obtain ⟨ae,ce,rfl,_,_,_⟩:=hve
 have hfc:=rFl_compact s
 obtain ⟨hf0,hf1⟩:=rFl_range s
 have HOK:=Lib.hid hok
 have HRD:=Lib.hid hrd
 obtain ⟨tA,tZ,tB,tS⟩:=rb_two w s.d.pw (.slice a0 s.d.f0.length c0) (.slice a1 s.d.f1.length c1) (.slice ae s.c.ents.length ce) s.c.gen (rFl s) s.c.ed s.c.sum false
 have HA:=Lib.hid tA
 have HZ:=Lib.hid tZ
 have HB:=Lib.hid tB
 have HFC:=Lib.hid hfc
 clear tA tZ tB tS hrd hok hfc
 generalize hfl:rFl s=fl at *
 have HFL:=Lib.hid hfl
 clear hfl
 go_enter Tryz.func56,Tryz.ntmps56
 go_upto_region 1 with (fail)
 change Code.wp _ _ _ _ ((w.alloc (.cells (rjC s.d.pw (.slice a0 s.d.f0.length c0) (.slice a1 s.d.f1.length c1) (.slice ae s.c.ents.length ce) s.c.gen fl s.c.ed s.c.sum false).toArray 52)).alloc (.cells (rjC 0 (.slice none 0 0) (.slice none 0 0) (.slice none 0 0) 0 0 0 0 false).toArray 52))
 generalize (w.alloc (.cells (rjC s.d.pw (.slice a0 s.d.f0.length c0) (.slice a1 s.d.f1.length c1) (.slice ae s.c.ents.length ce) s.c.gen fl s.c.ed s.c.sum false).toArray 52)).alloc (.cells (rjC 0 (.slice none 0 0) (.slice none 0 0) (.slice none 0 0) 0 0 0 0 false).toArray 52)=w2 at *
 have HST:=Lib.hid (rstate_c (s.c.gen+1) (.slice ae s.c.ents.length ce) s.c.ents w.heap.size w2 (HVE.out.below HB.out) HB.out.size (by omega) (by have h1:=HOK.out.wt; have h2:=HOK.out.max; omega))
 rw [show ((s.c.gen+1:Nat):Int)=(s.c.gen:Int)+1 by omega] at HST
 have k1:=(rb_of HA.out).k3
 have k2:=(rb_of HA.out).k4
 have hg1:((s.c.gen:Int)+1)≤4611686018427387905:=by omega
 go_wp2_with fail
 refine HST.out.mono ?_
 rintro e w3 ⟨⟨vc,rfl,hown⟩,hb3⟩
 have hA3:=HA.out.below hb3
 have hZ3:=HZ.out.below hb3
 have hB3:=HB.out.trans (hb3.mono HB.out.size)
 have hrd3:=HRD.out.below hB3
 have hc:=rcut_c s.d _ _ ae s.c.ents.length ce s.c.gen fl s.c.ed s.c.sum false (compactFile s) 0 w3 hrd3 HOK.out.d (Nat.zero_le _)
 rw [← HFC.out,show ((0:Nat):Int)=0 from rfl] at hc
 have HC:=Lib.hid hc
 have HA3:=Lib.hid hA3
 have HZ3:=Lib.hid hZ3
 have HB3:=Lib.hid hB3
 have HV3:=Lib.hid hown
 have hAw:=HA.out.lt
 obtain ⟨k0,k1,k2,k3,k4,k5,k6,k7,k8,_⟩:=rb_of hA3
 clear hA3 hZ3 hB3 hrd3 hc hown hb3 HST
 go_wp2_with fail
 refine HC.out.mono ?_
 rintro e w4 ⟨⟨v0',v1',rfl,hrd4⟩,hb4⟩
 clear HC k0 k1 k2 k3 k4 k5 k6 k7 k8
 obtain ⟨b0,e0,b1,e1,rfl,rfl⟩:=hrd4.slices
 have hA4:=HA3.out.below hb4
 have hZ4:=HZ3.out.below hb4
 have hB4:=HB3.out.trans (hb4.mono HB3.out.size)
 have hv4:=own_grown HV3.out (Grown.of_below hb4 (S:=fun _=>False)) (fun _ _ _ h=>h)
 obtain ⟨k0,k1,k2,k3,k4,k5,k6,k7,k8,fr⟩:=rb_of hA4
 have f0:=fr 0
 have f1:=fr 1
 have f2:=fr 2
 have f3:=fr 3
 have f4:=fr 4
 have f5:=fr 5
 have f6:=fr 6
 have f7:=fr 7
 have f8:=fr 8
 have HA4:=Lib.hid hA4
 have HZ4:=Lib.hid hZ4
 have HB4:=Lib.hid hB4
 have HV4:=Lib.hid hv4
 have HRD4:=Lib.hid hrd4
 clear fr hA4 hZ4 hB4 hv4 hrd4 hb4 HA3 HZ3 HB3 HV3
 have HJC:Hid (jCompact s=match dCut (compactFile s) 0 s.d with
  | (d1,false)=>(⟨d1,s.down,s.file,s.c⟩,false)
  | (d1,true)=>match dWrite (compactFile s) (blockB (subI 0 (stateB (s.c.gen+1) s.c.ents)) (stateB (s.c.gen+1) s.c.ents)) d1 with
    | (d2,false)=>(⟨d2,s.down,s.file,s.c⟩,false)
    | (d2,true)=>(⟨d2,s.down,compactFile s,⟨s.c.gen+1,s.c.ents,s.c.wt,subI 0 (stateB (s.c.gen+1) s.c.ents),12+(stateB (s.c.gen+1) s.c.ents).length⟩⟩,true)):=Lib.hid rfl
 generalize hdc:dCut (compactFile s) 0 s.d=dc at *
 obtain ⟨d1,ok1⟩:=dc
 simp only at HRD4
 go_upto_region 3 with (fail)
 have hg5:=set9_grown w4 w.heap.size (.int .i64 d1.pw) (.slice b0 d1.f0.length e0) (.slice b1 d1.f1.length e1) (.slice ae s.c.ents.length ce) (.int .i64 s.c.gen) (.int .i64 fl) (.int .i64 s.c.ed) (.int .u64 s.c.sum) (.bool (!ok1))
 have HA5:Hid (Blk (set9 w4 w.heap.size (.int .i64 d1.pw) (.slice b0 d1.f0.length e0) (.slice b1 d1.f1.length e1) (.slice ae s.c.ents.length ce) (.int .i64 s.c.gen) (.int .i64 fl) (.int .i64 s.c.ed) (.int .u64 s.c.sum) (.bool (!ok1))) w.heap.size 52 (rjC d1.pw (.slice b0 d1.f0.length e0) (.slice b1 d1.f1.length e1) (.slice ae s.c.ents.length ce) s.c.gen fl s.c.ed s.c.sum (!ok1))):=Lib.hid (set9_blk HA4.out (.int .i64 d1.pw) (.slice b0 d1.f0.length e0) (.slice b1 d1.f1.length e1) (.slice ae s.c.ents.length ce) (.int .i64 s.c.gen) (.int .i64 fl) (.int .i64 s.c.ed) (.int .u64 s.c.sum) (.bool (!ok1)))
 have HZ5:=Lib.hid (HZ4.out.grown hg5 (fun e=>by have e:w.heap.size+1=w.heap.size:=e; omega))
 have HB5:=Lib.hid (HB4.out.trans (hg5.below (fun k e=>by have e:k=w.heap.size:=e; omega) HB4.out.size))
 have HRD5:=Lib.hid (HRD4.out.away HA4.out (rjC_nobyte _ _ _ _ _ _ _ _ _ _ _ _ _ _ _) hg5)
 have HV5:=Lib.hid (own_grown HV4.out hg5 (fun g hg _ e=>by have e:g=w.heap.size:=e; omega))
 change Code.wp _ _ _ _ (set9 w4 w.heap.size (.int .i64 d1.pw) (.slice b0 d1.f0.length e0) (.slice b1 d1.f1.length e1) (.slice ae s.c.ents.length ce) (.int .i64 s.c.gen) (.int .i64 fl) (.int .i64 s.c.ed) (.int .u64 s.c.sum) (.bool (!ok1)))
 clear k0 k1 k2 k3 k4 k5 k6 k7 k8 f0 f1 f2 f3 f4 f5 f6 f7 f8 hg5 HA4 HZ4 HB4 HV4 HRD4
 generalize set9 w4 w.heap.size (.int .i64 d1.pw) (.slice b0 d1.f0.length e0) (.slice b1 d1.f1.length e1) (.slice ae s.c.ents.length ce) (.int .i64 s.c.gen) (.int .i64 fl) (.int .i64 s.c.ed) (.int .u64 s.c.sum) (.bool (!ok1))=w5 at *
 cases ok1 with
 | false=>
   simp only [Bool.not_false] at HA5 ⊢
   have hjc:=HJC.out
   simp only at hjc
   have HRF:=Lib.hid (show rFl ⟨d1,s.down,s.file,s.c⟩=fl from HFL.out)
   have HJ2:=Lib.hid hjc
   clear hjc HJC
   obtain ⟨k0,k1,k2,k3,k4,k5,k6,k7,k8,_⟩:=rb_of HA5.out
   obtain ⟨z0,z1,z2,z3,z4,z5,z6,z7,z8,zf⟩:=rb_of HZ5.out
   have zf0:=zf 0
   have zf1:=zf 1
   have zf2:=zf 2
   have zf3:=zf 3
   have zf4:=zf 4
   have zf5:=zf 5
   have zf6:=zf 6
   have zf7:=zf 7
   have zf8:=zf 8
   clear zf
   go_wp2
   have hz9:=set9_blk HZ5.out (.int .i64 d1.pw) (.slice b0 d1.f0.length e0) (.slice b1 d1.f1.length e1) (.slice ae s.c.ents.length ce) (.int .i64 s.c.gen) (.int .i64 fl) (.int .i64 s.c.ed) (.int .u64 s.c.sum) (.bool true)
   have hg9:=set9_grown w5 (w.heap.size+1) (.int .i64 d1.pw) (.slice b0 d1.f0.length e0) (.slice b1 d1.f1.length e1) (.slice ae s.c.ents.length ce) (.int .i64 s.c.gen) (.int .i64 fl) (.int .i64 s.c.ed) (.int .u64 s.c.sum) (.bool true)
   have hr9:=HRD5.out.away HZ5.out (rjC_nobyte _ _ _ _ _ _ _ _ _ _ _ _ _ _ _) hg9
   change bodyPost _ _ _ _ _ (set9 w5 (w.heap.size+1) (.int .i64 d1.pw) (.slice b0 d1.f0.length e0) (.slice b1 d1.f1.length e1) (.slice ae s.c.ents.length ce) (.int .i64 s.c.gen) (.int .i64 fl) (.int .i64 s.c.ed) (.int .u64 s.c.sum) (.bool true))
   generalize set9 w5 (w.heap.size+1) (.int .i64 d1.pw) (.slice b0 d1.f0.length e0) (.slice b1 d1.f1.length e1) (.slice ae s.c.ents.length ce) (.int .i64 s.c.gen) (.int .i64 fl) (.int .i64 s.c.ed) (.int .u64 s.c.sum) (.bool true)=w9 at *
   obtain ⟨j0,j1,j2,j3,j4,j5,j6,j7,j8,_⟩:=rb_of hz9
   have hB9:=HB5.out.trans (hg9.below (fun k e=>by have e:k=w.heap.size+1:=e; omega) HB5.out.size)
   exact bodyPost_ret (v:=rjV d1.pw (.slice b0 d1.f0.length e0) (.slice b1 d1.f1.length e1) (.slice ae s.c.ents.length ce) s.c.gen fl s.c.ed s.c.sum true) (by simp [results,Tryz.results56,go_sem,j0,j1,j2,j3,j4,j5,j6,j7,j8]) rfl (by rw [HJ2.out]; simp only [HRF.out,Bool.not_false]; exact ⟨⟨_,_,rfl,hr9⟩,hB9⟩)
 | true=>
   simp only [Bool.not_true] at HA5 ⊢
   have k8:=(rb_of HA5.out).k8
   go_upto_region 5 with (fail)
   have hd1ok:d1.Ok:=by have h:=dCut_ok HOK.out.d (compactFile s) 0; rw [hdc] at h; exact h
   have HD1:=Lib.hid hd1ok
   have hsl:=stateB_len (s.c.gen+1) s.c.ents
   have hwt:=HOK.out.wt
   have hmx:=HOK.out.max
   have HSL:=Lib.hid (show (stateB (s.c.gen+1) s.c.ents).length≤131084 by omega)
   have HVC:=Lib.hid (RdB.of_own HV5.out)
   have hA5lt:=HA5.out.lt
   obtain ⟨d2,ok2,hdw⟩:∃ d2 ok2,dWrite (compactFile s) (blockB (subI 0 (stateB (s.c.gen+1) s.c.ents)) (stateB (s.c.gen+1) s.c.ents)) d1=(d2,ok2):=⟨_,_,rfl⟩
   have HDW:=Lib.hid hdw
   clear hsl hwt hmx hd1ok hdw k8
   refine wp_region_mix (by kernel_rfl) (by kernel_rfl) (by kernel_rfl) [some (rjV d1.pw (.slice b0 d1.f0.length e0) (.slice b1 d1.f1.length e1) (.slice ae s.c.ents.length ce) s.c.gen fl s.c.ed s.c.sum false),some (.pointer (some ⟨w.heap.size,5,none⟩)),some (.int .i64 fl),some (.int .i64 (1 - fl)),some vc,none,none,none] [5,6,7] (by kernel_rfl) (by kernel_rfl) (ShG w5 w.heap.size (.slice ae s.c.ents.length ce) s.c.gen fl s.c.ed s.c.sum (blockB (subI 0 (stateB (s.c.gen+1) s.c.ents)) (stateB (s.c.gen+1) s.c.ents)) d2 ok2) ⟨fun _=>bl_drew w5,(fun h=>by cases h),(fun h=>by cases h),(fun h=>by cases h)⟩ ?_ ?_
   ·refine EachI.cons (MixOk.look (by kernel_rfl) (fun _=>by kernel_rfl) (fun dn ws wx hG hdep hcl hni=>?_)) ?_
    ·have h6:=not_done (hcl 6 0 (by kernel_rfl)) hni
     have h7:=not_done (hcl 7 6 (by kernel_rfl)) h6
     exact xs_load9 _ _ _ _ _ _ _ w.heap.size _ _ _ _ _ _ _ _ _ wx (by kernel_rfl) (rb_of (HA5.out.below (hG.g0 h7)))
    refine EachI.cons (MixOk.pure (by kernel_rfl) (fun _=>by kernel_rfl) (fun _ _=>by kernel_rfl)) ?_
    refine EachI.cons (MixOk.look (by kernel_rfl) (fun _=>by kernel_rfl) (fun dn ws wx hG hdep hcl hni=>?_)) ?_
    ·have h3:=not_done (hcl 3 2 (by kernel_rfl)) hni
     have h6:=not_done (hcl 6 3 (by kernel_rfl)) h3
     have h7:=not_done (hcl 7 6 (by kernel_rfl)) h6
     exact xr_int _ _ _ _ _ _ _ ⟨w.heap.size,5,none⟩ _ wx (by kernel_rfl) (rb_of (HA5.out.below (hG.g0 h7))).k5
    refine EachI.cons (MixOk.pure (by kernel_rfl) (fun _=>by kernel_rfl) (fun _ wx=>xr_sub1 _ (fun _=>rfl) _ _ _ _ _ _ fl wx (by kernel_rfl) hf0 hf1)) ?_
    refine EachI.cons (MixOk.pure (by kernel_rfl) (fun _=>by kernel_rfl) (fun _ _=>by kernel_rfl)) ?_
    refine EachI.cons (MixOk.turn (by kernel_rfl) (fun dn ws wx hG hdep hcl hni=>?_)) ?_
    ·have h6:=not_done (hcl 6 5 (by kernel_rfl)) hni
     have h7:=not_done (hcl 7 6 (by kernel_rfl)) h6
     have hb0:=hG.g0 h7
     refine turn_call (by kernel_rfl) 14 #[.int .u64 0,vc] (by kernel_rfl) ((rblock_c 0 vc (stateB (s.c.gen+1) s.c.ents) w5.heap.size wx (HVC.out.below hb0) hb0.size (by have:=HSL.out; omega)).mono ?_)
     rintro e w' ⟨⟨v',rfl,hown⟩,hb'⟩
     exact ⟨v',rfl,fun _=>hb0.trans (hb'.mono hb0.size),fun _ _=>own_up hown hb0.size,(fun h=>by have h:dn 6=true:=h; rw [h6] at h; cases h),(fun h=>by have h:dn 7=true:=h; rw [h7] at h; cases h)⟩
    refine EachI.cons (MixOk.turn (by kernel_rfl) (fun dn ws wx hG hdep hcl hni=>?_)) ?_
    ·have h7:=not_done (hcl 7 6 (by kernel_rfl)) hni
     have hb0:=hG.g0 h7
     have hd5:dn 5=true:=hdep 5 (by kernel_rfl)
     have ho:wx.ownsRow w5.heap.size 5 1 (ws 5) (blockB (subI 0 (stateB (s.c.gen+1) s.c.ents)) (stateB (s.c.gen+1) s.c.ents)).length (byts (blockB (subI 0 (stateB (s.c.gen+1) s.c.ents)) (stateB (s.c.gen+1) s.c.ents))):=hG.g1 hd5 hni
     have hwr:=rwrite_c d1 (.slice b0 d1.f0.length e0) (.slice b1 d1.f1.length e1) (ws 5) ae s.c.ents.length ce s.c.gen fl s.c.ed s.c.sum false (compactFile s) (blockB (subI 0 (stateB (s.c.gen+1) s.c.ents)) (stateB (s.c.gen+1) s.c.ents)) wx (HRD5.out.below hb0) (RdB.of_own ho) HD1.out (by rw [blockB_len]; have:=HSL.out; omega)
     rw [← HFC.out,HDW.out] at hwr
     refine turn_call (by kernel_rfl) 58 #[rjV d1.pw (.slice b0 d1.f0.length e0) (.slice b1 d1.f1.length e1) (.slice ae s.c.ents.length ce) s.c.gen fl s.c.ed s.c.sum false,.int .i64 (1 - fl),ws 5] (by kernel_rfl) (hwr.mono ?_)
     rintro e w' ⟨⟨v0',v1',rfl,hrd'⟩,hb'⟩
     obtain ⟨x0,y0,x1,y1,rfl,rfl⟩:=hrd'.slices
     exact ⟨_,rfl,fun _=>hb0.trans (hb'.mono hb0.size),(fun _ h=>by cases h),fun _ _=>⟨x0,y0,x1,y1,rfl,hrd'⟩,(fun h=>by have h:dn 7=true:=h; rw [h7] at h; cases h)⟩
    refine EachI.cons (MixOk.turn (by kernel_rfl) (fun dn ws wx hG hdep hcl hni=>?_)) ?_
    ·have hb0:=hG.g0 hni
     have hd6:dn 6=true:=hdep 6 (by kernel_rfl)
     obtain ⟨x0,y0,x1,y1,e6,hrd'⟩:=hG.g2 hd6 hni
     have e6:ws 6=rjV d2.pw (.slice x0 d2.f0.length y0) (.slice x1 d2.f1.length y1) (.slice ae s.c.ents.length ce) s.c.gen fl s.c.ed s.c.sum (!ok2):=e6
     refine turn_void (by kernel_rfl) _ (xs_store9 _ _ _ _ _ _ _ _ w.heap.size _ _ _ _ _ _ _ _ _ _ _ _ _ _ _ _ _ _ _ _ _ _ _ _ wx (by kernel_rfl) (Eq.trans (b:=ws 6) (by kernel_rfl) e6) (rb_of (HA5.out.below hb0))) ?_
     exact ⟨(fun h=>by cases h),(fun _ h=>by have h:dn 6=false:=h; rw [hd6] at h; cases h),(fun _ h=>by cases h),fun _=>⟨wx,x0,y0,x1,y1,hb0,hrd',e6,rfl⟩⟩
    exact EachI.nil
   ·intro ws L' hL' w7 hG7
    obtain ⟨w6,x0,y0,x1,y1,hb6,hrd6,e6,rfl⟩:=hG7.g3 rfl
    have e6:ws 6=rjV d2.pw (.slice x0 d2.f0.length y0) (.slice x1 d2.f1.length y1) (.slice ae s.c.ents.length ce) s.c.gen fl s.c.ed s.c.sum (!ok2):=e6
    simp only [setAll,mix,List.set_cons_succ,List.set_cons_zero,List.getElem?_cons_succ,List.getElem?_cons_zero,Option.join_some,Option.getD_some,Option.getD_none,Nat.reduceAdd,e6] at hL'
    subst hL'
    have hg7:=set9_grown w6 w.heap.size (.int .i64 d2.pw) (.slice x0 d2.f0.length y0) (.slice x1 d2.f1.length y1) (.slice ae s.c.ents.length ce) (.int .i64 s.c.gen) (.int .i64 fl) (.int .i64 s.c.ed) (.int .u64 s.c.sum) (.bool (!ok2))
    have hA6:=HA5.out.below hb6
    have HA7:Hid (Blk (set9 w6 w.heap.size (.int .i64 d2.pw) (.slice x0 d2.f0.length y0) (.slice x1 d2.f1.length y1) (.slice ae s.c.ents.length ce) (.int .i64 s.c.gen) (.int .i64 fl) (.int .i64 s.c.ed) (.int .u64 s.c.sum) (.bool (!ok2))) w.heap.size 52 (rjC d2.pw (.slice x0 d2.f0.length y0) (.slice x1 d2.f1.length y1) (.slice ae s.c.ents.length ce) s.c.gen fl s.c.ed s.c.sum (!ok2))):=Lib.hid (set9_blk hA6 (.int .i64 d2.pw) (.slice x0 d2.f0.length y0) (.slice x1 d2.f1.length y1) (.slice ae s.c.ents.length ce) (.int .i64 s.c.gen) (.int .i64 fl) (.int .i64 s.c.ed) (.int .u64 s.c.sum) (.bool (!ok2)))
    have HZ7:=Lib.hid ((HZ5.out.below hb6).grown hg7 (fun e=>by have e:w.heap.size+1=w.heap.size:=e; omega))
    have HB6:=Lib.hid (HB5.out.trans (hb6.mono HB5.out.size))
    have HB7:=Lib.hid (HB6.out.trans (hg7.below (fun k e=>by have e:k=w.heap.size:=e; omega) HB6.out.size))
    have HRD7:=Lib.hid (hrd6.away hA6 (rjC_nobyte _ _ _ _ _ _ _ _ _ _ _ _ _ _ _) hg7)
    have HV6:=Lib.hid (own_grown HV5.out (Grown.of_below hb6 (S:=fun _=>False)) (fun _ _ _ h=>h))
    have HV7:=Lib.hid (own_grown HV6.out hg7 (fun g hg _ e=>by have e:g=w.heap.size:=e; omega))
    change Exit.then _ _ Exit.normal _ (set9 w6 w.heap.size (.int .i64 d2.pw) (.slice x0 d2.f0.length y0) (.slice x1 d2.f1.length y1) (.slice ae s.c.ents.length ce) (.int .i64 s.c.gen) (.int .i64 fl) (.int .i64 s.c.ed) (.int .u64 s.c.sum) (.bool (!ok2)))
    clear hA6 hg7 hG7 hb6 hrd6 e6 HB6 HV6 HA5 HZ5 HB5 HRD5 HV5 HVC HD1
    generalize set9 w6 w.heap.size (.int .i64 d2.pw) (.slice x0 d2.f0.length y0) (.slice x1 d2.f1.length y1) (.slice ae s.c.ents.length ce) (.int .i64 s.c.gen) (.int .i64 fl) (.int .i64 s.c.ed) (.int .u64 s.c.sum) (.bool (!ok2))=w7 at *
    have hjc:=HJC.out
    simp only [HDW.out] at hjc
    cases ok2 with
    | false=>
      simp only [Bool.not_false] at HA7 ⊢
      have HRF:=Lib.hid (show rFl ⟨d2,s.down,s.file,s.c⟩=fl from HFL.out)
      have HJ2:=Lib.hid hjc
      clear hjc HJC
      obtain ⟨k0,k1,k2,k3,k4,k5,k6,k7,k8,_⟩:=rb_of HA7.out
      obtain ⟨z0,z1,z2,z3,z4,z5,z6,z7,z8,zf⟩:=rb_of HZ7.out
      have zf0:=zf 0
      have zf1:=zf 1
      have zf2:=zf 2
      have zf3:=zf 3
      have zf4:=zf 4
      have zf5:=zf 5
      have zf6:=zf 6
      have zf7:=zf 7
      have zf8:=zf 8
      clear zf
      go_wp2
      have hz9:=set9_blk HZ7.out (.int .i64 d2.pw) (.slice x0 d2.f0.length y0) (.slice x1 d2.f1.length y1) (.slice ae s.c.ents.length ce) (.int .i64 s.c.gen) (.int .i64 fl) (.int .i64 s.c.ed) (.int .u64 s.c.sum) (.bool true)
      have hg9:=set9_grown w7 (w.heap.size+1) (.int .i64 d2.pw) (.slice x0 d2.f0.length y0) (.slice x1 d2.f1.length y1) (.slice ae s.c.ents.length ce) (.int .i64 s.c.gen) (.int .i64 fl) (.int .i64 s.c.ed) (.int .u64 s.c.sum) (.bool true)
      have hr9:=HRD7.out.away HZ7.out (rjC_nobyte _ _ _ _ _ _ _ _ _ _ _ _ _ _ _) hg9
      change bodyPost _ _ _ _ _ (set9 w7 (w.heap.size+1) (.int .i64 d2.pw) (.slice x0 d2.f0.length y0) (.slice x1 d2.f1.length y1) (.slice ae s.c.ents.length ce) (.int .i64 s.c.gen) (.int .i64 fl) (.int .i64 s.c.ed) (.int .u64 s.c.sum) (.bool true))
      generalize set9 w7 (w.heap.size+1) (.int .i64 d2.pw) (.slice x0 d2.f0.length y0) (.slice x1 d2.f1.length y1) (.slice ae s.c.ents.length ce) (.int .i64 s.c.gen) (.int .i64 fl) (.int .i64 s.c.ed) (.int .u64 s.c.sum) (.bool true)=w9 at *
      obtain ⟨j0,j1,j2,j3,j4,j5,j6,j7,j8,_⟩:=rb_of hz9
      have hB9:=HB7.out.trans (hg9.below (fun k e=>by have e:k=w.heap.size+1:=e; omega) HB7.out.size)
      exact bodyPost_ret (v:=rjV d2.pw (.slice x0 d2.f0.length y0) (.slice x1 d2.f1.length y1) (.slice ae s.c.ents.length ce) s.c.gen fl s.c.ed s.c.sum true) (by simp [results,Tryz.results56,go_sem,j0,j1,j2,j3,j4,j5,j6,j7,j8]) rfl (by rw [HJ2.out]; simp only [HRF.out,Bool.not_false]; exact ⟨⟨_,_,rfl,hr9⟩,hB9⟩)
    | true=>
      simp only [Bool.not_true] at HA7 ⊢
      have HJ2:=Lib.hid hjc
      have HRF:Hid (rFl ⟨d2,s.down,compactFile s,⟨s.c.gen+1,s.c.ents,s.c.wt,subI 0 (stateB (s.c.gen+1) s.c.ents),12+(stateB (s.c.gen+1) s.c.ents).length⟩⟩=1 - fl):=Lib.hid (by
       rw [HFC.out]; unfold rFl; rw [if_neg (by simp)])
      clear hjc HJC
      have k4:=(rb_of HA7.out).k4
      have k5:=(rb_of HA7.out).k5
      have k8:=(rb_of HA7.out).k8
      have f4:=HA7.out.frozen 4
      have f5:=HA7.out.frozen 5
      have f6:=HA7.out.frozen 6
      have f7:=HA7.out.frozen 7
      have k6:=(rb_of HA7.out).k6
      have k7:=(rb_of HA7.out).k7
      obtain ⟨av,cv,ev,_⟩:=(RdB.of_own HV7.out).open_
      obtain ⟨nl,hnl⟩:∃ n,(stateB (s.c.gen+1) s.c.ents).length=n:=⟨_,rfl⟩
      have hcl:(nl:Int)≤131084:=by have:=HSL.out; omega
      rw [hnl] at ev
      subst ev
      have HNL:=Lib.hid hnl
      clear hnl
      go_upto_region 11 with (fail)
      have HA8:Hid (Blk (((w7.setCell ⟨w.heap.size,5,none⟩ (.int .i64 (1 - fl))).setCell ⟨w.heap.size,4,none⟩ (.int .i64 ((s.c.gen:Int)+1))).setCell ⟨w.heap.size,6,none⟩ (.int .i64 (12+(nl:Int)))) w.heap.size 52 (rjC d2.pw (.slice x0 d2.f0.length y0) (.slice x1 d2.f1.length y1) (.slice ae s.c.ents.length ce) ((s.c.gen:Int)+1) (1 - fl) (12+(nl:Int)) s.c.sum false)):=Lib.hid (((HA7.out.set 5 _).set 4 _).set 6 _)
      have hg8:Grown (fun k=>k=w.heap.size) w7 (((w7.setCell ⟨w.heap.size,5,none⟩ (.int .i64 (1 - fl))).setCell ⟨w.heap.size,4,none⟩ (.int .i64 ((s.c.gen:Int)+1))).setCell ⟨w.heap.size,6,none⟩ (.int .i64 (12+(nl:Int)))):=
       Grown.setCell (S:=fun k=>k=w.heap.size) (Grown.setCell (S:=fun k=>k=w.heap.size) (Grown.setCell (S:=fun k=>k=w.heap.size) (Grown.refl _ w7) (a:=⟨w.heap.size,5,none⟩) rfl _) (a:=⟨w.heap.size,4,none⟩) rfl _) (a:=⟨w.heap.size,6,none⟩) rfl _
      have HZ8:=Lib.hid (HZ7.out.grown hg8 (fun e=>by have e:w.heap.size+1=w.heap.size:=e; omega))
      have HB8:=Lib.hid (HB7.out.trans (hg8.below (fun k e=>by have e:k=w.heap.size:=e; omega) HB7.out.size))
      have HRD8:=Lib.hid (HRD7.out.away HA7.out (rjC_nobyte _ _ _ _ _ _ _ _ _ _ _ _ _ _ _) hg8)
      have HV8:=Lib.hid (own_grown HV7.out hg8 (fun g hg _ e=>by have e:g=w.heap.size:=e; omega))
      change Code.wp _ _ _ _ (((w7.setCell ⟨w.heap.size,5,none⟩ (.int .i64 (1 - fl))).setCell ⟨w.heap.size,4,none⟩ (.int .i64 ((s.c.gen:Int)+1))).setCell ⟨w.heap.size,6,none⟩ (.int .i64 (12+(nl:Int))))
      clear k4 k5 k6 k7 k8 f4 f5 f6 f7 hg8 HA7 HZ7 HB7 HRD7 HV7
      generalize ((w7.setCell ⟨w.heap.size,5,none⟩ (.int .i64 (1 - fl))).setCell ⟨w.heap.size,4,none⟩ (.int .i64 ((s.c.gen:Int)+1))).setCell ⟨w.heap.size,6,none⟩ (.int .i64 (12+(nl:Int)))=w8 at *
      have HSM:=Lib.hid (rsum_c 0 (.slice av nl cv) _ w8.heap.size w8 (RdB.of_own HV8.out))
      have k7:=(rb_of HA8.out).k7
      have f7:=HA8.out.frozen 7
      go_wp2_with fail
      refine HSM.out.mono ?_
      rintro e w9 ⟨rfl,rfl⟩
      clear HSM
      obtain ⟨sm,hsm⟩:∃ x,subI 0 (stateB (s.c.gen+1) s.c.ents)=x:=⟨_,rfl⟩
      rw [hsm]
      have HSMM:=Lib.hid hsm
      clear hsm
      go_upto_region 12 with (fail)
      change Code.wp _ _ _ _ (w8.setCell ⟨w.heap.size,7,none⟩ (.int .u64 sm))
      have HA9:Hid (Blk (w8.setCell ⟨w.heap.size,7,none⟩ (.int .u64 sm)) w.heap.size 52 (rjC d2.pw (.slice x0 d2.f0.length y0) (.slice x1 d2.f1.length y1) (.slice ae s.c.ents.length ce) ((s.c.gen:Int)+1) (1 - fl) (12+(nl:Int)) sm false)):=Lib.hid (HA8.out.set 7 _)
      have hg9:Grown (fun k=>k=w.heap.size) w8 (w8.setCell ⟨w.heap.size,7,none⟩ (.int .u64 sm)):=Grown.setCell (S:=fun k=>k=w.heap.size) (Grown.refl _ w8) (a:=⟨w.heap.size,7,none⟩) rfl _
      have HZ9:=Lib.hid (HZ8.out.grown hg9 (fun e=>by have e:w.heap.size+1=w.heap.size:=e; omega))
      have HB9:=Lib.hid (HB8.out.trans (hg9.below (fun k e=>by have e:k=w.heap.size:=e; omega) HB8.out.size))
      have HRD9:=Lib.hid (HRD8.out.away HA8.out (rjC_nobyte _ _ _ _ _ _ _ _ _ _ _ _ _ _ _) hg9)
      clear k7 f7 hg9 HA8 HZ8 HB8 HRD8 HV8
      generalize w8.setCell ⟨w.heap.size,7,none⟩ (.int .u64 sm)=wq at *
      obtain ⟨k0,k1,k2,k3,k4,k5,k6,k7,k8,_⟩:=rb_of HA9.out
      obtain ⟨z0,z1,z2,z3,z4,z5,z6,z7,z8,zf⟩:=rb_of HZ9.out
      have zf0:=zf 0
      have zf1:=zf 1
      have zf2:=zf 2
      have zf3:=zf 3
      have zf4:=zf 4
      have zf5:=zf 5
      have zf6:=zf 6
      have zf7:=zf 7
      have zf8:=zf 8
      clear zf
      go_wp2
      have hz9:=set9_blk HZ9.out (.int .i64 d2.pw) (.slice x0 d2.f0.length y0) (.slice x1 d2.f1.length y1) (.slice ae s.c.ents.length ce) (.int .i64 ((s.c.gen:Int)+1)) (.int .i64 (1 - fl)) (.int .i64 (12+(nl:Int))) (.int .u64 sm) (.bool false)
      have hg9:=set9_grown wq (w.heap.size+1) (.int .i64 d2.pw) (.slice x0 d2.f0.length y0) (.slice x1 d2.f1.length y1) (.slice ae s.c.ents.length ce) (.int .i64 ((s.c.gen:Int)+1)) (.int .i64 (1 - fl)) (.int .i64 (12+(nl:Int))) (.int .u64 sm) (.bool false)
      have hr9:=HRD9.out.away HZ9.out (rjC_nobyte _ _ _ _ _ _ _ _ _ _ _ _ _ _ _) hg9
      change bodyPost _ _ _ _ _ (set9 wq (w.heap.size+1) (.int .i64 d2.pw) (.slice x0 d2.f0.length y0) (.slice x1 d2.f1.length y1) (.slice ae s.c.ents.length ce) (.int .i64 ((s.c.gen:Int)+1)) (.int .i64 (1 - fl)) (.int .i64 (12+(nl:Int))) (.int .u64 sm) (.bool false))
      generalize set9 wq (w.heap.size+1) (.int .i64 d2.pw) (.slice x0 d2.f0.length y0) (.slice x1 d2.f1.length y1) (.slice ae s.c.ents.length ce) (.int .i64 ((s.c.gen:Int)+1)) (.int .i64 (1 - fl)) (.int .i64 (12+(nl:Int))) (.int .u64 sm) (.bool false)=w9 at *
      obtain ⟨j0,j1,j2,j3,j4,j5,j6,j7,j8,_⟩:=rb_of hz9
      have hB9:=HB9.out.trans (hg9.below (fun k e=>by have e:k=w.heap.size+1:=e; omega) HB9.out.size)
      exact bodyPost_ret (v:=rjV d2.pw (.slice x0 d2.f0.length y0) (.slice x1 d2.f1.length y1) (.slice ae s.c.ents.length ce) ((s.c.gen:Int)+1) (1 - fl) (12+(nl:Int)) sm false) (by simp [results,Tryz.results56,go_sem,j0,j1,j2,j3,j4,j5,j6,j7,j8]) rfl (by rw [HJ2.out]; dsimp only; rw [HRF.out]; simp only [HSMM.out,HNL.out,Bool.not_true]; rw [show ((s.c.gen+1:Nat):Int)=(s.c.gen:Int)+1 by omega,show ((12+nl:Nat):Int)=12+(nl:Int) by omega]; exact ⟨⟨_,_,rfl,hr9⟩,hB9⟩)
end Go.Proofs.YtondomklkapogaaGreatDoor
