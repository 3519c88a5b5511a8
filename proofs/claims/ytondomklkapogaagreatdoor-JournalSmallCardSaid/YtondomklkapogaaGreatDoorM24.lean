/- The reference's write. -/
import Derived.Test.YtondomklkapogaaGreatDoorM23
import Derived.Test.YtondomklkapogaaGreatDoorM19
namespace Go.Proofs.YtondomklkapogaaGreatDoor
open Go.RowKit SeedP Go.Maps
theorem xr_bytes (ρ:Operand→Value) (d:Option Tmp) (x:Operand) (ty:TypeId) (pos:String) (af:Array Edge) (gd:Option (Nat × Bool)) (ad:Addr) (v:Value) (w:World) (hx:ρ x=.pointer (some ad)) (hc:w.cell? ad=some v) :
 (execOp ρ ⟨d,.load 25 x,ty,pos,af,gd⟩).run Tryz.prog w=.ok (.value v) w:=by
 simp [go_sem,hx,hc]
/-- what holds while write's region is under way -/
structure WrG (w3:World) (A o:Nat) (F t:List UInt8) (ds:List Bool) (vs:List Value) (w:World):Prop where
 g0:ds.getD 3 false=false→Below w3.heap.size w3 w
 g1:ds.getD 0 false=true→ds.getD 1 false=false→w.ownsRow w3.heap.size 5 1 (vs.getD 0 undef) 0 (byts [])
 g2:ds.getD 1 false=true→ds.getD 2 false=false→w.ownsRow w3.heap.size 5 1 (vs.getD 1 undef) F.length (byts F)
 g3:ds.getD 2 false=true→ds.getD 3 false=false→w.ownsRow w3.heap.size 5 1 (vs.getD 2 undef) (F.length+t.length) (byts (F ++ t))
 g4:ds.getD 3 false=true→∃ w',Below w3.heap.size w3 w'∧w'.ownsRow w3.heap.size 5 1 (vs.getD 2 undef) (F.length+t.length) (byts (F ++ t))∧w=w'.setCell ⟨A,o,none⟩ (vs.getD 2 undef)
set_option maxRecDepth 100000 in
set_option maxHeartbeats 2000000 in
theorem rwrite_0A (d:DS) (a0 a1 ae ab:Option Addr) (c0 c1 ne ce cb:Nat) (gen fl ed sum:Int) (down:Bool) (b:List UInt8) (w:World) (hr:RD w (.slice a0 d.f0.length c0) (.slice a1 d.f1.length c1) d) (hb:RdB w w.heap.size (.slice ab b.length cb) b) (hd:d.Ok) (hbl:b.length≤1073741824) (hp:d.pw < 0) :
 Calls Tryz.prog 58 #[rjV d.pw (.slice a0 d.f0.length c0) (.slice a1 d.f1.length c1) (.slice ae ne ce) gen fl ed sum down,.int .i64 0,.slice ab b.length cb] w fun e w'=>(∃ v,e=.returned (rjV d.pw (v) (.slice a1 d.f1.length c1) (.slice ae ne ce) gen fl ed sum false)∧RdB w' w'.heap.size v (d.f0 ++ b.take b.length))∧Below w.heap.size w w':=by
 have hpw0:=hd.pw0
 have hpw1:=hd.pw1
 have hlf:=hd.f0
 obtain ⟨tA,tZ,tB,tS⟩:=rb_two w d.pw (.slice a0 d.f0.length c0) (.slice a1 d.f1.length c1) (.slice ae ne ce) gen fl ed sum down
 have HA:=Lib.hid tA
 have HZ:=Lib.hid tZ
 have HB:=Lib.hid tB
 have HRF:=Lib.hid (hr.r0.below tB)
 obtain ⟨ab',cb',eb,hbm,hbn,hbc⟩:=hb.open_
 simp only [Value.slice.injEq,true_and] at eb
 obtain ⟨rfl,rfl⟩:=eb
 have hncap:b.length≤cb:=by
  rcases hbc with h | ⟨g,off,_,h,_⟩
  ·rw [h]; exact Nat.zero_le _
  ·omega
 have HSRC:Hid (RdB w w.heap.size (.slice ab b.length cb) (b.take b.length)):=Lib.hid (by
  rw [List.take_length]; exact hb)
 clear tA tZ tB tS hbc hbn hb hr
 go_enter Tryz.func58,Tryz.ntmps58
 go_upto_region 1 with (fail)
 change Code.wp _ _ _ _ ((w.alloc (.cells (rjC d.pw (.slice a0 d.f0.length c0) (.slice a1 d.f1.length c1) (.slice ae ne ce) gen fl ed sum down).toArray 52)).alloc (.cells (rjC 0 (.slice none 0 0) (.slice none 0 0) (.slice none 0 0) 0 0 0 0 false).toArray 52))
 generalize (w.alloc (.cells (rjC d.pw (.slice a0 d.f0.length c0) (.slice a1 d.f1.length c1) (.slice ae ne ce) gen fl ed sum down).toArray 52)).alloc (.cells (rjC 0 (.slice none 0 0) (.slice none 0 0) (.slice none 0 0) 0 0 0 0 false).toArray 52)=w2 at *
 obtain ⟨k0,k1,k2,k3,k4,k5,k6,k7,k8,fr⟩:=rb_of HA.out
 have fr0:=fr 0
 have fr1:=fr 1
 clear fr
 have t1:decide ((0:Int)≤d.pw)=false:=decide_eq_false (by omega)
 have t2:¬ ((0:Int)≤d.pw):=by omega
 go_upto_region 6 with (fail)
 have HA3:=HA
 have HZ3:=HZ
 have HB3:=HB
 generalize hw3:w2=w3 at *
 have hb23:Below w.heap.size w3 w3:=Below.refl _ _
 have HF3:=Lib.hid (HRF.out.below hb23)
 have HS3:=Lib.hid (HSRC.out.below HB3.out)
 have htl:(b.take b.length).length=b.length:=by rw [List.length_take]; omega
 have HTL:=Lib.hid htl
 have hAlt:=HA3.out.lt
 have hZlt:=HZ3.out.lt
 clear hw3 hb23 HRF HSRC HA HZ HB htl k0 k1 k2 k3 k4 k5 k6 k7 k8 fr0 fr1
 refine wp_region_mix (by kernel_rfl) (by kernel_rfl) (by kernel_rfl) [some (.int .i64 0),none,some (.int .i64 0),some (.pointer (some ⟨w.heap.size,0,none⟩)),some (.pointer (some ⟨w.heap.size,1,none⟩)),some (.pointer (some ⟨w.heap.size,1,none⟩)),some (.slice a0 d.f0.length c0),none,some (.slice ab b.length cb),some (.int .i64 (b.length:Int)),some (.slice ab b.length cb),none,some (.pointer (some ⟨w.heap.size,0,none⟩)),some (.pointer (some ⟨w.heap.size,1,none⟩)),some (.pointer (some ⟨w.heap.size,1,none⟩)),none] [1,7,11,15] (by kernel_rfl) (by kernel_rfl) (WrG w3 w.heap.size 1 d.f0 (b.take b.length)) ⟨fun _=>bl_drew w3,(fun h=>by cases h),(fun h=>by cases h),(fun h=>by cases h),(fun h=>by cases h)⟩ ?_ ?_
 ·refine EachI.cons (MixOk.pure (by kernel_rfl) (fun _=>by kernel_rfl) (fun _ _=>by kernel_rfl)) ?_
  refine EachI.cons (MixOk.turn (by kernel_rfl) (fun dn ws wx hG hdep hcl hni=>?_)) ?_
  ·have h7:=not_done (hcl 7 1 (by kernel_rfl)) hni
   have h11:=not_done (hcl 11 7 (by kernel_rfl)) h7
   have h15:=not_done (hcl 15 11 (by kernel_rfl)) h11
   have hb0:=hG.g0 h15
   have hba:=(Below.refl wx.heap.size wx).alloc (Nat.le_refl _) (.cells #[] 5)
   exact turn_run (by kernel_rfl) (.slice (some ⟨wx.heap.size,0,none⟩) 0 0) (wx.alloc (.cells #[] 5)) (by kernel_rfl) ⟨fun _=>hb0.trans (hba.mono hb0.size),fun _ _=>own_lit wx w3.heap.size [] (by simp [maxLen]) 0 rfl hb0.size,(fun h=>by have h:dn 7=true:=h; rw [h7] at h; cases h),(fun h=>by have h:dn 11=true:=h; rw [h11] at h; cases h),(fun h=>by have h:dn 15=true:=h; rw [h15] at h; cases h)⟩
  refine EachI.cons (MixOk.pure (by kernel_rfl) (fun _=>by kernel_rfl) (fun _ _=>by kernel_rfl)) ?_
  refine EachI.cons (MixOk.pure (by kernel_rfl) (fun _=>by kernel_rfl) (fun _ _=>by kernel_rfl)) ?_
  refine EachI.cons (MixOk.pure (by kernel_rfl) (fun _=>by kernel_rfl) (fun _ _=>by kernel_rfl)) ?_
  refine EachI.cons (MixOk.pure (by kernel_rfl) (fun _=>by kernel_rfl) (fun _ _=>by kernel_rfl)) ?_
  refine EachI.cons (MixOk.look (by kernel_rfl) (fun _=>by kernel_rfl) (fun dn ws wx hG hdep hcl hni=>?_)) ?_
  ·have h7:=not_done (hcl 7 6 (by kernel_rfl)) hni
   have h11:=not_done (hcl 11 7 (by kernel_rfl)) h7
   have h15:=not_done (hcl 15 11 (by kernel_rfl)) h11
   exact xr_bytes _ _ _ _ _ _ _ ⟨w.heap.size,1,none⟩ _ wx (by kernel_rfl) (rb_of (HA3.out.below (hG.g0 h15))).k1
  refine EachI.cons (MixOk.turn (by kernel_rfl) (fun dn ws wx hG hdep hcl hni=>?_)) ?_
  ·have h11:=not_done (hcl 11 7 (by kernel_rfl)) hni
   have h15:=not_done (hcl 15 11 (by kernel_rfl)) h11
   have hb0:=hG.g0 h15
   have hd1:dn 1=true:=hdep 1 (by kernel_rfl)
   have ho1:wx.ownsRow w3.heap.size 5 1 (ws 1) 0 (byts []):=hG.g1 hd1 hni
   refine turn_app _ _ _ _ _ _ _ (by kernel_rfl) w3.heap.size (ws 1) 0 [] (by kernel_rfl) ho1 (.slice a0 d.f0.length c0) d.f0 (by kernel_rfl) (HF3.out.below (hb0.mono HB3.out.size)) (by omega) hb0.size (fun v' w' hown hgr=>?_)
   have hown':w'.ownsRow w3.heap.size 5 1 v' d.f0.length (byts d.f0):=by simpa using hown
   exact ⟨fun _=>hb0.trans (below_own ho1 hgr hb0.size),(fun _ h=>by cases h),fun _ _=>hown',(fun h=>by have h:dn 11=true:=h; rw [h11] at h; cases h),(fun h=>by have h:dn 15=true:=h; rw [h15] at h; cases h)⟩
  refine EachI.cons (MixOk.pure (by kernel_rfl) (fun _=>by kernel_rfl) (fun _ _=>by kernel_rfl)) ?_
  refine EachI.cons (MixOk.pure (by kernel_rfl) (fun _=>by kernel_rfl) (fun _ _=>by kernel_rfl)) ?_
  refine EachI.cons (MixOk.pure (by kernel_rfl) (fun _=>by kernel_rfl) (fun _ wx=>xs_upto _ _ _ _ _ _ _ _ ab b.length cb b.length wx (by kernel_rfl) (by kernel_rfl) hncap)) ?_
  refine EachI.cons (MixOk.turn (by kernel_rfl) (fun dn ws wx hG hdep hcl hni=>?_)) ?_
  ·have h15:=not_done (hcl 15 11 (by kernel_rfl)) hni
   have hb0:=hG.g0 h15
   have hd7:dn 7=true:=hdep 7 (by kernel_rfl)
   have ho2:wx.ownsRow w3.heap.size 5 1 (ws 7) d.f0.length (byts d.f0):=hG.g2 hd7 hni
   refine turn_app _ _ _ _ _ _ _ (by kernel_rfl) w3.heap.size (ws 7) d.f0.length d.f0 (by kernel_rfl) ho2 (.slice ab b.length cb) (b.take b.length) (by kernel_rfl) (HS3.out.below (hb0.mono HB3.out.size)) (by rw [HTL.out]; omega) hb0.size (fun v' w' hown hgr=>?_)
   exact ⟨fun _=>hb0.trans (below_own ho2 hgr hb0.size),(fun _ h=>by have h:dn 7=false:=h; rw [hd7] at h; cases h),(fun _ h=>by cases h),fun _ _=>hown,(fun h=>by have h:dn 15=true:=h; rw [h15] at h; cases h)⟩
  refine EachI.cons (MixOk.pure (by kernel_rfl) (fun _=>by kernel_rfl) (fun _ _=>by kernel_rfl)) ?_
  refine EachI.cons (MixOk.pure (by kernel_rfl) (fun _=>by kernel_rfl) (fun _ _=>by kernel_rfl)) ?_
  refine EachI.cons (MixOk.pure (by kernel_rfl) (fun _=>by kernel_rfl) (fun _ _=>by kernel_rfl)) ?_
  refine EachI.cons (MixOk.turn (by kernel_rfl) (fun dn ws wx hG hdep hcl hni=>?_)) ?_
  ·have hb0:=hG.g0 hni
   have hd11:dn 11=true:=hdep 11 (by kernel_rfl)
   have hd7:dn 7=true:=hcl 11 7 (by kernel_rfl) hd11
   have ho3:wx.ownsRow w3.heap.size 5 1 (ws 11) (d.f0.length+(b.take b.length).length) (byts (d.f0 ++ b.take b.length)):=hG.g3 hd11 hni
   obtain ⟨sa,sc,se,_⟩:=(RdB.of_own ho3).open_
   have hA4:=HA3.out.below hb0
   refine turn_store _ _ _ _ _ _ _ (by kernel_rfl) ⟨w.heap.size,1,none⟩ _ sa _ sc (by kernel_rfl) (Eq.trans (b:=ws 11) (by kernel_rfl) se) (rb_of hA4).k1 (hA4.frozen 1) ?_
   rw [← se]
   exact ⟨(fun h=>by cases h),(fun _ h=>by have h:dn 7=false:=h; rw [hd7] at h; cases h),(fun _ h=>by have h:dn 11=false:=h; rw [hd11] at h; cases h),(fun _ h=>by cases h),fun _=>⟨wx,hb0,ho3,rfl⟩⟩
  exact EachI.nil
 ·intro ws L' hL' w6 hG6
  obtain ⟨w5,hb5,ho5,rfl⟩:=hG6.g4 rfl
  change w5.ownsRow _ _ _ (ws 11) _ _ at ho5
  simp only [setAll,mix,List.set_cons_succ,List.set_cons_zero,List.getElem?_cons_succ,List.getElem?_cons_zero,Option.join_some,Option.getD_some,Option.getD_none,Nat.reduceAdd] at hL'
  subst hL'
  change Exit.then _ _ Exit.normal _ (w5.setCell ⟨w.heap.size,1,none⟩ (ws 11))
  obtain ⟨sa,sc,se,_⟩:=(RdB.of_own ho5).open_
  obtain ⟨NN,hNN⟩:∃ N,(d.f0 ++ b.take b.length).length=N:=⟨_,rfl⟩
  rw [hNN] at se
  clear hNN
  have hA6:Blk (w5.setCell ⟨w.heap.size,1,none⟩ (ws 11)) w.heap.size 52 (rjC d.pw (.slice sa NN sc) (.slice a1 d.f1.length c1) (.slice ae ne ce) gen fl ed sum down):=by have h:=(HA3.out.below hb5).set 1 (ws 11); rw [se] at h ⊢; exact h
  have hZ6:=(HZ3.out.below hb5).other (a:=⟨w.heap.size,1,none⟩) (by show w.heap.size+1 ≠ w.heap.size; omega) (ws 11)
  have hB6:=(HB3.out.trans (hb5.mono HB3.out.size)).setCell (p:=⟨w.heap.size,1,none⟩) (Nat.le_refl _) (ws 11)
  have hv6:=own_grown ho5 (Grown.setCell (S:=fun k=>k=w.heap.size) (Grown.refl _ w5) (a:=⟨w.heap.size,1,none⟩) rfl (ws 11)) (fun g hg _ e=>by have e:g=w.heap.size:=e; omega)
  rw [se] at hv6 hZ6 hB6 hA6 ⊢
  have HB6:=Lib.hid hB6
  have HV6:=Lib.hid hv6
  have HZ6:=Lib.hid hZ6
  have HA6:=Lib.hid hA6
  clear hG6 ho5 hb5 hA6 hZ6 hB6 hv6 se HTL HS3 HF3 HA3 HZ3 HB3
  generalize w5.setCell ⟨w.heap.size,1,none⟩ (.slice sa NN sc)=w6 at *
  have k8:=(rb_of HA6.out).k8
  have fr8:=HA6.out.frozen 8
  have hdn:decide ((b.length:Int) < (b.length:Int))=false:=by simp
  go_upto_region 8 with (fail)
  change Code.wp _ _ _ _ (w6.setCell ⟨w.heap.size,8,none⟩ (.bool false))
  have HA7:Hid (Blk (w6.setCell ⟨w.heap.size,8,none⟩ (.bool false)) w.heap.size 52 (rjC d.pw (.slice sa NN sc) (.slice a1 d.f1.length c1) (.slice ae ne ce) gen fl ed sum false)):=Lib.hid (HA6.out.set 8 (.bool false))
  have HZ7:=Lib.hid (HZ6.out.other (a:=⟨w.heap.size,8,none⟩) (by show w.heap.size+1 ≠ w.heap.size; omega) (.bool false))
  have HB7:=Lib.hid (HB6.out.setCell (p:=⟨w.heap.size,8,none⟩) (Nat.le_refl _) (.bool false))
  have HV7:=Lib.hid (own_grown HV6.out (Grown.setCell (S:=fun k=>k=w.heap.size) (Grown.refl _ w6) (a:=⟨w.heap.size,8,none⟩) rfl (.bool false)) (fun g hg _ e=>by have e:g=w.heap.size:=e; omega))
  clear k8 fr8 HA6 HZ6 HB6 HV6
  generalize w6.setCell ⟨w.heap.size,8,none⟩ (.bool false)=w7 at *
  obtain ⟨k0,k1,k2,k3,k4,k5,k6,k7,k8,_⟩:=rb_of HA7.out
  obtain ⟨z0,z1,z2,z3,z4,z5,z6,z7,z8,zf⟩:=rb_of HZ7.out
  have zf0:=zf 0
  have zf1:=zf 1
  have zf2:=zf 2
  have zf3:=zf 3
  have zf4:=zf 4
  have zf5:=zf 5
  have zf6:=zf 6
  have zf7:=zf 7
  have zf8:=zf 8
  clear zf
  go_wp2
  have hz9:=set9_blk HZ7.out (.int .i64 d.pw) (.slice sa NN sc) (.slice a1 d.f1.length c1) (.slice ae ne ce) (.int .i64 gen) (.int .i64 fl) (.int .i64 ed) (.int .u64 sum) (.bool false)
  have hg9:=set9_grown w7 (w.heap.size+1) (.int .i64 d.pw) (.slice sa NN sc) (.slice a1 d.f1.length c1) (.slice ae ne ce) (.int .i64 gen) (.int .i64 fl) (.int .i64 ed) (.int .u64 sum) (.bool false)
  change bodyPost _ _ _ _ _ (set9 w7 (w.heap.size+1) (.int .i64 d.pw) (.slice sa NN sc) (.slice a1 d.f1.length c1) (.slice ae ne ce) (.int .i64 gen) (.int .i64 fl) (.int .i64 ed) (.int .u64 sum) (.bool false))
  generalize set9 w7 (w.heap.size+1) (.int .i64 d.pw) (.slice sa NN sc) (.slice a1 d.f1.length c1) (.slice ae ne ce) (.int .i64 gen) (.int .i64 fl) (.int .i64 ed) (.int .u64 sum) (.bool false)=w8 at *
  obtain ⟨j0,j1,j2,j3,j4,j5,j6,j7,j8,_⟩:=rb_of hz9
  have hB8:=HB7.out.trans (hg9.below (fun k e=>by have e:k=w.heap.size+1:=e; omega) HB7.out.size)
  have hR8:RdB w8 w8.heap.size (.slice sa NN sc) (d.f0 ++ b.take b.length):=by
   have h:=own_grown HV7.out hg9 (fun g hg _ e=>by have e:g=w.heap.size+1:=e; omega)
   exact RdB.of_own h
  exact bodyPost_ret (v:=rjV d.pw (.slice sa NN sc) (.slice a1 d.f1.length c1) (.slice ae ne ce) gen fl ed sum false) (by simp [results,Tryz.results58,go_sem,j0,j1,j2,j3,j4,j5,j6,j7,j8]) rfl ⟨⟨_,rfl,(by first | exact hR8 | (rw [List.take_length] at hR8; exact hR8))⟩,hB8⟩
set_option maxRecDepth 100000 in
set_option maxHeartbeats 2000000 in
theorem rwrite_0B (d:DS) (a0 a1 ae ab:Option Addr) (c0 c1 ne ce cb:Nat) (gen fl ed sum:Int) (down:Bool) (b:List UInt8) (w:World) (hr:RD w (.slice a0 d.f0.length c0) (.slice a1 d.f1.length c1) d) (hb:RdB w w.heap.size (.slice ab b.length cb) b) (hd:d.Ok) (hbl:b.length≤1073741824) (p:Nat) (HP:Hid (d.pw=(p:Int))) (hp:0≤d.pw) (hpb:d.pw < (b.length:Int)) :
 Calls Tryz.prog 58 #[rjV d.pw (.slice a0 d.f0.length c0) (.slice a1 d.f1.length c1) (.slice ae ne ce) gen fl ed sum down,.int .i64 0,.slice ab b.length cb] w fun e w'=>(∃ v,e=.returned (rjV 0 (v) (.slice a1 d.f1.length c1) (.slice ae ne ce) gen fl ed sum true)∧RdB w' w'.heap.size v (d.f0 ++ b.take p))∧Below w.heap.size w w':=by
 have hpw0:=hd.pw0
 have hpw1:=hd.pw1
 have hlf:=hd.f0
 obtain ⟨tA,tZ,tB,tS⟩:=rb_two w d.pw (.slice a0 d.f0.length c0) (.slice a1 d.f1.length c1) (.slice ae ne ce) gen fl ed sum down
 have HA:=Lib.hid tA
 have HZ:=Lib.hid tZ
 have HB:=Lib.hid tB
 have HRF:=Lib.hid (hr.r0.below tB)
 obtain ⟨ab',cb',eb,hbm,hbn,hbc⟩:=hb.open_
 simp only [Value.slice.injEq,true_and] at eb
 obtain ⟨rfl,rfl⟩:=eb
 have hpl:p < b.length:=by have:=HP.out; omega
 have hncap:p≤cb:=by
  rcases hbc with h | ⟨g,off,_,h,_⟩
  ·rw [h] at hpl; simp at hpl
  ·omega
 have HSRC:Hid (RdB w w.heap.size (.slice ab p cb) (b.take p)):=Lib.hid (by
  rcases hb with ⟨_,e⟩ | ⟨g,off,cap,e,hlc,hcm,hg,hcell⟩
  ·rw [e] at hpl; simp at hpl
  ·simp only [Value.slice.injEq,true_and] at e
   obtain ⟨rfl,rfl⟩:=e
   exact RdB.take (n:=p) (by omega) hlc hcm hg hcell)
 clear tA tZ tB tS hbc hbn hb hr
 go_enter Tryz.func58,Tryz.ntmps58
 go_upto_region 1 with (fail)
 change Code.wp _ _ _ _ ((w.alloc (.cells (rjC d.pw (.slice a0 d.f0.length c0) (.slice a1 d.f1.length c1) (.slice ae ne ce) gen fl ed sum down).toArray 52)).alloc (.cells (rjC 0 (.slice none 0 0) (.slice none 0 0) (.slice none 0 0) 0 0 0 0 false).toArray 52))
 generalize (w.alloc (.cells (rjC d.pw (.slice a0 d.f0.length c0) (.slice a1 d.f1.length c1) (.slice ae ne ce) gen fl ed sum down).toArray 52)).alloc (.cells (rjC 0 (.slice none 0 0) (.slice none 0 0) (.slice none 0 0) 0 0 0 0 false).toArray 52)=w2 at *
 obtain ⟨k0,k1,k2,k3,k4,k5,k6,k7,k8,fr⟩:=rb_of HA.out
 have fr0:=fr 0
 have fr1:=fr 1
 clear fr
 have t0:decide ((0:Int)≤d.pw)=true:=decide_eq_true (by omega)
 have t1:decide (d.pw < (b.length:Int))=true:=decide_eq_true (by omega)
 have hsub:d.pw - d.pw=0:=Int.sub_self _
 go_upto_region 6 with (fail)
 have HA3:=Lib.hid (HA.out.set 0 (.int .i64 0))
 have HZ3:=Lib.hid (HZ.out.other (a:=⟨w.heap.size,0,none⟩) (by show w.heap.size+1 ≠ w.heap.size; omega) (.int .i64 0))
 have HB3:=Lib.hid (HB.out.setCell (p:=⟨w.heap.size,0,none⟩) (Nat.le_refl _) (.int .i64 0))
 change Code.wp _ _ _ _ (w2.setCell ⟨w.heap.size,0,none⟩ (.int .i64 0))
 generalize hw3:w2.setCell ⟨w.heap.size,0,none⟩ (.int .i64 0)=w3 at *
 have hb23:Below w.heap.size w2 w3:=by subst hw3; exact (Below.refl _ _).setCell (p:=⟨w.heap.size,0,none⟩) (Nat.le_refl _) _
 have HF3:=Lib.hid (HRF.out.below hb23)
 have HS3:=Lib.hid (HSRC.out.below HB3.out)
 have htl:(b.take p).length=p:=by rw [List.length_take]; omega
 have HTL:=Lib.hid htl
 have hAlt:=HA3.out.lt
 have hZlt:=HZ3.out.lt
 clear hw3 hb23 HRF HSRC HA HZ HB htl k0 k1 k2 k3 k4 k5 k6 k7 k8 fr0 fr1
 refine wp_region_mix (by kernel_rfl) (by kernel_rfl) (by kernel_rfl) [some (.int .i64 0),none,some (.int .i64 0),some (.pointer (some ⟨w.heap.size,0,none⟩)),some (.pointer (some ⟨w.heap.size,1,none⟩)),some (.pointer (some ⟨w.heap.size,1,none⟩)),some (.slice a0 d.f0.length c0),none,some (.slice ab b.length cb),some (.int .i64 d.pw),some (.slice ab p cb),none,some (.pointer (some ⟨w.heap.size,0,none⟩)),some (.pointer (some ⟨w.heap.size,1,none⟩)),some (.pointer (some ⟨w.heap.size,1,none⟩)),none] [1,7,11,15] (by kernel_rfl) (by kernel_rfl) (WrG w3 w.heap.size 1 d.f0 (b.take p)) ⟨fun _=>bl_drew w3,(fun h=>by cases h),(fun h=>by cases h),(fun h=>by cases h),(fun h=>by cases h)⟩ ?_ ?_
 ·refine EachI.cons (MixOk.pure (by kernel_rfl) (fun _=>by kernel_rfl) (fun _ _=>by kernel_rfl)) ?_
  refine EachI.cons (MixOk.turn (by kernel_rfl) (fun dn ws wx hG hdep hcl hni=>?_)) ?_
  ·have h7:=not_done (hcl 7 1 (by kernel_rfl)) hni
   have h11:=not_done (hcl 11 7 (by kernel_rfl)) h7
   have h15:=not_done (hcl 15 11 (by kernel_rfl)) h11
   have hb0:=hG.g0 h15
   have hba:=(Below.refl wx.heap.size wx).alloc (Nat.le_refl _) (.cells #[] 5)
   exact turn_run (by kernel_rfl) (.slice (some ⟨wx.heap.size,0,none⟩) 0 0) (wx.alloc (.cells #[] 5)) (by kernel_rfl) ⟨fun _=>hb0.trans (hba.mono hb0.size),fun _ _=>own_lit wx w3.heap.size [] (by simp [maxLen]) 0 rfl hb0.size,(fun h=>by have h:dn 7=true:=h; rw [h7] at h; cases h),(fun h=>by have h:dn 11=true:=h; rw [h11] at h; cases h),(fun h=>by have h:dn 15=true:=h; rw [h15] at h; cases h)⟩
  refine EachI.cons (MixOk.pure (by kernel_rfl) (fun _=>by kernel_rfl) (fun _ _=>by kernel_rfl)) ?_
  refine EachI.cons (MixOk.pure (by kernel_rfl) (fun _=>by kernel_rfl) (fun _ _=>by kernel_rfl)) ?_
  refine EachI.cons (MixOk.pure (by kernel_rfl) (fun _=>by kernel_rfl) (fun _ _=>by kernel_rfl)) ?_
  refine EachI.cons (MixOk.pure (by kernel_rfl) (fun _=>by kernel_rfl) (fun _ _=>by kernel_rfl)) ?_
  refine EachI.cons (MixOk.look (by kernel_rfl) (fun _=>by kernel_rfl) (fun dn ws wx hG hdep hcl hni=>?_)) ?_
  ·have h7:=not_done (hcl 7 6 (by kernel_rfl)) hni
   have h11:=not_done (hcl 11 7 (by kernel_rfl)) h7
   have h15:=not_done (hcl 15 11 (by kernel_rfl)) h11
   exact xr_bytes _ _ _ _ _ _ _ ⟨w.heap.size,1,none⟩ _ wx (by kernel_rfl) (rb_of (HA3.out.below (hG.g0 h15))).k1
  refine EachI.cons (MixOk.turn (by kernel_rfl) (fun dn ws wx hG hdep hcl hni=>?_)) ?_
  ·have h11:=not_done (hcl 11 7 (by kernel_rfl)) hni
   have h15:=not_done (hcl 15 11 (by kernel_rfl)) h11
   have hb0:=hG.g0 h15
   have hd1:dn 1=true:=hdep 1 (by kernel_rfl)
   have ho1:wx.ownsRow w3.heap.size 5 1 (ws 1) 0 (byts []):=hG.g1 hd1 hni
   refine turn_app _ _ _ _ _ _ _ (by kernel_rfl) w3.heap.size (ws 1) 0 [] (by kernel_rfl) ho1 (.slice a0 d.f0.length c0) d.f0 (by kernel_rfl) (HF3.out.below (hb0.mono HB3.out.size)) (by omega) hb0.size (fun v' w' hown hgr=>?_)
   have hown':w'.ownsRow w3.heap.size 5 1 v' d.f0.length (byts d.f0):=by simpa using hown
   exact ⟨fun _=>hb0.trans (below_own ho1 hgr hb0.size),(fun _ h=>by cases h),fun _ _=>hown',(fun h=>by have h:dn 11=true:=h; rw [h11] at h; cases h),(fun h=>by have h:dn 15=true:=h; rw [h15] at h; cases h)⟩
  refine EachI.cons (MixOk.pure (by kernel_rfl) (fun _=>by kernel_rfl) (fun _ _=>by kernel_rfl)) ?_
  refine EachI.cons (MixOk.pure (by kernel_rfl) (fun _=>by kernel_rfl) (fun _ _=>by kernel_rfl)) ?_
  refine EachI.cons (MixOk.pure (by kernel_rfl) (fun _=>by kernel_rfl) (fun _ wx=>xs_upto _ _ _ _ _ _ _ _ ab b.length cb p wx (by kernel_rfl) (Eq.trans (b:=.int .i64 d.pw) (by kernel_rfl) (by rw [HP.out])) hncap)) ?_
  refine EachI.cons (MixOk.turn (by kernel_rfl) (fun dn ws wx hG hdep hcl hni=>?_)) ?_
  ·have h15:=not_done (hcl 15 11 (by kernel_rfl)) hni
   have hb0:=hG.g0 h15
   have hd7:dn 7=true:=hdep 7 (by kernel_rfl)
   have ho2:wx.ownsRow w3.heap.size 5 1 (ws 7) d.f0.length (byts d.f0):=hG.g2 hd7 hni
   refine turn_app _ _ _ _ _ _ _ (by kernel_rfl) w3.heap.size (ws 7) d.f0.length d.f0 (by kernel_rfl) ho2 (.slice ab p cb) (b.take p) (by kernel_rfl) (HS3.out.below (hb0.mono HB3.out.size)) (by rw [HTL.out]; omega) hb0.size (fun v' w' hown hgr=>?_)
   exact ⟨fun _=>hb0.trans (below_own ho2 hgr hb0.size),(fun _ h=>by have h:dn 7=false:=h; rw [hd7] at h; cases h),(fun _ h=>by cases h),fun _ _=>hown,(fun h=>by have h:dn 15=true:=h; rw [h15] at h; cases h)⟩
  refine EachI.cons (MixOk.pure (by kernel_rfl) (fun _=>by kernel_rfl) (fun _ _=>by kernel_rfl)) ?_
  refine EachI.cons (MixOk.pure (by kernel_rfl) (fun _=>by kernel_rfl) (fun _ _=>by kernel_rfl)) ?_
  refine EachI.cons (MixOk.pure (by kernel_rfl) (fun _=>by kernel_rfl) (fun _ _=>by kernel_rfl)) ?_
  refine EachI.cons (MixOk.turn (by kernel_rfl) (fun dn ws wx hG hdep hcl hni=>?_)) ?_
  ·have hb0:=hG.g0 hni
   have hd11:dn 11=true:=hdep 11 (by kernel_rfl)
   have hd7:dn 7=true:=hcl 11 7 (by kernel_rfl) hd11
   have ho3:wx.ownsRow w3.heap.size 5 1 (ws 11) (d.f0.length+(b.take p).length) (byts (d.f0 ++ b.take p)):=hG.g3 hd11 hni
   obtain ⟨sa,sc,se,_⟩:=(RdB.of_own ho3).open_
   have hA4:=HA3.out.below hb0
   refine turn_store _ _ _ _ _ _ _ (by kernel_rfl) ⟨w.heap.size,1,none⟩ _ sa _ sc (by kernel_rfl) (Eq.trans (b:=ws 11) (by kernel_rfl) se) (rb_of hA4).k1 (hA4.frozen 1) ?_
   rw [← se]
   exact ⟨(fun h=>by cases h),(fun _ h=>by have h:dn 7=false:=h; rw [hd7] at h; cases h),(fun _ h=>by have h:dn 11=false:=h; rw [hd11] at h; cases h),(fun _ h=>by cases h),fun _=>⟨wx,hb0,ho3,rfl⟩⟩
  exact EachI.nil
 ·intro ws L' hL' w6 hG6
  obtain ⟨w5,hb5,ho5,rfl⟩:=hG6.g4 rfl
  change w5.ownsRow _ _ _ (ws 11) _ _ at ho5
  simp only [setAll,mix,List.set_cons_succ,List.set_cons_zero,List.getElem?_cons_succ,List.getElem?_cons_zero,Option.join_some,Option.getD_some,Option.getD_none,Nat.reduceAdd] at hL'
  subst hL'
  change Exit.then _ _ Exit.normal _ (w5.setCell ⟨w.heap.size,1,none⟩ (ws 11))
  obtain ⟨sa,sc,se,_⟩:=(RdB.of_own ho5).open_
  obtain ⟨NN,hNN⟩:∃ N,(d.f0 ++ b.take p).length=N:=⟨_,rfl⟩
  rw [hNN] at se
  clear hNN
  have hA6:Blk (w5.setCell ⟨w.heap.size,1,none⟩ (ws 11)) w.heap.size 52 (rjC 0 (.slice sa NN sc) (.slice a1 d.f1.length c1) (.slice ae ne ce) gen fl ed sum down):=by have h:=(HA3.out.below hb5).set 1 (ws 11); rw [se] at h ⊢; exact h
  have hZ6:=(HZ3.out.below hb5).other (a:=⟨w.heap.size,1,none⟩) (by show w.heap.size+1 ≠ w.heap.size; omega) (ws 11)
  have hB6:=(HB3.out.trans (hb5.mono HB3.out.size)).setCell (p:=⟨w.heap.size,1,none⟩) (Nat.le_refl _) (ws 11)
  have hv6:=own_grown ho5 (Grown.setCell (S:=fun k=>k=w.heap.size) (Grown.refl _ w5) (a:=⟨w.heap.size,1,none⟩) rfl (ws 11)) (fun g hg _ e=>by have e:g=w.heap.size:=e; omega)
  rw [se] at hv6 hZ6 hB6 hA6 ⊢
  have HB6:=Lib.hid hB6
  have HV6:=Lib.hid hv6
  have HZ6:=Lib.hid hZ6
  have HA6:=Lib.hid hA6
  clear hG6 ho5 hb5 hA6 hZ6 hB6 hv6 se HTL HS3 HF3 HA3 HZ3 HB3
  generalize w5.setCell ⟨w.heap.size,1,none⟩ (.slice sa NN sc)=w6 at *
  have k8:=(rb_of HA6.out).k8
  have fr8:=HA6.out.frozen 8
  have hdn:decide (d.pw < (b.length:Int))=true:=decide_eq_true hpb
  go_upto_region 8 with (fail)
  change Code.wp _ _ _ _ (w6.setCell ⟨w.heap.size,8,none⟩ (.bool true))
  have HA7:Hid (Blk (w6.setCell ⟨w.heap.size,8,none⟩ (.bool true)) w.heap.size 52 (rjC 0 (.slice sa NN sc) (.slice a1 d.f1.length c1) (.slice ae ne ce) gen fl ed sum true)):=Lib.hid (HA6.out.set 8 (.bool true))
  have HZ7:=Lib.hid (HZ6.out.other (a:=⟨w.heap.size,8,none⟩) (by show w.heap.size+1 ≠ w.heap.size; omega) (.bool true))
  have HB7:=Lib.hid (HB6.out.setCell (p:=⟨w.heap.size,8,none⟩) (Nat.le_refl _) (.bool true))
  have HV7:=Lib.hid (own_grown HV6.out (Grown.setCell (S:=fun k=>k=w.heap.size) (Grown.refl _ w6) (a:=⟨w.heap.size,8,none⟩) rfl (.bool true)) (fun g hg _ e=>by have e:g=w.heap.size:=e; omega))
  clear k8 fr8 HA6 HZ6 HB6 HV6
  generalize w6.setCell ⟨w.heap.size,8,none⟩ (.bool true)=w7 at *
  obtain ⟨k0,k1,k2,k3,k4,k5,k6,k7,k8,_⟩:=rb_of HA7.out
  obtain ⟨z0,z1,z2,z3,z4,z5,z6,z7,z8,zf⟩:=rb_of HZ7.out
  have zf0:=zf 0
  have zf1:=zf 1
  have zf2:=zf 2
  have zf3:=zf 3
  have zf4:=zf 4
  have zf5:=zf 5
  have zf6:=zf 6
  have zf7:=zf 7
  have zf8:=zf 8
  clear zf
  go_wp2
  have hz9:=set9_blk HZ7.out (.int .i64 0) (.slice sa NN sc) (.slice a1 d.f1.length c1) (.slice ae ne ce) (.int .i64 gen) (.int .i64 fl) (.int .i64 ed) (.int .u64 sum) (.bool true)
  have hg9:=set9_grown w7 (w.heap.size+1) (.int .i64 0) (.slice sa NN sc) (.slice a1 d.f1.length c1) (.slice ae ne ce) (.int .i64 gen) (.int .i64 fl) (.int .i64 ed) (.int .u64 sum) (.bool true)
  change bodyPost _ _ _ _ _ (set9 w7 (w.heap.size+1) (.int .i64 0) (.slice sa NN sc) (.slice a1 d.f1.length c1) (.slice ae ne ce) (.int .i64 gen) (.int .i64 fl) (.int .i64 ed) (.int .u64 sum) (.bool true))
  generalize set9 w7 (w.heap.size+1) (.int .i64 0) (.slice sa NN sc) (.slice a1 d.f1.length c1) (.slice ae ne ce) (.int .i64 gen) (.int .i64 fl) (.int .i64 ed) (.int .u64 sum) (.bool true)=w8 at *
  obtain ⟨j0,j1,j2,j3,j4,j5,j6,j7,j8,_⟩:=rb_of hz9
  have hB8:=HB7.out.trans (hg9.below (fun k e=>by have e:k=w.heap.size+1:=e; omega) HB7.out.size)
  have hR8:RdB w8 w8.heap.size (.slice sa NN sc) (d.f0 ++ b.take p):=by
   have h:=own_grown HV7.out hg9 (fun g hg _ e=>by have e:g=w.heap.size+1:=e; omega)
   exact RdB.of_own h
  exact bodyPost_ret (v:=rjV 0 (.slice sa NN sc) (.slice a1 d.f1.length c1) (.slice ae ne ce) gen fl ed sum true) (by simp [results,Tryz.results58,go_sem,j0,j1,j2,j3,j4,j5,j6,j7,j8]) rfl ⟨⟨_,rfl,(by first | exact hR8 | (rw [List.take_length] at hR8; exact hR8))⟩,hB8⟩
set_option maxRecDepth 100000 in
set_option maxHeartbeats 2000000 in
theorem rwrite_0C (d:DS) (a0 a1 ae ab:Option Addr) (c0 c1 ne ce cb:Nat) (gen fl ed sum:Int) (down:Bool) (b:List UInt8) (w:World) (hr:RD w (.slice a0 d.f0.length c0) (.slice a1 d.f1.length c1) d) (hb:RdB w w.heap.size (.slice ab b.length cb) b) (hd:d.Ok) (hbl:b.length≤1073741824) (hp:(b.length:Int)≤d.pw) :
 Calls Tryz.prog 58 #[rjV d.pw (.slice a0 d.f0.length c0) (.slice a1 d.f1.length c1) (.slice ae ne ce) gen fl ed sum down,.int .i64 0,.slice ab b.length cb] w fun e w'=>(∃ v,e=.returned (rjV (d.pw - b.length) (v) (.slice a1 d.f1.length c1) (.slice ae ne ce) gen fl ed sum false)∧RdB w' w'.heap.size v (d.f0 ++ b.take b.length))∧Below w.heap.size w w':=by
 have hpw0:=hd.pw0
 have hpw1:=hd.pw1
 have hlf:=hd.f0
 obtain ⟨tA,tZ,tB,tS⟩:=rb_two w d.pw (.slice a0 d.f0.length c0) (.slice a1 d.f1.length c1) (.slice ae ne ce) gen fl ed sum down
 have HA:=Lib.hid tA
 have HZ:=Lib.hid tZ
 have HB:=Lib.hid tB
 have HRF:=Lib.hid (hr.r0.below tB)
 obtain ⟨ab',cb',eb,hbm,hbn,hbc⟩:=hb.open_
 simp only [Value.slice.injEq,true_and] at eb
 obtain ⟨rfl,rfl⟩:=eb
 have hncap:b.length≤cb:=by
  rcases hbc with h | ⟨g,off,_,h,_⟩
  ·rw [h]; exact Nat.zero_le _
  ·omega
 have HSRC:Hid (RdB w w.heap.size (.slice ab b.length cb) (b.take b.length)):=Lib.hid (by
  rw [List.take_length]; exact hb)
 clear tA tZ tB tS hbc hbn hb hr
 go_enter Tryz.func58,Tryz.ntmps58
 go_upto_region 1 with (fail)
 change Code.wp _ _ _ _ ((w.alloc (.cells (rjC d.pw (.slice a0 d.f0.length c0) (.slice a1 d.f1.length c1) (.slice ae ne ce) gen fl ed sum down).toArray 52)).alloc (.cells (rjC 0 (.slice none 0 0) (.slice none 0 0) (.slice none 0 0) 0 0 0 0 false).toArray 52))
 generalize (w.alloc (.cells (rjC d.pw (.slice a0 d.f0.length c0) (.slice a1 d.f1.length c1) (.slice ae ne ce) gen fl ed sum down).toArray 52)).alloc (.cells (rjC 0 (.slice none 0 0) (.slice none 0 0) (.slice none 0 0) 0 0 0 0 false).toArray 52)=w2 at *
 obtain ⟨k0,k1,k2,k3,k4,k5,k6,k7,k8,fr⟩:=rb_of HA.out
 have fr0:=fr 0
 have fr1:=fr 1
 clear fr
 have t0:decide ((0:Int)≤d.pw)=true:=decide_eq_true (by omega)
 have t1:decide (d.pw < (b.length:Int))=false:=decide_eq_false (by omega)
 go_upto_region 6 with (fail)
 have HA3:=Lib.hid (HA.out.set 0 (.int .i64 (d.pw - b.length)))
 have HZ3:=Lib.hid (HZ.out.other (a:=⟨w.heap.size,0,none⟩) (by show w.heap.size+1 ≠ w.heap.size; omega) (.int .i64 (d.pw - b.length)))
 have HB3:=Lib.hid (HB.out.setCell (p:=⟨w.heap.size,0,none⟩) (Nat.le_refl _) (.int .i64 (d.pw - b.length)))
 change Code.wp _ _ _ _ (w2.setCell ⟨w.heap.size,0,none⟩ (.int .i64 (d.pw - b.length)))
 generalize hw3:w2.setCell ⟨w.heap.size,0,none⟩ (.int .i64 (d.pw - b.length))=w3 at *
 have hb23:Below w.heap.size w2 w3:=by subst hw3; exact (Below.refl _ _).setCell (p:=⟨w.heap.size,0,none⟩) (Nat.le_refl _) _
 have HF3:=Lib.hid (HRF.out.below hb23)
 have HS3:=Lib.hid (HSRC.out.below HB3.out)
 have htl:(b.take b.length).length=b.length:=by rw [List.length_take]; omega
 have HTL:=Lib.hid htl
 have hAlt:=HA3.out.lt
 have hZlt:=HZ3.out.lt
 clear hw3 hb23 HRF HSRC HA HZ HB htl k0 k1 k2 k3 k4 k5 k6 k7 k8 fr0 fr1
 refine wp_region_mix (by kernel_rfl) (by kernel_rfl) (by kernel_rfl) [some (.int .i64 0),none,some (.int .i64 0),some (.pointer (some ⟨w.heap.size,0,none⟩)),some (.pointer (some ⟨w.heap.size,1,none⟩)),some (.pointer (some ⟨w.heap.size,1,none⟩)),some (.slice a0 d.f0.length c0),none,some (.slice ab b.length cb),some (.int .i64 (b.length:Int)),some (.slice ab b.length cb),none,some (.pointer (some ⟨w.heap.size,0,none⟩)),some (.pointer (some ⟨w.heap.size,1,none⟩)),some (.pointer (some ⟨w.heap.size,1,none⟩)),none] [1,7,11,15] (by kernel_rfl) (by kernel_rfl) (WrG w3 w.heap.size 1 d.f0 (b.take b.length)) ⟨fun _=>bl_drew w3,(fun h=>by cases h),(fun h=>by cases h),(fun h=>by cases h),(fun h=>by cases h)⟩ ?_ ?_
 ·refine EachI.cons (MixOk.pure (by kernel_rfl) (fun _=>by kernel_rfl) (fun _ _=>by kernel_rfl)) ?_
  refine EachI.cons (MixOk.turn (by kernel_rfl) (fun dn ws wx hG hdep hcl hni=>?_)) ?_
  ·have h7:=not_done (hcl 7 1 (by kernel_rfl)) hni
   have h11:=not_done (hcl 11 7 (by kernel_rfl)) h7
   have h15:=not_done (hcl 15 11 (by kernel_rfl)) h11
   have hb0:=hG.g0 h15
   have hba:=(Below.refl wx.heap.size wx).alloc (Nat.le_refl _) (.cells #[] 5)
   exact turn_run (by kernel_rfl) (.slice (some ⟨wx.heap.size,0,none⟩) 0 0) (wx.alloc (.cells #[] 5)) (by kernel_rfl) ⟨fun _=>hb0.trans (hba.mono hb0.size),fun _ _=>own_lit wx w3.heap.size [] (by simp [maxLen]) 0 rfl hb0.size,(fun h=>by have h:dn 7=true:=h; rw [h7] at h; cases h),(fun h=>by have h:dn 11=true:=h; rw [h11] at h; cases h),(fun h=>by have h:dn 15=true:=h; rw [h15] at h; cases h)⟩
  refine EachI.cons (MixOk.pure (by kernel_rfl) (fun _=>by kernel_rfl) (fun _ _=>by kernel_rfl)) ?_
  refine EachI.cons (MixOk.pure (by kernel_rfl) (fun _=>by kernel_rfl) (fun _ _=>by kernel_rfl)) ?_
  refine EachI.cons (MixOk.pure (by kernel_rfl) (fun _=>by kernel_rfl) (fun _ _=>by kernel_rfl)) ?_
  refine EachI.cons (MixOk.pure (by kernel_rfl) (fun _=>by kernel_rfl) (fun _ _=>by kernel_rfl)) ?_
  refine EachI.cons (MixOk.look (by kernel_rfl) (fun _=>by kernel_rfl) (fun dn ws wx hG hdep hcl hni=>?_)) ?_
  ·have h7:=not_done (hcl 7 6 (by kernel_rfl)) hni
   have h11:=not_done (hcl 11 7 (by kernel_rfl)) h7
   have h15:=not_done (hcl 15 11 (by kernel_rfl)) h11
   exact xr_bytes _ _ _ _ _ _ _ ⟨w.heap.size,1,none⟩ _ wx (by kernel_rfl) (rb_of (HA3.out.below (hG.g0 h15))).k1
  refine EachI.cons (MixOk.turn (by kernel_rfl) (fun dn ws wx hG hdep hcl hni=>?_)) ?_
  ·have h11:=not_done (hcl 11 7 (by kernel_rfl)) hni
   have h15:=not_done (hcl 15 11 (by kernel_rfl)) h11
   have hb0:=hG.g0 h15
   have hd1:dn 1=true:=hdep 1 (by kernel_rfl)
   have ho1:wx.ownsRow w3.heap.size 5 1 (ws 1) 0 (byts []):=hG.g1 hd1 hni
   refine turn_app _ _ _ _ _ _ _ (by kernel_rfl) w3.heap.size (ws 1) 0 [] (by kernel_rfl) ho1 (.slice a0 d.f0.length c0) d.f0 (by kernel_rfl) (HF3.out.below (hb0.mono HB3.out.size)) (by omega) hb0.size (fun v' w' hown hgr=>?_)
   have hown':w'.ownsRow w3.heap.size 5 1 v' d.f0.length (byts d.f0):=by simpa using hown
   exact ⟨fun _=>hb0.trans (below_own ho1 hgr hb0.size),(fun _ h=>by cases h),fun _ _=>hown',(fun h=>by have h:dn 11=true:=h; rw [h11] at h; cases h),(fun h=>by have h:dn 15=true:=h; rw [h15] at h; cases h)⟩
  refine EachI.cons (MixOk.pure (by kernel_rfl) (fun _=>by kernel_rfl) (fun _ _=>by kernel_rfl)) ?_
  refine EachI.cons (MixOk.pure (by kernel_rfl) (fun _=>by kernel_rfl) (fun _ _=>by kernel_rfl)) ?_
  refine EachI.cons (MixOk.pure (by kernel_rfl) (fun _=>by kernel_rfl) (fun _ wx=>xs_upto _ _ _ _ _ _ _ _ ab b.length cb b.length wx (by kernel_rfl) (by kernel_rfl) hncap)) ?_
  refine EachI.cons (MixOk.turn (by kernel_rfl) (fun dn ws wx hG hdep hcl hni=>?_)) ?_
  ·have h15:=not_done (hcl 15 11 (by kernel_rfl)) hni
   have hb0:=hG.g0 h15
   have hd7:dn 7=true:=hdep 7 (by kernel_rfl)
   have ho2:wx.ownsRow w3.heap.size 5 1 (ws 7) d.f0.length (byts d.f0):=hG.g2 hd7 hni
   refine turn_app _ _ _ _ _ _ _ (by kernel_rfl) w3.heap.size (ws 7) d.f0.length d.f0 (by kernel_rfl) ho2 (.slice ab b.length cb) (b.take b.length) (by kernel_rfl) (HS3.out.below (hb0.mono HB3.out.size)) (by rw [HTL.out]; omega) hb0.size (fun v' w' hown hgr=>?_)
   exact ⟨fun _=>hb0.trans (below_own ho2 hgr hb0.size),(fun _ h=>by have h:dn 7=false:=h; rw [hd7] at h; cases h),(fun _ h=>by cases h),fun _ _=>hown,(fun h=>by have h:dn 15=true:=h; rw [h15] at h; cases h)⟩
  refine EachI.cons (MixOk.pure (by kernel_rfl) (fun _=>by kernel_rfl) (fun _ _=>by kernel_rfl)) ?_
  refine EachI.cons (MixOk.pure (by kernel_rfl) (fun _=>by kernel_rfl) (fun _ _=>by kernel_rfl)) ?_
  refine EachI.cons (MixOk.pure (by kernel_rfl) (fun _=>by kernel_rfl) (fun _ _=>by kernel_rfl)) ?_
  refine EachI.cons (MixOk.turn (by kernel_rfl) (fun dn ws wx hG hdep hcl hni=>?_)) ?_
  ·have hb0:=hG.g0 hni
   have hd11:dn 11=true:=hdep 11 (by kernel_rfl)
   have hd7:dn 7=true:=hcl 11 7 (by kernel_rfl) hd11
   have ho3:wx.ownsRow w3.heap.size 5 1 (ws 11) (d.f0.length+(b.take b.length).length) (byts (d.f0 ++ b.take b.length)):=hG.g3 hd11 hni
   obtain ⟨sa,sc,se,_⟩:=(RdB.of_own ho3).open_
   have hA4:=HA3.out.below hb0
   refine turn_store _ _ _ _ _ _ _ (by kernel_rfl) ⟨w.heap.size,1,none⟩ _ sa _ sc (by kernel_rfl) (Eq.trans (b:=ws 11) (by kernel_rfl) se) (rb_of hA4).k1 (hA4.frozen 1) ?_
   rw [← se]
   exact ⟨(fun h=>by cases h),(fun _ h=>by have h:dn 7=false:=h; rw [hd7] at h; cases h),(fun _ h=>by have h:dn 11=false:=h; rw [hd11] at h; cases h),(fun _ h=>by cases h),fun _=>⟨wx,hb0,ho3,rfl⟩⟩
  exact EachI.nil
 ·intro ws L' hL' w6 hG6
  obtain ⟨w5,hb5,ho5,rfl⟩:=hG6.g4 rfl
  change w5.ownsRow _ _ _ (ws 11) _ _ at ho5
  simp only [setAll,mix,List.set_cons_succ,List.set_cons_zero,List.getElem?_cons_succ,List.getElem?_cons_zero,Option.join_some,Option.getD_some,Option.getD_none,Nat.reduceAdd] at hL'
  subst hL'
  change Exit.then _ _ Exit.normal _ (w5.setCell ⟨w.heap.size,1,none⟩ (ws 11))
  obtain ⟨sa,sc,se,_⟩:=(RdB.of_own ho5).open_
  obtain ⟨NN,hNN⟩:∃ N,(d.f0 ++ b.take b.length).length=N:=⟨_,rfl⟩
  rw [hNN] at se
  clear hNN
  have hA6:Blk (w5.setCell ⟨w.heap.size,1,none⟩ (ws 11)) w.heap.size 52 (rjC (d.pw - b.length) (.slice sa NN sc) (.slice a1 d.f1.length c1) (.slice ae ne ce) gen fl ed sum down):=by have h:=(HA3.out.below hb5).set 1 (ws 11); rw [se] at h ⊢; exact h
  have hZ6:=(HZ3.out.below hb5).other (a:=⟨w.heap.size,1,none⟩) (by show w.heap.size+1 ≠ w.heap.size; omega) (ws 11)
  have hB6:=(HB3.out.trans (hb5.mono HB3.out.size)).setCell (p:=⟨w.heap.size,1,none⟩) (Nat.le_refl _) (ws 11)
  have hv6:=own_grown ho5 (Grown.setCell (S:=fun k=>k=w.heap.size) (Grown.refl _ w5) (a:=⟨w.heap.size,1,none⟩) rfl (ws 11)) (fun g hg _ e=>by have e:g=w.heap.size:=e; omega)
  rw [se] at hv6 hZ6 hB6 hA6 ⊢
  have HB6:=Lib.hid hB6
  have HV6:=Lib.hid hv6
  have HZ6:=Lib.hid hZ6
  have HA6:=Lib.hid hA6
  clear hG6 ho5 hb5 hA6 hZ6 hB6 hv6 se HTL HS3 HF3 HA3 HZ3 HB3
  generalize w5.setCell ⟨w.heap.size,1,none⟩ (.slice sa NN sc)=w6 at *
  have k8:=(rb_of HA6.out).k8
  have fr8:=HA6.out.frozen 8
  have hdn:decide ((b.length:Int) < (b.length:Int))=false:=by simp
  go_upto_region 8 with (fail)
  change Code.wp _ _ _ _ (w6.setCell ⟨w.heap.size,8,none⟩ (.bool false))
  have HA7:Hid (Blk (w6.setCell ⟨w.heap.size,8,none⟩ (.bool false)) w.heap.size 52 (rjC (d.pw - b.length) (.slice sa NN sc) (.slice a1 d.f1.length c1) (.slice ae ne ce) gen fl ed sum false)):=Lib.hid (HA6.out.set 8 (.bool false))
  have HZ7:=Lib.hid (HZ6.out.other (a:=⟨w.heap.size,8,none⟩) (by show w.heap.size+1 ≠ w.heap.size; omega) (.bool false))
  have HB7:=Lib.hid (HB6.out.setCell (p:=⟨w.heap.size,8,none⟩) (Nat.le_refl _) (.bool false))
  have HV7:=Lib.hid (own_grown HV6.out (Grown.setCell (S:=fun k=>k=w.heap.size) (Grown.refl _ w6) (a:=⟨w.heap.size,8,none⟩) rfl (.bool false)) (fun g hg _ e=>by have e:g=w.heap.size:=e; omega))
  clear k8 fr8 HA6 HZ6 HB6 HV6
  generalize w6.setCell ⟨w.heap.size,8,none⟩ (.bool false)=w7 at *
  obtain ⟨k0,k1,k2,k3,k4,k5,k6,k7,k8,_⟩:=rb_of HA7.out
  obtain ⟨z0,z1,z2,z3,z4,z5,z6,z7,z8,zf⟩:=rb_of HZ7.out
  have zf0:=zf 0
  have zf1:=zf 1
  have zf2:=zf 2
  have zf3:=zf 3
  have zf4:=zf 4
  have zf5:=zf 5
  have zf6:=zf 6
  have zf7:=zf 7
  have zf8:=zf 8
  clear zf
  go_wp2
  have hz9:=set9_blk HZ7.out (.int .i64 (d.pw - b.length)) (.slice sa NN sc) (.slice a1 d.f1.length c1) (.slice ae ne ce) (.int .i64 gen) (.int .i64 fl) (.int .i64 ed) (.int .u64 sum) (.bool false)
  have hg9:=set9_grown w7 (w.heap.size+1) (.int .i64 (d.pw - b.length)) (.slice sa NN sc) (.slice a1 d.f1.length c1) (.slice ae ne ce) (.int .i64 gen) (.int .i64 fl) (.int .i64 ed) (.int .u64 sum) (.bool false)
  change bodyPost _ _ _ _ _ (set9 w7 (w.heap.size+1) (.int .i64 (d.pw - b.length)) (.slice sa NN sc) (.slice a1 d.f1.length c1) (.slice ae ne ce) (.int .i64 gen) (.int .i64 fl) (.int .i64 ed) (.int .u64 sum) (.bool false))
  generalize set9 w7 (w.heap.size+1) (.int .i64 (d.pw - b.length)) (.slice sa NN sc) (.slice a1 d.f1.length c1) (.slice ae ne ce) (.int .i64 gen) (.int .i64 fl) (.int .i64 ed) (.int .u64 sum) (.bool false)=w8 at *
  obtain ⟨j0,j1,j2,j3,j4,j5,j6,j7,j8,_⟩:=rb_of hz9
  have hB8:=HB7.out.trans (hg9.below (fun k e=>by have e:k=w.heap.size+1:=e; omega) HB7.out.size)
  have hR8:RdB w8 w8.heap.size (.slice sa NN sc) (d.f0 ++ b.take b.length):=by
   have h:=own_grown HV7.out hg9 (fun g hg _ e=>by have e:g=w.heap.size+1:=e; omega)
   exact RdB.of_own h
  exact bodyPost_ret (v:=rjV (d.pw - b.length) (.slice sa NN sc) (.slice a1 d.f1.length c1) (.slice ae ne ce) gen fl ed sum false) (by simp [results,Tryz.results58,go_sem,j0,j1,j2,j3,j4,j5,j6,j7,j8]) rfl ⟨⟨_,rfl,(by first | exact hR8 | (rw [List.take_length] at hR8; exact hR8))⟩,hB8⟩
set_option maxRecDepth 100000 in
set_option maxHeartbeats 2000000 in
theorem rwrite_1A (d:DS) (a0 a1 ae ab:Option Addr) (c0 c1 ne ce cb:Nat) (gen fl ed sum:Int) (down:Bool) (b:List UInt8) (w:World) (hr:RD w (.slice a0 d.f0.length c0) (.slice a1 d.f1.length c1) d) (hb:RdB w w.heap.size (.slice ab b.length cb) b) (hd:d.Ok) (hbl:b.length≤1073741824) (hp:d.pw < 0) :
 Calls Tryz.prog 58 #[rjV d.pw (.slice a0 d.f0.length c0) (.slice a1 d.f1.length c1) (.slice ae ne ce) gen fl ed sum down,.int .i64 1,.slice ab b.length cb] w fun e w'=>(∃ v,e=.returned (rjV d.pw (.slice a0 d.f0.length c0) (v) (.slice ae ne ce) gen fl ed sum false)∧RdB w' w'.heap.size v (d.f1 ++ b.take b.length))∧Below w.heap.size w w':=by
 have hpw0:=hd.pw0
 have hpw1:=hd.pw1
 have hlf:=hd.f1
 obtain ⟨tA,tZ,tB,tS⟩:=rb_two w d.pw (.slice a0 d.f0.length c0) (.slice a1 d.f1.length c1) (.slice ae ne ce) gen fl ed sum down
 have HA:=Lib.hid tA
 have HZ:=Lib.hid tZ
 have HB:=Lib.hid tB
 have HRF:=Lib.hid (hr.r1.below tB)
 obtain ⟨ab',cb',eb,hbm,hbn,hbc⟩:=hb.open_
 simp only [Value.slice.injEq,true_and] at eb
 obtain ⟨rfl,rfl⟩:=eb
 have hncap:b.length≤cb:=by
  rcases hbc with h | ⟨g,off,_,h,_⟩
  ·rw [h]; exact Nat.zero_le _
  ·omega
 have HSRC:Hid (RdB w w.heap.size (.slice ab b.length cb) (b.take b.length)):=Lib.hid (by
  rw [List.take_length]; exact hb)
 clear tA tZ tB tS hbc hbn hb hr
 go_enter Tryz.func58,Tryz.ntmps58
 go_upto_region 1 with (fail)
 change Code.wp _ _ _ _ ((w.alloc (.cells (rjC d.pw (.slice a0 d.f0.length c0) (.slice a1 d.f1.length c1) (.slice ae ne ce) gen fl ed sum down).toArray 52)).alloc (.cells (rjC 0 (.slice none 0 0) (.slice none 0 0) (.slice none 0 0) 0 0 0 0 false).toArray 52))
 generalize (w.alloc (.cells (rjC d.pw (.slice a0 d.f0.length c0) (.slice a1 d.f1.length c1) (.slice ae ne ce) gen fl ed sum down).toArray 52)).alloc (.cells (rjC 0 (.slice none 0 0) (.slice none 0 0) (.slice none 0 0) 0 0 0 0 false).toArray 52)=w2 at *
 obtain ⟨k0,k1,k2,k3,k4,k5,k6,k7,k8,fr⟩:=rb_of HA.out
 have fr0:=fr 0
 have fr2:=fr 2
 clear fr
 have t1:decide ((0:Int)≤d.pw)=false:=decide_eq_false (by omega)
 have t2:¬ ((0:Int)≤d.pw):=by omega
 go_upto_region 6 with (fail)
 have HA3:=HA
 have HZ3:=HZ
 have HB3:=HB
 generalize hw3:w2=w3 at *
 have hb23:Below w.heap.size w3 w3:=Below.refl _ _
 have HF3:=Lib.hid (HRF.out.below hb23)
 have HS3:=Lib.hid (HSRC.out.below HB3.out)
 have htl:(b.take b.length).length=b.length:=by rw [List.length_take]; omega
 have HTL:=Lib.hid htl
 have hAlt:=HA3.out.lt
 have hZlt:=HZ3.out.lt
 clear hw3 hb23 HRF HSRC HA HZ HB htl k0 k1 k2 k3 k4 k5 k6 k7 k8 fr0 fr2
 refine wp_region_mix (by kernel_rfl) (by kernel_rfl) (by kernel_rfl) [some (.int .i64 1),none,some (.int .i64 1),some (.pointer (some ⟨w.heap.size,0,none⟩)),some (.pointer (some ⟨w.heap.size,1,none⟩)),some (.pointer (some ⟨w.heap.size,2,none⟩)),some (.slice a1 d.f1.length c1),none,some (.slice ab b.length cb),some (.int .i64 (b.length:Int)),some (.slice ab b.length cb),none,some (.pointer (some ⟨w.heap.size,0,none⟩)),some (.pointer (some ⟨w.heap.size,1,none⟩)),some (.pointer (some ⟨w.heap.size,2,none⟩)),none] [1,7,11,15] (by kernel_rfl) (by kernel_rfl) (WrG w3 w.heap.size 2 d.f1 (b.take b.length)) ⟨fun _=>bl_drew w3,(fun h=>by cases h),(fun h=>by cases h),(fun h=>by cases h),(fun h=>by cases h)⟩ ?_ ?_
 ·refine EachI.cons (MixOk.pure (by kernel_rfl) (fun _=>by kernel_rfl) (fun _ _=>by kernel_rfl)) ?_
  refine EachI.cons (MixOk.turn (by kernel_rfl) (fun dn ws wx hG hdep hcl hni=>?_)) ?_
  ·have h7:=not_done (hcl 7 1 (by kernel_rfl)) hni
   have h11:=not_done (hcl 11 7 (by kernel_rfl)) h7
   have h15:=not_done (hcl 15 11 (by kernel_rfl)) h11
   have hb0:=hG.g0 h15
   have hba:=(Below.refl wx.heap.size wx).alloc (Nat.le_refl _) (.cells #[] 5)
   exact turn_run (by kernel_rfl) (.slice (some ⟨wx.heap.size,0,none⟩) 0 0) (wx.alloc (.cells #[] 5)) (by kernel_rfl) ⟨fun _=>hb0.trans (hba.mono hb0.size),fun _ _=>own_lit wx w3.heap.size [] (by simp [maxLen]) 0 rfl hb0.size,(fun h=>by have h:dn 7=true:=h; rw [h7] at h; cases h),(fun h=>by have h:dn 11=true:=h; rw [h11] at h; cases h),(fun h=>by have h:dn 15=true:=h; rw [h15] at h; cases h)⟩
  refine EachI.cons (MixOk.pure (by kernel_rfl) (fun _=>by kernel_rfl) (fun _ _=>by kernel_rfl)) ?_
  refine EachI.cons (MixOk.pure (by kernel_rfl) (fun _=>by kernel_rfl) (fun _ _=>by kernel_rfl)) ?_
  refine EachI.cons (MixOk.pure (by kernel_rfl) (fun _=>by kernel_rfl) (fun _ _=>by kernel_rfl)) ?_
  refine EachI.cons (MixOk.pure (by kernel_rfl) (fun _=>by kernel_rfl) (fun _ _=>by kernel_rfl)) ?_
  refine EachI.cons (MixOk.look (by kernel_rfl) (fun _=>by kernel_rfl) (fun dn ws wx hG hdep hcl hni=>?_)) ?_
  ·have h7:=not_done (hcl 7 6 (by kernel_rfl)) hni
   have h11:=not_done (hcl 11 7 (by kernel_rfl)) h7
   have h15:=not_done (hcl 15 11 (by kernel_rfl)) h11
   exact xr_bytes _ _ _ _ _ _ _ ⟨w.heap.size,2,none⟩ _ wx (by kernel_rfl) (rb_of (HA3.out.below (hG.g0 h15))).k2
  refine EachI.cons (MixOk.turn (by kernel_rfl) (fun dn ws wx hG hdep hcl hni=>?_)) ?_
  ·have h11:=not_done (hcl 11 7 (by kernel_rfl)) hni
   have h15:=not_done (hcl 15 11 (by kernel_rfl)) h11
   have hb0:=hG.g0 h15
   have hd1:dn 1=true:=hdep 1 (by kernel_rfl)
   have ho1:wx.ownsRow w3.heap.size 5 1 (ws 1) 0 (byts []):=hG.g1 hd1 hni
   refine turn_app _ _ _ _ _ _ _ (by kernel_rfl) w3.heap.size (ws 1) 0 [] (by kernel_rfl) ho1 (.slice a1 d.f1.length c1) d.f1 (by kernel_rfl) (HF3.out.below (hb0.mono HB3.out.size)) (by omega) hb0.size (fun v' w' hown hgr=>?_)
   have hown':w'.ownsRow w3.heap.size 5 1 v' d.f1.length (byts d.f1):=by simpa using hown
   exact ⟨fun _=>hb0.trans (below_own ho1 hgr hb0.size),(fun _ h=>by cases h),fun _ _=>hown',(fun h=>by have h:dn 11=true:=h; rw [h11] at h; cases h),(fun h=>by have h:dn 15=true:=h; rw [h15] at h; cases h)⟩
  refine EachI.cons (MixOk.pure (by kernel_rfl) (fun _=>by kernel_rfl) (fun _ _=>by kernel_rfl)) ?_
  refine EachI.cons (MixOk.pure (by kernel_rfl) (fun _=>by kernel_rfl) (fun _ _=>by kernel_rfl)) ?_
  refine EachI.cons (MixOk.pure (by kernel_rfl) (fun _=>by kernel_rfl) (fun _ wx=>xs_upto _ _ _ _ _ _ _ _ ab b.length cb b.length wx (by kernel_rfl) (by kernel_rfl) hncap)) ?_
  refine EachI.cons (MixOk.turn (by kernel_rfl) (fun dn ws wx hG hdep hcl hni=>?_)) ?_
  ·have h15:=not_done (hcl 15 11 (by kernel_rfl)) hni
   have hb0:=hG.g0 h15
   have hd7:dn 7=true:=hdep 7 (by kernel_rfl)
   have ho2:wx.ownsRow w3.heap.size 5 1 (ws 7) d.f1.length (byts d.f1):=hG.g2 hd7 hni
   refine turn_app _ _ _ _ _ _ _ (by kernel_rfl) w3.heap.size (ws 7) d.f1.length d.f1 (by kernel_rfl) ho2 (.slice ab b.length cb) (b.take b.length) (by kernel_rfl) (HS3.out.below (hb0.mono HB3.out.size)) (by rw [HTL.out]; omega) hb0.size (fun v' w' hown hgr=>?_)
   exact ⟨fun _=>hb0.trans (below_own ho2 hgr hb0.size),(fun _ h=>by have h:dn 7=false:=h; rw [hd7] at h; cases h),(fun _ h=>by cases h),fun _ _=>hown,(fun h=>by have h:dn 15=true:=h; rw [h15] at h; cases h)⟩
  refine EachI.cons (MixOk.pure (by kernel_rfl) (fun _=>by kernel_rfl) (fun _ _=>by kernel_rfl)) ?_
  refine EachI.cons (MixOk.pure (by kernel_rfl) (fun _=>by kernel_rfl) (fun _ _=>by kernel_rfl)) ?_
  refine EachI.cons (MixOk.pure (by kernel_rfl) (fun _=>by kernel_rfl) (fun _ _=>by kernel_rfl)) ?_
  refine EachI.cons (MixOk.turn (by kernel_rfl) (fun dn ws wx hG hdep hcl hni=>?_)) ?_
  ·have hb0:=hG.g0 hni
   have hd11:dn 11=true:=hdep 11 (by kernel_rfl)
   have hd7:dn 7=true:=hcl 11 7 (by kernel_rfl) hd11
   have ho3:wx.ownsRow w3.heap.size 5 1 (ws 11) (d.f1.length+(b.take b.length).length) (byts (d.f1 ++ b.take b.length)):=hG.g3 hd11 hni
   obtain ⟨sa,sc,se,_⟩:=(RdB.of_own ho3).open_
   have hA4:=HA3.out.below hb0
   refine turn_store _ _ _ _ _ _ _ (by kernel_rfl) ⟨w.heap.size,2,none⟩ _ sa _ sc (by kernel_rfl) (Eq.trans (b:=ws 11) (by kernel_rfl) se) (rb_of hA4).k2 (hA4.frozen 2) ?_
   rw [← se]
   exact ⟨(fun h=>by cases h),(fun _ h=>by have h:dn 7=false:=h; rw [hd7] at h; cases h),(fun _ h=>by have h:dn 11=false:=h; rw [hd11] at h; cases h),(fun _ h=>by cases h),fun _=>⟨wx,hb0,ho3,rfl⟩⟩
  exact EachI.nil
 ·intro ws L' hL' w6 hG6
  obtain ⟨w5,hb5,ho5,rfl⟩:=hG6.g4 rfl
  change w5.ownsRow _ _ _ (ws 11) _ _ at ho5
  simp only [setAll,mix,List.set_cons_succ,List.set_cons_zero,List.getElem?_cons_succ,List.getElem?_cons_zero,Option.join_some,Option.getD_some,Option.getD_none,Nat.reduceAdd] at hL'
  subst hL'
  change Exit.then _ _ Exit.normal _ (w5.setCell ⟨w.heap.size,2,none⟩ (ws 11))
  obtain ⟨sa,sc,se,_⟩:=(RdB.of_own ho5).open_
  obtain ⟨NN,hNN⟩:∃ N,(d.f1 ++ b.take b.length).length=N:=⟨_,rfl⟩
  rw [hNN] at se
  clear hNN
  have hA6:Blk (w5.setCell ⟨w.heap.size,2,none⟩ (ws 11)) w.heap.size 52 (rjC d.pw (.slice a0 d.f0.length c0) (.slice sa NN sc) (.slice ae ne ce) gen fl ed sum down):=by have h:=(HA3.out.below hb5).set 2 (ws 11); rw [se] at h ⊢; exact h
  have hZ6:=(HZ3.out.below hb5).other (a:=⟨w.heap.size,2,none⟩) (by show w.heap.size+1 ≠ w.heap.size; omega) (ws 11)
  have hB6:=(HB3.out.trans (hb5.mono HB3.out.size)).setCell (p:=⟨w.heap.size,2,none⟩) (Nat.le_refl _) (ws 11)
  have hv6:=own_grown ho5 (Grown.setCell (S:=fun k=>k=w.heap.size) (Grown.refl _ w5) (a:=⟨w.heap.size,2,none⟩) rfl (ws 11)) (fun g hg _ e=>by have e:g=w.heap.size:=e; omega)
  rw [se] at hv6 hZ6 hB6 hA6 ⊢
  have HB6:=Lib.hid hB6
  have HV6:=Lib.hid hv6
  have HZ6:=Lib.hid hZ6
  have HA6:=Lib.hid hA6
  clear hG6 ho5 hb5 hA6 hZ6 hB6 hv6 se HTL HS3 HF3 HA3 HZ3 HB3
  generalize w5.setCell ⟨w.heap.size,2,none⟩ (.slice sa NN sc)=w6 at *
  have k8:=(rb_of HA6.out).k8
  have fr8:=HA6.out.frozen 8
  have hdn:decide ((b.length:Int) < (b.length:Int))=false:=by simp
  go_upto_region 8 with (fail)
  change Code.wp _ _ _ _ (w6.setCell ⟨w.heap.size,8,none⟩ (.bool false))
  have HA7:Hid (Blk (w6.setCell ⟨w.heap.size,8,none⟩ (.bool false)) w.heap.size 52 (rjC d.pw (.slice a0 d.f0.length c0) (.slice sa NN sc) (.slice ae ne ce) gen fl ed sum false)):=Lib.hid (HA6.out.set 8 (.bool false))
  have HZ7:=Lib.hid (HZ6.out.other (a:=⟨w.heap.size,8,none⟩) (by show w.heap.size+1 ≠ w.heap.size; omega) (.bool false))
  have HB7:=Lib.hid (HB6.out.setCell (p:=⟨w.heap.size,8,none⟩) (Nat.le_refl _) (.bool false))
  have HV7:=Lib.hid (own_grown HV6.out (Grown.setCell (S:=fun k=>k=w.heap.size) (Grown.refl _ w6) (a:=⟨w.heap.size,8,none⟩) rfl (.bool false)) (fun g hg _ e=>by have e:g=w.heap.size:=e; omega))
  clear k8 fr8 HA6 HZ6 HB6 HV6
  generalize w6.setCell ⟨w.heap.size,8,none⟩ (.bool false)=w7 at *
  obtain ⟨k0,k1,k2,k3,k4,k5,k6,k7,k8,_⟩:=rb_of HA7.out
  obtain ⟨z0,z1,z2,z3,z4,z5,z6,z7,z8,zf⟩:=rb_of HZ7.out
  have zf0:=zf 0
  have zf1:=zf 1
  have zf2:=zf 2
  have zf3:=zf 3
  have zf4:=zf 4
  have zf5:=zf 5
  have zf6:=zf 6
  have zf7:=zf 7
  have zf8:=zf 8
  clear zf
  go_wp2
  have hz9:=set9_blk HZ7.out (.int .i64 d.pw) (.slice a0 d.f0.length c0) (.slice sa NN sc) (.slice ae ne ce) (.int .i64 gen) (.int .i64 fl) (.int .i64 ed) (.int .u64 sum) (.bool false)
  have hg9:=set9_grown w7 (w.heap.size+1) (.int .i64 d.pw) (.slice a0 d.f0.length c0) (.slice sa NN sc) (.slice ae ne ce) (.int .i64 gen) (.int .i64 fl) (.int .i64 ed) (.int .u64 sum) (.bool false)
  change bodyPost _ _ _ _ _ (set9 w7 (w.heap.size+1) (.int .i64 d.pw) (.slice a0 d.f0.length c0) (.slice sa NN sc) (.slice ae ne ce) (.int .i64 gen) (.int .i64 fl) (.int .i64 ed) (.int .u64 sum) (.bool false))
  generalize set9 w7 (w.heap.size+1) (.int .i64 d.pw) (.slice a0 d.f0.length c0) (.slice sa NN sc) (.slice ae ne ce) (.int .i64 gen) (.int .i64 fl) (.int .i64 ed) (.int .u64 sum) (.bool false)=w8 at *
  obtain ⟨j0,j1,j2,j3,j4,j5,j6,j7,j8,_⟩:=rb_of hz9
  have hB8:=HB7.out.trans (hg9.below (fun k e=>by have e:k=w.heap.size+1:=e; omega) HB7.out.size)
  have hR8:RdB w8 w8.heap.size (.slice sa NN sc) (d.f1 ++ b.take b.length):=by
   have h:=own_grown HV7.out hg9 (fun g hg _ e=>by have e:g=w.heap.size+1:=e; omega)
   exact RdB.of_own h
  exact bodyPost_ret (v:=rjV d.pw (.slice a0 d.f0.length c0) (.slice sa NN sc) (.slice ae ne ce) gen fl ed sum false) (by simp [results,Tryz.results58,go_sem,j0,j1,j2,j3,j4,j5,j6,j7,j8]) rfl ⟨⟨_,rfl,(by first | exact hR8 | (rw [List.take_length] at hR8; exact hR8))⟩,hB8⟩
set_option maxRecDepth 100000 in
set_option maxHeartbeats 2000000 in
theorem rwrite_1B (d:DS) (a0 a1 ae ab:Option Addr) (c0 c1 ne ce cb:Nat) (gen fl ed sum:Int) (down:Bool) (b:List UInt8) (w:World) (hr:RD w (.slice a0 d.f0.length c0) (.slice a1 d.f1.length c1) d) (hb:RdB w w.heap.size (.slice ab b.length cb) b) (hd:d.Ok) (hbl:b.length≤1073741824) (p:Nat) (HP:Hid (d.pw=(p:Int))) (hp:0≤d.pw) (hpb:d.pw < (b.length:Int)) :
 Calls Tryz.prog 58 #[rjV d.pw (.slice a0 d.f0.length c0) (.slice a1 d.f1.length c1) (.slice ae ne ce) gen fl ed sum down,.int .i64 1,.slice ab b.length cb] w fun e w'=>(∃ v,e=.returned (rjV 0 (.slice a0 d.f0.length c0) (v) (.slice ae ne ce) gen fl ed sum true)∧RdB w' w'.heap.size v (d.f1 ++ b.take p))∧Below w.heap.size w w':=by
 have hpw0:=hd.pw0
 have hpw1:=hd.pw1
 have hlf:=hd.f1
 obtain ⟨tA,tZ,tB,tS⟩:=rb_two w d.pw (.slice a0 d.f0.length c0) (.slice a1 d.f1.length c1) (.slice ae ne ce) gen fl ed sum down
 have HA:=Lib.hid tA
 have HZ:=Lib.hid tZ
 have HB:=Lib.hid tB
 have HRF:=Lib.hid (hr.r1.below tB)
 obtain ⟨ab',cb',eb,hbm,hbn,hbc⟩:=hb.open_
 simp only [Value.slice.injEq,true_and] at eb
 obtain ⟨rfl,rfl⟩:=eb
 have hpl:p < b.length:=by have:=HP.out; omega
 have hncap:p≤cb:=by
  rcases hbc with h | ⟨g,off,_,h,_⟩
  ·rw [h] at hpl; simp at hpl
  ·omega
 have HSRC:Hid (RdB w w.heap.size (.slice ab p cb) (b.take p)):=Lib.hid (by
  rcases hb with ⟨_,e⟩ | ⟨g,off,cap,e,hlc,hcm,hg,hcell⟩
  ·rw [e] at hpl; simp at hpl
  ·simp only [Value.slice.injEq,true_and] at e
   obtain ⟨rfl,rfl⟩:=e
   exact RdB.take (n:=p) (by omega) hlc hcm hg hcell)
 clear tA tZ tB tS hbc hbn hb hr
 go_enter Tryz.func58,Tryz.ntmps58
 go_upto_region 1 with (fail)
 change Code.wp _ _ _ _ ((w.alloc (.cells (rjC d.pw (.slice a0 d.f0.length c0) (.slice a1 d.f1.length c1) (.slice ae ne ce) gen fl ed sum down).toArray 52)).alloc (.cells (rjC 0 (.slice none 0 0) (.slice none 0 0) (.slice none 0 0) 0 0 0 0 false).toArray 52))
 generalize (w.alloc (.cells (rjC d.pw (.slice a0 d.f0.length c0) (.slice a1 d.f1.length c1) (.slice ae ne ce) gen fl ed sum down).toArray 52)).alloc (.cells (rjC 0 (.slice none 0 0) (.slice none 0 0) (.slice none 0 0) 0 0 0 0 false).toArray 52)=w2 at *
 obtain ⟨k0,k1,k2,k3,k4,k5,k6,k7,k8,fr⟩:=rb_of HA.out
 have fr0:=fr 0
 have fr2:=fr 2
 clear fr
 have t0:decide ((0:Int)≤d.pw)=true:=decide_eq_true (by omega)
 have t1:decide (d.pw < (b.length:Int))=true:=decide_eq_true (by omega)
 have hsub:d.pw - d.pw=0:=Int.sub_self _
 go_upto_region 6 with (fail)
 have HA3:=Lib.hid (HA.out.set 0 (.int .i64 0))
 have HZ3:=Lib.hid (HZ.out.other (a:=⟨w.heap.size,0,none⟩) (by show w.heap.size+1 ≠ w.heap.size; omega) (.int .i64 0))
 have HB3:=Lib.hid (HB.out.setCell (p:=⟨w.heap.size,0,none⟩) (Nat.le_refl _) (.int .i64 0))
 change Code.wp _ _ _ _ (w2.setCell ⟨w.heap.size,0,none⟩ (.int .i64 0))
 generalize hw3:w2.setCell ⟨w.heap.size,0,none⟩ (.int .i64 0)=w3 at *
 have hb23:Below w.heap.size w2 w3:=by subst hw3; exact (Below.refl _ _).setCell (p:=⟨w.heap.size,0,none⟩) (Nat.le_refl _) _
 have HF3:=Lib.hid (HRF.out.below hb23)
 have HS3:=Lib.hid (HSRC.out.below HB3.out)
 have htl:(b.take p).length=p:=by rw [List.length_take]; omega
 have HTL:=Lib.hid htl
 have hAlt:=HA3.out.lt
 have hZlt:=HZ3.out.lt
 clear hw3 hb23 HRF HSRC HA HZ HB htl k0 k1 k2 k3 k4 k5 k6 k7 k8 fr0 fr2
 refine wp_region_mix (by kernel_rfl) (by kernel_rfl) (by kernel_rfl) [some (.int .i64 1),none,some (.int .i64 1),some (.pointer (some ⟨w.heap.size,0,none⟩)),some (.pointer (some ⟨w.heap.size,1,none⟩)),some (.pointer (some ⟨w.heap.size,2,none⟩)),some (.slice a1 d.f1.length c1),none,some (.slice ab b.length cb),some (.int .i64 d.pw),some (.slice ab p cb),none,some (.pointer (some ⟨w.heap.size,0,none⟩)),some (.pointer (some ⟨w.heap.size,1,none⟩)),some (.pointer (some ⟨w.heap.size,2,none⟩)),none] [1,7,11,15] (by kernel_rfl) (by kernel_rfl) (WrG w3 w.heap.size 2 d.f1 (b.take p)) ⟨fun _=>bl_drew w3,(fun h=>by cases h),(fun h=>by cases h),(fun h=>by cases h),(fun h=>by cases h)⟩ ?_ ?_
 ·refine EachI.cons (MixOk.pure (by kernel_rfl) (fun _=>by kernel_rfl) (fun _ _=>by kernel_rfl)) ?_
  refine EachI.cons (MixOk.turn (by kernel_rfl) (fun dn ws wx hG hdep hcl hni=>?_)) ?_
  ·have h7:=not_done (hcl 7 1 (by kernel_rfl)) hni
   have h11:=not_done (hcl 11 7 (by kernel_rfl)) h7
   have h15:=not_done (hcl 15 11 (by kernel_rfl)) h11
   have hb0:=hG.g0 h15
   have hba:=(Below.refl wx.heap.size wx).alloc (Nat.le_refl _) (.cells #[] 5)
   exact turn_run (by kernel_rfl) (.slice (some ⟨wx.heap.size,0,none⟩) 0 0) (wx.alloc (.cells #[] 5)) (by kernel_rfl) ⟨fun _=>hb0.trans (hba.mono hb0.size),fun _ _=>own_lit wx w3.heap.size [] (by simp [maxLen]) 0 rfl hb0.size,(fun h=>by have h:dn 7=true:=h; rw [h7] at h; cases h),(fun h=>by have h:dn 11=true:=h; rw [h11] at h; cases h),(fun h=>by have h:dn 15=true:=h; rw [h15] at h; cases h)⟩
  refine EachI.cons (MixOk.pure (by kernel_rfl) (fun _=>by kernel_rfl) (fun _ _=>by kernel_rfl)) ?_
  refine EachI.cons (MixOk.pure (by kernel_rfl) (fun _=>by kernel_rfl) (fun _ _=>by kernel_rfl)) ?_
  refine EachI.cons (MixOk.pure (by kernel_rfl) (fun _=>by kernel_rfl) (fun _ _=>by kernel_rfl)) ?_
  refine EachI.cons (MixOk.pure (by kernel_rfl) (fun _=>by kernel_rfl) (fun _ _=>by kernel_rfl)) ?_
  refine EachI.cons (MixOk.look (by kernel_rfl) (fun _=>by kernel_rfl) (fun dn ws wx hG hdep hcl hni=>?_)) ?_
  ·have h7:=not_done (hcl 7 6 (by kernel_rfl)) hni
   have h11:=not_done (hcl 11 7 (by kernel_rfl)) h7
   have h15:=not_done (hcl 15 11 (by kernel_rfl)) h11
   exact xr_bytes _ _ _ _ _ _ _ ⟨w.heap.size,2,none⟩ _ wx (by kernel_rfl) (rb_of (HA3.out.below (hG.g0 h15))).k2
  refine EachI.cons (MixOk.turn (by kernel_rfl) (fun dn ws wx hG hdep hcl hni=>?_)) ?_
  ·have h11:=not_done (hcl 11 7 (by kernel_rfl)) hni
   have h15:=not_done (hcl 15 11 (by kernel_rfl)) h11
   have hb0:=hG.g0 h15
   have hd1:dn 1=true:=hdep 1 (by kernel_rfl)
   have ho1:wx.ownsRow w3.heap.size 5 1 (ws 1) 0 (byts []):=hG.g1 hd1 hni
   refine turn_app _ _ _ _ _ _ _ (by kernel_rfl) w3.heap.size (ws 1) 0 [] (by kernel_rfl) ho1 (.slice a1 d.f1.length c1) d.f1 (by kernel_rfl) (HF3.out.below (hb0.mono HB3.out.size)) (by omega) hb0.size (fun v' w' hown hgr=>?_)
   have hown':w'.ownsRow w3.heap.size 5 1 v' d.f1.length (byts d.f1):=by simpa using hown
   exact ⟨fun _=>hb0.trans (below_own ho1 hgr hb0.size),(fun _ h=>by cases h),fun _ _=>hown',(fun h=>by have h:dn 11=true:=h; rw [h11] at h; cases h),(fun h=>by have h:dn 15=true:=h; rw [h15] at h; cases h)⟩
  refine EachI.cons (MixOk.pure (by kernel_rfl) (fun _=>by kernel_rfl) (fun _ _=>by kernel_rfl)) ?_
  refine EachI.cons (MixOk.pure (by kernel_rfl) (fun _=>by kernel_rfl) (fun _ _=>by kernel_rfl)) ?_
  refine EachI.cons (MixOk.pure (by kernel_rfl) (fun _=>by kernel_rfl) (fun _ wx=>xs_upto _ _ _ _ _ _ _ _ ab b.length cb p wx (by kernel_rfl) (Eq.trans (b:=.int .i64 d.pw) (by kernel_rfl) (by rw [HP.out])) hncap)) ?_
  refine EachI.cons (MixOk.turn (by kernel_rfl) (fun dn ws wx hG hdep hcl hni=>?_)) ?_
  ·have h15:=not_done (hcl 15 11 (by kernel_rfl)) hni
   have hb0:=hG.g0 h15
   have hd7:dn 7=true:=hdep 7 (by kernel_rfl)
   have ho2:wx.ownsRow w3.heap.size 5 1 (ws 7) d.f1.length (byts d.f1):=hG.g2 hd7 hni
   refine turn_app _ _ _ _ _ _ _ (by kernel_rfl) w3.heap.size (ws 7) d.f1.length d.f1 (by kernel_rfl) ho2 (.slice ab p cb) (b.take p) (by kernel_rfl) (HS3.out.below (hb0.mono HB3.out.size)) (by rw [HTL.out]; omega) hb0.size (fun v' w' hown hgr=>?_)
   exact ⟨fun _=>hb0.trans (below_own ho2 hgr hb0.size),(fun _ h=>by have h:dn 7=false:=h; rw [hd7] at h; cases h),(fun _ h=>by cases h),fun _ _=>hown,(fun h=>by have h:dn 15=true:=h; rw [h15] at h; cases h)⟩
  refine EachI.cons (MixOk.pure (by kernel_rfl) (fun _=>by kernel_rfl) (fun _ _=>by kernel_rfl)) ?_
  refine EachI.cons (MixOk.pure (by kernel_rfl) (fun _=>by kernel_rfl) (fun _ _=>by kernel_rfl)) ?_
  refine EachI.cons (MixOk.pure (by kernel_rfl) (fun _=>by kernel_rfl) (fun _ _=>by kernel_rfl)) ?_
  refine EachI.cons (MixOk.turn (by kernel_rfl) (fun dn ws wx hG hdep hcl hni=>?_)) ?_
  ·have hb0:=hG.g0 hni
   have hd11:dn 11=true:=hdep 11 (by kernel_rfl)
   have hd7:dn 7=true:=hcl 11 7 (by kernel_rfl) hd11
   have ho3:wx.ownsRow w3.heap.size 5 1 (ws 11) (d.f1.length+(b.take p).length) (byts (d.f1 ++ b.take p)):=hG.g3 hd11 hni
   obtain ⟨sa,sc,se,_⟩:=(RdB.of_own ho3).open_
   have hA4:=HA3.out.below hb0
   refine turn_store _ _ _ _ _ _ _ (by kernel_rfl) ⟨w.heap.size,2,none⟩ _ sa _ sc (by kernel_rfl) (Eq.trans (b:=ws 11) (by kernel_rfl) se) (rb_of hA4).k2 (hA4.frozen 2) ?_
   rw [← se]
   exact ⟨(fun h=>by cases h),(fun _ h=>by have h:dn 7=false:=h; rw [hd7] at h; cases h),(fun _ h=>by have h:dn 11=false:=h; rw [hd11] at h; cases h),(fun _ h=>by cases h),fun _=>⟨wx,hb0,ho3,rfl⟩⟩
  exact EachI.nil
 ·intro ws L' hL' w6 hG6
  obtain ⟨w5,hb5,ho5,rfl⟩:=hG6.g4 rfl
  change w5.ownsRow _ _ _ (ws 11) _ _ at ho5
  simp only [setAll,mix,List.set_cons_succ,List.set_cons_zero,List.getElem?_cons_succ,List.getElem?_cons_zero,Option.join_some,Option.getD_some,Option.getD_none,Nat.reduceAdd] at hL'
  subst hL'
  change Exit.then _ _ Exit.normal _ (w5.setCell ⟨w.heap.size,2,none⟩ (ws 11))
  obtain ⟨sa,sc,se,_⟩:=(RdB.of_own ho5).open_
  obtain ⟨NN,hNN⟩:∃ N,(d.f1 ++ b.take p).length=N:=⟨_,rfl⟩
  rw [hNN] at se
  clear hNN
  have hA6:Blk (w5.setCell ⟨w.heap.size,2,none⟩ (ws 11)) w.heap.size 52 (rjC 0 (.slice a0 d.f0.length c0) (.slice sa NN sc) (.slice ae ne ce) gen fl ed sum down):=by have h:=(HA3.out.below hb5).set 2 (ws 11); rw [se] at h ⊢; exact h
  have hZ6:=(HZ3.out.below hb5).other (a:=⟨w.heap.size,2,none⟩) (by show w.heap.size+1 ≠ w.heap.size; omega) (ws 11)
  have hB6:=(HB3.out.trans (hb5.mono HB3.out.size)).setCell (p:=⟨w.heap.size,2,none⟩) (Nat.le_refl _) (ws 11)
  have hv6:=own_grown ho5 (Grown.setCell (S:=fun k=>k=w.heap.size) (Grown.refl _ w5) (a:=⟨w.heap.size,2,none⟩) rfl (ws 11)) (fun g hg _ e=>by have e:g=w.heap.size:=e; omega)
  rw [se] at hv6 hZ6 hB6 hA6 ⊢
  have HB6:=Lib.hid hB6
  have HV6:=Lib.hid hv6
  have HZ6:=Lib.hid hZ6
  have HA6:=Lib.hid hA6
  clear hG6 ho5 hb5 hA6 hZ6 hB6 hv6 se HTL HS3 HF3 HA3 HZ3 HB3
  generalize w5.setCell ⟨w.heap.size,2,none⟩ (.slice sa NN sc)=w6 at *
  have k8:=(rb_of HA6.out).k8
  have fr8:=HA6.out.frozen 8
  have hdn:decide (d.pw < (b.length:Int))=true:=decide_eq_true hpb
  go_upto_region 8 with (fail)
  change Code.wp _ _ _ _ (w6.setCell ⟨w.heap.size,8,none⟩ (.bool true))
  have HA7:Hid (Blk (w6.setCell ⟨w.heap.size,8,none⟩ (.bool true)) w.heap.size 52 (rjC 0 (.slice a0 d.f0.length c0) (.slice sa NN sc) (.slice ae ne ce) gen fl ed sum true)):=Lib.hid (HA6.out.set 8 (.bool true))
  have HZ7:=Lib.hid (HZ6.out.other (a:=⟨w.heap.size,8,none⟩) (by show w.heap.size+1 ≠ w.heap.size; omega) (.bool true))
  have HB7:=Lib.hid (HB6.out.setCell (p:=⟨w.heap.size,8,none⟩) (Nat.le_refl _) (.bool true))
  have HV7:=Lib.hid (own_grown HV6.out (Grown.setCell (S:=fun k=>k=w.heap.size) (Grown.refl _ w6) (a:=⟨w.heap.size,8,none⟩) rfl (.bool true)) (fun g hg _ e=>by have e:g=w.heap.size:=e; omega))
  clear k8 fr8 HA6 HZ6 HB6 HV6
  generalize w6.setCell ⟨w.heap.size,8,none⟩ (.bool true)=w7 at *
  obtain ⟨k0,k1,k2,k3,k4,k5,k6,k7,k8,_⟩:=rb_of HA7.out
  obtain ⟨z0,z1,z2,z3,z4,z5,z6,z7,z8,zf⟩:=rb_of HZ7.out
  have zf0:=zf 0
  have zf1:=zf 1
  have zf2:=zf 2
  have zf3:=zf 3
  have zf4:=zf 4
  have zf5:=zf 5
  have zf6:=zf 6
  have zf7:=zf 7
  have zf8:=zf 8
  clear zf
  go_wp2
  have hz9:=set9_blk HZ7.out (.int .i64 0) (.slice a0 d.f0.length c0) (.slice sa NN sc) (.slice ae ne ce) (.int .i64 gen) (.int .i64 fl) (.int .i64 ed) (.int .u64 sum) (.bool true)
  have hg9:=set9_grown w7 (w.heap.size+1) (.int .i64 0) (.slice a0 d.f0.length c0) (.slice sa NN sc) (.slice ae ne ce) (.int .i64 gen) (.int .i64 fl) (.int .i64 ed) (.int .u64 sum) (.bool true)
  change bodyPost _ _ _ _ _ (set9 w7 (w.heap.size+1) (.int .i64 0) (.slice a0 d.f0.length c0) (.slice sa NN sc) (.slice ae ne ce) (.int .i64 gen) (.int .i64 fl) (.int .i64 ed) (.int .u64 sum) (.bool true))
  generalize set9 w7 (w.heap.size+1) (.int .i64 0) (.slice a0 d.f0.length c0) (.slice sa NN sc) (.slice ae ne ce) (.int .i64 gen) (.int .i64 fl) (.int .i64 ed) (.int .u64 sum) (.bool true)=w8 at *
  obtain ⟨j0,j1,j2,j3,j4,j5,j6,j7,j8,_⟩:=rb_of hz9
  have hB8:=HB7.out.trans (hg9.below (fun k e=>by have e:k=w.heap.size+1:=e; omega) HB7.out.size)
  have hR8:RdB w8 w8.heap.size (.slice sa NN sc) (d.f1 ++ b.take p):=by
   have h:=own_grown HV7.out hg9 (fun g hg _ e=>by have e:g=w.heap.size+1:=e; omega)
   exact RdB.of_own h
  exact bodyPost_ret (v:=rjV 0 (.slice a0 d.f0.length c0) (.slice sa NN sc) (.slice ae ne ce) gen fl ed sum true) (by simp [results,Tryz.results58,go_sem,j0,j1,j2,j3,j4,j5,j6,j7,j8]) rfl ⟨⟨_,rfl,(by first | exact hR8 | (rw [List.take_length] at hR8; exact hR8))⟩,hB8⟩
set_option maxRecDepth 100000 in
set_option maxHeartbeats 2000000 in
theorem rwrite_1C (d:DS) (a0 a1 ae ab:Option Addr) (c0 c1 ne ce cb:Nat) (gen fl ed sum:Int) (down:Bool) (b:List UInt8) (w:World) (hr:RD w (.slice a0 d.f0.length c0) (.slice a1 d.f1.length c1) d) (hb:RdB w w.heap.size (.slice ab b.length cb) b) (hd:d.Ok) (hbl:b.length≤1073741824) (hp:(b.length:Int)≤d.pw) :
 Calls Tryz.prog 58 #[rjV d.pw (.slice a0 d.f0.length c0) (.slice a1 d.f1.length c1) (.slice ae ne ce) gen fl ed sum down,.int .i64 1,.slice ab b.length cb] w fun e w'=>(∃ v,e=.returned (rjV (d.pw - b.length) (.slice a0 d.f0.length c0) (v) (.slice ae ne ce) gen fl ed sum false)∧RdB w' w'.heap.size v (d.f1 ++ b.take b.length))∧Below w.heap.size w w':=by
 have hpw0:=hd.pw0
 have hpw1:=hd.pw1
 have hlf:=hd.f1
 obtain ⟨tA,tZ,tB,tS⟩:=rb_two w d.pw (.slice a0 d.f0.length c0) (.slice a1 d.f1.length c1) (.slice ae ne ce) gen fl ed sum down
 have HA:=Lib.hid tA
 have HZ:=Lib.hid tZ
 have HB:=Lib.hid tB
 have HRF:=Lib.hid (hr.r1.below tB)
 obtain ⟨ab',cb',eb,hbm,hbn,hbc⟩:=hb.open_
 simp only [Value.slice.injEq,true_and] at eb
 obtain ⟨rfl,rfl⟩:=eb
 have hncap:b.length≤cb:=by
  rcases hbc with h | ⟨g,off,_,h,_⟩
  ·rw [h]; exact Nat.zero_le _
  ·omega
 have HSRC:Hid (RdB w w.heap.size (.slice ab b.length cb) (b.take b.length)):=Lib.hid (by
  rw [List.take_length]; exact hb)
 clear tA tZ tB tS hbc hbn hb hr
 go_enter Tryz.func58,Tryz.ntmps58
 go_upto_region 1 with (fail)
 change Code.wp _ _ _ _ ((w.alloc (.cells (rjC d.pw (.slice a0 d.f0.length c0) (.slice a1 d.f1.length c1) (.slice ae ne ce) gen fl ed sum down).toArray 52)).alloc (.cells (rjC 0 (.slice none 0 0) (.slice none 0 0) (.slice none 0 0) 0 0 0 0 false).toArray 52))
 generalize (w.alloc (.cells (rjC d.pw (.slice a0 d.f0.length c0) (.slice a1 d.f1.length c1) (.slice ae ne ce) gen fl ed sum down).toArray 52)).alloc (.cells (rjC 0 (.slice none 0 0) (.slice none 0 0) (.slice none 0 0) 0 0 0 0 false).toArray 52)=w2 at *
 obtain ⟨k0,k1,k2,k3,k4,k5,k6,k7,k8,fr⟩:=rb_of HA.out
 have fr0:=fr 0
 have fr2:=fr 2
 clear fr
 have t0:decide ((0:Int)≤d.pw)=true:=decide_eq_true (by omega)
 have t1:decide (d.pw < (b.length:Int))=false:=decide_eq_false (by omega)
 go_upto_region 6 with (fail)
 have HA3:=Lib.hid (HA.out.set 0 (.int .i64 (d.pw - b.length)))
 have HZ3:=Lib.hid (HZ.out.other (a:=⟨w.heap.size,0,none⟩) (by show w.heap.size+1 ≠ w.heap.size; omega) (.int .i64 (d.pw - b.length)))
 have HB3:=Lib.hid (HB.out.setCell (p:=⟨w.heap.size,0,none⟩) (Nat.le_refl _) (.int .i64 (d.pw - b.length)))
 change Code.wp _ _ _ _ (w2.setCell ⟨w.heap.size,0,none⟩ (.int .i64 (d.pw - b.length)))
 generalize hw3:w2.setCell ⟨w.heap.size,0,none⟩ (.int .i64 (d.pw - b.length))=w3 at *
 have hb23:Below w.heap.size w2 w3:=by subst hw3; exact (Below.refl _ _).setCell (p:=⟨w.heap.size,0,none⟩) (Nat.le_refl _) _
 have HF3:=Lib.hid (HRF.out.below hb23)
 have HS3:=Lib.hid (HSRC.out.below HB3.out)
 have htl:(b.take b.length).length=b.length:=by rw [List.length_take]; omega
 have HTL:=Lib.hid htl
 have hAlt:=HA3.out.lt
 have hZlt:=HZ3.out.lt
 clear hw3 hb23 HRF HSRC HA HZ HB htl k0 k1 k2 k3 k4 k5 k6 k7 k8 fr0 fr2
 refine wp_region_mix (by kernel_rfl) (by kernel_rfl) (by kernel_rfl) [some (.int .i64 1),none,some (.int .i64 1),some (.pointer (some ⟨w.heap.size,0,none⟩)),some (.pointer (some ⟨w.heap.size,1,none⟩)),some (.pointer (some ⟨w.heap.size,2,none⟩)),some (.slice a1 d.f1.length c1),none,some (.slice ab b.length cb),some (.int .i64 (b.length:Int)),some (.slice ab b.length cb),none,some (.pointer (some ⟨w.heap.size,0,none⟩)),some (.pointer (some ⟨w.heap.size,1,none⟩)),some (.pointer (some ⟨w.heap.size,2,none⟩)),none] [1,7,11,15] (by kernel_rfl) (by kernel_rfl) (WrG w3 w.heap.size 2 d.f1 (b.take b.length)) ⟨fun _=>bl_drew w3,(fun h=>by cases h),(fun h=>by cases h),(fun h=>by cases h),(fun h=>by cases h)⟩ ?_ ?_
 ·refine EachI.cons (MixOk.pure (by kernel_rfl) (fun _=>by kernel_rfl) (fun _ _=>by kernel_rfl)) ?_
  refine EachI.cons (MixOk.turn (by kernel_rfl) (fun dn ws wx hG hdep hcl hni=>?_)) ?_
  ·have h7:=not_done (hcl 7 1 (by kernel_rfl)) hni
   have h11:=not_done (hcl 11 7 (by kernel_rfl)) h7
   have h15:=not_done (hcl 15 11 (by kernel_rfl)) h11
   have hb0:=hG.g0 h15
   have hba:=(Below.refl wx.heap.size wx).alloc (Nat.le_refl _) (.cells #[] 5)
   exact turn_run (by kernel_rfl) (.slice (some ⟨wx.heap.size,0,none⟩) 0 0) (wx.alloc (.cells #[] 5)) (by kernel_rfl) ⟨fun _=>hb0.trans (hba.mono hb0.size),fun _ _=>own_lit wx w3.heap.size [] (by simp [maxLen]) 0 rfl hb0.size,(fun h=>by have h:dn 7=true:=h; rw [h7] at h; cases h),(fun h=>by have h:dn 11=true:=h; rw [h11] at h; cases h),(fun h=>by have h:dn 15=true:=h; rw [h15] at h; cases h)⟩
  refine EachI.cons (MixOk.pure (by kernel_rfl) (fun _=>by kernel_rfl) (fun _ _=>by kernel_rfl)) ?_
  refine EachI.cons (MixOk.pure (by kernel_rfl) (fun _=>by kernel_rfl) (fun _ _=>by kernel_rfl)) ?_
  refine EachI.cons (MixOk.pure (by kernel_rfl) (fun _=>by kernel_rfl) (fun _ _=>by kernel_rfl)) ?_
  refine EachI.cons (MixOk.pure (by kernel_rfl) (fun _=>by kernel_rfl) (fun _ _=>by kernel_rfl)) ?_
  refine EachI.cons (MixOk.look (by kernel_rfl) (fun _=>by kernel_rfl) (fun dn ws wx hG hdep hcl hni=>?_)) ?_
  ·have h7:=not_done (hcl 7 6 (by kernel_rfl)) hni
   have h11:=not_done (hcl 11 7 (by kernel_rfl)) h7
   have h15:=not_done (hcl 15 11 (by kernel_rfl)) h11
   exact xr_bytes _ _ _ _ _ _ _ ⟨w.heap.size,2,none⟩ _ wx (by kernel_rfl) (rb_of (HA3.out.below (hG.g0 h15))).k2
  refine EachI.cons (MixOk.turn (by kernel_rfl) (fun dn ws wx hG hdep hcl hni=>?_)) ?_
  ·have h11:=not_done (hcl 11 7 (by kernel_rfl)) hni
   have h15:=not_done (hcl 15 11 (by kernel_rfl)) h11
   have hb0:=hG.g0 h15
   have hd1:dn 1=true:=hdep 1 (by kernel_rfl)
   have ho1:wx.ownsRow w3.heap.size 5 1 (ws 1) 0 (byts []):=hG.g1 hd1 hni
   refine turn_app _ _ _ _ _ _ _ (by kernel_rfl) w3.heap.size (ws 1) 0 [] (by kernel_rfl) ho1 (.slice a1 d.f1.length c1) d.f1 (by kernel_rfl) (HF3.out.below (hb0.mono HB3.out.size)) (by omega) hb0.size (fun v' w' hown hgr=>?_)
   have hown':w'.ownsRow w3.heap.size 5 1 v' d.f1.length (byts d.f1):=by simpa using hown
   exact ⟨fun _=>hb0.trans (below_own ho1 hgr hb0.size),(fun _ h=>by cases h),fun _ _=>hown',(fun h=>by have h:dn 11=true:=h; rw [h11] at h; cases h),(fun h=>by have h:dn 15=true:=h; rw [h15] at h; cases h)⟩
  refine EachI.cons (MixOk.pure (by kernel_rfl) (fun _=>by kernel_rfl) (fun _ _=>by kernel_rfl)) ?_
  refine EachI.cons (MixOk.pure (by kernel_rfl) (fun _=>by kernel_rfl) (fun _ _=>by kernel_rfl)) ?_
  refine EachI.cons (MixOk.pure (by kernel_rfl) (fun _=>by kernel_rfl) (fun _ wx=>xs_upto _ _ _ _ _ _ _ _ ab b.length cb b.length wx (by kernel_rfl) (by kernel_rfl) hncap)) ?_
  refine EachI.cons (MixOk.turn (by kernel_rfl) (fun dn ws wx hG hdep hcl hni=>?_)) ?_
  ·have h15:=not_done (hcl 15 11 (by kernel_rfl)) hni
   have hb0:=hG.g0 h15
   have hd7:dn 7=true:=hdep 7 (by kernel_rfl)
   have ho2:wx.ownsRow w3.heap.size 5 1 (ws 7) d.f1.length (byts d.f1):=hG.g2 hd7 hni
   refine turn_app _ _ _ _ _ _ _ (by kernel_rfl) w3.heap.size (ws 7) d.f1.length d.f1 (by kernel_rfl) ho2 (.slice ab b.length cb) (b.take b.length) (by kernel_rfl) (HS3.out.below (hb0.mono HB3.out.size)) (by rw [HTL.out]; omega) hb0.size (fun v' w' hown hgr=>?_)
   exact ⟨fun _=>hb0.trans (below_own ho2 hgr hb0.size),(fun _ h=>by have h:dn 7=false:=h; rw [hd7] at h; cases h),(fun _ h=>by cases h),fun _ _=>hown,(fun h=>by have h:dn 15=true:=h; rw [h15] at h; cases h)⟩
  refine EachI.cons (MixOk.pure (by kernel_rfl) (fun _=>by kernel_rfl) (fun _ _=>by kernel_rfl)) ?_
  refine EachI.cons (MixOk.pure (by kernel_rfl) (fun _=>by kernel_rfl) (fun _ _=>by kernel_rfl)) ?_
  refine EachI.cons (MixOk.pure (by kernel_rfl) (fun _=>by kernel_rfl) (fun _ _=>by kernel_rfl)) ?_
  refine EachI.cons (MixOk.turn (by kernel_rfl) (fun dn ws wx hG hdep hcl hni=>?_)) ?_
  ·have hb0:=hG.g0 hni
   have hd11:dn 11=true:=hdep 11 (by kernel_rfl)
   have hd7:dn 7=true:=hcl 11 7 (by kernel_rfl) hd11
   have ho3:wx.ownsRow w3.heap.size 5 1 (ws 11) (d.f1.length+(b.take b.length).length) (byts (d.f1 ++ b.take b.length)):=hG.g3 hd11 hni
   obtain ⟨sa,sc,se,_⟩:=(RdB.of_own ho3).open_
   have hA4:=HA3.out.below hb0
   refine turn_store _ _ _ _ _ _ _ (by kernel_rfl) ⟨w.heap.size,2,none⟩ _ sa _ sc (by kernel_rfl) (Eq.trans (b:=ws 11) (by kernel_rfl) se) (rb_of hA4).k2 (hA4.frozen 2) ?_
   rw [← se]
   exact ⟨(fun h=>by cases h),(fun _ h=>by have h:dn 7=false:=h; rw [hd7] at h; cases h),(fun _ h=>by have h:dn 11=false:=h; rw [hd11] at h; cases h),(fun _ h=>by cases h),fun _=>⟨wx,hb0,ho3,rfl⟩⟩
  exact EachI.nil
 ·intro ws L' hL' w6 hG6
  obtain ⟨w5,hb5,ho5,rfl⟩:=hG6.g4 rfl
  change w5.ownsRow _ _ _ (ws 11) _ _ at ho5
  simp only [setAll,mix,List.set_cons_succ,List.set_cons_zero,List.getElem?_cons_succ,List.getElem?_cons_zero,Option.join_some,Option.getD_some,Option.getD_none,Nat.reduceAdd] at hL'
  subst hL'
  change Exit.then _ _ Exit.normal _ (w5.setCell ⟨w.heap.size,2,none⟩ (ws 11))
  obtain ⟨sa,sc,se,_⟩:=(RdB.of_own ho5).open_
  obtain ⟨NN,hNN⟩:∃ N,(d.f1 ++ b.take b.length).length=N:=⟨_,rfl⟩
  rw [hNN] at se
  clear hNN
  have hA6:Blk (w5.setCell ⟨w.heap.size,2,none⟩ (ws 11)) w.heap.size 52 (rjC (d.pw - b.length) (.slice a0 d.f0.length c0) (.slice sa NN sc) (.slice ae ne ce) gen fl ed sum down):=by have h:=(HA3.out.below hb5).set 2 (ws 11); rw [se] at h ⊢; exact h
  have hZ6:=(HZ3.out.below hb5).other (a:=⟨w.heap.size,2,none⟩) (by show w.heap.size+1 ≠ w.heap.size; omega) (ws 11)
  have hB6:=(HB3.out.trans (hb5.mono HB3.out.size)).setCell (p:=⟨w.heap.size,2,none⟩) (Nat.le_refl _) (ws 11)
  have hv6:=own_grown ho5 (Grown.setCell (S:=fun k=>k=w.heap.size) (Grown.refl _ w5) (a:=⟨w.heap.size,2,none⟩) rfl (ws 11)) (fun g hg _ e=>by have e:g=w.heap.size:=e; omega)
  rw [se] at hv6 hZ6 hB6 hA6 ⊢
  have HB6:=Lib.hid hB6
  have HV6:=Lib.hid hv6
  have HZ6:=Lib.hid hZ6
  have HA6:=Lib.hid hA6
  clear hG6 ho5 hb5 hA6 hZ6 hB6 hv6 se HTL HS3 HF3 HA3 HZ3 HB3
  generalize w5.setCell ⟨w.heap.size,2,none⟩ (.slice sa NN sc)=w6 at *
  have k8:=(rb_of HA6.out).k8
  have fr8:=HA6.out.frozen 8
  have hdn:decide ((b.length:Int) < (b.length:Int))=false:=by simp
  go_upto_region 8 with (fail)
  change Code.wp _ _ _ _ (w6.setCell ⟨w.heap.size,8,none⟩ (.bool false))
  have HA7:Hid (Blk (w6.setCell ⟨w.heap.size,8,none⟩ (.bool false)) w.heap.size 52 (rjC (d.pw - b.length) (.slice a0 d.f0.length c0) (.slice sa NN sc) (.slice ae ne ce) gen fl ed sum false)):=Lib.hid (HA6.out.set 8 (.bool false))
  have HZ7:=Lib.hid (HZ6.out.other (a:=⟨w.heap.size,8,none⟩) (by show w.heap.size+1 ≠ w.heap.size; omega) (.bool false))
  have HB7:=Lib.hid (HB6.out.setCell (p:=⟨w.heap.size,8,none⟩) (Nat.le_refl _) (.bool false))
  have HV7:=Lib.hid (own_grown HV6.out (Grown.setCell (S:=fun k=>k=w.heap.size) (Grown.refl _ w6) (a:=⟨w.heap.size,8,none⟩) rfl (.bool false)) (fun g hg _ e=>by have e:g=w.heap.size:=e; omega))
  clear k8 fr8 HA6 HZ6 HB6 HV6
  generalize w6.setCell ⟨w.heap.size,8,none⟩ (.bool false)=w7 at *
  obtain ⟨k0,k1,k2,k3,k4,k5,k6,k7,k8,_⟩:=rb_of HA7.out
  obtain ⟨z0,z1,z2,z3,z4,z5,z6,z7,z8,zf⟩:=rb_of HZ7.out
  have zf0:=zf 0
  have zf1:=zf 1
  have zf2:=zf 2
  have zf3:=zf 3
  have zf4:=zf 4
  have zf5:=zf 5
  have zf6:=zf 6
  have zf7:=zf 7
  have zf8:=zf 8
  clear zf
  go_wp2
  have hz9:=set9_blk HZ7.out (.int .i64 (d.pw - b.length)) (.slice a0 d.f0.length c0) (.slice sa NN sc) (.slice ae ne ce) (.int .i64 gen) (.int .i64 fl) (.int .i64 ed) (.int .u64 sum) (.bool false)
  have hg9:=set9_grown w7 (w.heap.size+1) (.int .i64 (d.pw - b.length)) (.slice a0 d.f0.length c0) (.slice sa NN sc) (.slice ae ne ce) (.int .i64 gen) (.int .i64 fl) (.int .i64 ed) (.int .u64 sum) (.bool false)
  change bodyPost _ _ _ _ _ (set9 w7 (w.heap.size+1) (.int .i64 (d.pw - b.length)) (.slice a0 d.f0.length c0) (.slice sa NN sc) (.slice ae ne ce) (.int .i64 gen) (.int .i64 fl) (.int .i64 ed) (.int .u64 sum) (.bool false))
  generalize set9 w7 (w.heap.size+1) (.int .i64 (d.pw - b.length)) (.slice a0 d.f0.length c0) (.slice sa NN sc) (.slice ae ne ce) (.int .i64 gen) (.int .i64 fl) (.int .i64 ed) (.int .u64 sum) (.bool false)=w8 at *
  obtain ⟨j0,j1,j2,j3,j4,j5,j6,j7,j8,_⟩:=rb_of hz9
  have hB8:=HB7.out.trans (hg9.below (fun k e=>by have e:k=w.heap.size+1:=e; omega) HB7.out.size)
  have hR8:RdB w8 w8.heap.size (.slice sa NN sc) (d.f1 ++ b.take b.length):=by
   have h:=own_grown HV7.out hg9 (fun g hg _ e=>by have e:g=w.heap.size+1:=e; omega)
   exact RdB.of_own h
  exact bodyPost_ret (v:=rjV (d.pw - b.length) (.slice a0 d.f0.length c0) (.slice sa NN sc) (.slice ae ne ce) gen fl ed sum false) (by simp [results,Tryz.results58,go_sem,j0,j1,j2,j3,j4,j5,j6,j7,j8]) rfl ⟨⟨_,rfl,(by first | exact hR8 | (rw [List.take_length] at hR8; exact hR8))⟩,hB8⟩
/-- write -/
theorem rwrite_c (d:DS) (v0 v1 vb:Value) (ae:Option Addr) (ne ce:Nat) (gen fl ed sum:Int) (down:Bool) (f:Bool) (b:List UInt8) (w:World) (hr:RD w v0 v1 d) (hb:RdB w w.heap.size vb b) (hd:d.Ok) (hbl:b.length≤1073741824) :
 Calls Tryz.prog 58 #[rjV d.pw v0 v1 (.slice ae ne ce) gen fl ed sum down,.int .i64 (if f then 1 else 0),vb] w fun e w'=>(∃ v0' v1',e=.returned (rjV (dWrite f b d).1.pw v0' v1' (.slice ae ne ce) gen fl ed sum (!(dWrite f b d).2))∧RD w' v0' v1' (dWrite f b d).1)∧Below w.heap.size w w':=by
 obtain ⟨a0,c0,rfl,_⟩:=hr.r0.open_
 obtain ⟨a1,c1,rfl,_⟩:=hr.r1.open_
 obtain ⟨ab,cb,rfl,_⟩:=hb.open_
 unfold dWrite
 have hpw0:=hd.pw0
 by_cases h1:d.pw < 0
 ·rw [if_pos h1]
  cases f with
  | false=>
    refine (rwrite_0A d a0 a1 ae ab c0 c1 ne ce cb gen fl ed sum down b w hr hb hd hbl h1).mono ?_
    rintro e w' ⟨⟨v,rfl,hv⟩,hB⟩
    rw [List.take_length] at hv
    exact ⟨⟨v,_,rfl,hv,(hr.below hB).r1⟩,hB⟩
  | true=>
    refine (rwrite_1A d a0 a1 ae ab c0 c1 ne ce cb gen fl ed sum down b w hr hb hd hbl h1).mono ?_
    rintro e w' ⟨⟨v,rfl,hv⟩,hB⟩
    rw [List.take_length] at hv
    exact ⟨⟨_,v,rfl,(hr.below hB).r0,hv⟩,hB⟩
 ·rw [if_neg h1]
  by_cases h2:(b.length:Int)≤d.pw
  ·rw [if_pos h2]
   cases f with
   | false=>
     refine (rwrite_0C d a0 a1 ae ab c0 c1 ne ce cb gen fl ed sum down b w hr hb hd hbl h2).mono ?_
     rintro e w' ⟨⟨v,rfl,hv⟩,hB⟩
     rw [List.take_length] at hv
     exact ⟨⟨v,_,rfl,hv,(hr.below hB).r1⟩,hB⟩
   | true=>
     refine (rwrite_1C d a0 a1 ae ab c0 c1 ne ce cb gen fl ed sum down b w hr hb hd hbl h2).mono ?_
     rintro e w' ⟨⟨v,rfl,hv⟩,hB⟩
     rw [List.take_length] at hv
     exact ⟨⟨_,v,rfl,(hr.below hB).r0,hv⟩,hB⟩
  ·rw [if_neg h2]
   cases f with
   | false=>
     refine (rwrite_0B d a0 a1 ae ab c0 c1 ne ce cb gen fl ed sum down b w hr hb hd hbl d.pw.toNat (Lib.hid (by omega)) (by omega) (by omega)).mono ?_
     rintro e w' ⟨⟨v,rfl,hv⟩,hB⟩
     exact ⟨⟨v,_,rfl,hv,(hr.below hB).r1⟩,hB⟩
   | true=>
     refine (rwrite_1B d a0 a1 ae ab c0 c1 ne ce cb gen fl ed sum down b w hr hb hd hbl d.pw.toNat (Lib.hid (by omega)) (by omega) (by omega)).mono ?_
     rintro e w' ⟨⟨v,rfl,hv⟩,hB⟩
     exact ⟨⟨_,v,rfl,(hr.below hB).r0,hv⟩,hB⟩
end Go.Proofs.YtondomklkapogaaGreatDoor
