/- The reference's read: the walk. -/
import Derived.Test.YtondomklkapogaaGreatDoorM30
import Derived.Test.YtondomklkapogaaGreatDoorM26
namespace Go.Proofs.YtondomklkapogaaGreatDoor
section
open Go.RowKit SeedP Go.Maps
set_option maxRecDepth 100000 in
set_option maxHeartbeats 4000000 in
/-- read -/
theorem rread_k (pw:Int) (a0 a1:Option Addr) (n0 n1 c0 c1:Nat) (k:Nat) (hk:k < 2) (af:Option Addr) (cf:Nat) (file:List UInt8) (w:World) (hget:[Value.int .i64 pw,.slice a0 n0 c0,.slice a1 n1 c1].getD (1+k) undef=.slice af file.length cf) (hf:RdB w w.heap.size (.slice af file.length cf) file) (hl:file.length≤1000000) :
 Calls Tryz.prog 51 #[.agg #[.int .i64 pw,.slice a0 n0 c0,.slice a1 n1 c1],.int .i64 k] w fun e w'=>(∃ ae ce,e=.returned (rjV pw (.slice a0 n0 c0) (.slice a1 n1 c1) (.slice ae ((readF file).getD zeroC).ents.length ce) ((readF file).getD zeroC).gen k ((readF file).getD zeroC).ed ((readF file).getD zeroC).sum false)∧EntsAt w' w'.heap.size (.slice ae ((readF file).getD zeroC).ents.length ce) ((readF file).getD zeroC).ents)∧Below w.heap.size w w':=by
 have hki:(k:Int) < 2:=by omega
 have HM0:=Lib.hid (RdM.start w pw a0 a1 n0 n1 c0 c1 k)
 have HF0:=Lib.hid hf
 clear hf
 go_enter Tryz.func51,Tryz.ntmps51
 go_upto_region 2 with (fail)
 change Code.wp _ _ _ _ (((w.alloc (.cells #[.int .i64 pw,.slice a0 n0 c0,.slice a1 n1 c1] 47)).alloc (.cells #[.int .i64 0,.slice none 0 0,.slice none 0 0,.slice none 0 0,.int .i64 0,.int .i64 0,.int .i64 0,.int .u64 0,.bool false] 52)).alloc (.cells #[.int .i64 pw,.slice a0 n0 c0,.slice a1 n1 c1,.slice none 0 0,.int .i64 0,.int .i64 k,.int .i64 0,.int .u64 0,.bool false] 52))
 generalize (((w.alloc (.cells #[.int .i64 pw,.slice a0 n0 c0,.slice a1 n1 c1] 47)).alloc (.cells #[.int .i64 0,.slice none 0 0,.slice none 0 0,.slice none 0 0,.int .i64 0,.int .i64 0,.int .i64 0,.int .u64 0,.bool false] 52)).alloc (.cells #[.int .i64 pw,.slice a0 n0 c0,.slice a1 n1 c1,.slice none 0 0,.int .i64 0,.int .i64 k,.int .i64 0,.int .u64 0,.bool false] 52))=W at *
 have HFILE:Hid (∀ W',Below w.heap.size w W'→RdB W' w.heap.size (.slice af file.length cf) file):=Lib.hid (fun W' hb=>HF0.out.below hb)
 have HDK:Hid (∀ {W':World} {ae:Option Addr} {ce:Nat} {gen ed sum:Int} {P:PEnts},RdM w W' pw a0 a1 n0 n1 c0 c1 k ae ce gen ed sum P→W'.cell? ⟨w.heap.size,1+k,none⟩=some (.slice af file.length cf)):=Lib.hid (fun h=>by rw [h.dk.cell (1+k) (by simp; omega),hget])
 have d0:=HDK.out HM0.out
 obtain ⟨fa,fn,fc,hfc,hcall⟩:=rfirst_v (.slice af file.length cf) file 0 w.heap.size W (HFILE.out W HM0.out.be) (by omega)
 have hcall:=hcall W (HFILE.out W HM0.out.be)
 have HFC:=Lib.hid hfc
 have HCALL:=Lib.hid hcall
 clear hfc hcall HF0
 have HCK:=Lib.hid (show c0=c0 from rfl)
 cases hnb:nextB file 0 with
 | none=>
   have HC2:Hid (Calls Tryz.prog 80 #[.slice af file.length cf,.int .u64 0] W fun e w'=>e=.returned (.tuple #[.slice fa fn fc,.bool false])∧W=w'):=Lib.hid (by have h:=HCALL.out; rw [hnb] at h; exact h)
   have HRES:Hid (readF file=none):=Lib.hid (readF_none0 hnb)
   clear HCALL HFC hnb
   go_wp2_with fail
   refine HC2.out.mono ?_
   rintro e w1 ⟨rfl,rfl⟩
   clear d0
   obtain ⟨k0,k1,k2,k3,k4,k5,k6,k7,k8,_⟩:=rb_of HM0.out.jb
   obtain ⟨z0,z1,z2,z3,z4,z5,z6,z7,z8,zf⟩:=rb_of HM0.out.zb
   have zf0:=zf 0
   have zf1:=zf 1
   have zf2:=zf 2
   have zf3:=zf 3
   have zf4:=zf 4
   have zf5:=zf 5
   have zf6:=zf 6
   have zf7:=zf 7
   have zf8:=zf 8
   clear zf
   go_wp2
   obtain ⟨hb9,he9⟩:=HM0.out.copied (.int .i64 pw) (.slice a0 n0 c0) (.slice a1 n1 c1) (.slice none 0 0) (.int .i64 0) (.int .i64 k) (.int .i64 0) (.int .u64 0) (.bool false)
   have hz9:=set9_blk HM0.out.zb (.int .i64 pw) (.slice a0 n0 c0) (.slice a1 n1 c1) (.slice none 0 0) (.int .i64 0) (.int .i64 k) (.int .i64 0) (.int .u64 0) (.bool false)
   change bodyPost _ _ _ _ _ (set9 W (w.heap.size+1) (.int .i64 pw) (.slice a0 n0 c0) (.slice a1 n1 c1) (.slice none 0 0) (.int .i64 0) (.int .i64 k) (.int .i64 0) (.int .u64 0) (.bool false))
   generalize set9 W (w.heap.size+1) (.int .i64 pw) (.slice a0 n0 c0) (.slice a1 n1 c1) (.slice none 0 0) (.int .i64 0) (.int .i64 k) (.int .i64 0) (.int .u64 0) (.bool false)=w9 at *
   obtain ⟨j0,j1,j2,j3,j4,j5,j6,j7,j8,_⟩:=rb_of hz9
   exact bodyPost_ret (v:=rjV pw (.slice a0 n0 c0) (.slice a1 n1 c1) (.slice none 0 0) 0 k 0 0 false) (by simp [results,Tryz.results51,go_sem,j0,j1,j2,j3,j4,j5,j6,j7,j8]) rfl (by rw [HRES.out]; exact ⟨⟨_,_,rfl,he9⟩,hb9⟩)
 | some T=>
   obtain ⟨code,s⟩:=T
   have HC2:Hid (Calls Tryz.prog 80 #[.slice af file.length cf,.int .u64 0] W fun e w'=>e=.returned (.tuple #[.slice fa fn fc,.bool true])∧W=w'):=Lib.hid (by have h:=HCALL.out; rw [hnb] at h; exact h)
   obtain ⟨hcode,rfl⟩:=HFC.out code s hnb
   have hcl:=(nextB_some hnb).1
   have hsum:=(nextB_some hnb).2.2.2.2
   have HSUM:=Lib.hid hsum
   have HNB:=Lib.hid hnb
   have HCODE:Hid (∀ W',Below w.heap.size w W'→RdB W' w.heap.size (.slice fa code.length fc) code):=Lib.hid (fun W' hb=>hcode W' (HFILE.out W' hb))
   have HST:=Lib.hid (rstate_r (.slice fa code.length fc) code W ((HCODE.out W HM0.out.be).mono HM0.out.be.size) (by omega))
   have hcl2:(code.length:Int)≤1000000:=by omega
   clear HCALL HFC hnb hsum hcode
   go_wp2_with fail
   refine HC2.out.mono ?_
   rintro e w1 ⟨rfl,rfl⟩
   clear d0 HC2
   have jz:=(rb_of HM0.out.jb).k3
   have jf:=fun q=>HM0.out.jb.frozen q
   go_wp2_with fail
   refine HST.out.mono ?_
   rintro e w1 ⟨hres,hb1⟩
   have HM1:=Lib.hid (HM0.out.below hb1)
   clear hb1 HST jz jf
   have jf3:=HM1.out.jb.frozen 3
   have jf4:=HM1.out.jb.frozen 4
   have jk3:=(rb_of HM1.out.jb).k3
   have jk4:=(rb_of HM1.out.jb).k4
   cases hS:rStateR code with
   | none=>
     rw [hS] at hres
     have hres:e=.returned (.tuple #[.int .i64 0,.slice none 0 0]):=hres
     subst hres
     have HRES:Hid (readF file=none):=Lib.hid (readF_no HNB.out hS)
     clear hS
     go_upto_region 6 with (fail)
     have HM2:=Lib.hid ((HM1.out.setGen 0).setEnts (Q:=[]) (EntsAt.nil _ _))
     change Code.wp _ _ _ _ ((w1.setCell ⟨w.heap.size+1+1,4,none⟩ (.int .i64 0)).setCell ⟨w.heap.size+1+1,3,none⟩ (.slice none 0 0))
     have HM2:Hid (RdM w ((w1.setCell ⟨w.heap.size+1+1,4,none⟩ (.int .i64 0)).setCell ⟨w.heap.size+1+1,3,none⟩ (.slice none 0 0)) pw a0 a1 n0 n1 c0 c1 k none 0 0 0 0 []):=HM2
     generalize (w1.setCell ⟨w.heap.size+1+1,4,none⟩ (.int .i64 0)).setCell ⟨w.heap.size+1+1,3,none⟩ (.slice none 0 0)=w2 at *
     obtain ⟨k0,k1,k2,k3,k4,k5,k6,k7,k8,_⟩:=rb_of HM2.out.jb
     obtain ⟨z0,z1,z2,z3,z4,z5,z6,z7,z8,zf⟩:=rb_of HM2.out.zb
     have zf0:=zf 0
     have zf1:=zf 1
     have zf2:=zf 2
     have zf3:=zf 3
     have zf4:=zf 4
     have zf5:=zf 5
     have zf6:=zf 6
     have zf7:=zf 7
     have zf8:=zf 8
     clear zf
     go_wp2
     obtain ⟨hb9,he9⟩:=HM2.out.copied (.int .i64 pw) (.slice a0 n0 c0) (.slice a1 n1 c1) (.slice none 0 0) (.int .i64 0) (.int .i64 k) (.int .i64 0) (.int .u64 0) (.bool false)
     have hz9:=set9_blk HM2.out.zb (.int .i64 pw) (.slice a0 n0 c0) (.slice a1 n1 c1) (.slice none 0 0) (.int .i64 0) (.int .i64 k) (.int .i64 0) (.int .u64 0) (.bool false)
     change bodyPost _ _ _ _ _ (set9 w2 (w.heap.size+1) (.int .i64 pw) (.slice a0 n0 c0) (.slice a1 n1 c1) (.slice none 0 0) (.int .i64 0) (.int .i64 k) (.int .i64 0) (.int .u64 0) (.bool false))
     generalize set9 w2 (w.heap.size+1) (.int .i64 pw) (.slice a0 n0 c0) (.slice a1 n1 c1) (.slice none 0 0) (.int .i64 0) (.int .i64 k) (.int .i64 0) (.int .u64 0) (.bool false)=w9 at *
     obtain ⟨j0,j1,j2,j3,j4,j5,j6,j7,j8,_⟩:=rb_of hz9
     exact bodyPost_ret (v:=rjV pw (.slice a0 n0 c0) (.slice a1 n1 c1) (.slice none 0 0) 0 k 0 0 false) (by simp [results,Tryz.results51,go_sem,j0,j1,j2,j3,j4,j5,j6,j7,j8]) rfl (by rw [HRES.out]; exact ⟨⟨_,_,rfl,he9⟩,hb9⟩)
   | some T=>
     obtain ⟨gen,P⟩:=T
     rw [hS] at hres
     obtain ⟨ve,rfl,hent⟩:∃ v,e=.returned (.tuple #[.int .i64 gen,v])∧EntsAt w1 w1.heap.size v P:=hres
     have hrel:=RdRel.start HNB.out hS
     have HREL0:=Lib.hid hrel
     have hgen:=hrel.good.gen.1
     simp only [] at hgen
     have tg:((gen:Int) == 0)=false:=by rw [beq_eq_false_iff_ne]; omega
     have HENT:=Lib.hid hent
     obtain ⟨ae,ce,rfl,_,_,_⟩:=hent
     clear hS hrel hgen
     go_upto_region 6 with (fail)
     have HM2:Hid (RdM w ((w1.setCell ⟨w.heap.size+1+1,4,none⟩ (.int .i64 gen)).setCell ⟨w.heap.size+1+1,3,none⟩ (.slice ae P.length ce)) pw a0 a1 n0 n1 c0 c1 k ae ce gen 0 0 P):=Lib.hid ((HM1.out.setGen gen).setEnts (Q:=P) (HENT.out.away HM1.out.jb (rjC_nobyte _ _ _ _ _ _ _ _ _ _ _ _ _ _ _) (rjC_nostr _ _ _ _ _ _ _ _ _ _ _ _ _ _ _) (Grown.setCell (S:=fun q=>q=w.heap.size+1+1) (Grown.refl _ w1) (a:=⟨w.heap.size+1+1,4,none⟩) rfl _) |>.mono (by simp)))
     change Code.wp _ _ _ _ ((w1.setCell ⟨w.heap.size+1+1,4,none⟩ (.int .i64 gen)).setCell ⟨w.heap.size+1+1,3,none⟩ (.slice ae P.length ce))
     generalize (w1.setCell ⟨w.heap.size+1+1,4,none⟩ (.int .i64 gen)).setCell ⟨w.heap.size+1+1,3,none⟩ (.slice ae P.length ce)=w2 at *
     clear jf3 jf4 jk3 jk4 HENT HM1
     have k4:=(rb_of HM2.out.jb).k4
     have k6:=(rb_of HM2.out.jb).k6
     have jf6:=HM2.out.jb.frozen 6
     have e12:(12:Int)+(code.length:Int)=((12+code.length:Nat):Int):=by omega
     have E12:=Lib.hid e12
     obtain ⟨g,off,rfl,hlc,hcm⟩:∃ g off,af=some ⟨g,off,none⟩∧file.length≤cf∧cf≤maxLen:=by
      rcases HFILE.out w2 HM2.out.be with ⟨_,h⟩ | ⟨g,off,cap,e,h1,h2,h3,h4⟩
      ·rw [h] at hcl; simp at hcl
      ·simp only [Value.slice.injEq,true_and] at e
       obtain ⟨rfl,rfl⟩:=e
       exact ⟨g,off,rfl,h1,h2⟩
     unfold maxLen at hcm
     clear e12
     go_upto_region 9 with (fail)
     have HM3:=Lib.hid (HM2.out.setEd (12+(code.length:Int)))
     have HM3:Hid (RdM w (w2.setCell ⟨w.heap.size+1+1,6,none⟩ (.int .i64 (12+(code.length:Int)))) pw a0 a1 n0 n1 c0 c1 k ae ce gen (12+(code.length:Int)) 0 P):=HM3
     change Code.wp _ _ _ _ (w2.setCell ⟨w.heap.size+1+1,6,none⟩ (.int .i64 (12+(code.length:Int))))
     generalize w2.setCell ⟨w.heap.size+1+1,6,none⟩ (.int .i64 (12+(code.length:Int)))=w3 at *
     have HCS:Hid (Calls Tryz.prog 50 #[.int .u64 0,.slice fa code.length fc] w3 fun e w'=>e=.returned (.int .u64 s)∧w3=w'):=Lib.hid (by have h:=rsum_c 0 (.slice fa code.length fc) code w.heap.size w3 (HCODE.out w3 HM3.out.be); rw [HSUM.out] at h; exact h)
     clear k4 k6 jf6 HM2
     have k7:=(rb_of HM3.out.jb).k7
     have jf7:=HM3.out.jb.frozen 7
     go_wp2_with fail
     refine HCS.out.mono ?_
     rintro e w4 ⟨rfl,rfl⟩
     have HM4:Hid (RdM w (w3.setCell ⟨w.heap.size+1+1,7,none⟩ (.int .u64 s)) pw a0 a1 n0 n1 c0 c1 k ae ce gen ((12+code.length:Nat):Int) s P):=Lib.hid (by have h:=HM3.out.setSum s; rw [E12.out] at h; exact h)
     go_wp2_with fail
     clear HCS HCODE HSUM HNB HM3 k7 jf7 E12 tg hcl hcl2
     go_loopw [6] (fun _ wx=>∃ (c:Cont) (ae:Option Addr) (ce:Nat),RdM w wx pw a0 a1 n0 n1 c0 c1 k ae ce c.gen c.ed c.sum c.ents∧Hid (RdRel file c)) (fun _ wx=>file.length - cellN wx ⟨w.heap.size+1+1,6,none⟩)
     case atStart=>exact ⟨_,_,_,HM4.out,HREL0⟩
     case round=>
      obtain ⟨⟨gn,Q,wt0,sm,ed⟩,ae,ce,hM,HR⟩:=hrel
      simp only at hM
      have HM:=Lib.hid hM
      have hgood:=HR.out.good
      have hed:12≤ed∧ed≤file.length:=hgood.ed
      have hsm:0≤sm∧sm≤18446744073709551615:=hgood.sum
      have hst:=HR.out.step
      simp only at hst
      have hwq:pWt Q≤131072:=by have h1:=hgood.wt; have h2:=hgood.max; simp only at h1 h2; omega
      have HGD:=Lib.hid hgood
      have hql:Q.length≤131072:=by have:=pWt_len Q; omega
      have hme:=hM.be.size
      have d0:=HDK.out hM
      have k3:=(rb_of hM.jb).k3
      have k6:=(rb_of hM.jb).k6
      have k7:=(rb_of hM.jb).k7
      clear HM4 HREL0 hM hgood
      obtain ⟨ca,hca,hsl⟩:∃ ca,(if cf=ed then some ⟨g,off,none⟩ else some ⟨g,off+ed,none⟩:Option Addr)=some ca∧∀ W',Below w.heap.size w W'→RdB W' w.heap.size (.slice (some ca) (file.length - ed) (cf - ed)) (file.drop ed):=by
       by_cases hc:cf=ed
       ·rw [if_pos hc]
        have hn:file.length - ed=0:=by omega
        exact ⟨_,rfl,fun _ _=>Or.inl ⟨Or.inr ⟨_,_,by rw [hn]⟩,List.drop_of_length_le (by omega)⟩⟩
       ·rw [if_neg hc]
        refine ⟨_,rfl,fun W' hb=>?_⟩
        rcases HFILE.out W' hb with ⟨_,h⟩ | ⟨g',off',cap',e,h1,h2,h3,h4⟩
        ·rw [h] at hed; simp at hed; omega
        ·simp only [Value.slice.injEq,Option.some.injEq,Addr.mk.injEq,and_true,true_and] at e
         obtain ⟨⟨rfl,rfl⟩,rfl⟩:=e
         exact RdB.drop hed.2 h1 h2 h3 h4
      obtain ⟨fa2,fn2,fc2,hfc2,hcall2⟩:=rfirst_v (.slice (some ca) (file.length - ed) (cf - ed)) (file.drop ed) sm w.heap.size wr (hsl wr HM.out.be) (by rw [List.length_drop]; omega)
      have HFC2:=Lib.hid hfc2
      have HCALL2:Hid (∀ n,Calls Tryz.prog 80 #[.slice (some ca) (file.length - ed) (cf - ed),.int .u64 sm] (wr.drewN n) fun e w'=>e=.returned (.tuple #[.slice fa2 fn2 fc2,.bool (nextB (file.drop ed) sm).isSome])∧w'=wr.drewN n):=Lib.hid (fun n=>(hcall2 (wr.drewN n) (hsl _ (below_drewN HM.out.be n))).mono (fun _ _ h=>⟨h.1,h.2.symm⟩))
      have HSL:=Lib.hid hsl
      have HHCA:=hca
      have hi1:(ed:Int)≤(file.length:Int):=by omega
      have hi2:(ed:Int)≤(cf:Int):=by omega
      have hec:ed≤cf:=by omega
      have HST:=Lib.hid hst
      clear hfc2 hcall2 hsl hst
      cases hnb:nextB (file.drop ed) sm with
      | none=>
        have HRES:Hid (readF file=some ⟨gn,Q,wt0,sm,ed⟩):=Lib.hid (HST.out.1 hnb)
        have HC2:Hid (∀ n,Calls Tryz.prog 80 #[.slice (some ca) (file.length - ed) (cf - ed),.int .u64 sm] (wr.drewN n) fun e w'=>e=.returned (.tuple #[.slice fa2 fn2 fc2,.bool false])∧w'=wr.drewN n):=Lib.hid (by have h:=HCALL2.out; rw [hnb] at h; exact h)
        clear HCALL2 HFC2 hnb HST
        go_upto_region 10 with (fail)
        go_quiet ((go_at_call 80; exact Calls.quiet_of_same (HC2.out _)))
        have HMQ:=Lib.hid (HM.out.below (below_drewN (Below.refl wr.heap.size wr) nq))
        clear k3 k6 k7 d0 HM HSL HC2
        generalize wr.drewN nq=wq at *
        obtain ⟨k0,k1,k2,k3,k4,k5,k6,k7,k8,_⟩:=rb_of HMQ.out.jb
        obtain ⟨z0,z1,z2,z3,z4,z5,z6,z7,z8,zf⟩:=rb_of HMQ.out.zb
        have zf0:=zf 0
        have zf1:=zf 1
        have zf2:=zf 2
        have zf3:=zf 3
        have zf4:=zf 4
        have zf5:=zf 5
        have zf6:=zf 6
        have zf7:=zf 7
        have zf8:=zf 8
        clear zf
        go_wp2
        obtain ⟨hb9,he9⟩:=HMQ.out.copied (.int .i64 pw) (.slice a0 n0 c0) (.slice a1 n1 c1) (.slice ae Q.length ce) (.int .i64 gn) (.int .i64 k) (.int .i64 ed) (.int .u64 sm) (.bool false)
        have hz9:=set9_blk HMQ.out.zb (.int .i64 pw) (.slice a0 n0 c0) (.slice a1 n1 c1) (.slice ae Q.length ce) (.int .i64 gn) (.int .i64 k) (.int .i64 ed) (.int .u64 sm) (.bool false)
        change bodyPost _ _ _ _ _ (set9 wq (w.heap.size+1) (.int .i64 pw) (.slice a0 n0 c0) (.slice a1 n1 c1) (.slice ae Q.length ce) (.int .i64 gn) (.int .i64 k) (.int .i64 ed) (.int .u64 sm) (.bool false))
        generalize set9 wq (w.heap.size+1) (.int .i64 pw) (.slice a0 n0 c0) (.slice a1 n1 c1) (.slice ae Q.length ce) (.int .i64 gn) (.int .i64 k) (.int .i64 ed) (.int .u64 sm) (.bool false)=w9 at *
        obtain ⟨j0,j1,j2,j3,j4,j5,j6,j7,j8,_⟩:=rb_of hz9
        exact bodyPost_ret (v:=rjV pw (.slice a0 n0 c0) (.slice a1 n1 c1) (.slice ae Q.length ce) gn k ed sm false) (by simp [results,Tryz.results51,go_sem,j0,j1,j2,j3,j4,j5,j6,j7,j8]) rfl (by rw [HRES.out]; exact ⟨⟨_,_,rfl,he9⟩,hb9⟩)
      | some T=>
        obtain ⟨code2,s2⟩:=T
        obtain ⟨hst1,hst2⟩:=HST.out.2 code2 s2 hnb
        have HST1:=Lib.hid hst1
        have HST2:=Lib.hid hst2
        have hbl:=(nextB_some hnb).1
        rw [List.length_drop] at hbl
        have HSUM2:=Lib.hid (nextB_some hnb).2.2.2.2
        obtain ⟨hcd2,rfl⟩:=HFC2.out code2 s2 hnb
        have HCD2:Hid (∀ W',Below w.heap.size w W'→RdB W' w.heap.size (.slice fa2 code2.length fc2) code2):=Lib.hid (fun W' hb=>hcd2 W' (HSL.out W' hb))
        have HC2:Hid (∀ n,Calls Tryz.prog 80 #[.slice (some ca) (file.length - ed) (cf - ed),.int .u64 sm] (wr.drewN n) fun e w'=>e=.returned (.tuple #[.slice fa2 code2.length fc2,.bool true])∧w'=wr.drewN n):=Lib.hid (by have h:=HCALL2.out; rw [hnb] at h; exact h)
        have hc2l:(code2.length:Int)≤1000000:=by omega
        have hcne:¬ cf=ed:=by omega
        have hed2:(ed:Int)+12+(code2.length:Int)≤1000000:=by omega
        have HBL:Hid (ed+12+code2.length≤file.length):=Lib.hid (by omega)
        have HCN:Hid (cellN wr ⟨w.heap.size+1+1,6,none⟩=ed):=Lib.hid (by unfold cellN; rw [k6]; simp)
        rw [if_neg hcne] at hca HHCA
        simp only [Option.some.injEq] at hca
        subst hca
        clear HCALL2 HFC2 hnb HST hst1 hst2 hcd2 HHCA hbl
        go_upto_region 10 with (fail)
        go_quiet ((go_at_call 80; exact Calls.quiet_of_same (HC2.out _)))
        have HMQ:=Lib.hid (HM.out.below (below_drewN (Below.refl wr.heap.size wr) nq))
        clear k3 k6 k7 d0 HM HSL HC2
        generalize wr.drewN nq=wq at *
        have HCH:=Lib.hid (rchanges_c (.slice fa2 code2.length fc2) code2 wq ((HCD2.out wq HMQ.out.be).mono HMQ.out.be.size) (by omega))
        go_wp2_with fail
        refine HCH.out.mono ?_
        rintro e w5 ⟨hres,hb5⟩
        have HM5:=Lib.hid (HMQ.out.below hb5)
        clear HMQ HCH hb5
        cases hcs:rChanges code2 with
        | none=>
          rw [hcs] at hres
          obtain ⟨vx,rfl⟩:∃ v,e=.returned (.tuple #[v,.bool false]):=hres
          have HRES:Hid (readF file=some ⟨gn,Q,wt0,sm,ed⟩):=Lib.hid (HST1.out hcs)
          clear hcs HST1 HST2 HCD2
          obtain ⟨k0,k1,k2,k3,k4,k5,k6,k7,k8,_⟩:=rb_of HM5.out.jb
          obtain ⟨z0,z1,z2,z3,z4,z5,z6,z7,z8,zf⟩:=rb_of HM5.out.zb
          have zf0:=zf 0
          have zf1:=zf 1
          have zf2:=zf 2
          have zf3:=zf 3
          have zf4:=zf 4
          have zf5:=zf 5
          have zf6:=zf 6
          have zf7:=zf 7
          have zf8:=zf 8
          clear zf
          go_wp2
          obtain ⟨hb9,he9⟩:=HM5.out.copied (.int .i64 pw) (.slice a0 n0 c0) (.slice a1 n1 c1) (.slice ae Q.length ce) (.int .i64 gn) (.int .i64 k) (.int .i64 ed) (.int .u64 sm) (.bool false)
          have hz9:=set9_blk HM5.out.zb (.int .i64 pw) (.slice a0 n0 c0) (.slice a1 n1 c1) (.slice ae Q.length ce) (.int .i64 gn) (.int .i64 k) (.int .i64 ed) (.int .u64 sm) (.bool false)
          change bodyPost _ _ _ _ _ (set9 w5 (w.heap.size+1) (.int .i64 pw) (.slice a0 n0 c0) (.slice a1 n1 c1) (.slice ae Q.length ce) (.int .i64 gn) (.int .i64 k) (.int .i64 ed) (.int .u64 sm) (.bool false))
          generalize set9 w5 (w.heap.size+1) (.int .i64 pw) (.slice a0 n0 c0) (.slice a1 n1 c1) (.slice ae Q.length ce) (.int .i64 gn) (.int .i64 k) (.int .i64 ed) (.int .u64 sm) (.bool false)=w9 at *
          obtain ⟨j0,j1,j2,j3,j4,j5,j6,j7,j8,_⟩:=rb_of hz9
          exact bodyPost_ret (v:=rjV pw (.slice a0 n0 c0) (.slice a1 n1 c1) (.slice ae Q.length ce) gn k ed sm false) (by simp [results,Tryz.results51,go_sem,j0,j1,j2,j3,j4,j5,j6,j7,j8]) rfl (by rw [HRES.out]; exact ⟨⟨_,_,rfl,he9⟩,hb9⟩)
        | some cs=>
          rw [hcs] at hres
          obtain ⟨vc,rfl,hca⟩:∃ v,e=.returned (.tuple #[v,.bool true])∧ChgsAt w5 w5.heap.size v cs:=hres
          obtain ⟨hno,hyes⟩:=HST2.out cs hcs
          have hsm:=rChanges_small hcs
          have hslen:=sum_len cs
          have hbound:=pChgs_bound cs Q HGD.out.apart
          have HMEM:=Lib.hid (fun c hc=>rChanges_mem hcs c hc)
          have hpb:pWt (pChgs Q cs)≤4611686018427387904:=by omega
          have hcsl:cs.length≤1000000:=by omega
          have HCA:=Lib.hid hca
          have HCHK:=Lib.hid (rcheck_c (.slice ae Q.length ce) Q vc cs w5 HM5.out.en HCA.out (by omega) hcsl (fun c hc=>by have:=HMEM.out c hc; omega) hpb)
          have HQ:Hid (∀ W' v,EntsAt W' W'.heap.size v (pChgs Q cs)→∃ a c,v=.slice a (pChgs Q cs).length c):=Lib.hid (fun W' v h=>by obtain ⟨a,c,e,_⟩:=h; exact ⟨a,c,e⟩)
          have k3:=(rb_of HM5.out.jb).k3
          have HNO:=Lib.hid hno
          have HYES:=Lib.hid hyes
          have HPW:=Lib.hid hpb
          have HL64:=Lib.hid (fun (h:rCheckN Q cs=0)=>((rcheck_zero HGD.out.apart).1 h).2.1)
          clear hca hcs hno hyes hbound hslen hsm hpb HST1 HST2
          generalize rCheckN Q cs=ck at *
          by_cases hz:ck=0
          ·subst hz
           have HREL2:=Lib.hid (HYES.out rfl)
           have h64:=HL64.out rfl
           clear HNO HYES HL64
           go_wp2_with fail
           refine HCHK.out.mono ?_
           rintro e w6 ⟨rfl,hb6⟩
           have HM6:=Lib.hid (HM5.out.below hb6)
           have HCA6:=Lib.hid ((ChgsAt.below HCA.out hb6).raise hb6.size)
           clear k3 HM5 HCHK HCA hb6
           have k3:=(rb_of HM6.out.jb).k3
           have k6:=(rb_of HM6.out.jb).k6
           have jf3:=HM6.out.jb.frozen 3
           have HCG:=Lib.hid (rchanged_c (.slice ae Q.length ce) Q vc cs w6 HM6.out.en HCA6.out (by omega) (by omega))
           go_wp2_with fail
           refine HCG.out.mono ?_
           rintro e w7 ⟨⟨ve7,rfl,hen7⟩,hb7⟩
           have HM7:=Lib.hid (HM6.out.below hb7)
           obtain ⟨ae7,ce7,rfl⟩:=HQ.out _ _ hen7
           have HEN7:=Lib.hid hen7
           clear k3 k6 jf3 HM6 HCG HCA6 hb7 hen7
           have k3:=(rb_of HM7.out.jb).k3
           have jf3:=HM7.out.jb.frozen 3
           go_upto_region 17 with (fail)
           have HM8:=Lib.hid (HM7.out.setEnts HEN7.out)
           have HM8:Hid (RdM w (w7.setCell ⟨w.heap.size+1+1,3,none⟩ (.slice ae7 (pChgs Q cs).length ce7)) pw a0 a1 n0 n1 c0 c1 k ae7 ce7 gn ed sm (pChgs Q cs)):=HM8
           change Code.wp _ _ _ _ (w7.setCell ⟨w.heap.size+1+1,3,none⟩ (.slice ae7 (pChgs Q cs).length ce7))
           generalize w7.setCell ⟨w.heap.size+1+1,3,none⟩ (.slice ae7 (pChgs Q cs).length ce7)=w8 at *
           clear k3 jf3 HM7 HEN7
           have k6:=(rb_of HM8.out.jb).k6
           have jf6:=HM8.out.jb.frozen 6
           go_upto_region 18 with (fail)
           have HM9:=Lib.hid (HM8.out.setEd ((ed:Int)+12+(code2.length:Int)))
           have HM9:Hid (RdM w (w8.setCell ⟨w.heap.size+1+1,6,none⟩ (.int .i64 ((ed:Int)+12+(code2.length:Int)))) pw a0 a1 n0 n1 c0 c1 k ae7 ce7 gn ((ed:Int)+12+(code2.length:Int)) sm (pChgs Q cs)):=HM9
           change Code.wp _ _ _ _ (w8.setCell ⟨w.heap.size+1+1,6,none⟩ (.int .i64 ((ed:Int)+12+(code2.length:Int))))
           generalize w8.setCell ⟨w.heap.size+1+1,6,none⟩ (.int .i64 ((ed:Int)+12+(code2.length:Int)))=w9 at *
           clear k6 jf6 HM8
           have k7:=(rb_of HM9.out.jb).k7
           have jf7:=HM9.out.jb.frozen 7
           have HCS2:Hid (Calls Tryz.prog 50 #[.int .u64 sm,.slice fa2 code2.length fc2] w9 fun e w'=>e=.returned (.int .u64 s2)∧w9=w'):=Lib.hid (by have h:=rsum_c sm (.slice fa2 code2.length fc2) code2 w.heap.size w9 (HCD2.out w9 HM9.out.be); rw [HSUM2.out] at h; exact h)
           go_wp2_with fail
           refine HCS2.out.mono ?_
           rintro e w10 ⟨rfl,rfl⟩
           have HM10:Hid (RdM w (w9.setCell ⟨w.heap.size+1+1,7,none⟩ (.int .u64 s2)) pw a0 a1 n0 n1 c0 c1 k ae7 ce7 gn ((ed+12+code2.length:Nat):Int) s2 (pChgs Q cs)):=Lib.hid (by have h:=HM9.out.setSum s2; rw [show (ed:Int)+12+(code2.length:Int)=((ed+12+code2.length:Nat):Int) by omega] at h; exact h)
           go_wp2
           go_roundw
           case rel=>exact ⟨_,_,_,HM10.out,HREL2⟩
           case measure=>
            have hc:=(rb_of HM10.out.jb).k6
            have e1:cellN (w9.setCell ⟨w.heap.size+1+1,7,none⟩ (.int .u64 s2)) ⟨w.heap.size+1+1,6,none⟩=ed+12+code2.length:=by unfold cellN; rw [hc]; exact Int.toNat_natCast _
            rw [e1,HCN.out]
            have:=HBL.out
            omega
          ·have HRES:Hid (readF file=some ⟨gn,Q,wt0,sm,ed⟩):=Lib.hid (HNO.out hz)
           clear HNO HYES HL64
           go_wp2_with fail
           refine HCHK.out.mono ?_
           rintro e w6 ⟨rfl,hb6⟩
           have HM6:=Lib.hid (HM5.out.below hb6)
           clear k3 HM5 HCHK HCA hb6
           obtain ⟨k0,k1,k2,k3,k4,k5,k6,k7,k8,_⟩:=rb_of HM6.out.jb
           obtain ⟨z0,z1,z2,z3,z4,z5,z6,z7,z8,zf⟩:=rb_of HM6.out.zb
           have zf0:=zf 0
           have zf1:=zf 1
           have zf2:=zf 2
           have zf3:=zf 3
           have zf4:=zf 4
           have zf5:=zf 5
           have zf6:=zf 6
           have zf7:=zf 7
           have zf8:=zf 8
           clear zf
           go_wp2
           obtain ⟨hb9,he9⟩:=HM6.out.copied (.int .i64 pw) (.slice a0 n0 c0) (.slice a1 n1 c1) (.slice ae Q.length ce) (.int .i64 gn) (.int .i64 k) (.int .i64 ed) (.int .u64 sm) (.bool false)
           have hz9:=set9_blk HM6.out.zb (.int .i64 pw) (.slice a0 n0 c0) (.slice a1 n1 c1) (.slice ae Q.length ce) (.int .i64 gn) (.int .i64 k) (.int .i64 ed) (.int .u64 sm) (.bool false)
           change bodyPost _ _ _ _ _ (set9 w6 (w.heap.size+1) (.int .i64 pw) (.slice a0 n0 c0) (.slice a1 n1 c1) (.slice ae Q.length ce) (.int .i64 gn) (.int .i64 k) (.int .i64 ed) (.int .u64 sm) (.bool false))
           generalize set9 w6 (w.heap.size+1) (.int .i64 pw) (.slice a0 n0 c0) (.slice a1 n1 c1) (.slice ae Q.length ce) (.int .i64 gn) (.int .i64 k) (.int .i64 ed) (.int .u64 sm) (.bool false)=w9 at *
           obtain ⟨j0,j1,j2,j3,j4,j5,j6,j7,j8,_⟩:=rb_of hz9
           exact bodyPost_ret (v:=rjV pw (.slice a0 n0 c0) (.slice a1 n1 c1) (.slice ae Q.length ce) gn k ed sm false) (by simp [results,Tryz.results51,go_sem,j0,j1,j2,j3,j4,j5,j6,j7,j8]) rfl (by rw [HRES.out]; exact ⟨⟨_,_,rfl,he9⟩,hb9⟩)
end
section
open Go.RowKit SeedP Go.Maps
/-- a commit, by the reference's Check -/
theorem jCommit_check {s:JS} {cs:List Chg} (hok:s.Ok) (hd:s.down=false) :
 jCommit cs s=if rCheckN s.c.ents cs ≠ 0 then (s,rCheckN s.c.ents cs) else if s.c.gen=4611686018427387904∧overfullP s (codeOf cs).length=true then (s,4) else jPowered (jDo cs s):=by
 unfold jCommit
 rw [if_neg (by rw [hd]; simp)]
 by_cases h1:cs.length=0∨64 < cs.length
 ·rw [if_pos h1,rck_many h1,if_pos (by decide)]
 rw [if_neg h1]
 by_cases h2:validP cs=0
 ·rw [if_neg (by rw [h2]; simp)]
  have hval:=(valid_zero cs).1 h2
  cases h3:(cs.any fun c=>c.drop && !(pFind s.c.ents c.key).isSome) with
  | true=>rw [if_pos rfl,rck_none h1 h2 h3,if_pos (by decide)]
  | false=>
    rw [if_neg (by simp),rck_rest h1 h2 h3]
    have hw:pWt (pChgs s.c.ents cs)=pWAfter s.c.ents s.c.wt cs:=by rw [hok.wt]; exact (pChgs_wt s.c.ents cs hok.apart hval.apart).2
    rw [hw]
    by_cases h4:131072 < pWAfter s.c.ents s.c.wt cs
    ·rw [if_pos (Or.inl h4),if_pos h4,if_pos (by decide)]
    ·by_cases h5:s.c.gen=4611686018427387904∧overfullP s (codeOf cs).length=true
     ·rw [if_pos (Or.inr h5),if_neg h4,if_neg (fun h=>h rfl),if_pos h5]
     ·rw [if_neg (fun h=>h.elim h4 h5),if_neg h4,if_neg (fun h=>h rfl),if_neg h5]
 ·rw [if_pos h2,rck_valid h1 rfl h2,if_pos h2]
/-- the cut ahead of a commit, as the reference has it: always asked for -/
theorem jDo2_cut {s:JS} (h:s.c.ed≤(s.d.get s.file).length):jDo2 s=(⟨(dCut s.file s.c.ed s.d).1,s.down,s.file,s.c⟩,(dCut s.file s.c.ed s.d).2):=by
 unfold jDo2
 by_cases hl:s.c.ed < (s.d.get s.file).length
 ·rw [if_pos hl]
 ·rw [if_neg hl]
  have e:(s.d.get s.file).length=s.c.ed:=by omega
  unfold dCut
  rw [if_pos e]
/-- Open's choice, as the reference has it -/
theorem openP_pick (d:DS):openP d=if ((readF d.f0).getD zeroC).gen < ((readF d.f1).getD zeroC).gen then (true,(readF d.f1).getD zeroC) else (false,(readF d.f0).getD zeroC):=by
 unfold openP
 cases h0:readF d.f0 with
 | none=>
   cases h1:readF d.f1 with
   | none=>rw [pickC_none,pickC_none]; simp
   | some b=>
     have g1:=readF_gen h1
     rw [pickC_none,pickC_lt (show (false,zeroC).2.gen < b.gen from g1)]
     simp only [Option.getD_none,Option.getD_some]
     rw [if_pos (show zeroC.gen < b.gen from g1)]
 | some a=>
   have g0:=readF_gen h0
   rw [pickC_lt (show (false,zeroC).2.gen < a.gen from g0)]
   cases h1:readF d.f1 with
   | none=>
     rw [pickC_none]
     simp only [Option.getD_none,Option.getD_some]
     rw [if_neg (by show ¬ a.gen < 0; omega)]
   | some b=>
     simp only [Option.getD_some]
     by_cases h:a.gen < b.gen
     ·rw [pickC_lt h,if_pos h]
     ·rw [if_neg h]
      unfold pickC
      simp only []
      rw [if_neg h]
end
end Go.Proofs.YtondomklkapogaaGreatDoor
