/- The reference's Commit, where it writes: the walk. -/
import Derived.Test.YtondomklkapogaaGreatDoorM34
import Derived.Deep.CutBlock
namespace Go.Proofs.YtondomklkapogaaGreatDoor
open Go.RowKit SeedP Go.Maps
theorem jDo1_facts {s:JS} (hok:s.Ok) (hed:1≤s.c.gen→s.c.ed≤(s.d.get s.file).length):(jDo1 s).1.c.ents=s.c.ents∧(jDo1 s).1.down=s.down∧(jDo1 s).1.Ok∧((jDo1 s).2=true→1≤(jDo1 s).1.c.gen∧(jDo1 s).1.c.ed≤((jDo1 s).1.d.get (jDo1 s).1.file).length):=by
 unfold jDo1
 by_cases h:s.c.gen=0
 ·rw [if_pos h]
  have h1:=jCompact_ok hok (by omega)
  refine ⟨jCompact_ents s,?_,h1.1,fun hk=>⟨?_,Nat.le_of_eq (h1.2 hk).1.symm⟩⟩
  ·rcases jCompact_cases s with ⟨d,h,_⟩ | ⟨d,h,_⟩ <;> rw [h]
  ·rcases jCompact_cases s with ⟨d,h,_⟩ | ⟨d,h,_⟩
   ·rw [h] at hk; cases hk
   ·rw [h]; simp
 ·rw [if_neg h]
  exact ⟨rfl,rfl,hok,fun _=>⟨by show 1≤s.c.gen; omega,hed (by omega)⟩⟩
theorem jDo2_same (s:JS):(jDo2 s).1.c=s.c∧(jDo2 s).1.file=s.file∧(jDo2 s).1.down=s.down:=by
 unfold jDo2; split <;> exact ⟨rfl,rfl,rfl⟩
theorem jDo3_same (n:Nat) (s:JS):(jDo3 n s).1.c.ents=s.c.ents∧(jDo3 n s).1.down=s.down∧(1≤s.c.gen→1≤(jDo3 n s).1.c.gen):=by
 unfold jDo3
 split
 ·refine ⟨jCompact_ents s,?_,fun hg=>?_⟩
  ·rcases jCompact_cases s with ⟨d,h,_⟩ | ⟨d,h,_⟩ <;> rw [h]
  ·rcases jCompact_cases s with ⟨d,h,_⟩ | ⟨d,h,_⟩
   ·rw [h]; exact hg
   ·rw [h]; simp
 ·exact ⟨rfl,rfl,id⟩
theorem rFl_pos {s:JS} (h:1≤s.c.gen):rFl s=if s.file then 1 else 0:=by unfold rFl; rw [if_neg (by omega)]
set_option maxRecDepth 100000 in
set_option maxHeartbeats 8000000 in
/-- Commit, where it writes -/
theorem rcommit_do (s:JS) (cs:List Chg) (v0 v1 ve vl:Value) (w:World) (hrd:RD w v0 v1 s.d) (hve:EntsAt w w.heap.size ve s.c.ents) (hcs:ChgsAt w w.heap.size vl cs) (hok:s.Ok) (hn:cs.length≤1000) (hbd:∀ c ∈ cs,c.key.length≤1000000∧c.val.length≤1000000) (hdn:s.down=false) (hed:1≤s.c.gen→s.c.ed≤(s.d.get s.file).length) (hck:rCheckN s.c.ents cs=0) (hfull:¬ (s.c.gen=4611686018427387904∧overfullP s (codeOf cs).length=true)) :
 Calls Tryz.prog 22 #[rjV s.d.pw v0 v1 ve s.c.gen (rFl s) s.c.ed s.c.sum false,vl] w fun e w'=>CmRes (jPowered (jDo cs s)) e w'∧Below w.heap.size w w':=by
 obtain ⟨a0,c0,a1,c1,rfl,rfl⟩:=hrd.slices
 obtain ⟨ae,ce,rfl⟩:∃ ae ce,ve=.slice ae s.c.ents.length ce:=by obtain ⟨a,c,e,_⟩:=hve; exact ⟨a,c,e⟩
 have HM:=Lib.hid (CmM.start w s false hrd hve)
 have HD:=Lib.hid hdn
 clear hrd hve hdn
 have hsz:=code_len cs
 have hval:=((rcheck_zero hok.apart).1 hck).2.2.1
 have hvd:=(valid_zero cs).1 hval
 have hn64:=((rcheck_zero hok.apart).1 hck).2.1
 have hcl:(codeOf cs).length≤65536:=by rw [hsz]; exact hvd.size
 have HF1:=Lib.hid (jDo1_facts hok hed)
 have HOK3:=Lib.hid (jDo3_ok hok hcl (fun hg=>by cases ho:overfullP s (codeOf cs).length with | false=>rfl | true=>exact absurd ⟨hg,ho⟩ hfull))
 have HFULL:=Lib.hid hfull
 clear hfull hed
 go_enter Tryz.func22,Tryz.ntmps22
 go_upto_region 1 with (fail)
 change Code.wp _ _ _ _ ((w.alloc (.cells (rjC s.d.pw (.slice a0 s.d.f0.length c0) (.slice a1 s.d.f1.length c1) (.slice ae s.c.ents.length ce) s.c.gen (rFl s) s.c.ed s.c.sum false).toArray 52)).alloc (.cells (rjC 0 (.slice none 0 0) (.slice none 0 0) (.slice none 0 0) 0 0 0 0 false).toArray 52))
 generalize ((w.alloc (.cells (rjC s.d.pw (.slice a0 s.d.f0.length c0) (.slice a1 s.d.f1.length c1) (.slice ae s.c.ents.length ce) s.c.gen (rFl s) s.c.ed s.c.sum false).toArray 52)).alloc (.cells (rjC 0 (.slice none 0 0) (.slice none 0 0) (.slice none 0 0) 0 0 0 0 false).toArray 52))=W at *
 have HCH:=Lib.hid (rcheck_c (.slice ae s.c.ents.length ce) s.c.ents vl cs W HM.out.en ((hcs.below HM.out.be).raise HM.out.be.size) (by have h1:=hok.wt; have h2:=hok.max; have h3:=pWt_len s.c.ents; omega) (by omega) hbd (by have h1:=pChgs_bound cs s.c.ents hok.apart; have h2:=sum_bound cs hbd; have h3:=hok.wt; have h4:=hok.max; omega))
 have HCO:Hid (∀ W',Below w.heap.size w W'→Calls Tryz.prog 55 #[vl] W' fun e w'=>(∃ v',e=.returned v'∧w'.ownsRow W'.heap.size 5 1 v' (codeOf cs).length (byts (codeOf cs)))∧Below W'.heap.size W' w'):=Lib.hid (fun W' hb=>rcode_c vl cs W' ((hcs.below hb).raise hb.size) (by omega) (fun c hc=>⟨by have:=(hvd.key c hc).2; omega,by have:=hvd.val c hc; omega⟩))
 have HDO:Hid (jDo cs s=jThen (jThen (jThen (jDo1 s) jDo2) (jDo3 (codeOf cs).length)) (jDo4 cs)):=Lib.hid rfl
 rw [hck] at HCH
 have HOK:=Lib.hid hok
 have HVD:=Lib.hid hvd
 have HCSA:Hid (∀ W',Below w.heap.size w W'→ChgsAt W' W'.heap.size vl cs):=Lib.hid (fun W' hb=>(hcs.below hb).raise hb.size)
 have hed0:=hok.ed
 have hgn0:=hok.gen
 clear hcs hok hbd hsz hval hvd
 have k3:=(rb_of HM.out.ab).k3
 have k8:=(rb_of HM.out.ab).k8
 go_wp2_with fail
 refine HCH.out.mono ?_
 rintro e w3 ⟨rfl,hb3⟩
 have HM3:=Lib.hid (HM.out.below hb3)
 have HC3:=Lib.hid (HCO.out w3 HM3.out.be)
 clear HM HCH HCO hb3 k3 k8
 go_wp2_with fail
 refine HC3.out.mono ?_
 rintro e w4 ⟨⟨vc,rfl,hown⟩,hb4⟩
 have hrow:=RdB.of_own hown
 obtain ⟨ac,cc,rfl⟩:∃ a c,vc=.slice a (codeOf cs).length c:=by obtain ⟨a,c,e,_⟩:=hrow.open_; exact ⟨a,c,e⟩
 have HM4:Hid (CmM w w4 s false a0 a1 ae ac c0 c1 ce cc (codeOf cs)):=Lib.hid (by have h:=HM3.out.below hb4; exact ⟨h.ab,h.zb,h.be,h.rd,h.en,hrow⟩)
 clear HM3 HC3 hb4 hown hrow
 have k4:=(rb_of HM4.out.ab).k4
 have k6:=(rb_of HM4.out.ab).k6
 have k8:=(rb_of HM4.out.ab).k8
 generalize hcode:codeOf cs=code at *
 have HCD:=Lib.hid hcode
 clear hcode
 have hfull:s.c.gen ≠ 4611686018427387904∨¬ 262144 < s.c.ed+12+code.length:=by
  have h:=HFULL.out
  by_cases hg:s.c.gen=4611686018427387904
  ·right; intro h2; exact h ⟨hg,by unfold overfullP; exact decide_eq_true h2⟩
  ·exact Or.inl hg
 have hlI:(code.length:Int)≤65536:=by omega
 have heI:(s.c.ed:Int)≤262144:=by omega
 clear k8
 go_upto_region 7 with (fail)
 go_cut [32] from 21 to 32 (fun tv wx=>tv=.bool false∧wx=w4)
 case first=>
  by_cases hg:s.c.gen=4611686018427387904
  ·have u1:((s.c.gen:Int) == 4611686018427387904)=true:=by rw [hg]; rfl
   have u2:decide ((262144:Int) < (s.c.ed:Int)+12+(code.length:Int))=false:=by
    rcases hfull with h | h
    ·exact absurd hg h
    ·exact decide_eq_false (by omega)
   clear hfull hg hck hcl hed0 hgn0
   go_wp2_with fail
   go_meet
   exact ⟨rfl,rfl⟩
  ·have u1:((s.c.gen:Int) == 4611686018427387904)=false:=by rw [beq_eq_false_iff_ne]; omega
   clear hfull hg hck hcl hed0 hgn0
   go_wp2_with fail
   go_meet
   exact ⟨rfl,rfl⟩
 obtain ⟨htv,hwc⟩:=hcut
 subst hwc
 subst htv
 clear hfull k4 k6
 have k4:=(rb_of HM4.out.ab).k4
 go_upto_if 36 with (fail)
 go_cut [36] from 37 to 38 (fun tv wx=>tv=tv∧∃ a0 a1 c0 c1,CmM w wx (jDo1 s).1 (!(jDo1 s).2) a0 a1 ae ac c0 c1 ce cc code)
 case first=>
  by_cases h0:s.c.gen=0
  ·have u1:((s.c.gen:Int) == 0)=true:=by rw [h0]; rfl
   have HJ:Hid (jDo1 s=jCompact s):=Lib.hid (by unfold jDo1; rw [if_pos h0])
   have HS:=Lib.hid (rshorten_c s (.slice a0 s.d.f0.length c0) (.slice a1 s.d.f1.length c1) (.slice ae s.c.ents.length ce) wc HM4.out.rd HM4.out.en HOK.out hgn0)
   have HE:=Lib.hid (jCompact_ents s)
   clear h0 k4
   obtain ⟨k0,k1,k2,k3,k4,k5,k6,k7,k8,fr⟩:=rb_of HM4.out.ab
   have f0:=fr 0
   have f1:=fr 1
   have f2:=fr 2
   have f3:=fr 3
   have f4:=fr 4
   have f5:=fr 5
   have f6:=fr 6
   have f7:=fr 7
   have f8:=fr 8
   clear fr
   go_wp2_with fail
   refine HS.out.mono ?_
   rintro e w5 ⟨⟨v0',v1',rfl,hrd5⟩,hb5⟩
   obtain ⟨b0,e0,b1,e1,rfl,rfl⟩:=hrd5.slices
   have HM5:=Lib.hid (HM4.out.below hb5)
   have HR5:=Lib.hid hrd5
   clear k0 k1 k2 k3 k4 k5 k6 k7 k8 f0 f1 f2 f3 f4 f5 f6 f7 f8
   clear HS hrd5 hb5
   obtain ⟨k0,k1,k2,k3,k4,k5,k6,k7,k8,fr⟩:=rb_of HM5.out.ab
   have f0:=fr 0
   have f1:=fr 1
   have f2:=fr 2
   have f3:=fr 3
   have f4:=fr 4
   have f5:=fr 5
   have f6:=fr 6
   have f7:=fr 7
   have f8:=fr 8
   clear fr
   go_wp2_with fail
   go_meet
   refine ⟨trivial,?_⟩
   rw [HJ.out]
   exact ⟨b0,b1,e0,e1,HM5.out.store (s':=(jCompact s).1) (dn':=!(jCompact s).2) (congrArg List.length HE.out.symm) HR5.out (by rw [HE.out]; exact HM5.out.en)⟩
  ·have u1:((s.c.gen:Int) == 0)=false:=by rw [beq_eq_false_iff_ne]; omega
   have HJ:Hid (jDo1 s=(s,true)):=Lib.hid (by unfold jDo1; rw [if_neg h0])
   clear h0
   go_wp2_with fail
   go_meet
   refine ⟨trivial,?_⟩
   rw [HJ.out]
   exact ⟨a0,a1,c0,c1,HM4.out⟩
 obtain ⟨-,a0,a1,c0,c1,hM⟩:=hcut
 have HM5:=Lib.hid hM
 clear hM k4 HM4
 generalize jDo1 s=r1 at *
 obtain ⟨s1,b1⟩:=r1
 have HM5:Hid (CmM w wc s1 (!b1) a0 a1 ae ac c0 c1 ce cc code):=HM5
 have k8:=(rb_of HM5.out.ab).k8
 go_upto_if 41 with (fail)
 go_cut [41] from 42 to 47 (fun tv wx=>tv=tv∧∃ a0 a1 c0 c1,CmM w wx (jThen (s1,b1) jDo2).1 (!(jThen (s1,b1) jDo2).2) a0 a1 ae ac c0 c1 ce cc code)
 case first=>
  clear k8
  cases b1 with
  | false=>
    go_wp2_with fail
    go_meet
    refine ⟨trivial,?_⟩
    rw [jThen_no rfl]
    exact ⟨a0,a1,c0,c1,HM5.out⟩
  | true=>
    obtain ⟨hg1,he1⟩:=HF1.out.2.2.2 rfl
    have hg1:1≤s1.c.gen:=hg1
    have he1:s1.c.ed≤(s1.d.get s1.file).length:=he1
    have HJ2:=Lib.hid (jDo2_cut he1)
    have hc:=rcut_c s1.d (.slice a0 s1.d.f0.length c0) (.slice a1 s1.d.f1.length c1) ae s1.c.ents.length ce s1.c.gen (rFl s1) s1.c.ed s1.c.sum false s1.file s1.c.ed wc HM5.out.rd HF1.out.2.2.1.d he1
    rw [← rFl_pos hg1] at hc
    generalize dCut s1.file s1.c.ed s1.d=dc at *
    obtain ⟨d2,q2⟩:=dc
    have hc:Calls Tryz.prog 57 #[rjV s1.d.pw (.slice a0 s1.d.f0.length c0) (.slice a1 s1.d.f1.length c1) (.slice ae s1.c.ents.length ce) s1.c.gen (rFl s1) s1.c.ed s1.c.sum false,.int .i64 (rFl s1),.int .i64 s1.c.ed] wc fun e w'=>(∃ v0' v1',e=.returned (rjV d2.pw v0' v1' (.slice ae s1.c.ents.length ce) s1.c.gen (rFl s1) s1.c.ed s1.c.sum (!q2))∧RD w' v0' v1' d2)∧Below wc.heap.size wc w':=by
     cases q2 <;> exact hc
    have HC:=Lib.hid hc
    clear hc he1 hg1
    obtain ⟨k0,k1,k2,k3,k4,k5,k6,k7,k8,fr⟩:=rb_of HM5.out.ab
    have f0:=fr 0
    have f1:=fr 1
    have f2:=fr 2
    have f3:=fr 3
    have f4:=fr 4
    have f5:=fr 5
    have f6:=fr 6
    have f7:=fr 7
    have f8:=fr 8
    clear fr
    go_wp2_with fail
    refine HC.out.mono ?_
    rintro e w5 ⟨⟨v0',v1',rfl,hrd5⟩,hb5⟩
    obtain ⟨b0,e0,b1,e1,rfl,rfl⟩:=hrd5.slices
    have HM6:=Lib.hid (HM5.out.below hb5)
    have HR5:=Lib.hid hrd5
    clear k0 k1 k2 k3 k4 k5 k6 k7 k8 f0 f1 f2 f3 f4 f5 f6 f7 f8
    clear HC hrd5 hb5
    obtain ⟨k0,k1,k2,k3,k4,k5,k6,k7,k8,fr⟩:=rb_of HM6.out.ab
    have f0:=fr 0
    have f1:=fr 1
    have f2:=fr 2
    have f3:=fr 3
    have f4:=fr 4
    have f5:=fr 5
    have f6:=fr 6
    have f7:=fr 7
    have f8:=fr 8
    clear fr
    go_wp2_with fail
    go_meet
    refine ⟨trivial,?_⟩
    rw [jThen_ok rfl,HJ2.out]
    exact ⟨b0,b1,e0,e1,HM6.out.store (s':=⟨d2,s1.down,s1.file,s1.c⟩) (dn':=!q2) rfl HR5.out HM6.out.en⟩
 obtain ⟨-,a0,a1,c0,c1,hM⟩:=hcut
 have HM6:=Lib.hid hM
 have HF2:Hid ((jThen (s1,b1) jDo2).1.c.ents=s.c.ents∧(jThen (s1,b1) jDo2).1.down=s.down∧((jThen (s1,b1) jDo2).2=true→(jThen (s1,b1) jDo2).1.Ok∧1≤(jThen (s1,b1) jDo2).1.c.gen∧(overfullP (jThen (s1,b1) jDo2).1 code.length=true→(jThen (s1,b1) jDo2).1.c.gen < 4611686018427387904))):=Lib.hid (by
  obtain ⟨h1,h2,h3,h4⟩:=HF1.out
  cases b1 with
  | false=>rw [jThen_no rfl]; exact ⟨h1,h2,fun h=>by cases h⟩
  | true=>
    rw [jThen_ok rfl]
    have hs:=jDo2_same s1
    have ho:=HOK3.out.2.2.2 rfl
    refine ⟨by rw [hs.1]; exact h1,hs.2.2.trans h2,fun hk=>⟨ho.1,?_,ho.2 hk⟩⟩
    rw [hs.1]; exact (h4 rfl).1)
 clear hM k8 HM5 HF1
 generalize jThen (s1,b1) jDo2=r2 at *
 obtain ⟨s2,b2⟩:=r2
 have HM6:Hid (CmM w wc s2 (!b2) a0 a1 ae ac c0 c1 ce cc code):=HM6
 have k6:=(rb_of HM6.out.ab).k6
 have k8:=(rb_of HM6.out.ab).k8
 go_upto_region 13 with (fail)
 go_cut [59] from 48 to 59 (fun tv wx=>tv=.bool (b2 && overfullP s2 code.length)∧wx=wc)
 case first=>
  cases b2 with
  | false=>
    have k8:wc.cell? ⟨w.heap.size,8,none⟩=some (.bool true):=(rb_of HM6.out.ab).k8
    go_wp2_with fail
    go_meet
    exact ⟨rfl,rfl⟩
  | true=>
    have k8:wc.cell? ⟨w.heap.size,8,none⟩=some (.bool false):=(rb_of HM6.out.ab).k8
    have he2:(s2.c.ed:Int)≤262144:=by have:=(HF2.out.2.2 rfl).1.ed; have:s2.c.ed≤262144:=this; omega
    cases hov:overfullP s2 code.length with
    | true=>
      have u2:decide ((262144:Int) < (s2.c.ed:Int)+12+(code.length:Int))=true:=by unfold overfullP at hov; rw [decide_eq_true_eq] at hov; exact decide_eq_true (by omega)
      have HOV:=Lib.hid hov
      clear hov
      go_wp2_with fail
      go_meet
      exact ⟨by rw [HOV.out]; rfl,rfl⟩
    | false=>
      have u2:decide ((262144:Int) < (s2.c.ed:Int)+12+(code.length:Int))=false:=by unfold overfullP at hov; rw [decide_eq_false_iff_not] at hov; exact decide_eq_false (by omega)
      have HOV:=Lib.hid hov
      clear hov
      go_wp2_with fail
      go_meet
      exact ⟨by rw [HOV.out]; rfl,rfl⟩
 obtain ⟨htv,hwc⟩:=hcut
 subst hwc
 subst htv
 go_upto_if 59 with (fail)
 go_cut [59] from 60 to 61 (fun tv wx=>tv=tv∧∃ a0 a1 c0 c1,CmM w wx (jThen (s2,b2) (jDo3 code.length)).1 (!(jThen (s2,b2) (jDo3 code.length)).2) a0 a1 ae ac c0 c1 ce cc code)
 case first=>
  clear k6 k8
  cases b2 with
  | false=>
    simp only [Bool.false_and]
    go_wp2_with fail
    go_meet
    refine ⟨trivial,?_⟩
    rw [jThen_no rfl]
    exact ⟨a0,a1,c0,c1,HM6.out⟩
  | true=>
    obtain ⟨hents,_,h2⟩:=HF2.out
    obtain ⟨hok2,hg2,hm2⟩:=h2 rfl
    have hok2:s2.Ok:=hok2
    have HOK2:=Lib.hid hok2
    have HM2:=Lib.hid hm2
    clear hents h2 hok2 hg2 hm2
    cases hov:overfullP s2 code.length with
    | true=>
      simp only [Bool.and_self]
      have HJ3:Hid (jDo3 code.length s2=jCompact s2):=Lib.hid (by unfold jDo3; rw [if_pos hov])
      have HS:=Lib.hid (rshorten_c s2 (.slice a0 s2.d.f0.length c0) (.slice a1 s2.d.f1.length c1) (.slice ae s2.c.ents.length ce) wc HM6.out.rd HM6.out.en HOK2.out HOK2.out.gen)
      have HE:=Lib.hid (jCompact_ents s2)
      clear hov
      obtain ⟨k0,k1,k2,k3,k4,k5,k6,k7,k8,fr⟩:=rb_of HM6.out.ab
      have f0:=fr 0
      have f1:=fr 1
      have f2:=fr 2
      have f3:=fr 3
      have f4:=fr 4
      have f5:=fr 5
      have f6:=fr 6
      have f7:=fr 7
      have f8:=fr 8
      clear fr
      have k8:wc.cell? ⟨w.heap.size,8,none⟩=some (.bool false):=k8
      go_wp2_with fail
      refine HS.out.mono ?_
      rintro e w5 ⟨⟨v0',v1',rfl,hrd5⟩,hb5⟩
      obtain ⟨b0,e0,b1,e1,rfl,rfl⟩:=hrd5.slices
      have HM7:=Lib.hid (HM6.out.below hb5)
      have HR5:=Lib.hid hrd5
      clear k0 k1 k2 k3 k4 k5 k6 k7 k8 f0 f1 f2 f3 f4 f5 f6 f7 f8
      clear HS hrd5 hb5
      obtain ⟨k0,k1,k2,k3,k4,k5,k6,k7,k8,fr⟩:=rb_of HM7.out.ab
      have f0:=fr 0
      have f1:=fr 1
      have f2:=fr 2
      have f3:=fr 3
      have f4:=fr 4
      have f5:=fr 5
      have f6:=fr 6
      have f7:=fr 7
      have f8:=fr 8
      clear fr
      go_wp2_with fail
      go_meet
      refine ⟨trivial,?_⟩
      rw [jThen_ok rfl,HJ3.out]
      exact ⟨b0,b1,e0,e1,HM7.out.store (s':=(jCompact s2).1) (dn':=!(jCompact s2).2) (congrArg List.length HE.out.symm) HR5.out (by rw [HE.out]; exact HM7.out.en)⟩
    | false=>
      simp only [Bool.and_false]
      have HJ3:Hid (jDo3 code.length s2=(s2,true)):=Lib.hid (by unfold jDo3; rw [if_neg (by rw [hov]; simp)])
      clear hov
      go_wp2_with fail
      go_meet
      refine ⟨trivial,?_⟩
      rw [jThen_ok rfl,HJ3.out]
      exact ⟨a0,a1,c0,c1,HM6.out⟩
 obtain ⟨-,a0,a1,c0,c1,hM⟩:=hcut
 have HM7:=Lib.hid hM
 have HF3:Hid ((jThen (s2,b2) (jDo3 code.length)).1.c.ents=s.c.ents∧(jThen (s2,b2) (jDo3 code.length)).1.down=s.down∧((jThen (s2,b2) (jDo3 code.length)).2=true→1≤(jThen (s2,b2) (jDo3 code.length)).1.c.gen)):=Lib.hid (by
  obtain ⟨h1,h2,h3⟩:=HF2.out
  cases b2 with
  | false=>rw [jThen_no rfl]; exact ⟨h1,h2,fun h=>by cases h⟩
  | true=>
    rw [jThen_ok rfl]
    have hs:=jDo3_same code.length s2
    exact ⟨hs.1.trans h1,hs.2.1.trans h2,fun _=>hs.2.2 (h3 rfl).2.1⟩)
 clear hM k6 k8 HM6 HF2
 generalize jThen (s2,b2) (jDo3 code.length)=r3 at *
 obtain ⟨s3,b3⟩:=r3
 have HM7:Hid (CmM w wc s3 (!b3) a0 a1 ae ac c0 c1 ce cc code):=HM7
 have HOK3:Hid (s3.Ok∧(b3=true→Fits code.length s3)):=Lib.hid ⟨HOK3.out.1,HOK3.out.2.1⟩
 have HF3:Hid (s3.c.ents=s.c.ents∧s3.down=s.down∧(b3=true→1≤s3.c.gen)):=HF3
 have k8:=(rb_of HM7.out.ab).k8
 obtain ⟨r4,hr4⟩:∃ r4,r4=if b3=true then dWrite s3.file (blockB (subI s3.c.sum code) code) s3.d else (s3.d,false):=⟨_,rfl⟩
 obtain ⟨d4,b4⟩:=r4
 have HR4:=Lib.hid hr4
 clear hr4
 go_upto_if 64 with (fail)
 go_cut [64] from 65 to 72 (fun tv wx=>tv=tv∧∃ a0 a1 c0 c1,CmM w wx ⟨d4,s3.down,s3.file,s3.c⟩ (!b4) a0 a1 ae ac c0 c1 ce cc code)
 case first=>
  clear k8
  cases b3 with
  | false=>
    have hr:=HR4.out
    rw [if_neg (by decide)] at hr
    simp only [Prod.mk.injEq] at hr
    obtain ⟨rfl,rfl⟩:=hr
    clear HR4
    go_wp2_with fail
    go_meet
    exact ⟨trivial,a0,a1,c0,c1,HM7.out⟩
  | true=>
    have hr:=HR4.out
    rw [if_pos rfl] at hr
    have HDW:=Lib.hid hr.symm
    have hg3:=HF3.out.2.2 rfl
    have HFLP:=Lib.hid (rFl_pos hg3)
    have HD3:=Lib.hid HOK3.out.1.d
    have hA5lt:=HM7.out.ab.lt
    clear hr HR4 hg3
    go_upto_region 16 with (fail)
    have k8:=(rb_of HM7.out.ab).k8
    refine wp_region_mix (by kernel_rfl) (by kernel_rfl) (by kernel_rfl) [some (rjV s3.d.pw (.slice a0 s3.d.f0.length c0) (.slice a1 s3.d.f1.length c1) (.slice ae s3.c.ents.length ce) s3.c.gen (rFl s3) s3.c.ed s3.c.sum false),some (.pointer (some ⟨w.heap.size,5,none⟩)),some (.int .i64 (rFl s3)),some (.pointer (some ⟨w.heap.size,7,none⟩)),some (.int .u64 s3.c.sum),some (.slice ac code.length cc),none,none,none] [6,7,8] (by kernel_rfl) (by kernel_rfl) (ShG wc w.heap.size (.slice ae s3.c.ents.length ce) s3.c.gen (rFl s3) s3.c.ed s3.c.sum (blockB (subI s3.c.sum code) code) d4 b4) ⟨fun _=>bl_drew wc,(fun h=>by cases h),(fun h=>by cases h),(fun h=>by cases h)⟩ ?_ ?_
    ·refine EachI.cons (MixOk.look (by kernel_rfl) (fun _=>by kernel_rfl) (fun dn ws wx hG hdep hcl hni=>?_)) ?_
     ·have h7:=not_done (hcl 7 0 (by kernel_rfl)) hni
      have h8:=not_done (hcl 8 7 (by kernel_rfl)) h7
      exact xs_load9 _ _ _ _ _ _ _ w.heap.size _ _ _ _ _ _ _ _ _ wx (by kernel_rfl) (rb_of (HM7.out.ab.below (hG.g0 h8)))
     refine EachI.cons (MixOk.pure (by kernel_rfl) (fun _=>by kernel_rfl) (fun _ _=>by kernel_rfl)) ?_
     refine EachI.cons (MixOk.look (by kernel_rfl) (fun _=>by kernel_rfl) (fun dn ws wx hG hdep hcl hni=>?_)) ?_
     ·have h7:=not_done (hcl 7 2 (by kernel_rfl)) hni
      have h8:=not_done (hcl 8 7 (by kernel_rfl)) h7
      exact xr_int _ _ _ _ _ _ _ ⟨w.heap.size,5,none⟩ _ wx (by kernel_rfl) (rb_of (HM7.out.ab.below (hG.g0 h8))).k5
     refine EachI.cons (MixOk.pure (by kernel_rfl) (fun _=>by kernel_rfl) (fun _ _=>by kernel_rfl)) ?_
     refine EachI.cons (MixOk.look (by kernel_rfl) (fun _=>by kernel_rfl) (fun dn ws wx hG hdep hcl hni=>?_)) ?_
     ·have h6:=not_done (hcl 6 4 (by kernel_rfl)) hni
      have h7:=not_done (hcl 7 6 (by kernel_rfl)) h6
      have h8:=not_done (hcl 8 7 (by kernel_rfl)) h7
      exact xr_u64 _ _ _ _ _ _ _ ⟨w.heap.size,7,none⟩ _ wx (by kernel_rfl) (rb_of (HM7.out.ab.below (hG.g0 h8))).k7
     refine EachI.cons (MixOk.pure (by kernel_rfl) (fun _=>by kernel_rfl) (fun _ _=>by kernel_rfl)) ?_
     refine EachI.cons (MixOk.turn (by kernel_rfl) (fun dn ws wx hG hdep hcl hni=>?_)) ?_
     ·have h7:=not_done (hcl 7 6 (by kernel_rfl)) hni
      have h8:=not_done (hcl 8 7 (by kernel_rfl)) h7
      have hb0:=hG.g0 h8
      refine turn_call (by kernel_rfl) 14 #[.int .u64 s3.c.sum,.slice ac code.length cc] (by kernel_rfl) ((rblock_c s3.c.sum (.slice ac code.length cc) code wc.heap.size wx (HM7.out.cd.below hb0) hb0.size (by omega)).mono ?_)
      rintro e w' ⟨⟨v',rfl,hown⟩,hb'⟩
      exact ⟨v',rfl,fun _=>hb0.trans (hb'.mono hb0.size),fun _ _=>own_up hown hb0.size,(fun h=>by have h:dn 7=true:=h; rw [h7] at h; cases h),(fun h=>by have h:dn 8=true:=h; rw [h8] at h; cases h)⟩
     refine EachI.cons (MixOk.turn (by kernel_rfl) (fun dn ws wx hG hdep hcl hni=>?_)) ?_
     ·have h8:=not_done (hcl 8 7 (by kernel_rfl)) hni
      have hb0:=hG.g0 h8
      have hd6:dn 6=true:=hdep 6 (by kernel_rfl)
      have ho:wx.ownsRow wc.heap.size 5 1 (ws 6) (blockB (subI s3.c.sum code) code).length (byts (blockB (subI s3.c.sum code) code)):=hG.g1 hd6 hni
      have hwr:=rwrite_c s3.d (.slice a0 s3.d.f0.length c0) (.slice a1 s3.d.f1.length c1) (ws 6) ae s3.c.ents.length ce s3.c.gen (rFl s3) s3.c.ed s3.c.sum false s3.file (blockB (subI s3.c.sum code) code) wx (HM7.out.rd.below hb0) (RdB.of_own ho) HD3.out (by rw [blockB_len]; omega)
      rw [← HFLP.out,HDW.out] at hwr
      refine turn_call (by kernel_rfl) 58 #[rjV s3.d.pw (.slice a0 s3.d.f0.length c0) (.slice a1 s3.d.f1.length c1) (.slice ae s3.c.ents.length ce) s3.c.gen (rFl s3) s3.c.ed s3.c.sum false,.int .i64 (rFl s3),ws 6] (by kernel_rfl) (hwr.mono ?_)
      rintro e w' ⟨⟨v0',v1',rfl,hrd'⟩,hb'⟩
      obtain ⟨x0,y0,x1,y1,rfl,rfl⟩:=hrd'.slices
      exact ⟨_,rfl,fun _=>hb0.trans (hb'.mono hb0.size),(fun _ h=>by cases h),fun _ _=>⟨x0,y0,x1,y1,rfl,hrd'⟩,(fun h=>by have h:dn 8=true:=h; rw [h8] at h; cases h)⟩
     refine EachI.cons (MixOk.turn (by kernel_rfl) (fun dn ws wx hG hdep hcl hni=>?_)) ?_
     ·have hb0:=hG.g0 hni
      have hd7:dn 7=true:=hdep 7 (by kernel_rfl)
      obtain ⟨x0,y0,x1,y1,e6,hrd'⟩:=hG.g2 hd7 hni
      have e6:ws 7=rjV d4.pw (.slice x0 d4.f0.length y0) (.slice x1 d4.f1.length y1) (.slice ae s3.c.ents.length ce) s3.c.gen (rFl s3) s3.c.ed s3.c.sum (!b4):=e6
      refine turn_void (by kernel_rfl) _ (xs_store9 _ _ _ _ _ _ _ _ w.heap.size _ _ _ _ _ _ _ _ _ _ _ _ _ _ _ _ _ _ _ _ _ _ _ _ wx (by kernel_rfl) (Eq.trans (b:=ws 7) (by kernel_rfl) e6) (rb_of (HM7.out.ab.below hb0))) ?_
      exact ⟨(fun h=>by cases h),(fun _ h=>by have h:dn 7=false:=h; rw [hd7] at h; cases h),(fun _ h=>by cases h),fun _=>⟨wx,x0,y0,x1,y1,hb0,hrd',e6,rfl⟩⟩
     exact EachI.nil
    ·intro ws L' hL' w7 hG7
     obtain ⟨w6,x0,y0,x1,y1,hb6,hrd6,e6,rfl⟩:=hG7.g3 rfl
     have e6:ws 7=rjV d4.pw (.slice x0 d4.f0.length y0) (.slice x1 d4.f1.length y1) (.slice ae s3.c.ents.length ce) s3.c.gen (rFl s3) s3.c.ed s3.c.sum (!b4):=e6
     simp only [setAll,mix,List.set_cons_succ,List.set_cons_zero,List.getElem?_cons_succ,List.getElem?_cons_zero,Option.join_some,Option.getD_some,Option.getD_none,Nat.reduceAdd,e6] at hL'
     subst hL'
     have HM8:=Lib.hid ((HM7.out.below hb6).store (s':=⟨d4,s3.down,s3.file,s3.c⟩) (dn':=!b4) rfl hrd6 (HM7.out.below hb6).en)
     clear hb6 hrd6 e6 hG7
     go_wp2_with fail
     go_meet
     exact ⟨trivial,x0,x1,y0,y1,HM8.out⟩
 obtain ⟨-,a0,a1,c0,c1,hM⟩:=hcut
 have HM8:=Lib.hid hM
 have HEND:Hid ((b4=false→jPowered (jDo cs s)=(⟨d4,true,s3.file,s3.c⟩,360))∧(b4=true→b3=true∧jPowered (jDo cs s)=(⟨d4,s3.down,s3.file,⟨s3.c.gen,pChgs s3.c.ents cs,pWAfter s3.c.ents s3.c.wt cs,subI s3.c.sum code,s3.c.ed+12+code.length⟩⟩,0))):=Lib.hid (by
  have hd:=HDO.out
  have hr:=HR4.out
  cases b3 with
  | false=>
    rw [if_neg (by decide)] at hr
    simp only [Prod.mk.injEq] at hr
    obtain ⟨rfl,rfl⟩:=hr
    rw [jThen_no rfl] at hd
    rw [hd]
    exact ⟨fun _=>rfl,fun h=>by cases h⟩
  | true=>
    rw [if_pos rfl] at hr
    rw [jThen_ok rfl] at hd
    unfold jDo4 at hd
    simp only [HCD.out,← hr] at hd
    cases b4 with
    | false=>rw [hd]; exact ⟨fun _=>rfl,fun h=>by cases h⟩
    | true=>rw [hd]; exact ⟨(fun h=>by cases h),fun _=>⟨rfl,rfl⟩⟩)
 have HDN:Hid (s3.down=false):=Lib.hid (HF3.out.2.1.trans HD.out)
 have HOUT:Hid (b3=true→s3.c.ed+12+code.length≤262144):=Lib.hid (fun h=>(HOK3.out.2 h).2)
 have HWT:Hid (s3.c.ents.length≤131072):=Lib.hid (by have h1:=HOK3.out.1.wt; have h2:=HOK3.out.1.max; have h3:=pWt_len s3.c.ents; omega)
 clear hM k8 HM7 HDO HR4 HOK3 HF3
 generalize hs4:(JS.mk d4 s3.down s3.file s3.c)=s4 at HM8
 have HS4:=Lib.hid hs4
 have HWT4:Hid (s4.c.ents.length≤131072):=Lib.hid (by rw [← hs4]; exact HWT.out)
 have HOUT4:Hid (b3=true→s4.c.ed+12+code.length≤262144):=Lib.hid (by rw [← hs4]; exact HOUT.out)
 clear hs4 HWT HOUT
 cases b4 with
 | false=>
   have k8:wc.cell? ⟨w.heap.size,8,none⟩=some (.bool true):=(rb_of HM8.out.ab).k8
   have HM8:Hid (CmM w wc s4 true a0 a1 ae ac c0 c1 ce cc code):=HM8
   obtain ⟨k0,k1,k2,k3,k4,k5,k6,k7,k8,_⟩:=rb_of HM8.out.ab
   obtain ⟨z0,z1,z2,z3,z4,z5,z6,z7,z8,zf⟩:=rb_of HM8.out.zb
   have zf0:=zf 0
   have zf1:=zf 1
   have zf2:=zf 2
   have zf3:=zf 3
   have zf4:=zf 4
   have zf5:=zf 5
   have zf6:=zf 6
   have zf7:=zf 7
   have zf8:=zf 8
   clear zf
   go_wp2
   obtain ⟨hb9,hr9,he9⟩:=HM8.out.copied (.int .i64 s4.d.pw) (.slice a0 s4.d.f0.length c0) (.slice a1 s4.d.f1.length c1) (.slice ae s4.c.ents.length ce) (.int .i64 s4.c.gen) (.int .i64 (rFl s4)) (.int .i64 s4.c.ed) (.int .u64 s4.c.sum) (.bool true)
   have hz9:=set9_blk HM8.out.zb (.int .i64 s4.d.pw) (.slice a0 s4.d.f0.length c0) (.slice a1 s4.d.f1.length c1) (.slice ae s4.c.ents.length ce) (.int .i64 s4.c.gen) (.int .i64 (rFl s4)) (.int .i64 s4.c.ed) (.int .u64 s4.c.sum) (.bool true)
   change bodyPost _ _ _ _ _ (set9 wc (w.heap.size+1) (.int .i64 s4.d.pw) (.slice a0 s4.d.f0.length c0) (.slice a1 s4.d.f1.length c1) (.slice ae s4.c.ents.length ce) (.int .i64 s4.c.gen) (.int .i64 (rFl s4)) (.int .i64 s4.c.ed) (.int .u64 s4.c.sum) (.bool true))
   generalize set9 wc (w.heap.size+1) (.int .i64 s4.d.pw) (.slice a0 s4.d.f0.length c0) (.slice a1 s4.d.f1.length c1) (.slice ae s4.c.ents.length ce) (.int .i64 s4.c.gen) (.int .i64 (rFl s4)) (.int .i64 s4.c.ed) (.int .u64 s4.c.sum) (.bool true)=w9 at *
   obtain ⟨j0,j1,j2,j3,j4,j5,j6,j7,j8,_⟩:=rb_of hz9
   exact bodyPost_ret (v:=.tuple #[rjV s4.d.pw (.slice a0 s4.d.f0.length c0) (.slice a1 s4.d.f1.length c1) (.slice ae s4.c.ents.length ce) s4.c.gen (rFl s4) s4.c.ed s4.c.sum true,.int .i64 (360)]) (by simp [results,Tryz.results22,go_sem,j0,j1,j2,j3,j4,j5,j6,j7,j8]) rfl (by rw [HEND.out.1 (by first | exact rfl | trivial)]; have h:=HS4.out; subst h; exact ⟨⟨_,_,_,_,_,_,rfl,hr9,he9⟩,hb9⟩)
 | true=>
   have HM8:Hid (CmM w wc s4 false a0 a1 ae ac c0 c1 ce cc code):=HM8
   have hout:=HOUT4.out (HEND.out.2 rfl).1
   have houtI:(s4.c.ed:Int)+12+(code.length:Int)≤262144:=by omega
   have HE12:Hid ((s4.c.ed:Int)+12+(code.length:Int)=((s4.c.ed+12+code.length:Nat):Int)):=Lib.hid (by omega)
   clear hout
   have k6:=(rb_of HM8.out.ab).k6
   have k8:=(rb_of HM8.out.ab).k8
   have f6:=HM8.out.ab.frozen 6
   go_upto_region 20 with (fail)
   have HM9:Hid (CmM w (wc.setCell ⟨w.heap.size,6,none⟩ (.int .i64 ((s4.c.ed:Int)+12+(code.length:Int)))) (JS.mk s4.d s4.down s4.file ⟨s4.c.gen,s4.c.ents,s4.c.wt,s4.c.sum,s4.c.ed+12+code.length⟩) false a0 a1 ae ac c0 c1 ce cc code):=Lib.hid (by
    rw [HE12.out]
    exact HM8.out.cell (s':=(JS.mk s4.d s4.down s4.file ⟨s4.c.gen,s4.c.ents,s4.c.wt,s4.c.sum,s4.c.ed+12+code.length⟩)) rfl HM8.out.en 6 _ (HM8.out.ab.set 6 _))
   change Code.wp _ _ _ _ (wc.setCell ⟨w.heap.size,6,none⟩ (.int .i64 ((s4.c.ed:Int)+12+(code.length:Int))))
   generalize wc.setCell ⟨w.heap.size,6,none⟩ (.int .i64 ((s4.c.ed:Int)+12+(code.length:Int)))=w9 at *
   have HWT5:Hid ((JS.mk s4.d s4.down s4.file ⟨s4.c.gen,s4.c.ents,s4.c.wt,s4.c.sum,s4.c.ed+12+code.length⟩).c.ents.length≤131072):=HWT4
   generalize hs5:(JS.mk s4.d s4.down s4.file ⟨s4.c.gen,s4.c.ents,s4.c.wt,s4.c.sum,s4.c.ed+12+code.length⟩)=s5 at HM9 HWT5
   have HS5:=Lib.hid hs5
   clear hs5 k6 k8 f6 HM8 houtI HE12 HWT4
   have HCS:=Lib.hid (rsum_c s5.c.sum (.slice ac code.length cc) code w9.heap.size w9 HM9.out.cd)
   have k7:=(rb_of HM9.out.ab).k7
   have f7:=HM9.out.ab.frozen 7
   go_wp2_with fail
   refine HCS.out.mono ?_
   rintro e w10 ⟨rfl,rfl⟩
   go_upto_region 21 with (fail)
   have HM10:Hid (CmM w (w9.setCell ⟨w.heap.size,7,none⟩ (.int .u64 (subI s5.c.sum code))) (JS.mk s5.d s5.down s5.file ⟨s5.c.gen,s5.c.ents,s5.c.wt,subI s5.c.sum code,s5.c.ed⟩) false a0 a1 ae ac c0 c1 ce cc code):=Lib.hid (HM9.out.cell (s':=(JS.mk s5.d s5.down s5.file ⟨s5.c.gen,s5.c.ents,s5.c.wt,subI s5.c.sum code,s5.c.ed⟩)) rfl HM9.out.en 7 _ (HM9.out.ab.set 7 _))
   change Code.wp _ _ _ _ (w9.setCell ⟨w.heap.size,7,none⟩ (.int .u64 (subI s5.c.sum code)))
   generalize w9.setCell ⟨w.heap.size,7,none⟩ (.int .u64 (subI s5.c.sum code))=w10 at *
   have HWT6:Hid ((JS.mk s5.d s5.down s5.file ⟨s5.c.gen,s5.c.ents,s5.c.wt,subI s5.c.sum code,s5.c.ed⟩).c.ents.length≤131072):=HWT5
   generalize hs6:(JS.mk s5.d s5.down s5.file ⟨s5.c.gen,s5.c.ents,s5.c.wt,subI s5.c.sum code,s5.c.ed⟩)=s6 at HM10 HWT6
   have HS6:=Lib.hid hs6
   clear hs6 k7 f7 HM9 HCS HWT5
   have HCH:=Lib.hid (rchanged_c (.slice ae s6.c.ents.length ce) s6.c.ents vl cs w10 HM10.out.en (HCSA.out w10 HM10.out.be) (by have:=HWT6.out; omega) hn)
   have k3:=(rb_of HM10.out.ab).k3
   have f3:=HM10.out.ab.frozen 3
   go_wp2_with fail
   refine HCH.out.mono ?_
   rintro e w11 ⟨⟨ve,rfl,hen⟩,hb11⟩
   obtain ⟨ae2,ce2,rfl⟩:∃ a c,ve=.slice a (pChgs s6.c.ents cs).length c:=by obtain ⟨a,c,e,_⟩:=hen; exact ⟨a,c,e⟩
   have HM11:=Lib.hid (HM10.out.below hb11)
   have HEN:=Lib.hid hen
   clear k3 f3 HM10 HCH hb11 hen
   have k3:=(rb_of HM11.out.ab).k3
   have f3:=HM11.out.ab.frozen 3
   go_upto_region 22 with (fail)
   have HM12:Hid (CmM w (w11.setCell ⟨w.heap.size,3,none⟩ (.slice ae2 (pChgs s6.c.ents cs).length ce2)) (JS.mk s6.d s6.down s6.file ⟨s6.c.gen,pChgs s6.c.ents cs,pWAfter s6.c.ents s6.c.wt cs,s6.c.sum,s6.c.ed⟩) false a0 a1 ae2 ac c0 c1 ce2 cc code):=Lib.hid (HM11.out.cell (s':=(JS.mk s6.d s6.down s6.file ⟨s6.c.gen,pChgs s6.c.ents cs,pWAfter s6.c.ents s6.c.wt cs,s6.c.sum,s6.c.ed⟩)) rfl HEN.out 3 _ (HM11.out.ab.set 3 _))
   change Code.wp _ _ _ _ (w11.setCell ⟨w.heap.size,3,none⟩ (.slice ae2 (pChgs s6.c.ents cs).length ce2))
   generalize w11.setCell ⟨w.heap.size,3,none⟩ (.slice ae2 (pChgs s6.c.ents cs).length ce2)=w12 at *
   generalize hs7:(JS.mk s6.d s6.down s6.file ⟨s6.c.gen,pChgs s6.c.ents cs,pWAfter s6.c.ents s6.c.wt cs,s6.c.sum,s6.c.ed⟩)=s7 at HM12
   have HS7:=Lib.hid hs7
   clear hs7 k3 f3 HM11 HEN
   obtain ⟨k0,k1,k2,k3,k4,k5,k6,k7,k8,_⟩:=rb_of HM12.out.ab
   obtain ⟨z0,z1,z2,z3,z4,z5,z6,z7,z8,zf⟩:=rb_of HM12.out.zb
   have zf0:=zf 0
   have zf1:=zf 1
   have zf2:=zf 2
   have zf3:=zf 3
   have zf4:=zf 4
   have zf5:=zf 5
   have zf6:=zf 6
   have zf7:=zf 7
   have zf8:=zf 8
   clear zf
   go_wp2
   obtain ⟨hb9,hr9,he9⟩:=HM12.out.copied (.int .i64 s7.d.pw) (.slice a0 s7.d.f0.length c0) (.slice a1 s7.d.f1.length c1) (.slice ae2 s7.c.ents.length ce2) (.int .i64 s7.c.gen) (.int .i64 (rFl s7)) (.int .i64 s7.c.ed) (.int .u64 s7.c.sum) (.bool false)
   have hz9:=set9_blk HM12.out.zb (.int .i64 s7.d.pw) (.slice a0 s7.d.f0.length c0) (.slice a1 s7.d.f1.length c1) (.slice ae2 s7.c.ents.length ce2) (.int .i64 s7.c.gen) (.int .i64 (rFl s7)) (.int .i64 s7.c.ed) (.int .u64 s7.c.sum) (.bool false)
   change bodyPost _ _ _ _ _ (set9 w12 (w.heap.size+1) (.int .i64 s7.d.pw) (.slice a0 s7.d.f0.length c0) (.slice a1 s7.d.f1.length c1) (.slice ae2 s7.c.ents.length ce2) (.int .i64 s7.c.gen) (.int .i64 (rFl s7)) (.int .i64 s7.c.ed) (.int .u64 s7.c.sum) (.bool false))
   generalize set9 w12 (w.heap.size+1) (.int .i64 s7.d.pw) (.slice a0 s7.d.f0.length c0) (.slice a1 s7.d.f1.length c1) (.slice ae2 s7.c.ents.length ce2) (.int .i64 s7.c.gen) (.int .i64 (rFl s7)) (.int .i64 s7.c.ed) (.int .u64 s7.c.sum) (.bool false)=w9 at *
   obtain ⟨j0,j1,j2,j3,j4,j5,j6,j7,j8,_⟩:=rb_of hz9
   exact bodyPost_ret (v:=.tuple #[rjV s7.d.pw (.slice a0 s7.d.f0.length c0) (.slice a1 s7.d.f1.length c1) (.slice ae2 s7.c.ents.length ce2) s7.c.gen (rFl s7) s7.c.ed s7.c.sum false,.int .i64 (0)]) (by simp [results,Tryz.results22,go_sem,j0,j1,j2,j3,j4,j5,j6,j7,j8]) rfl (by rw [(HEND.out.2 (by first | exact rfl | trivial)).2]; have h4:=HS4.out; have h5:=HS5.out; have h6:=HS6.out; have h7:=HS7.out; subst h4; subst h5; subst h6; subst h7; exact ⟨⟨_,_,_,_,_,_,(by show Ending.returned (.tuple #[rjV _ _ _ _ _ _ _ _ false,_])=Ending.returned (.tuple #[rjV _ _ _ _ _ _ _ _ s3.down,_]); rw [HDN.out]),hr9,he9⟩,hb9⟩)
end Go.Proofs.YtondomklkapogaaGreatDoor
