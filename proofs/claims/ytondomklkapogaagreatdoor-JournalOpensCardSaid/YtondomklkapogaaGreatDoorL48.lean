/- JournalOpens: for any two files the law returns true. -/
import Derived.Test.YtondomklkapogaaGreatDoorL45
import Derived.Test.YtondomklkapogaaGreatDoorL47
import Derived.Deep.CutBlock
import Derived.Test.YtondomklkapogaaGreatDoorCards
import Derived.Test.YtondomklkapogaaGreatDoorTie
import Derived.Test.YtondomklkapogaaGreatDoorL02
import Derived.ProofKit
import Derived.OpenShut
import Derived.LaidMore
import Derived.Deep.DeepHandedRow
import Derived.Lib.LaidTab
import Derived.SizedLaws
import Derived.Deep.Slices
import Derived.Deep.Fields
import Derived.ChangeSame
import Derived.Test.YtondomklkapogaaGreatDoorL41
namespace Go.Proofs.YtondomklkapogaaGreatDoor
section
open Go.RowKit SeedP Go.Maps
set_option maxRecDepth 100000 in
set_option maxHeartbeats 8000000 in
/-- the walk -/
theorem journalOpens_walk (v0:Value) (L0:List ActP) (v1:Value) (L1:List ActP) (v2:Value) (l2:List UInt8) (a3 a4 a5 a6:Int) (W:World) (hs:St W) (b0:ActsAt W W.heap.size v0 L0∧∀ a ∈ L0, -9223372036854775808≤a.pw∧a.pw≤9223372036854775807) (b1:ActsAt W W.heap.size v1 L1∧∀ a ∈ L1, -9223372036854775808≤a.pw∧a.pw≤9223372036854775807) (b2:RdB W W.heap.size v2 l2) (b3:0≤a3∧a3≤255) (b4:0≤a4∧a4≤255) (b5:0≤a5∧a5≤65535) (b6:0≤a6∧a6≤255) :
 Calls Tryz.prog 4 #[v0,v1,v2,.int .u8 a3,.int .u8 a4,.int .u16 a5,.int .u8 a6] W fun e w'=>e=.returned (.bool true)∧Below W.heap.size W w':=by
 obtain ⟨b0,c0⟩:=b0
 obtain ⟨b1,c1⟩:=b1
 have HF0:=Lib.hid (few_c v0 L0 W b0)
 obtain ⟨al0,cl0,rfl, -⟩:=id b0
 obtain ⟨al1,cl1,rfl, -⟩:=id b1
 obtain ⟨ao,co,rfl, -, -, -⟩:=b2.open_
 have HL0:=Lib.hid b0
 have HL1:=Lib.hid b1
 have HP1:=Lib.hid c1
 have HO:=Lib.hid b2
 have HS:=Lib.hid hs
 clear hs b0 b1 b2 c0 c1
 go_enter Tryz.func4,Tryz.ntmps4
 go_upto_region 1 with (fail)
 go_cut [39] from 27 to 187 (fun t wx=>∃ b,t=.bool b∧Below W.heap.size W wx∧(b=false→(L0.length≤20∧∀ a ∈ L0,SmallAct a)∧(L1.length≤20∧∀ a ∈ L1,SmallAct a)∧l2.length≤2000))
 case first=>
  go_wp2_with fail
  refine HF0.out.mono ?_
  rintro e w1 ⟨hp,hb1⟩
  obtain ⟨b,rfl,hb⟩:=hp
  have HB1:=Lib.hid hb1
  have HQ:=Lib.hid hb
  clear hb1 hb HF0
  cases b with
  | false=>
    go_wp2_with fail
    go_meet
    exact ⟨true,rfl,HB1.out,fun h=>by cases h⟩
  | true=>
    have HF1:=Lib.hid (few_c (.slice al1 L1.length cl1) L1 w1 ((HL1.out.below HB1.out).raise HB1.out.size))
    go_wp2_with fail
    refine HF1.out.mono ?_
    rintro e w2 ⟨hp,hb2⟩
    obtain ⟨b,rfl,hb⟩:=hp
    have HB2:=Lib.hid (HB1.out.trans (hb2.mono HB1.out.size))
    have HQ2:=Lib.hid hb
    clear hb2 hb HF1
    cases b with
    | false=>
      go_wp2_with fail
      go_meet
      exact ⟨true,rfl,HB2.out,fun h=>by cases h⟩
    | true=>
      by_cases ho:2000 < l2.length
      ·have t1:decide ((2000:Int) < (l2.length:Int))=true:=decide_eq_true (by omega)
       have t2:(2000:Int) < (l2.length:Int):=by omega
       go_wp2_with fail
       go_meet
       exact ⟨true,rfl,HB2.out,fun h=>by cases h⟩
      ·have t1:decide ((2000:Int) < (l2.length:Int))=false:=decide_eq_false (by omega)
       go_wp2_with fail
       go_meet
       exact ⟨false,rfl,HB2.out,fun _=>⟨HQ.out (by first | rfl | trivial),HQ2.out (by first | rfl | trivial),by omega⟩⟩
 case rest=>
  obtain ⟨b,rfl,hb,hf⟩:=hcut
  have HB:=Lib.hid hb
  have HS0:=Lib.hid (HS.out.below hb HS.out.pos)
  clear HF0
  generalize wc=w0 at *
  cases b with
  | true=>
    clear hf hb
    go_wp2_with fail
    refine (awake_c _ HS0.out).mono ?_
    rintro e w1 ⟨rfl,hb1⟩
    have HB1:=Lib.hid (HB.out.trans (hb1.mono HB.out.size))
    clear hb1
    go_wp2
    go_ret
    exact ⟨rfl,HB1.out⟩
  | false=>
    obtain ⟨f0,f1,ho⟩:=hf rfl
    have hl0:L0.length≤20:=f0.1
    have HF0:=Lib.hid f0
    have HF1:=Lib.hid f1
    clear hf hb f0 f1
    go_wp2_with fail
    refine (empty_c _ HS0.out).mono ?_
    rintro e w1 ⟨rfl,hd1,hb1⟩
    have HD1:=Lib.hid (hd1.lower HB.out.size HS.out.pos)
    have HB1:=Lib.hid (HB.out.trans (hb1.mono HB.out.size))
    generalize w0.heap.size=db at *
    clear hd1 hb1
    have HOP:=Lib.hid (open_l HD1.out (empty_ok (-1) (by decide) (by decide)))
    go_wp2_with fail
    refine HOP.out.mono ?_
    rintro e w2 ⟨jb,rfl,hj,hb2⟩
    have HJ2:=Lib.hid hj
    have HB2:=Lib.hid (HB1.out.trans (hb2.mono HB1.out.size))
    clear hj hb2 HOP HD1
    go_upto_block 0 with (fail)
    refine opensB0 w2 hl0 HL0 HF0 HJ2 HB2 (Lib.hid ?_)
    intro d18 d49 d50 d51 d52 d53 d54 d55 d56 d57 d58 d59 d60 d61 d62 d63 d64 d65 d66 d67 d68 d69 d70 w3 s hj3 hb3
    have HJ:=Lib.hid hj3
    have HBW:=Lib.hid hb3
    clear hj3 hb3 HJ2 HB2
    obtain ⟨fo,hfo,hfi⟩:∃ fo:Nat,(fo=1∨fo=2)∧a3 % 2+1=(fo:Int):=⟨(a3 % 2+1).toNat,by omega,by omega⟩
    dsimp only
    go_upto_region 13 with (fail)
    go_cut [19] from 27 to 187 (fun xv wx=>xv=.pointer (some ⟨db,fo,none⟩)∧wx=w3)
    case first=>
     rcases (show a3 % 2=0∨a3 % 2=1 by omega) with hm | hm
     ·obtain rfl:fo=1:=by omega
      have tm:Int.tmod a3 2=0:=by rw [Int.tmod_eq_emod_of_nonneg (by omega)]; exact hm
      go_wp2_with fail
      go_meet
      exact ⟨rfl,rfl⟩
     ·obtain rfl:fo=2:=by omega
      have tm:Int.tmod a3 2=1:=by rw [Int.tmod_eq_emod_of_nonneg (by omega)]; exact hm
      go_wp2_with fail
      go_meet
      exact ⟨rfl,rfl⟩
    case rest=>
     obtain ⟨rfl,rfl⟩:=hcut
     generalize wc=w3 at *
     have HDK:=Lib.hid HJ.out.dkf
     have HOK:=Lib.hid HJ.out.ok.d
     obtain ⟨m,hm,hm0,hm6⟩:∃ m:Int,Int.tmod a4 7=m∧0≤m∧m≤6:=⟨_,rfl,Int.tmod_nonneg 7 b4.1,by have:=Int.tmod_lt_of_pos a4 (show (0:Int) < 7 by omega); omega⟩
     obtain ⟨ax,cx,lx,hx0,hx1,hx2,hx3⟩:=HDK.out.file hfo
     have hlx:lx.length≤262144:=by have h0:=HOK.out.f0; have h1:=HOK.out.f1; rcases hx2 with rfl | rfl <;> assumption
     have hs0:=HOK.out.f0
     have hs1:=HOK.out.f1
     clear hx2
     have HX:=Lib.hid hx1
     clear hx1 hfi
     go_upto_if 79 with (fail)
     go_cut [20,21,22,23,24,25,26] from 27 to 187 (fun _ _ _ _ _ _ _ wx=>∃ d',DkF W.heap.size wx db d'∧Below W.heap.size W wx)
     case first=>
      rcases (show m=4∨m=5∨m=6∨(m=0∨m=1∨m=2∨m=3) by omega) with rfl | rfl | rfl | hm4
      ·obtain ⟨⟨d',hd'⟩,hbd⟩:=HDK.out.put hfo ((HO.out.below HBW.out).mono HBW.out.size) (by omega)
       have HD:=Lib.hid hd'
       have HBD:=Lib.hid (HBW.out.trans hbd)
       clear hd' hbd
       go_wp2_with fail
       go_meet
       exact ⟨d',HD.out,HBD.out⟩
      ·have HBK:=Lib.hid (rblock_c 0 (.slice ao l2.length co) l2 W.heap.size w3 (HO.out.below HBW.out) HBW.out.size (by omega))
       go_wp2_with fail
       refine HBK.out.mono ?_
       rintro e w4 ⟨⟨v',rfl,hown⟩,hb4⟩
       have hrd:=RdB.of_own hown
       have hlen:(blockB (subI 0 l2) l2).length≤1000000:=by rw [blockB_len]; omega
       obtain ⟨av,cv,rfl, -, -, -⟩:=hrd.open_
       obtain ⟨⟨d',hd'⟩,hbd⟩:=(HDK.out.below hb4).put hfo hrd hlen
       have y0:=keep_cell hb4 hx0
       have y1:=keep_frozen hb4 (World.block_lt_of_cell? _ _ hx0) hx3
       have HD:=Lib.hid hd'
       have HBD:=Lib.hid ((HBW.out.trans (hb4.mono HBW.out.size)).trans hbd)
       clear hd' hbd hown hb4 HBK hrd hx0 hx3
       generalize blockB (subI 0 l2) l2=bl at *
       go_wp2_with fail
       go_meet
       exact ⟨d',HD.out,HBD.out⟩
      ·obtain ⟨hs3,hp3,hl3,⟨e0,f0,e1,f1,hbk,hr0,hr1⟩,hn0,hn1,hpw⟩:=HDK.out
       have y0:=hbk.cell 0 (by simp)
       have y1:=hbk.cell 1 (by simp)
       have y2:=hbk.cell 2 (by simp)
       simp only [List.getD_cons_zero,List.getD_cons_succ] at y0 y1 y2
       have HDC:=Lib.hid (disk_c s.d (.slice e0 s.d.f0.length f0) (.slice e1 s.d.f1.length f1) w3 hs3 hr0 hr1 (by omega) (by omega))
       clear hs3 hp3 hl3 hbk hr0 hr1 hpw hx0 hx3 HX
       go_wp2_with fail
       refine HDC.out.mono ?_
       rintro e w4 ⟨⟨db2,z0,z1,rfl, -,hrd⟩,hb4⟩
       obtain ⟨g0,h0,g1,h1,rfl,rfl⟩:=hrd.slices
       have HBB:Hid (Blk (w4.alloc (.cells #[.int .i64 s.d.pw,.slice g0 s.d.f0.length h0,.slice g1 s.d.f1.length h1] 47)) w4.heap.size 47 [.int .i64 s.d.pw,.slice g0 s.d.f0.length h0,.slice g1 s.d.f1.length h1]):=Lib.hid (Blk.new w4 _ [.int .i64 s.d.pw,.slice g0 s.d.f0.length h0,.slice g1 s.d.f1.length h1])
       have hba:=(Below.refl w4.heap.size w4).alloc (Nat.le_refl _) (.cells #[.int .i64 s.d.pw,.slice g0 s.d.f0.length h0,.slice g1 s.d.f1.length h1] 47)
       have HB5:=Lib.hid (hb4.trans (hba.mono hb4.size))
       have HRD5:=Lib.hid (hrd.below hba)
       clear hba hrd hb4 HDC y0 y1 y2
       go_upto_region 20 with (fail)
       change Code.wp _ _ _ _ (w4.alloc (.cells #[.int .i64 s.d.pw,.slice g0 s.d.f0.length h0,.slice g1 s.d.f1.length h1] 47))
       generalize w4.alloc (.cells #[.int .i64 s.d.pw,.slice g0 s.d.f0.length h0,.slice g1 s.d.f1.length h1] 47)=w5 at *
       have y0:=HBB.out.cell 0 (by simp)
       have y1:=HBB.out.cell 1 (by simp)
       have y2:=HBB.out.cell 2 (by simp)
       simp only [List.getD_cons_zero,List.getD_cons_succ] at y0 y1 y2
       have HRO:=Lib.hid (ropen_c s.d _ _ w5 HRD5.out HOK.out)
       clear HBB
       go_wp2_with fail
       refine HRO.out.mono ?_
       rintro e wq ⟨⟨ae,ce,rfl, -⟩,hbq⟩
       have HRB:Hid (Blk (wq.alloc (.cells #[.int .i64 s.d.pw,.slice g0 s.d.f0.length h0,.slice g1 s.d.f1.length h1,.slice ae (jOpen s.d).c.ents.length ce,.int .i64 (jOpen s.d).c.gen,.int .i64 (rFl (jOpen s.d)),.int .i64 (jOpen s.d).c.ed,.int .u64 (jOpen s.d).c.sum,.bool false] 52)) wq.heap.size 52 (rjC s.d.pw (.slice g0 s.d.f0.length h0) (.slice g1 s.d.f1.length h1) (.slice ae (jOpen s.d).c.ents.length ce) (jOpen s.d).c.gen (rFl (jOpen s.d)) (jOpen s.d).c.ed (jOpen s.d).c.sum false)):=Lib.hid (Blk.new wq _ [.int .i64 s.d.pw,.slice g0 s.d.f0.length h0,.slice g1 s.d.f1.length h1,.slice ae (jOpen s.d).c.ents.length ce,.int .i64 (jOpen s.d).c.gen,.int .i64 (rFl (jOpen s.d)),.int .i64 (jOpen s.d).c.ed,.int .u64 (jOpen s.d).c.sum,.bool false])
       have hba:=(Below.refl wq.heap.size wq).alloc (Nat.le_refl _) (.cells #[.int .i64 s.d.pw,.slice g0 s.d.f0.length h0,.slice g1 s.d.f1.length h1,.slice ae (jOpen s.d).c.ents.length ce,.int .i64 (jOpen s.d).c.gen,.int .i64 (rFl (jOpen s.d)),.int .i64 (jOpen s.d).c.ed,.int .u64 (jOpen s.d).c.sum,.bool false] 52)
       have hbw6:=HB5.out.trans ((hbq.trans (hba.mono hbq.size)).mono HB5.out.size)
       have HDK6:=Lib.hid (HDK.out.below hbw6)
       have HB6:=Lib.hid (HBW.out.trans (hbw6.mono HBW.out.size))
       obtain ⟨hfl0,hfl1⟩:=rFl_range (jOpen s.d)
       have hsm:Hid (jOpen s.d=jOpen s.d):=Lib.hid rfl
       clear hba hbw6 hbq HRO y0 y1 y2 HRD5 HB5
       go_upto_region 21 with (fail)
       change Code.wp _ _ _ _ (wq.alloc (.cells #[.int .i64 s.d.pw,.slice g0 s.d.f0.length h0,.slice g1 s.d.f1.length h1,.slice ae (jOpen s.d).c.ents.length ce,.int .i64 (jOpen s.d).c.gen,.int .i64 (rFl (jOpen s.d)),.int .i64 (jOpen s.d).c.ed,.int .u64 (jOpen s.d).c.sum,.bool false] 52))
       generalize wq.alloc (.cells #[.int .i64 s.d.pw,.slice g0 s.d.f0.length h0,.slice g1 s.d.f1.length h1,.slice ae (jOpen s.d).c.ents.length ce,.int .i64 (jOpen s.d).c.gen,.int .i64 (rFl (jOpen s.d)),.int .i64 (jOpen s.d).c.ed,.int .u64 (jOpen s.d).c.sum,.bool false] 52)=w6 at *
       generalize wq.heap.size=rb at *
       clear hsm
       generalize rFl (jOpen s.d)=fl at *
       generalize (jOpen s.d).c.sum=sm at *
       generalize (jOpen s.d).c.gen=gn at *
       have k4:=(rb_of HRB.out).k4
       by_cases hgn:gn=0
       ·have t1:decide ((0:Int) < (gn:Int))=false:=decide_eq_false (by omega)
        go_wp2_with fail
        go_meet
        exact ⟨_,HDK6.out,HB6.out⟩
       have t1:decide ((0:Int) < (gn:Int))=true:=decide_eq_true (by omega)
       rcases (show fl=0∨fl=1 by omega) with rfl | rfl
       ·obtain ⟨af,cf,lf,hf0,hf1,hf2,hf3⟩:=HDK6.out.file (fo:=1) (by omega)
        have HALL:Hid (∀ wx,Below w6.heap.size w6 wx→wx.cell? ⟨rb,5,none⟩=some (.int .i64 0)∧wx.cell? ⟨rb,7,none⟩=some (.int .u64 sm)∧wx.cell? ⟨db,1,none⟩=some (.slice af lf.length cf)∧RdB wx w6.heap.size (.slice af lf.length cf) lf∧RdB wx w6.heap.size (.slice ao l2.length co) l2∧wx.frozen? ⟨db,1,none⟩=false):=Lib.hid (fun wx hbx=>
         ⟨(rb_of (HRB.out.below hbx)).k5,(rb_of (HRB.out.below hbx)).k7,keep_cell hbx hf0,hf1.below hbx,(((HO.out.below HB6.out).mono HB6.out.size).below hbx),keep_frozen hbx (World.block_lt_of_cell? _ _ hf0) hf3⟩)
        have hlf:lf.length≤262144:=by rcases hf2 with rfl | rfl <;> assumption
        clear hf2
        have HBLK:(blockB (subI sm l2) l2).length≤2012:=by rw [blockB_len]; omega
        clear hf0 hf1 hf3
        go_upto_region 22 with (fail)
        refine opens22_0 w6 ho af cf lf hlf HDK6 HB6 HALL HBLK (Lib.hid ?_)
        intro d112 d113 d114 d115 d116 d117 d118 d119 d120 d121 d122 d123 d124 d125 d126 d127 d128 d129 d130 w8 hd' hbd
        obtain ⟨d',hd'⟩:=hd'
        have HD:=Lib.hid hd'
        have HBD:=Lib.hid hbd
        clear hd' hbd
        go_wp2_with fail
        go_meet
        exact ⟨d',HD.out,HBD.out⟩
       ·obtain ⟨af,cf,lf,hf0,hf1,hf2,hf3⟩:=HDK6.out.file (fo:=2) (by omega)
        have HALL:Hid (∀ wx,Below w6.heap.size w6 wx→wx.cell? ⟨rb,5,none⟩=some (.int .i64 1)∧wx.cell? ⟨rb,7,none⟩=some (.int .u64 sm)∧wx.cell? ⟨db,2,none⟩=some (.slice af lf.length cf)∧RdB wx w6.heap.size (.slice af lf.length cf) lf∧RdB wx w6.heap.size (.slice ao l2.length co) l2∧wx.frozen? ⟨db,2,none⟩=false):=Lib.hid (fun wx hbx=>
         ⟨(rb_of (HRB.out.below hbx)).k5,(rb_of (HRB.out.below hbx)).k7,keep_cell hbx hf0,hf1.below hbx,(((HO.out.below HB6.out).mono HB6.out.size).below hbx),keep_frozen hbx (World.block_lt_of_cell? _ _ hf0) hf3⟩)
        have hlf:lf.length≤262144:=by rcases hf2 with rfl | rfl <;> assumption
        clear hf2
        have HBLK:(blockB (subI sm l2) l2).length≤2012:=by rw [blockB_len]; omega
        clear hf0 hf1 hf3
        go_upto_region 22 with (fail)
        refine opens22_1 w6 ho af cf lf hlf HDK6 HB6 HALL HBLK (Lib.hid ?_)
        intro d112 d113 d114 d115 d116 d117 d118 d119 d120 d121 d122 d123 d124 d125 d126 d127 d128 d129 d130 w8 hd' hbd
        obtain ⟨d',hd'⟩:=hd'
        have HD:=Lib.hid hd'
        have HBD:=Lib.hid hbd
        clear hd' hbd
        go_wp2_with fail
        go_meet
        exact ⟨d',HD.out,HBD.out⟩
      ·by_cases hn:lx.length=0
       ·have t1:decide ((0:Int) < (lx.length:Int))=false:=decide_eq_false (by omega)
        rcases hm4 with rfl | rfl | rfl | rfl
        all_goals
         go_wp2_with fail
         go_meet
         exact ⟨_,HDK.out,HBW.out⟩
       have t1:decide ((0:Int) < (lx.length:Int))=true:=decide_eq_true (by omega)
       have t2:¬ (lx.length:Int)=0:=by omega
       have q0:=Int.tmod_nonneg (lx.length:Int) b5.1
       have q1:=Int.tmod_lt_of_pos a5 (show (0:Int) < (lx.length:Int) by omega)
       obtain ⟨kk,hk,hkl⟩:∃ kk:Nat,Int.tmod a5 (lx.length:Int)=(kk:Int)∧kk < lx.length:=⟨(Int.tmod a5 (lx.length:Int)).toNat,by omega,by omega⟩
       obtain ⟨by6,rfl⟩:∃ b:UInt8,a6=(b.toNat:Int):=⟨UInt8.ofNat a6.toNat,by rw [UInt8.toNat_ofNat']; omega⟩
       have HCB:=Lib.hid (copyBytes_c (.slice ax lx.length cx) lx w3.heap.size w3 HX.out (by omega))
       have HDF:=Lib.hid (And.intro (World.block_lt_of_cell? _ _ hx0) (And.intro hx0 hx3))
       have t4:(m == 4)=false:=by rw [beq_eq_false_iff_ne]; omega
       have t5:(m == 5)=false:=by rw [beq_eq_false_iff_ne]; omega
       have t6:(m == 6)=false:=by rw [beq_eq_false_iff_ne]; omega
       clear q0 q1 hx3
       go_wp2_with fail
       refine HCB.out.mono ?_
       rintro e w4 ⟨⟨v',rfl,hown⟩,hb4⟩
       obtain ⟨ay,cy,rfl, -⟩:=(RdB.of_own hown).open_
       have HOW:=Lib.hid hown
       have HB4:=Lib.hid hb4
       clear hown hb4 HCB hx0
       go_upto_block 2 with (fail)
       refine opensB2 w4 hm4 hkl hlx ho hn HO HBW HB4 HOW (Lib.hid ?_)
       intro d147 d148 d149 d150 d151 d152 d153 d154 d155 d156 d157 d158 d159 d160 d161 d162 d163 d164 d165 d166 d167 d168 d169 d170 d171 d172 d173 d174 d175 d176 w5 az cz nz lz hzl hz1 hz2 hz3
       subst hzl
       obtain ⟨⟨d',hd'⟩,hbd⟩:=(HDK.out.below hz3).put hfo hz1 hz2
       have HD:=Lib.hid hd'
       have HBD:=Lib.hid ((HBW.out.trans (hz3.mono HBW.out.size)).trans hbd)
       have y0:=keep_cell hz3 HDF.out.2.1
       have y1:=keep_frozen hz3 HDF.out.1 HDF.out.2.2
       clear hd' hbd hz1 hz2 hz3
       go_wp2_with fail
       go_meet
       exact ⟨d',HD.out,HBD.out⟩
     case rest=>
      obtain ⟨d',hd,hbd⟩:=hcut
      have HD:=Lib.hid hd
      have HBD:=Lib.hid hbd
      obtain ⟨hs4,hp4,hl4,⟨e0,f0,e1,f1,hbk,hr0,hr1⟩,hn0,hn1,hpw⟩:=hd
      have y0:=hbk.cell 0 (by simp)
      have y1:=hbk.cell 1 (by simp)
      have y2:=hbk.cell 2 (by simp)
      simp only [List.getD_cons_zero,List.getD_cons_succ] at y0 y1 y2
      have HDO:=Lib.hid (does_c d' (.slice e0 d'.f0.length f0) (.slice e1 d'.f1.length f1) (.slice al1 L1.length cl1) L1 wc hs4 hr0 hr1 (by omega) (by omega) hpw ((HL1.out.below hbd).raise hbd.size) (fun a ha=>(HF1.out.2 a ha).ok (HP1.out a ha).1 (HP1.out a ha).2) (by have:=HF1.out.1; omega))
      have HS4:=Lib.hid hs4
      clear hbd hs4 hbk hr0 hr1 hn0 hn1 hpw hp4 hl4 HDK HJ HBW HX hx0 hx3 HD
      go_wp2_with fail
      refine HDO.out.mono ?_
      rintro e w5 ⟨rfl,hb5⟩
      have HS5:=Lib.hid (HS4.out.below hb5 HS4.out.pos)
      have HB5:=Lib.hid (HBD.out.trans (hb5.mono HBD.out.size))
      clear hb5 y0 y1 y2
      go_wp2_with fail
      refine (awake_c _ HS5.out).mono ?_
      rintro e w6 ⟨rfl,hb6⟩
      have HB6:=Lib.hid (HB5.out.trans (hb6.mono HB5.out.size))
      clear hb6
      go_wp2
      go_ret
      exact ⟨rfl,HB6.out⟩
end
section
section
open Go.ChangeShapes Go.WideShapes Go.ChangeAt Go.RowKit
theorem own:ownKnob Tryz.prog.godebug=none:=by kernel_rfl
theorem laidOut:laidOutB Tryz.prog=true:=by kernel_rfl
theorem gS:Tryz.prog.globalNamed "lyceum/seed.steps"=some 0:=by kernel_rfl
theorem tS:(Tryz.prog.globals[0]?).map (·.type)=some 146:=by kernel_rfl
theorem cellsA:Tryz.prog.cellsOf 146=6:=by kernel_rfl
theorem cellsS:Tryz.prog.cellsOf 145=2:=by kernel_rfl
theorem cellsU:Tryz.prog.cellsOf 131=1:=by kernel_rfl
theorem cellsW:Tryz.prog.cellsOf 46=1:=by kernel_rfl
/-- one step of mixing, read -/
theorem step_read {W:World} {H:Type} {enc:TypeId × Value→H} {base:Nat} {sp:Nat→Bool} {held:Bool} {fuel:Nat} {a b:Value} {x y:Int} {q:List MemPlace}
 (h:DataW.trod enc Tryz.prog W base sp held fuel 145 [a,b]=some (.agg [.lit (.int .u64 x),.lit (.int .u64 y)],q)):a=.int .u64 x∧b=.int .u64 y:=by
 obtain ⟨y0,y1,n,hx,_,h0,h1⟩:=trod_struct2 Tryz.underlying145 h
 simp only [cellsU,cellsW,List.drop_zero,List.take_succ_cons,List.take_zero,List.drop_succ_cons] at h0 h1
 obtain ⟨k0,e0,r0,_⟩:=DataW.trod_int Tryz.underlying131 h0
 obtain ⟨k1,e1,r1,_⟩:=DataW.trod_int Tryz.underlying46 h1
 subst r0 r1
 simp only [Prod.mk.injEq,DataW.agg.injEq,List.cons.injEq,DataW.lit.injEq,Lit.int.injEq,true_and,and_true] at hx
 obtain ⟨⟨rfl,rfl⟩,_⟩:=hx
 simp only [List.cons.injEq,and_true] at e0 e1
 exact ⟨e0,e1⟩
set_option maxRecDepth 100000 in
theorem steps_of_laid {W:World} (h:laidMetH Tryz.prog [("lyceum/seed.steps",Rows.laid_lyceum_seed_steps)] W):St W:=by
 rw [MakeChecks.laidMetH_plain _ _ _ (by kernel_rfl)] at h
 obtain ⟨ps,⟨g0,t0,cs0,f0,p0,q0,hg0,ht0,hv0,hd0,_,_⟩,_,_⟩:=h
 obtain rfl:=Option.some.inj (gS.symm.trans hg0)
 obtain rfl:=Option.some.inj (tS.symm.trans ht0)
 obtain ⟨xs,m,rfl,hx,hlen,hn3,hel⟩:=DataW.trod_array Tryz.underlying146 hd0
 rw [cellsA] at hlen
 have hc:∀ i,W.cell? ⟨0,i,none⟩=cs0[i]?:=fun i=>World.var?_cell gS hv0 i
 obtain ⟨l⟩:=cs0
 match l,hlen with
 | [a0,a1,a2,a3,a4,a5],_=>
   match xs,hn3 with
   | [x0,x1,x2],_=>
     have e0:=hel 0 (by decide)
     have e1:=hel 1 (by decide)
     have e2:=hel 2 (by decide)
     simp [cellsS] at e0 e1 e2
     unfold Rows.laid_lyceum_seed_steps at hx
     simp only [Prod.mk.injEq,DataW.agg.injEq,List.map_cons,List.map_nil,List.cons.injEq,and_true] at hx
     obtain ⟨⟨r0,r1,r2⟩,_⟩:=hx
     obtain ⟨d0,q0⟩:=x0
     obtain ⟨d1,q1⟩:=x1
     obtain ⟨d2,q2⟩:=x2
     simp only at r0 r1 r2
     subst r0 r1 r2
     obtain ⟨rfl,rfl⟩:=step_read e0
     obtain ⟨rfl,rfl⟩:=step_read e1
     obtain ⟨rfl,rfl⟩:=step_read e2
     exact ⟨hc 0,hc 1,hc 2,hc 3,hc 4,hc 5⟩
/-- A WORLD FOR THE WITNESS: the settled one, the steps (block 0) holding what their initialiser lays. -/
noncomputable def laidWorld (os:Os):World:=
 { World.holding Tryz.prog os ⟨#[],#[],[]⟩ with heap:=(World.holding Tryz.prog os ⟨#[],#[],[]⟩).heap.modify 0 fun
  | .cells _ t frozen=>.cells #[.int .u64 30,.int .u64 13787848793156543929,.int .u64 27,.int .u64 10723151780598845931,.int .u64 31,.int .u64 1] t frozen
  | o=>o }
theorem laid_met (os:Os) (args:Array Value):laidMet Tryz.prog [("lyceum/seed.steps",Rows.laid_lyceum_seed_steps)] ((laidWorld os).forCall (fun _ _=>0) ⟨#[],args,[]⟩).memory:=
 laidMet_of_run' 8 (by kernel_rfl) (by kernel_rfl)
end
end
section
open Go.ChangeShapes Go.WideShapes Go.ChangeAt Go.RowKit Go.Deep
theorem list_of {α:Type} {R:Nat→α→Prop}:∀ n,(∀ i,i < n→∃ x,R i x)→∃ L:List α,L.length=n∧∀ i (h:i < L.length),R i L[i]
 | 0,_=>⟨[],rfl,fun i h=>by simp at h⟩
 | n+1,h=>by
   obtain ⟨L,hl,hL⟩:=list_of n (fun i hi=>h i (by omega))
   obtain ⟨x,hx⟩:=h n (by omega)
   refine ⟨L ++ [x],by simp [hl],fun i hi=>?_⟩
   rw [List.length_append,List.length_singleton] at hi
   by_cases hlt:i < L.length
   ·rw [List.getElem_append_left hlt]; exact hL i hlt
   ·obtain rfl:i=L.length:=by omega
    rw [List.getElem_append_right (Nat.le_refl _)]
    simp only [Nat.sub_self,List.getElem_cons_zero]
    rw [hl]; exact hx
/-- the rows of a slice -/
theorem rows_of {W:World} {a:Addr} {m len c:Nat} {Q:List Value→Prop} (hc0:0 < c) (hi:∀ i,i < m→∃ cs',W.cells? 0 (a.add (i * c)) c=some cs'∧Q cs') (hl:len≤m) (h0:0 < len) :
 ∃ g off,a=⟨g,off,none⟩∧g < W.heap.size∧∀ i,i < len→∃ cs',Q cs'∧cs'.length=c∧∀ o,o < c→W.cell? ⟨g,off+i * c+o,none⟩=cs'[o]?:=by
 obtain ⟨g,off,spot⟩:=a
 have hone:∀ i,i < len→∃ cs',Q cs'∧cs'.length=c∧∀ o,o < c→W.cell? ((⟨g,off,spot⟩:Addr).add (i * c+o))=cs'[o]?:=by
  intro i hi'
  obtain ⟨cs',hc,hq⟩:=hi i (by omega)
  obtain ⟨_,hlen,hat⟩:=World.cells?_some hc
  refine ⟨cs',hq,hlen,fun o ho=>?_⟩
  rw [← add_add]
  exact hat o ho
 have hspot:spot=none:=by
  obtain ⟨cs',_,hlen,hc⟩:=hone 0 h0
  obtain ⟨v,hv⟩:∃ v,cs'[0]?=some v:=⟨cs'[0]'(by omega),List.getElem?_eq_getElem (by omega)⟩
  have:=World.cell?_spot ((hc 0 hc0).trans hv)
  simpa [Addr.add] using this
 subst hspot
 have hlt:g < W.heap.size:=by
  obtain ⟨cs',_,hlen,hc⟩:=hone 0 h0
  obtain ⟨v,hv⟩:∃ v,cs'[0]?=some v:=⟨cs'[0]'(by omega),List.getElem?_eq_getElem (by omega)⟩
  have:=World.block_lt_of_cell? W _ ((hc 0 hc0).trans hv)
  simpa [Addr.add] using this
 refine ⟨g,off,rfl,hlt,fun i hi'=>?_⟩
 obtain ⟨cs',hq,hlen,hc⟩:=hone i hi'
 refine ⟨cs',hq,hlen,fun o ho=>?_⟩
 have e:(⟨g,off,none⟩:Addr).add (i * c+o)=⟨g,off+(i * c+o),none⟩:=by unfold Addr.add; split <;> simp_all
 rw [← Nat.add_assoc] at e
 rw [← e]; exact hc o ho
section
variable {H:Type} {enc:TypeId × Value→H} {W:World} {held:Bool} {fuel:Nat}
theorem cellsB:Tryz.prog.cellsOf 5=1:=by kernel_rfl
theorem cellsI:Tryz.prog.cellsOf 3=1:=by kernel_rfl
theorem cellsStr:Tryz.prog.cellsOf 9=1:=by kernel_rfl
theorem cellsBo:Tryz.prog.cellsOf 4=1:=by kernel_rfl
theorem cellsBs:Tryz.prog.cellsOf 25=1:=by kernel_rfl
theorem cellsCs:Tryz.prog.cellsOf 39=1:=by kernel_rfl
theorem cellsC:Tryz.prog.cellsOf 60=3:=by kernel_rfl
theorem read_str {cs:List Value} {x:DataW H × List MemPlace} (h:DataW.trod enc Tryz.prog W 0 (fun _=>true) held fuel 9 cs=some x):∃ l:List UInt8,cs=[strV l]∧l.length≤maxLen:=by
 obtain ⟨s,rfl,_,hs⟩:=DataW.trod_string Tryz.underlying9 h
 refine ⟨s.data.toList,by cases s; simp,?_⟩
 have e:s.data.toList.length=s.size:=by rw [Array.length_toList]; rfl
 omega
set_option maxRecDepth 100000 in
theorem read_bytes {cs:List Value} {x:DataW H × List MemPlace} (h:DataW.trod enc Tryz.prog W 0 (fun _=>true) held fuel 25 cs=some x):∃ v l,cs=[v]∧RdB W W.heap.size v l:=by
 rcases open_slice Tryz.underlying25 h with ⟨rfl,_⟩ | ⟨a,len,cap,m,n,D,Pl,rfl,_,hl,hm,hmm,_,hi⟩
 ·exact ⟨_,[],rfl,Or.inl ⟨Or.inl rfl,rfl⟩⟩
 simp only [if_true] at hmm
 subst hmm
 rw [cellsB] at hi
 by_cases h0:len=0
 ·subst h0
  exact ⟨_,[],rfl,Or.inl ⟨Or.inr ⟨_,_,rfl⟩,rfl⟩⟩
 obtain ⟨g,off,rfl,hg,hr⟩:=rows_of (c:=1) (Q:=fun cs'=>∃ b:UInt8,cs'=[.int .u8 b.toNat]) (by decide) (fun i hi'=>by
  obtain ⟨cs',h1,h2⟩:=hi i hi'
  refine ⟨cs',h1,?_⟩
  obtain ⟨k,e,_,hw⟩:=DataW.trod_int Tryz.underlying5 h2
  have hb:=bounds_u8 hw
  refine ⟨UInt8.ofNat k.toNat,?_⟩
  have h3:((UInt8.ofNat k.toNat).toNat:Int)=k:=by rw [UInt8.toNat_ofNat']; omega
  rw [e,h3]) hl (by omega)
 obtain ⟨L,hL,hc⟩:=list_of (R:=fun i (b:UInt8)=>W.cell? ⟨g,off+i,none⟩=some (.int .u8 b.toNat)) len (fun i hi'=>by
  obtain ⟨cs',⟨b,rfl⟩,_,hcc⟩:=hr i hi'
  have:=hcc 0 (by omega)
  rw [Nat.mul_one,Nat.add_zero] at this
  exact ⟨b,this⟩)
 subst hL
 refine ⟨_,L,rfl,Or.inr ⟨g,off,_,rfl,hl,hm,hg,fun j hj=>?_⟩⟩
 rw [hc j hj]
 simp [List.getD_eq_getElem?_getD,hj]
set_option maxRecDepth 100000 in
theorem read_chg {cs:List Value} {x:DataW H × List MemPlace} (h:DataW.trod enc Tryz.prog W 0 (fun _=>true) held fuel 60 cs=some x):∃ vv,∃ c:Chg,cs=[strV c.key,vv,.bool c.drop]∧RdB W W.heap.size vv c.val:=by
 obtain ⟨xs,n,rfl,rfl,hlen,hxl,hf⟩:=DataW.trod_struct Tryz.underlying60 h
 rw [cellsC] at hlen
 match cs,hlen with
 | [c0,c1,c2],_=>
   match xs,hxl with
   | [y0,y1,y2],_=>
     have e0:=hf 0 _ rfl
     have e1:=hf 1 _ rfl
     have e2:=hf 2 _ rfl
     simp [cellsStr,cellsBs,cellsBo] at e0 e1 e2
     obtain ⟨k,ek,_⟩:=read_str e0
     obtain ⟨v,l,ev,hr⟩:=read_bytes e1
     obtain ⟨b,eb,_⟩:=DataW.trod_bool Tryz.underlying4 e2
     simp only [List.cons.injEq,and_true] at ek ev eb
     subst ek ev eb
     exact ⟨_,⟨k,l,b⟩,rfl,hr⟩
set_option maxRecDepth 100000 in
theorem read_chgs {cs:List Value} {x:DataW H × List MemPlace} (h:DataW.trod enc Tryz.prog W 0 (fun _=>true) held fuel 39 cs=some x):∃ v l,cs=[v]∧ChgsAt W W.heap.size v l:=by
 rcases open_slice Tryz.underlying39 h with ⟨rfl,_⟩ | ⟨a,len,cap,m,n,D,Pl,rfl,_,hl,hm,hmm,_,hi⟩
 ·exact ⟨_,[],rfl,none,0,rfl,Nat.le_refl _,Nat.zero_le _,Or.inl rfl⟩
 simp only [if_true] at hmm
 subst hmm
 rw [cellsC] at hi
 by_cases h0:len=0
 ·subst h0
  exact ⟨_,[],rfl,_,_,rfl,Nat.zero_le _,hm,Or.inl rfl⟩
 obtain ⟨g,off,rfl,hg,hr⟩:=rows_of (c:=3) (Q:=fun cs'=>∃ vv,∃ c:Chg,cs'=[strV c.key,vv,.bool c.drop]∧RdB W W.heap.size vv c.val) (by decide) (fun i hi'=>by
  obtain ⟨cs',h1,h2⟩:=hi i hi'
  exact ⟨cs',h1,read_chg h2⟩) hl (by omega)
 obtain ⟨L,hL,hc⟩:=list_of (R:=fun i (c:Chg)=>ChgIn W W.heap.size g (off+i * 3) c) len (fun i hi'=>by
  obtain ⟨cs',⟨vv,c,rfl,hrd⟩,_,hcc⟩:=hr i hi'
  exact ⟨c,vv,hcc 0 (by omega),hcc 1 (by omega),hcc 2 (by omega),hrd⟩)
 subst hL
 exact ⟨_,L,rfl,_,_,rfl,hl,hm,Or.inr ⟨g,off,rfl,hg,hc⟩⟩
end
section
variable {H:Type} {enc:TypeId × Value→H} {W:World} {held:Bool} {fuel:Nat}
theorem cellsAc:Tryz.prog.cellsOf 41=5:=by kernel_rfl
set_option maxRecDepth 100000 in
theorem read_act {cs:List Value} {x:DataW H × List MemPlace} (h:DataW.trod enc Tryz.prog W 0 (fun _=>true) held fuel 41 cs=some x):∃ vl vv,∃ a:ActP,cs=[.int .i64 a.kind,.int .i64 a.pw,vl,strV a.key,vv]∧ChgsAt W W.heap.size vl a.cs∧RdB W W.heap.size vv a.val∧ -9223372036854775808≤a.pw∧a.pw≤9223372036854775807:=by
 obtain ⟨xs,n,rfl,rfl,hlen,hxl,hf⟩:=DataW.trod_struct Tryz.underlying41 h
 rw [cellsAc] at hlen
 match cs,hlen with
 | [c0,c1,c2,c3,c4],_=>
   match xs,hxl with
   | [y0,y1,y2,y3,y4],_=>
     have e0:=hf 0 _ rfl
     have e1:=hf 1 _ rfl
     have e2:=hf 2 _ rfl
     have e3:=hf 3 _ rfl
     have e4:=hf 4 _ rfl
     simp [cellsI,cellsStr,cellsBs,cellsCs] at e0 e1 e2 e3 e4
     obtain ⟨k,ek,_,_⟩:=DataW.trod_int Tryz.underlying3 e0
     obtain ⟨pw,ep,_,hw⟩:=DataW.trod_int Tryz.underlying3 e1
     obtain ⟨vl,cs,ec,hc⟩:=read_chgs e2
     obtain ⟨key,es,_⟩:=read_str e3
     obtain ⟨vv,val,ev,hv⟩:=read_bytes e4
     have hb:=bounds_i64 hw
     simp only [List.cons.injEq,and_true] at ek ep ec es ev
     subst ek ep ec es ev
     exact ⟨_,_,⟨k,pw,cs,key,val⟩,rfl,hc,hv,hb.1,hb.2⟩
set_option maxRecDepth 100000 in
/-- a slice of acts -/
theorem open_acts {base:Nat} {v:Value} {d:DataW H} {ps:List MemPlace} (hval:Value.okWide Tryz.prog W .any base 22 v) (h:DataW.Trod enc Tryz.prog W 0 (fun _=>true) true 22 v d ps) :
 ∃ L:List ActP,ActsAt W W.heap.size v L∧∀ a ∈ L, -9223372036854775808≤a.pw∧a.pw≤9223372036854775807:=by
 obtain ⟨a0,len,cap,rfl⟩:=okWide_slice Tryz.underlying22 hval
 obtain ⟨fuel,hf⟩:=h
 rcases open_slice Tryz.underlying22 hf with ⟨hcs,_⟩ | ⟨a,len',cap',m,n,D,Pl,hcs,_,hl,hm,hmm,_,hi⟩
 ·simp [Value.cells] at hcs
  obtain ⟨rfl,rfl,rfl⟩:=hcs
  exact ⟨[],⟨none,0,rfl,Nat.le_refl _,Nat.zero_le _,Or.inl rfl⟩,fun s hs=>by cases hs⟩
 simp [Value.cells] at hcs
 obtain ⟨rfl,rfl,rfl⟩:=hcs
 simp only [if_true] at hmm
 subst hmm
 rw [cellsAc] at hi
 by_cases h0:len=0
 ·subst h0
  exact ⟨[],⟨_,_,rfl,Nat.zero_le _,hm,Or.inl rfl⟩,fun s hs=>by cases hs⟩
 obtain ⟨g,off,rfl,hg,hr⟩:=rows_of (c:=5) (Q:=fun cs'=>∃ vl vv,∃ a:ActP,cs'=[.int .i64 a.kind,.int .i64 a.pw,vl,strV a.key,vv]∧ChgsAt W W.heap.size vl a.cs∧RdB W W.heap.size vv a.val∧ -9223372036854775808≤a.pw∧a.pw≤9223372036854775807) (by decide) (fun i hi'=>by
  obtain ⟨cs',h1,h2⟩:=hi i hi'
  exact ⟨cs',h1,read_act h2⟩) hl (by omega)
 obtain ⟨L,hL,hc⟩:=list_of (R:=fun i (a:ActP)=>ActIn W W.heap.size g (off+i * 5) a∧ -9223372036854775808≤a.pw∧a.pw≤9223372036854775807) len (fun i hi'=>by
  obtain ⟨cs',⟨vl,vv,a,rfl,h1,h2,h3,h4⟩,_,hcc⟩:=hr i hi'
  exact ⟨a,⟨vl,vv,hcc 0 (by omega),hcc 1 (by omega),hcc 2 (by omega),hcc 3 (by omega),hcc 4 (by omega),h1,h2⟩,h3,h4⟩)
 subst hL
 refine ⟨L,⟨_,_,rfl,hl,hm,Or.inr ⟨g,off,rfl,hg,fun j hj=>(hc j hj).1⟩⟩,fun s hs=>?_⟩
 obtain ⟨i,hi',rfl⟩:=List.mem_iff_getElem.1 hs
 exact (hc i hi').2
set_option maxRecDepth 100000 in
/-- a slice of bytes, handed -/
theorem open_rdb {base:Nat} {v:Value} {d:DataW H} {ps:List MemPlace} (hval:Value.okWide Tryz.prog W .any base 25 v) (h:DataW.Trod enc Tryz.prog W 0 (fun _=>true) true 25 v d ps):∃ l:List UInt8,RdB W W.heap.size v l:=by
 obtain ⟨a0,len,cap,rfl⟩:=okWide_slice Tryz.underlying25 hval
 obtain ⟨fuel,hf⟩:=h
 obtain ⟨v,l,e,hr⟩:=read_bytes hf
 simp only [Value.cells,List.cons.injEq,and_true] at e
 rw [e]
 exact ⟨l,hr⟩
end
end
end Go.Proofs.YtondomklkapogaaGreatDoor
