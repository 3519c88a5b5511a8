/- The reference's state: the walk. -/
import Derived.Test.YtondomklkapogaaGreatDoorM27
import Derived.Deep.QuietTactic
import Derived.BigQuiet
import Derived.Test.YtondomklkapogaaGreatDoorM26
import Derived.Test.YtondomklkapogaaGreatDoorM23
import Derived.Test.YtondomklkapogaaGreatDoorM19
namespace Go.Proofs.YtondomklkapogaaGreatDoor
section
open Go.RowKit SeedP Go.Maps
set_option maxRecDepth 100000 in
set_option maxHeartbeats 4000000 in
/-- state -/
theorem rstate_r (v:Value) (b:List UInt8) (w:World) (hv:RdB w w.heap.size v b) (hl:b.length≤1000000) :
 Calls Tryz.prog 81 #[v] w fun e w'=>StResR (rStateR b) e w'∧Below w.heap.size w w':=by
 by_cases h1:b.length < 12
 ·have HR:Hid (StResR (rStateR b) (.returned (.tuple #[.int .i64 0,.slice none 0 0])) w):=Lib.hid (StResR.none (by unfold rStateR; rw [if_pos (Or.inl h1)]))
  obtain ⟨a,c,rfl,_⟩:=hv.open_
  have t1:decide ((b.length:Int) < 12)=true:=decide_eq_true (by omega)
  clear hv
  go_enter Tryz.func81,Tryz.ntmps81
  go_wp2
  go_ret2
  exact ⟨HR.out,Below.refl _ _⟩
 rcases hv with ⟨_,rfl⟩ | ⟨g,off,cap,rfl,hlc,hcm,hg,hcell⟩
 ·simp at h1
 have HS0:=Lib.hid (value_c _ _ w.heap.size w (RdB.sub 0 8 cap (by omega) (by omega) hcm hg hcell hlc) (by rw [List.length_take]; omega))
 rw [List.drop_zero,Nat.add_zero] at HS0
 have hg8:numV (b.take 8) < 18446744073709551616:=numV_lt64 (by rw [List.length_take]; omega)
 have t1:decide ((b.length:Int) < 12)=false:=decide_eq_false (by omega)
 have hlc8:8≤cap:=by omega
 have hne8:¬ cap=8:=by omega
 have hlc12:12≤cap:=by omega
 by_cases h2:numV (b.take 8) < 1∨4611686018427387904 < numV (b.take 8)
 ·have HR:Hid (StResR (rStateR b) (.returned (.tuple #[.int .i64 0,.slice none 0 0])) w):=Lib.hid (StResR.none (by unfold rStateR; rw [if_pos (Or.inr h2)]))
  generalize numV (b.take 8)=gn at *
  clear hcell
  unfold maxLen at hcm
  have ht:gn < 1∨(¬ gn < 1∧4611686018427387904 < gn):=by omega
  clear h2
  rcases ht with b1 | ⟨b1,b2⟩
  ·have s1:decide ((gn:Int) < 1)=true:=decide_eq_true (by omega)
   clear b1
   go_enter Tryz.func81,Tryz.ntmps81
   go_wp2_with fail
   refine HS0.out.mono ?_
   rintro e w1 ⟨rfl,rfl⟩
   go_wp2
   go_ret2
   exact ⟨HR.out,Below.refl _ _⟩
  ·have s1:decide ((gn:Int) < 1)=false:=decide_eq_false (by omega)
   have s2:decide ((4611686018427387904:Int) < (gn:Int))=true:=decide_eq_true (by omega)
   clear b1 b2
   go_enter Tryz.func81,Tryz.ntmps81
   go_wp2_with fail
   refine HS0.out.mono ?_
   rintro e w1 ⟨rfl,rfl⟩
   go_wp2_with fail
   refine HS0.out.mono ?_
   rintro e w1 ⟨rfl,rfl⟩
   go_wp2
   go_ret2
   exact ⟨HR.out,Below.refl _ _⟩
 have HST:=Lib.hid (StAt.start b (fun h=>h.elim h1 h2))
 have HD:=Lib.hid (fun P i (h:StAt b P i) (hi:b.length≤i)=>h.done hi)
 have HC:=Lib.hid hcell
 have HS1:=Lib.hid (value_c _ _ w.heap.size w (RdB.sub 8 4 (cap - 8) (by omega) (by omega) (by omega) hg hcell hlc) (by rw [List.length_take]; omega))
 have HS2:=Lib.hid (fun (W:World) (hb:Below w.heap.size w W)=>value_c _ _ w.heap.size W ((RdB.sub 0 8 cap (by omega) (by omega) hcm hg hcell hlc).below hb) (by rw [List.length_take]; omega))
 rw [List.drop_zero,Nat.add_zero] at HS2
 have hb4:numV ((b.drop 8).take 4) < 4294967296:=by
  have:=numV_lt ((b.drop 8).take 4)
  have e:((b.drop 8).take 4).length=4:=by rw [List.length_take,List.length_drop]; omega
  rw [e] at this; exact this
 have s1:decide ((numV (b.take 8):Int) < 1)=false:=decide_eq_false (by omega)
 have s2:decide ((4611686018427387904:Int) < (numV (b.take 8):Int))=false:=decide_eq_false (by omega)
 generalize numV (b.take 8)=gn at *
 generalize numV ((b.drop 8).take 4)=many at *
 have hlI:(b.length:Int)≤1000000:=by omega
 have hgw:wrap64 (gn:Int)=(gn:Int):=IntWalk.wrap64_in _ (by omega)
 clear hcell
 unfold maxLen at hcm
 go_enter Tryz.func81,Tryz.ntmps81
 go_wp2_with fail
 refine HS0.out.mono ?_
 rintro e w1 ⟨rfl,rfl⟩
 go_wp2_with fail
 refine HS0.out.mono ?_
 rintro e w1 ⟨rfl,rfl⟩
 go_wp2_with fail
 refine HS1.out.mono ?_
 rintro e w1 ⟨rfl,rfl⟩
 clear HS0 HS1 h2 s1 s2
 go_wp2_with fail
 go_loopw [5,6] (fun ov iv wx=>∃ (i:Nat) (xs:List EV),i≤b.length∧iv=.int .i64 i∧ReRow wx w.heap.size ov xs∧Hid (StAt b (xs.map (·.1)) i)∧Below w.heap.size w wx) (fun _ i _=>b.length - (intOf i).toNat)
 case atStart=>exact ⟨12,[],by omega,rfl,ReRow.nil _ _,HST,Below.refl _ _⟩
 case round=>
  obtain ⟨i,xs,hi,rfl,hrow,HA,hbw⟩:=hrel
  have HBW:=Lib.hid hbw
  have HROW:=Lib.hid hrow
  have hsz:=hbw.size
  clear hbw
  by_cases hlt:i < b.length
  ·have t2:decide ((i:Int) < (b.length:Int))=true:=decide_eq_true (by omega)
   have hst:=HA.out.step hlt
   have HONE1:=Lib.hid (roneEntry_c _ _ _ wr (by
    have hsub:=(RdB.sub i (b.length - i) (cap - i) (by omega) (by omega) (by unfold maxLen; omega) hg (fun j hj=>(HBW.out.cell (p:=⟨g,off+j,none⟩) hg).trans (HC.out j hj)) hlc)
    rw [List.take_of_length_le (by rw [List.length_drop]; omega)] at hsub
    exact hsub) hsz (by rw [List.length_drop]; omega))
   have hcn:¬ cap=i:=by omega
   have hiI:(i:Int)≤(cap:Int):=by omega
   have HRO:=Lib.hid (fun e m (h:rOne (b.drop i)=some (e,m))=>rOne_some h)
   generalize rOne (b.drop i)=O at *
   obtain ⟨hst0,hst1⟩:=hst
   have HST0:=Lib.hid hst0
   have HST1:=Lib.hid hst1
   obtain ⟨ao,co,hov,_⟩:=rowV_form hrow.row
   subst hov
   clear hst0 hst1 hrow
   go_wp2_with fail
   refine HONE1.out.mono ?_
   rintro e w1 ⟨hres,hb1⟩
   clear HONE1
   have HB1:=Lib.hid (HBW.out.trans (hb1.mono hsz))
   have hsz1:=hb1.size
   have HROW1:=Lib.hid (HROW.out.below hb1)
   clear hb1 HROW
   cases O with
   | none=>
     have hres:e=.returned (.tuple #[.agg #[strV [],.slice none 0 0],.int .i64 0]):=hres
     subst hres
     have HR:=Lib.hid (HST0.out rfl)
     clear HST0 HST1 HRO
     go_upto_region 8 with (fail)
     go_quiet (fail)
     go_wp2
     go_ret2
     exact ⟨StResR.none HR.out,below_drewN (HB1.out.alloc HB1.out.size _) _⟩
   | some p=>
     obtain ⟨⟨key,val⟩,m⟩:=p
     obtain ⟨v2,rfl,hown⟩:=hres
     obtain ⟨hm,hmb, -⟩:=HRO.out _ _ rfl
     have hbadR:=(HST1.out _ _ rfl).1
     have HOKR:=Lib.hid (HST1.out _ _ rfl).2
     rw [okE_eq] at hbadR
     have HOKE:=Lib.hid (okE_eq xs (key,val))
     dsimp only at hbadR
     have HBADR:=Lib.hid hbadR
     rw [List.length_drop] at hmb
     have t3:((m:Int) == 0)=false:=by simp; omega
     have hm3:3≤m:=by omega
     have hmb2:i+m≤b.length:=by omega
     have HOWN:=Lib.hid (own_le hown hsz)
     obtain ⟨av,cv,rfl,ho1⟩:=rowV_form hown
     have hxl:=HA.out.len
     rw [List.length_map] at hxl
     have HA1:Below w1.heap.size w1 (w1.alloc (.cells #[strV key,.slice av val.length cv] 96)):=(Below.refl _ _).alloc (Nat.le_refl _) _
     have HROW2:=Lib.hid (HROW1.out.below HA1)
     have HOWN2:=Lib.hid (own_grown HOWN.out (Grown.of_below HA1) (fun _ _ _ h=>h))
     have HB2:=Lib.hid (HB1.out.trans (HA1.mono (Nat.le_trans hsz hsz1)))
     dsimp only at hm
     have HALL:Hid (∀ n,ReRow (((w1.alloc (.cells #[strV key,.slice av val.length cv] 96)).drewN n).alloc (.cells #[strV key,.slice av val.length cv] 96)) w.heap.size (.slice ao xs.length co) xs∧Blk (((w1.alloc (.cells #[strV key,.slice av val.length cv] 96)).drewN n).alloc (.cells #[strV key,.slice av val.length cv] 96)) (w1.heap.size+1) 96 [strV key,.slice av val.length cv]∧(((w1.alloc (.cells #[strV key,.slice av val.length cv] 96)).drewN n).alloc (.cells #[strV key,.slice av val.length cv] 96)).ownsRow w.heap.size 5 1 (.slice av val.length cv) val.length (byts val)∧Below w.heap.size w (((w1.alloc (.cells #[strV key,.slice av val.length cv] 96)).drewN n).alloc (.cells #[strV key,.slice av val.length cv] 96))):=Lib.hid (fun n=>by
      have hb9:Below w1.heap.size w1 (((w1.alloc (.cells #[strV key,.slice av val.length cv] 96)).drewN n).alloc (.cells #[strV key,.slice av val.length cv] 96)):=(below_drewN HA1 n).alloc (by show w1.heap.size≤(w1.alloc _).heap.size; simp) _
      refine ⟨HROW1.out.below hb9,Blk.at _ _ [strV key,.slice av val.length cv] (by show w1.heap.size+1=(w1.alloc _).heap.size; simp),own_grown HOWN.out (Grown.of_below hb9) (fun _ _ _ h=>h),HB1.out.trans (hb9.mono (Nat.le_trans hsz hsz1))⟩)
     have hkl:(key.length:Int)+(val.length:Int)≤1000000:=by omega
     clear hm hmb hown HROW1 HOWN HST0 HST1 HRO hbadR HA1
     by_cases k1:key.length < 1
     ·have s1:decide ((key.length:Int) < 1)=true:=decide_eq_true (by omega)
      have HR:=Lib.hid (HBADR.out (by simp [k1]))
      clear k1
      go_upto_region 8 with (fail)
      go_quiet (fail)
      go_wp2
      go_ret2
      exact ⟨StResR.none HR.out,below_drewN HB2.out _⟩
     have s1:decide ((key.length:Int) < 1)=false:=decide_eq_false (by omega)
     by_cases k2:40 < key.length
     ·have s2:decide ((40:Int) < (key.length:Int))=true:=decide_eq_true (by omega)
      have HR:=Lib.hid (HBADR.out (by simp [k2]))
      clear k1 k2
      go_upto_region 8 with (fail)
      go_quiet (fail)
      go_wp2
      go_ret2
      exact ⟨StResR.none HR.out,below_drewN HB2.out _⟩
     have s2:decide ((40:Int) < (key.length:Int))=false:=decide_eq_false (by omega)
     by_cases k3:4096 < val.length
     ·have s3:decide ((4096:Int) < (val.length:Int))=true:=decide_eq_true (by omega)
      have HR:=Lib.hid (HBADR.out (by simp [k3]))
      clear k1 k2 k3
      go_upto_region 8 with (fail)
      go_quiet (fail)
      go_wp2
      go_ret2
      exact ⟨StResR.none HR.out,below_drewN HB2.out _⟩
     have s3:decide ((4096:Int) < (val.length:Int))=false:=decide_eq_false (by omega)
     by_cases k4:0 < xs.length
     ·have s4:decide ((0:Int) < (xs.length:Int))=true:=decide_eq_true (by omega)
      obtain ⟨gq,cq,heq,hcl⟩:=HROW2.out.last k4
      obtain ⟨rfl,rfl⟩:ao=some ⟨gq,0,none⟩∧co=cq:=by
       injection heq with h1 _ h2
       exact ⟨h1,h2⟩
      have HBADQ:=Lib.hid (by have h:=HBADR.out; rw [dif_pos k4] at h; exact h)
      have HOKQ:=Lib.hid (by have h:=HOKE.out; rw [dif_pos k4] at h; exact h)
      generalize (xs[xs.length - 1]'(by omega)).1.1=lk at *
      have hi1:(0:Int)≤(xs.length:Int) - 1:=by omega
      have hi2:(xs.length:Int) - 1 < (xs.length:Int):=by omega
      have hi3:((xs.length:Int) - 1).toNat=xs.length - 1:=by omega
      have hi4:IntKind.i64.wrap ((xs.length:Int) - 1)=(xs.length:Int) - 1:=IntWalk.i64_in _ (by omega)
      rw [Nat.zero_add] at hcl
      have HK3:=Lib.hid (And.intro k1 (And.intro k2 k3))
      clear k1 k2 k3
      cases hlk:Op.bytesLess lk key with
      | false=>
        have HR:=Lib.hid (HBADQ.out (by rw [hlk]; simp))
        go_upto_region 8 with (fail)
        go_quiet (fail)
        go_wp2
        go_ret2
        exact ⟨StResR.none HR.out,below_drewN HB2.out _⟩
      | true=>
        have HST:=Lib.hid (HOKR.out (by have h:=HOKQ.out; rw [hlk] at h; obtain ⟨q1,q2,q3⟩:=HK3.out; rw [h]; simp only [decide_eq_false q1,decide_eq_false q2,decide_eq_false q3]; rfl))
        go_upto_region 8 with (fail)
        go_quiet (fail)
        go_wp2_with (at_builtin; go_must (refine wpList_re rfl _ _ rfl w.heap.size _ xs rfl (HALL.out _).1 (w1.heap.size+1) 1 ((key,val),.slice av val.length cv) rfl (HALL.out _).2.1 (HALL.out _).2.2.1 rfl (by omega) (HALL.out _).2.2.2.size ?_); intro v3 w3 hy3 hb3; have HY3:=Lib.hid hy3; have HB3:=Lib.hid ((HALL.out _).2.2.2.trans hb3); clear hy3 hb3)
        go_wp2
        go_roundw
        case rel=>exact ⟨i+m,_,hmb2,by go_num,HY3.out,Lib.hid (by rw [List.map_append]; exact HST.out),HB3.out⟩
        case measure=>simp [intOf]; omega
     ·have s4:decide ((0:Int) < (xs.length:Int))=false:=decide_eq_false (by omega)
      have HST:=Lib.hid (HOKR.out (by have h:=HOKE.out; rw [dif_neg k4] at h; rw [h]; simp only [decide_eq_false k1,decide_eq_false k2,decide_eq_false k3]; rfl))
      go_upto_region 8 with (fail)
      go_quiet (fail)
      go_wp2_with (at_builtin; go_must (refine wpList_re rfl _ _ rfl w.heap.size _ xs rfl (HALL.out _).1 (w1.heap.size+1) 1 ((key,val),.slice av val.length cv) rfl (HALL.out _).2.1 (HALL.out _).2.2.1 rfl (by omega) (HALL.out _).2.2.2.size ?_); intro v3 w3 hy3 hb3; have HY3:=Lib.hid hy3; have HB3:=Lib.hid ((HALL.out _).2.2.2.trans hb3); clear hy3 hb3)
      go_wp2
      go_roundw
      case rel=>exact ⟨i+m,_,hmb2,by go_num,HY3.out,Lib.hid (by rw [List.map_append]; exact HST.out),HB3.out⟩
      case measure=>simp [intOf]; omega
  ·have t2:decide ((i:Int) < (b.length:Int))=false:=decide_eq_false (by omega)
   obtain ⟨ao,co,hov,_⟩:=rowV_form hrow.row
   subst hov
   have hdone:=HD.out _ _ HA.out (by omega)
   have hxl:=HA.out.len
   have hxw:=HA.out.wt
   rw [List.length_map] at hxl
   have HWT:=Lib.hid (rweight_c (.slice ao xs.length co) (xs.map (·.1)) wr.heap.size wr HROW.out.toAt (by omega))
   have HE:=Lib.hid HROW.out.toAt
   have hcx:IntKind.u64.wrap (xs.length:Int)=(xs.length:Int):=by rw [IntKind.wrap_u64]; omega
   unfold rStEnd at hdone
   rw [List.length_map] at hdone
   by_cases hm:xs.length=many
   ·subst hm
    by_cases hw:pWt (xs.map (·.1))≤131072
    ·rw [if_pos ⟨rfl,hw⟩] at hdone
     have t4:decide ((131072:Int) < pWt (xs.map (·.1)))=false:=decide_eq_false (by omega)
     have HR:=Lib.hid hdone
     generalize pWt (xs.map (·.1))=pw at *
     clear hdone hw hxw
     go_wp2_with fail
     refine HWT.out.mono ?_
     rintro e w2 ⟨rfl,hb2⟩
     have HB2:=Lib.hid (HBW.out.trans (hb2.mono hsz))
     have HE2:=Lib.hid ((HE.out.below hb2).mono hb2.size)
     have HS3:=Lib.hid (HS2.out w2 HB2.out)
     clear hb2 HE HWT
     go_wp2_with fail
     refine HS3.out.mono ?_
     rintro e w3 ⟨rfl,rfl⟩
     go_wp2
     go_ret2
     exact ⟨by rw [HR.out]; exact ⟨.slice ao xs.length co,by show Ending.returned (.tuple #[.int .i64 (wrap64 (gn:Int)),.slice ao xs.length co])=_; rw [hgw],HE2.out⟩,HB2.out⟩
    ·rw [if_neg (fun h=>hw h.2)] at hdone
     have t4:decide ((131072:Int) < pWt (xs.map (·.1)))=true:=decide_eq_true (by omega)
     have HR:=Lib.hid hdone
     generalize pWt (xs.map (·.1))=pw at *
     clear hdone hw hxw
     go_wp2_with fail
     refine HWT.out.mono ?_
     rintro e w2 ⟨rfl,hb2⟩
     have HB2:=Lib.hid (HBW.out.trans (hb2.mono hsz))
     clear hb2 HE HWT
     go_wp2
     go_ret2
     exact ⟨StResR.none HR.out,HB2.out⟩
   ·have t3:¬ (xs.length:Int)=(many:Int):=by omega
    rw [if_neg (fun h=>hm h.1)] at hdone
    have HR:=Lib.hid hdone
    clear hdone hm hxw HWT HE
    go_wp2
    go_ret2
    exact ⟨StResR.none HR.out,HBW.out⟩
end
section
open Go.RowKit SeedP Go.Maps
theorem ChsRes.none {R:Option (List Chg)} {w:World} (h:R=none) (v:Value):ChsRes R (.returned (.tuple #[v,.bool false])) w:=by subst h; exact ⟨v,rfl⟩
set_option maxRecDepth 100000 in
set_option maxHeartbeats 4000000 in
/-- changes -/
theorem rchanges_c (v:Value) (b:List UInt8) (w:World) (hv:RdB w w.heap.size v b) (hl:b.length≤1000000) :
 Calls Tryz.prog 82 #[v] w fun e w'=>ChsRes (rChanges b) e w'∧Below w.heap.size w w':=by
 by_cases h1:b.length < 1
 ·have HR:Hid (∀ v,ChsRes (rChanges b) (.returned (.tuple #[v,.bool false])) w):=Lib.hid (ChsRes.none (by unfold rChanges; rw [if_pos h1]))
  obtain ⟨a,c,rfl,_⟩:=hv.open_
  have t1:decide ((b.length:Int) < 1)=true:=decide_eq_true (by omega)
  clear hv
  go_enter Tryz.func82,Tryz.ntmps82
  go_wp2
  go_ret2
  exact ⟨HR.out _,Below.refl _ _⟩
 rcases hv with ⟨_,rfl⟩ | ⟨g,off,cap,rfl,hlc,hcm,hg,hcell⟩
 ·simp at h1
 have HC:=Lib.hid hcell
 have t1:decide ((b.length:Int) < 1)=false:=decide_eq_false (by omega)
 have hlI:(b.length:Int)≤1000000:=by omega
 clear hcell
 unfold maxLen at hcm
 go_enter Tryz.func82,Tryz.ntmps82
 go_wp2_with fail
 go_loopw [4,5] (fun ov iv wx=>∃ (i:Nat) (xs:List (Chg × Value)),i≤b.length∧iv=.int .i64 i∧RcRow wx w.heap.size ov xs∧Hid (ChsAt b xs i)∧Below w.heap.size w wx) (fun _ i _=>b.length - (intOf i).toNat)
 case atStart=>exact ⟨1,[],by omega,rfl,RcRow.nil _ _,Lib.hid (ChsAt.start b),Below.refl _ _⟩
 case round=>
  obtain ⟨i,xs,hi,rfl,hrow,HA,hbw⟩:=hrel
  have HBW:=Lib.hid hbw
  obtain ⟨ao,co,rfl,_⟩:=rowV_form hrow.row
  have HROW:=Lib.hid hrow
  have hsz:=hbw.size
  clear hrow hbw
  by_cases hlt:i < b.length
  ·have t2:decide ((i:Int) < (b.length:Int))=true:=decide_eq_true (by omega)
   have hst:=HA.out.step hlt
   have c0:=(HBW.out.cell (p:=⟨g,off+i,none⟩) hg).trans (HC.out i hlt)
   by_cases hz:b.getD i 0=0
   ·have c00:wr.cell? ⟨g,off+i,none⟩=some (.int .u8 0):=by rw [hz] at c0; exact c0
    have HST:=Lib.hid (hst.1 hz)
    clear hst hz c0
    have HONE1:=Lib.hid (fun (_:¬ cap=i+1)=>by
     have hsub:=(RdB.sub (i+1) (b.length - (i+1)) (cap - (i+1)) (by omega) (by omega) (by unfold maxLen; omega) hg (fun j hj=>(HBW.out.cell (p:=⟨g,off+j,none⟩) hg).trans (HC.out j hj)) hlc)
     rw [List.take_of_length_le (by rw [List.length_drop]; omega)] at hsub
     exact roneEntry_c _ _ _ wr hsub hsz (by rw [List.length_drop]; omega))
    have HONE0:=Lib.hid (fun (hc:cap=i+1)=>by
     have hsub:RdB wr w.heap.size (.slice (some ⟨g,off,none⟩) (b.length - (i+1)) 0) (b.drop (i+1)):=by
      have e:b.drop (i+1)=[]:=List.drop_of_length_le (by omega)
      rw [e,show b.length - (i+1)=0 by omega]
      exact Or.inr ⟨g,off,0,rfl,Nat.le_refl _,Nat.zero_le _,hg,fun j hj=>by simp at hj⟩
     exact roneEntry_c _ _ _ wr hsub hsz (by rw [List.length_drop]; omega))
    have HRO:=Lib.hid (fun e m (h:rOne (b.drop (i+1))=some (e,m))=>rOne_some h)
    generalize rOne (b.drop (i+1))=O at *
    go_wp2_with fail
    ·refine (HONE0.out (by assumption)).mono ?_
     rintro e w1 ⟨hres,hb1⟩
     clear HONE0 HONE1 c00
     cases O with
     | none=>
       have hres:e=.returned (.tuple #[.agg #[strV [],.slice none 0 0],.int .i64 0]):=hres
       subst hres
       have HB1:=Lib.hid (HBW.out.trans (hb1.mono hsz))
       clear hb1
       go_wp2
       go_ret2
       exact ⟨ChsRes.none HST.out _,HB1.out.alloc HB1.out.size _ ⟩
     | some p=>
       obtain ⟨⟨key,val⟩,m⟩:=p
       obtain ⟨v2,rfl,hown⟩:=hres
       obtain ⟨hm,hmb, -⟩:=HRO.out _ _ rfl
       rw [List.length_drop] at hmb
       omega
    ·refine (HONE1.out (by assumption)).mono ?_
     rintro e w1 ⟨hres,hb1⟩
     clear HONE0 HONE1 c00
     cases O with
     | none=>
       have hres:e=.returned (.tuple #[.agg #[strV [],.slice none 0 0],.int .i64 0]):=hres
       subst hres
       have HB1:=Lib.hid (HBW.out.trans (hb1.mono hsz))
       clear hb1
       go_wp2
       go_ret2
       exact ⟨ChsRes.none HST.out _,HB1.out.alloc HB1.out.size _ ⟩
     | some p=>
       obtain ⟨⟨key,val⟩,m⟩:=p
       obtain ⟨v2,rfl,hown⟩:=hres
       obtain ⟨hm,hmb, -⟩:=HRO.out _ _ rfl
       rw [List.length_drop] at hmb
       have hsz1:=hb1.size
       have HB1:=Lib.hid (HBW.out.trans (hb1.mono hsz))
       have HROW1:=Lib.hid (HROW.out.below hb1)
       have HOWN:=Lib.hid (own_le hown hsz)
       obtain ⟨av,cv,rfl,ho1⟩:=rowV_form hown
       have t3:((m:Int) == 0)=false:=by simp; omega
       have hm3:3≤m:=by omega
       have hmb2:i+1+m≤b.length:=by omega
       clear hm hmb
       have GB:Below w1.heap.size w1 ((w1.alloc (.cells #[strV key,.slice av val.length cv] 96)).alloc (.cells #[strV key,.slice av val.length cv,.bool false] 104)):=((Below.refl _ _).alloc (Nat.le_refl _) _).alloc (by simp) _
       have HBK:Hid (Blk ((w1.alloc (.cells #[strV key,.slice av val.length cv] 96)).alloc (.cells #[strV key,.slice av val.length cv,.bool false] 104)) (w1.heap.size+1) 104 (chgCells (⟨key,val,false⟩,.slice av val.length cv))):=Lib.hid (Blk.at _ _ [strV key,.slice av val.length cv,.bool false] (by simp))
       have HR2:=Lib.hid (HROW1.out.below GB)
       have HO2:=Lib.hid (own_grown HOWN.out (Grown.of_below GB) (fun _ _ _ h=>h))
       have HB2:=Lib.hid (HB1.out.trans (GB.mono (Nat.le_trans hsz hsz1)))
       have HLE:=Lib.hid HA.out.len
       clear hb1 hown HROW HRO GB HROW1 HOWN
       go_wp2_with (at_builtin; go_must (refine wpList_rc rfl _ _ rfl w.heap.size _ xs rfl HR2.out (w1.heap.size+1) 1 (⟨key,val,false⟩,.slice av val.length cv) rfl HBK.out HO2.out rfl (by have:=HLE.out; omega) (by simp; omega) ?_); intro v3 w3 hy3 hb3)
       exact ⟨⟨i+1+m,_,hmb2,rfl,hy3,Lib.hid (HST.out _),HB2.out.trans hb3⟩,by simp only [intOf]; omega⟩
   ·obtain ⟨_,hsB,hsC⟩:=hst
    generalize htg:(b.getD i 0).toNat=tg at *
    have hz0:((tg:Int) == 0)=false:=by
     have:tg ≠ 0:=fun e=>hz (UInt8.toNat_inj.1 (by rw [htg,e]; rfl))
     simp; omega
    have hs1:=hsB hz
    have HS2:=Lib.hid (hsC hz)
    clear hsB hsC
    by_cases b1:1 < tg
    ·have s1:decide ((1:Int) < (tg:Int))=true:=decide_eq_true (by omega)
     have HR:=Lib.hid (hs1 (Or.inl b1))
     clear hs1 hz htg b1
     go_wp2
     go_ret2
     exact ⟨ChsRes.none HR.out _,HBW.out⟩
    have s1:decide ((1:Int) < (tg:Int))=false:=decide_eq_false (by omega)
    by_cases b2:b.length < i+2
    ·have s2:decide ((b.length:Int) < (i:Int)+2)=true:=decide_eq_true (by omega)
     have HR:=Lib.hid (hs1 (Or.inr (Or.inl b2)))
     clear hs1 hz htg b1
     go_wp2
     go_ret2
     exact ⟨ChsRes.none HR.out _,HBW.out⟩
    have s2:decide ((b.length:Int) < (i:Int)+2)=false:=decide_eq_false (by omega)
    have c1:=(HBW.out.cell (p:=⟨g,off+(i+1),none⟩) hg).trans (HC.out (i+1) (by omega))
    have c1w:=HC.out (i+1) (by omega)
    have hk8:=(b.getD (i+1) 0).toNat_lt
    have r1:(0:Int)≤(i:Int)+1∧(i:Int)+1 < (b.length:Int):=by omega
    by_cases b3:b.length < i+2+(b.getD (i+1) 0).toNat
    ·have HR:=Lib.hid (hs1 (Or.inr (Or.inr b3)))
     clear HS2 hs1
     generalize (b.getD (i+1) 0).toNat=k at *
     have s3:decide ((b.length:Int) < (i:Int)+2+(k:Int))=true:=decide_eq_true (by omega)
     clear hz htg b1
     go_wp2
     go_ret2
     exact ⟨ChsRes.none HR.out _,HBW.out⟩
    have HST:=Lib.hid (HS2.out (by omega))
    clear HS2 hs1
    generalize (b.getD (i+1) 0).toNat=k at *
    have s3:decide ((b.length:Int) < (i:Int)+2+(k:Int))=false:=decide_eq_false (by omega)
    have hks:((b.drop (i+2)).take k).length=k:=by rw [List.length_take,List.length_drop]; omega
    by_cases hcap:cap=i+2
    ·have hcv:(convert 25 9 (.slice (some ⟨g,off,none⟩) k 0)).run Tryz.prog wr=.ok (.string ⟨((b.drop (i+2)).take k).toArray⟩) wr:=conv_c (B:=w.heap.size) (by
      have e:(b.drop (i+2)).take k=[]:=List.eq_nil_of_length_eq_zero (by omega)
      rw [e,show k=0 by omega]
      exact Or.inr ⟨g,off,0,rfl,Nat.le_refl _,Nat.zero_le _,hg,fun j hj=>by simp at hj⟩)
     generalize (b.drop (i+2)).take k=key at *
     have GB:Below wr.heap.size wr (wr.alloc (.cells #[strV key,.slice none 0 0,.bool true] 104)):=(Below.refl _ _).alloc (Nat.le_refl _) _
     have HBK:Hid (Blk (wr.alloc (.cells #[strV key,.slice none 0 0,.bool true] 104)) wr.heap.size 104 (chgCells (⟨key,[],true⟩,.slice none 0 0))):=Lib.hid (Blk.new _ _ [strV key,.slice none 0 0,.bool true])
     have HR2:=Lib.hid (HROW.out.below GB)
     have HB2:=Lib.hid (HBW.out.trans (GB.mono hsz))
     have HLE:=Lib.hid HA.out.len
     have hkI:(k:Int)≤255:=by omega
     have hiI:(i:Int)≤1000000:=by omega
     have b3I:(i:Int)+2+(k:Int)≤(b.length:Int):=by omega
     have b4I:(i:Int)+2+(k:Int)≤(cap:Int):=by omega
     have hcap2:i+2=cap:=hcap.symm
     clear HROW GB hz htg b1 hcap
     go_wp2_with (at_builtin; go_must (refine wpList_rc rfl _ _ rfl w.heap.size _ xs rfl HR2.out wr.heap.size 1 (⟨key,[],true⟩,.slice none 0 0) rfl HBK.out (World.ownsRow_nil _ w.heap.size _ 1) rfl (by have:=HLE.out; omega) (by simp; omega) ?_); intro v3 w3 hy3 hb3; have c3:=((HB2.out.trans hb3).cell (p:=⟨g,off+(i+1),none⟩) hg).trans c1w)
     exact ⟨⟨i+2+k,_,by omega,rfl,hy3,Lib.hid (HST.out _),HB2.out.trans hb3⟩,by simp only [intOf]; omega⟩
    ·have hcv:(convert 25 9 (.slice (some ⟨g,off+(i+2),none⟩) k (cap - (i+2)))).run Tryz.prog wr=.ok (.string ⟨((b.drop (i+2)).take k).toArray⟩) wr:=conv_c (B:=w.heap.size) (by
      exact RdB.sub (i+2) k (cap - (i+2)) (by omega) (by omega) (by unfold maxLen; omega) hg (fun j hj=>(HBW.out.cell (p:=⟨g,off+j,none⟩) hg).trans (HC.out j hj)) hlc)
     generalize (b.drop (i+2)).take k=key at *
     have GB:Below wr.heap.size wr (wr.alloc (.cells #[strV key,.slice none 0 0,.bool true] 104)):=(Below.refl _ _).alloc (Nat.le_refl _) _
     have HBK:Hid (Blk (wr.alloc (.cells #[strV key,.slice none 0 0,.bool true] 104)) wr.heap.size 104 (chgCells (⟨key,[],true⟩,.slice none 0 0))):=Lib.hid (Blk.new _ _ [strV key,.slice none 0 0,.bool true])
     have HR2:=Lib.hid (HROW.out.below GB)
     have HB2:=Lib.hid (HBW.out.trans (GB.mono hsz))
     have HLE:=Lib.hid HA.out.len
     have hkI:(k:Int)≤255:=by omega
     have hiI:(i:Int)≤1000000:=by omega
     have b3I:(i:Int)+2+(k:Int)≤(b.length:Int):=by omega
     have b4I:(i:Int)+2+(k:Int)≤(cap:Int):=by omega
     clear HROW GB hz htg b1
     go_wp2_with (at_builtin; go_must (refine wpList_rc rfl _ _ rfl w.heap.size _ xs rfl HR2.out wr.heap.size 1 (⟨key,[],true⟩,.slice none 0 0) rfl HBK.out (World.ownsRow_nil _ w.heap.size _ 1) rfl (by have:=HLE.out; omega) (by simp; omega) ?_); intro v3 w3 hy3 hb3; have c3:=((HB2.out.trans hb3).cell (p:=⟨g,off+(i+1),none⟩) hg).trans c1w)
     exact ⟨⟨i+2+k,_,by omega,rfl,hy3,Lib.hid (HST.out _),HB2.out.trans hb3⟩,by simp only [intOf]; omega⟩
  ·have t2:decide ((i:Int) < (b.length:Int))=false:=decide_eq_false (by omega)
   have HE:=Lib.hid (HA.out.done (by omega) (by omega))
   have c0:=(HBW.out.cell (p:=⟨g,off+0,none⟩) hg).trans (HC.out 0 (by omega))
   rw [Nat.add_zero] at c0
   have HAT:=Lib.hid (HROW.out.toAt)
   have hk8:=(b.getD 0 0).toNat_lt
   have hxl:=HA.out.len
   have hxl2:(xs.length:Int)≤1000000:=by omega
   have r0:(0:Int) < (b.length:Int):=by omega
   generalize (b.getD 0 0).toNat=n0 at *
   go_upto_region 10 with (fail)
   go_quiet (fail)
   go_wp2
   go_ret2
   have hq:((xs.length:Int) == (n0:Int))=decide (xs.length=n0):=by
    by_cases e:xs.length=n0
    ·subst e; simp
    ·rw [decide_eq_false e]; simp; omega
   have he:=HE.out
   refine ⟨?_,below_drewN HBW.out nq⟩
   by_cases e:xs.length=n0
   ·rw [if_pos e] at he
    rw [he,hq,decide_eq_true e]
    exact ⟨_,rfl,HAT.out⟩
   ·rw [if_neg e] at he
    rw [he,hq,decide_eq_false e]
    exact ⟨_,rfl⟩
end
section
open Go.RowKit SeedP Go.Maps
theorem xs_load9 (ρ:Operand→Value) (d:Option Tmp) (ty:TypeId) (pos:String) (af:Array Edge) (gd:Option (Nat × Bool)) (x:Operand) (g:Nat) (pw:Int) (v0 v1 ve:Value) (gen fl ed sum:Int) (down:Bool) (w:World) (hx:ρ x=.pointer (some ⟨g,0,none⟩)) (h:RB w g pw v0 v1 ve gen fl ed sum down) :
 (execOp ρ ⟨d,.load 52 x,ty,pos,af,gd⟩).run Tryz.prog w=.ok (.value (rjV pw v0 v1 ve gen fl ed sum down)) w:=by
 obtain ⟨k0,k1,k2,k3,k4,k5,k6,k7,k8,_⟩:=h
 simp [go_sem,hx,k0,k1,k2,k3,k4,k5,k6,k7,k8]
theorem xs_store9 (ρ:Operand→Value) (d:Option Tmp) (ty:TypeId) (pos:String) (af:Array Edge) (gd:Option (Nat × Bool)) (p x:Operand) (g:Nat) (pw:Int) (v0 v1 ve:Value) (gen fl ed sum:Int) (down:Bool) (pw':Int) (a0 a1 ae:Option Addr) (n0 c0 n1 c1 ne ce:Nat) (gen' fl' ed' sum':Int) (down':Bool) (w:World) (hp:ρ p=.pointer (some ⟨g,0,none⟩)) (hx:ρ x=rjV pw' (.slice a0 n0 c0) (.slice a1 n1 c1) (.slice ae ne ce) gen' fl' ed' sum' down') (h:RB w g pw v0 v1 ve gen fl ed sum down) :
 (execOp ρ ⟨d,.store 52 p x,ty,pos,af,gd⟩).run Tryz.prog w=.ok .skip (set9 w g (.int .i64 pw') (.slice a0 n0 c0) (.slice a1 n1 c1) (.slice ae ne ce) (.int .i64 gen') (.int .i64 fl') (.int .i64 ed') (.int .u64 sum') (.bool down')):=by
 obtain ⟨k0,k1,k2,k3,k4,k5,k6,k7,k8,fr⟩:=h
 simp [go_sem,hp,hx,set9,k0,k1,k2,k3,k4,k5,k6,k7,k8,fr]
/-- no byte lies in a journal's block -/
theorem rjC_nobyte (pw:Int) (a0 a1 ae:Option Addr) (n0 c0 n1 c1 ne ce:Nat) (gen fl ed sum:Int) (down:Bool):∀ x ∈ rjC pw (.slice a0 n0 c0) (.slice a1 n1 c1) (.slice ae ne ce) gen fl ed sum down,∀ m:Int,x ≠ .int .u8 m:=by
 intro x hx m
 simp only [rjC,List.mem_cons,List.not_mem_nil,or_false] at hx
 rcases hx with rfl | rfl | rfl | rfl | rfl | rfl | rfl | rfl | rfl <;> simp
theorem Blk.cell_some {w:World} {A:Nat} {t:TypeId} {xs:List Value} (h:Blk w A t xs) {o:Nat} {v:Value} (hc:w.cell? ⟨A,o,none⟩=some v):v ∈ xs:=by
 by_cases ho:o < xs.length
 ·rw [h.cell o ho] at hc
  simp only [Option.some.injEq] at hc
  rw [← hc,List.getD_eq_getElem?_getD,List.getElem?_eq_getElem ho]
  exact List.getElem_mem ho
 ·exfalso
  rw [cell_of_row w A o xs.toArray t (0,0) h] at hc
  have:=(Array.getElem?_eq_some_iff.1 hc).1
  simp at this
  omega
theorem RdB.away {w w':World} {B A:Nat} {v:Value} {l:List UInt8} {t:TypeId} {xs:List Value} (h:RdB w B v l) (hb:Blk w A t xs) (hx:∀ x ∈ xs,∀ m:Int,x ≠ .int .u8 m) (hg:Grown (fun k=>k=A) w w'):RdB w' B v l:=by
 rcases h with h | ⟨g,off,cap,e,h1,h2,h3,h4⟩
 ·exact Or.inl h
 ·refine Or.inr ⟨g,off,cap,e,h1,h2,h3,fun j hj=>?_⟩
  have hc:=h4 j hj
  have hgA:g ≠ A:=by
   rintro rfl
   exact hx _ (hb.cell_some hc) _ rfl
  exact (World.cell?_of_block (hg.block g (World.block_lt_of_cell? w ⟨g,off+j,none⟩ hc) hgA)).trans hc
theorem RD.away {w w':World} {A:Nat} {v0 v1:Value} {d:DS} {t:TypeId} {xs:List Value} (h:RD w v0 v1 d) (hb:Blk w A t xs) (hx:∀ x ∈ xs,∀ m:Int,x ≠ .int .u8 m) (hg:Grown (fun k=>k=A) w w'):RD w' v0 v1 d:=
 ⟨(h.r0.away hb hx hg).mono hg.size,(h.r1.away hb hx hg).mono hg.size⟩
end
end Go.Proofs.YtondomklkapogaaGreatDoor
