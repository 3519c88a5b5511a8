/- The walk of isSchool. -/
import Derived.Test.YtbcfpdlhieaepaaGreatDoorR35
import Derived.Test.YtbcfpdlhieaepaaGreatDoorR38
import Derived.Maps.OwnIn
import Derived.Sort.CutIn
import Derived.Test.YtbcfpdlhieaepaaGreatDoorR39
namespace Go.Proofs.YtbcfpdlhieaepaaGreatDoor
open Go.RowKit SeedP Go.Maps Go.Shelf
attribute [local go_sem] Oper.semAt_some
set_option maxRecDepth 100000 in
set_option maxHeartbeats 2000000 in
/-- isSchool -/
theorem isSchool_c {jb db mb:Nat} {pj:Nat→Prop} {s:JS} (w:World) (h:JW w jb db mb pj s) (hd:s.down=false) :
 Calls Tryz.prog 41 #[.pointer (some ⟨jb,0,none⟩)] w fun e w'=>e=.returned (.bool (isSchoolP s.c.ents))∧Below w.heap.size w w':=by
 have hmm:=@run_makeMap Tryz.prog
 refine (callsIn_wide (n:=3)).1 ?_
 refine callsIn_of_wp_marks Tryz.func41 rfl trivial ?_ rfl
 simp only [Tryz.ntmps41,List.size_toArray,List.length_cons,List.length_nil,Nat.reduceAdd,Nat.reduceSub,Array.replicate_succ,Array.replicate_zero,List.push_toArray,List.append_toArray,List.nil_append,List.cons_append]
 have hM0:=World.ownsMap_made (w.alloc (.cells #[.bool false] 4)) Tryz.prog 5 tokR
 rw [World.size_alloc] at hM0
 obtain ⟨q1,q2,q3,q4,q5,r1,r2,r3,r4,r5,hk5,hgk⟩:=kinds_made hM0
 have hR5:Blk q5 w.heap.size 4 [.bool false]:=((Blk.new w 4 [.bool false]).alloc _).grown hgk (by omega)
 have hb5:Below w.heap.size w q5:=(((Below.refl _ w).alloc (Nat.le_refl _) _).alloc (by simp) _).trans (hgk.below (fun k e=>by rw [e]; omega) (by simp; omega))
 have hsz5:w.heap.size+2≤q5.heap.size:=by have:=hgk.size; simpa using this
 have H5:=Lib.hid (And.intro hk5 (And.intro hR5 hb5))
 have HSZ:=Lib.hid hsz5
 clear hk5 hR5 hb5 hgk hM0 hsz5
 gi_upto_region 2 with (fail)
 have hK6:=Blk.new q5 129 [.map (some (w.heap.size+1))]
 have hk6:=H5.out.1.alloc (.cells #[.map (some (w.heap.size+1))] 129)
 have hR6:=H5.out.2.1.alloc (.cells #[.map (some (w.heap.size+1))] 129)
 have hb6:=H5.out.2.2.alloc (by have:=HSZ.out; omega) (.cells #[.map (some (w.heap.size+1))] 129)
 have hs6:w.heap.size+2≤q5.heap.size∧(q5.alloc (.cells #[.map (some (w.heap.size+1))] 129)).heap.size=q5.heap.size+1:=⟨HSZ.out,World.size_alloc _ _⟩
 have H6:=Lib.hid (And.intro hK6 (And.intro hk6 (And.intro hR6 (And.intro hb6 hs6))))
 change Code.wpIn _ _ _ _ _ _ (q5.alloc (.cells #[.map (some (w.heap.size+1))] 129))
 clear r1 r2 r3 r4 r5 H5 HSZ hK6 hk6 hR6 hb6 hs6
 generalize q5.alloc (.cells #[.map (some (w.heap.size+1))] 129)=w6 at *
 generalize hkc:q5.heap.size=kc at *
 clear hkc
 gi_upto_region 3 with (fail)
 obtain ⟨S,hS⟩:∃ S,w6.heap.size=S:=⟨_,rfl⟩
 have HK8:Hid (SchK w w.heap.size kc S (((((w6.alloc (.map #[] 0)).alloc (.map #[] 0)).alloc (.map #[] 0)).alloc (.cells #[.map (some S),.slice none 0 0,.slice none 0 0,.slice none 0 0,.map (some (S+1)),.map (some (S+1+1))] 134)).alloc (.cells #[.pointer (some ⟨S+1+1+1,0,none⟩)] 128)) ∧
  CV (((((w6.alloc (.map #[] 0)).alloc (.map #[] 0)).alloc (.map #[] 0)).alloc (.cells #[.map (some S),.slice none 0 0,.slice none 0 0,.slice none 0 0,.map (some (S+1)),.map (some (S+1+1))] 134)).alloc (.cells #[.pointer (some ⟨S+1+1+1,0,none⟩)] 128)) S (S+3) 0 contZ (labF (S+3) S (S+1) (S+2)) S (S+1) (S+2) (.slice none 0 0) (.slice none 0 0) (.slice none 0 0) ∧
  (((((w6.alloc (.map #[] 0)).alloc (.map #[] 0)).alloc (.map #[] 0)).alloc (.cells #[.map (some S),.slice none 0 0,.slice none 0 0,.slice none 0 0,.map (some (S+1)),.map (some (S+1+1))] 134)).alloc (.cells #[.pointer (some ⟨S+1+1+1,0,none⟩)] 128)).heap.size=S+5):=Lib.hid (by
  obtain ⟨hK,hk,hR,hb,hs,hs2⟩:=H6.out
  have e1:(w6.alloc (.map #[] 0)).heap.size=S+1:=by rw [World.size_alloc,hS]
  have e2:((w6.alloc (.map #[] 0)).alloc (.map #[] 0)).heap.size=S+2:=by rw [World.size_alloc,e1]
  have e3:(((w6.alloc (.map #[] 0)).alloc (.map #[] 0)).alloc (.map #[] 0)).heap.size=S+3:=by rw [World.size_alloc,e2]
  have s0:=Seen.made w6
  have m4:=World.ownsMap_made (w6.alloc (.map #[] 0)) Tryz.prog 9 tokR
  have m5:=World.ownsMap_made ((w6.alloc (.map #[] 0)).alloc (.map #[] 0)) Tryz.prog 9 tokR
  have bc:=Blk.new (((w6.alloc (.map #[] 0)).alloc (.map #[] 0)).alloc (.map #[] 0)) 134 [.map (some S),.slice none 0 0,.slice none 0 0,.slice none 0 0,.map (some (S+1)),.map (some (S+1+1))]
  have e4:((((w6.alloc (.map #[] 0)).alloc (.map #[] 0)).alloc (.map #[] 0)).alloc (.cells #[.map (some S),.slice none 0 0,.slice none 0 0,.slice none 0 0,.map (some (S+1)),.map (some (S+1+1))] 134)).heap.size=S+4:=by rw [World.size_alloc,e3]
  have bp:=Blk.new ((((w6.alloc (.map #[] 0)).alloc (.map #[] 0)).alloc (.map #[] 0)).alloc (.cells #[.map (some S),.slice none 0 0,.slice none 0 0,.slice none 0 0,.map (some (S+1)),.map (some (S+1+1))] 134)) 128 [.pointer (some ⟨S+1+1+1,0,none⟩)]
  rw [hS] at s0
  rw [e1] at m4
  rw [e2] at m5
  rw [e3] at bc
  rw [e4] at bp
  refine ⟨⟨((((hk.alloc _).alloc _).alloc _).alloc _).alloc _,((((hK.alloc _).alloc _).alloc _).alloc _).alloc _,((((hR.alloc _).alloc _).alloc _).alloc _).alloc _,bp,((((hb.alloc (by omega) _).alloc (by omega) _).alloc (by omega) _).alloc (by omega) _).alloc (by omega) _,hs,by omega⟩,CV.start (bc.alloc _) (Nat.le_refl _) (by omega) (by omega) (by omega) (((((s0.grown (Grown.refl (fun _=>False) _) (fun h=>h)))).grown (Grown.of_below (((((Below.refl _ _).alloc (Nat.le_refl _) _).alloc (by simp) _).alloc (by simp) _).alloc (by simp) _)) (S:=fun _=>False) (fun h=>h))) (((m4.alloc _).alloc _).alloc _) ((m5.alloc _).alloc _),by rw [World.size_alloc,e4]⟩)
 rw [hS]
 generalize (((((w6.alloc (.map #[] 0)).alloc (.map #[] 0)).alloc (.map #[] 0)).alloc (.cells #[.map (some S),.slice none 0 0,.slice none 0 0,.slice none 0 0,.map (some (S+1)),.map (some (S+1+1))] 134)).alloc (.cells #[.pointer (some ⟨S+1+1+1,0,none⟩)] 128))=w8 at *
 rw [show S+1+1+1+1=S+4 from rfl,show S+1+1+1=S+3 from rfl,show S+1+1=S+2 from rfl]
 clear H6 hS
 gi_wp2_with (refine ⟨trivial,?_⟩; gi_at_call 83; refine (callsIn_wide.2 (all_c jb _)).mono ?_; rintro e w9 ⟨rfl,rfl⟩)
 have hB9:Below w.heap.size w (w8.alloc (.cells #[.pointer (some ⟨jb,0,none⟩)] 52)):=HK8.out.1.bel.alloc HK8.out.1.bel.size _
 have hJ9:=h.low.below (hB9)
 have hs9:(w8.alloc (.cells #[.pointer (some ⟨jb,0,none⟩)] 52)).heap.size=S+6:=by rw [World.size_alloc,HK8.out.2.2]
 have hb9:Blk (w8.alloc (.cells #[.pointer (some ⟨jb,0,none⟩)] 52)) (S+5) 52 [.pointer (some ⟨jb,0,none⟩)]:=by
  have:=Blk.new w8 52 [.pointer (some ⟨jb,0,none⟩)]
  rwa [HK8.out.2.2] at this
 have hK9:SchK w w.heap.size kc S (w8.alloc (.cells #[.pointer (some ⟨jb,0,none⟩)] 52)):=HK8.out.1.grown (T:=fun _=>False) (Grown.of_below ((Below.refl _ _).alloc (Nat.le_refl _) _)) (fun _ _ h=>h) (fun h=>h)
 have hC9:=HK8.out.2.1.below ((Below.refl _ w8).alloc (Nat.le_refl _) (.cells #[.pointer (some ⟨jb,0,none⟩)] 52))
 rw [HK8.out.2.2]
 have hnS:w.heap.size+2≤kc∧kc < S:=⟨HK8.out.1.kb,HK8.out.1.kS⟩
 clear HK8 hmm
 generalize w8.alloc (.cells #[.pointer (some ⟨jb,0,none⟩)] 52)=w9 at *
 have hI0:SchI w w.heap.size kc S (S+6) (fun g=>g < w.heap.size∨g=S+5) [] w9:=
  ⟨hK9,contZ,_,rfl,⟨_,_,_,_,_,_,hC9⟩,fun g hg=>⟨by omega,labF_no (by omega) (by omega) (by omega) (by omega)⟩,labF_no (by omega) (by omega) (by omega) (by omega),labF_no (by omega) (by omega) (by omega) (by omega),labF_no (by omega) (by omega) (by omega) (by omega)⟩
 refine rangeFunc_iter (encs:=EntX.enc) (R:=EntX.Rd) (S:=fun xs=>xs.map EntX.kv=s.c.ents) (Sp:=fun pre=>pre.map EntX.kv <+: s.c.ents) (N:=s.c.ents.length) (p0:=fun g=>g < w.heap.size∨g=S+5) rfl (by omega) (gf:=125) (lb:=#[.pointer (some ⟨S+5,0,none⟩)]) rfl trivial (enters_of Tryz.func125 (by kernel_rfl) rfl) (fun g hg=>by omega)
  (all_iter (p0:=fun g=>g < w.heap.size∨g=S+5) w9 hJ9 hd (S+5) (hb9.cell 0 (by simp)) ⟨Or.inl h.st.pos,Or.inl (by have:=h.lt; omega),Or.inl (by have:=h.lt; omega),Or.inl (by have:=h.lt; omega),fun g hg=>Or.inl hg.2⟩ (Or.inr rfl) 2 (by omega)) (fun _=>rfl)
  (SchI w w.heap.size kc S (S+6)) (SchX w w.heap.size kc S) (by rw [hs9]; exact SchI.ab _ _ _ _ _ (by omega)) (by rw [hs9]; exact SchX.ab _ _ _ _ _ (by omega)) hI0
  (fun x=>{ tmps:=#[.pointer (some ⟨jb,0,none⟩),undef,.pointer (some ⟨w.heap.size,0,none⟩),.pointer (some ⟨kc,0,none⟩),.pointer (some ⟨S+4,0,none⟩),strV x.k,.slice x.a x.v.length x.cap,undef,undef,.map (some (w.heap.size+1)),.map (some (w.heap.size+1)),.map (some S),.map (some (S+1)),.map (some (S+2)),
   .agg #[.map (some S),.slice none 0 0,.slice none 0 0,.slice none 0 0,.map (some (S+1)),.map (some (S+2))],.pointer (some ⟨S+3,0,none⟩),.pointer (some ⟨jb,0,none⟩),.func (.func 125) #[] #[.pointer (some ⟨S+5,0,none⟩)],strV x.k,.slice x.a x.v.length x.cap,undef,
   undef,undef,undef,undef,undef,undef,undef,undef,undef,undef,undef,undef,undef,undef,undef,undef,undef,undef,undef],defers:=[] }) ?assign ?body ?done ?stop
 case assign=>
  intro l x W K hK
  unfold EntX.enc
  gi_wp2
  exact hK
 case body=>
  intro l p pre x W0 W1 W hI hN hb hx hW hL
  rw [hs9] at hW hL ⊢
  obtain ⟨hK,c,f,hC,hRd⟩:=hI.round (by omega) hb hx hW
  obtain ⟨-,hkl,hvl,hk1⟩:=hx
  obtain ⟨xk,xv,xa,xcap⟩:=x
  simp only at hRd hkl hvl hk1
  cases xk with
  | nil=>simp at hk1
  | cons k0 rest=>
    dsimp only
    obtain ⟨sx,hsx⟩:∃ sx:ByteArray,⟨(k0 :: rest).toArray⟩=sx:=⟨_,rfl⟩
    have hsz:sx.size=rest.length+1:=by rw [← hsx,str_size]; rfl
    have hp0:0 < sx.size:=by omega
    have hs0:sx[0]=k0:=by subst hsx; rfl
    have hlk:=kinds_look (hK.kin.drew) k0
    have hkc:=hK.kce.cell 0 (by simp)
    unfold strV
    rw [hsx]
    have hmix:Tryz.prog.follows .mixedOrders=true:=by kernel_rfl
    gi_upto_region 6 with (fail)
    gi_cut [7,8] from 20 (fun t7 t8 wx=>t7=kindV k0∧t8=.bool (kindF k0).isSome∧wx=W.drew)
    case first=>
     gi_region
     all_goals
      gi_wp2_with fail
      gi_meet
      case rel=>exact ⟨rfl,rfl,rfl⟩
    case rest=>
     obtain ⟨rfl,rfl,rfl⟩:=hcut
     gi_upto_region 7 with (fail)
     have hW1:Below W.heap.size W W.drew.drew:=((bl_drew W).trans (bl_drew W.drew))
     have hCW:=hC.cw.below hW1
     have hfr:=hC.fr
     have hKP:Kp W W.drew.drew f f (fun x=>x ≠ .no):=Kp.of_below hW1 hfr
     have hRd2:=hRd.grown (Grown.of_below hW1 (S:=fun _=>False)) (fun _ _ h=>h)
     have hlen:3 * (pre.map EntX.kv).length≤1000000:=by
      rw [List.length_map]
      have h1:=pWt_len s.c.ents
      have h2:=h.ok.wt
      have h3:=h.ok.max
      omega
     have hrl:rest.length≤1000000:=by simp at hkl; omega
     have hpc:=hK.ptr.cell 0 (by simp)
     have hsl:sx.extract 1 (rest.length+1)=⟨rest.toArray⟩:=by
      subst hsx
      apply ByteArray.ext
      simp
     gi_cut [37] from 27 (fun t wx=>t=.bool (!(entStep c (k0 :: rest,xv)).2)∧(∃ f',CW wx S (S+3) (3 * (pre.map EntX.kv).length+3) (entStep c (k0 :: rest,xv)).1 f'∧Kp W wx f f' (fun x=>x ≠ .no))∧Below S W wx)
     case first=>
      have hk:kindF k0=none∨k0=97∨k0=120∨k0=116∨k0=109∨k0=99:=by
       unfold kindF
       repeat' split
       all_goals simp_all
      rcases hk with hk | rfl | rfl | rfl | rfl | rfl
      ·have he:entStep c (k0 :: rest,xv)=(c,false):=by
        unfold kindF at hk
        unfold entStep
        simp only
        repeat' split at hk
        all_goals simp_all
       have e1:kindV k0=.nilFunc:=by unfold kindV; rw [hk]
       have e2:(kindF k0).isSome=false:=by rw [hk]; rfl
       have HE:=Lib.hid he
       clear hk he hlk
       generalize kindV k0=kv at *
       generalize (kindF k0).isSome=kb at *
       subst e1 e2
       refine regionR hmix l _ (by kernel_rfl) (fun ⟨_,_,h⟩=>h) ?_
       refine any_mix (by kernel_rfl) (by kernel_rfl) [some (.bool false),some (.bool true),some (.bool true),some undef,some undef,some undef,some undef,some undef,some undef,some undef,some (.bool true)] [] (by kernel_rfl) (by kernel_rfl) (fun _ _ w'=>w'=W.drew.drew) rfl ?_ ?_
       ·refine EachI.cons (MixOk.pure (by kernel_rfl) (fun _=>by kernel_rfl) (fun _ _=>by kernel_rfl)) ?_
        refine EachI.cons (MixOk.pure (by kernel_rfl) (fun _=>by kernel_rfl) (fun _ _=>by kernel_rfl)) ?_
        refine EachI.cons (MixOk.pure (by kernel_rfl) (fun _=>by kernel_rfl) (fun _ _=>by kernel_rfl)) ?_
        refine EachI.cons (MixOk.skip (by kernel_rfl) (fun _=>by kernel_rfl) (fun _=>by kernel_rfl)) ?_
        refine EachI.cons (MixOk.skip (by kernel_rfl) (fun _=>by kernel_rfl) (fun _=>by kernel_rfl)) ?_
        refine EachI.cons (MixOk.skip (by kernel_rfl) (fun _=>by kernel_rfl) (fun _=>by kernel_rfl)) ?_
        refine EachI.cons (MixOk.skip (by kernel_rfl) (fun _=>by kernel_rfl) (fun _=>by kernel_rfl)) ?_
        refine EachI.cons (MixOk.skip (by kernel_rfl) (fun _=>by kernel_rfl) (fun _=>by kernel_rfl)) ?_
        refine EachI.cons (MixOk.skip (by kernel_rfl) (fun _=>by kernel_rfl) (fun _=>by kernel_rfl)) ?_
        refine EachI.cons (MixOk.skip (by kernel_rfl) (fun _=>by kernel_rfl) (fun _=>by kernel_rfl)) ?_
        refine EachI.cons (MixOk.pure (by kernel_rfl) (fun _=>by kernel_rfl) (fun _ _=>by kernel_rfl)) ?_
        exact EachI.nil
       ·intro ws L' hL' w7 hG7
        simp only [setAll,mix,List.set_cons_succ,List.set_cons_zero,List.getElem?_cons_succ,List.getElem?_cons_zero,Option.join_some,Option.getD_some,Nat.reduceAdd] at hL'
        subst hL' hG7
        gi_wp2_with fail
        gi_meet
        case rel=>rw [HE.out]; exact ⟨rfl,⟨f,hCW.mono (by omega),hKP⟩,hW1.mono hC.cw.szB⟩
      ·have HM:=Lib.hid (cAtt_c rest xv xa xcap hCW hlen hrl hvl hRd2)
       have he:entStep c (97 :: rest,xv)=attStep c rest xv:=by unfold entStep; simp
       rw [← he] at HM
       unfold ReadPost at HM
       have e1:kindV 97=fnV 82:=rfl
       have e2:(kindF 97).isSome=true:=rfl
       rw [e1,e2]
       clear e1 e2 he
       generalize entStep c (97 :: rest,xv)=es at *
       obtain ⟨c2,rb⟩:=es
       simp only at HM ⊢
       have HC2:=(HM.out).mono (R':=fun e w'=>e=.returned (.bool rb)∧((∃ f',CW w' S (S+3) (3 * (pre.map EntX.kv).length+3) c2 f'∧Kp W w' f f' (fun x=>x ≠ .no))∧Below S W w'∧w'.cell? ⟨S+4,0,none⟩=some (.pointer (some ⟨S+3,0,none⟩)))) (by
        rintro e w3 ⟨rfl,⟨f3,hc3,hk3⟩,hb3⟩
        refine ⟨rfl,⟨f3,hc3,hKP.trans hk3⟩,(hW1.mono hC.cw.szB).trans hb3,?_⟩
        exact (hK.ptr.grown (hKP.trans hk3).gr (fun hn=>hn hC.s4)).cell 0 (by simp))
       have HCALL:=Lib.hid HC2
       clear HM HC2
       refine regionR hmix l _ (by kernel_rfl) (fun ⟨_,_,h⟩=>h) ?_
       refine any_call' 8 27 38 [.bool true,.bool false,.bool false,fnV 82,.pointer (some ⟨S+3,0,none⟩),.string sx,strV rest,.slice xa xv.length xcap,.bool rb,.bool (!rb),.bool (!rb)] (fun w'=>(∃ f',CW w' S (S+3) (3 * (pre.map EntX.kv).length+3) c2 f'∧Kp W w' f f' (fun x=>x ≠ .no))∧Below S W w'∧w'.cell? ⟨S+4,0,none⟩=some (.pointer (some ⟨S+3,0,none⟩))) (by kernel_rfl) (by kernel_rfl) rfl (by kernel_rfl) rfl rfl (Nat.le_of_ble_eq_true (by kernel_rfl)) ?_ (by kernel_rfl) 82 #[.pointer (some ⟨S+3,0,none⟩),strV rest,.slice xa xv.length xcap] (by kernel_rfl) HCALL.out ?_
       ·intro w' hw'
        have hx0:w'.cell? ⟨S+4,0,none⟩=some (.pointer (some ⟨S+3,0,none⟩)):=by
         rcases hw' with rfl | h
         ·exact hpc
         ·exact h.2.2
        constructor
        ·refine GvAll.run (by kernel_rfl) (by kernel_rfl) ?_
         refine GvAll.run (by kernel_rfl) (by kernel_rfl) ?_
         refine GvAll.run (by kernel_rfl) (by kernel_rfl) ?_
         refine GvAll.run (by kernel_rfl) (by kernel_rfl) ?_
         refine GvAll.run (by kernel_rfl) (xi_ldp _ _ _ _ (by kernel_rfl) hx0) ?_
         refine GvAll.run (by kernel_rfl) (by kernel_rfl) ?_
         refine GvAll.run (by kernel_rfl) (xi_slice (fun _=>rfl) _ sx _ _ (by kernel_rfl) (by omega) (by rw [hsz]; exact hsl)) ?_
         refine GvAll.run (by kernel_rfl) (by kernel_rfl) ?_
         exact GvAll.nil
        ·refine GvAll.run (by kernel_rfl) (xi_not _ rb _ (by kernel_rfl)) ?_
         refine GvAll.run (by kernel_rfl) (xi_pick _ _ _ _ _ (by kernel_rfl) (by kernel_rfl)) ?_
         exact GvAll.nil
       ·intro L' hL' w12 hR
        simp only [List.take_succ_cons,List.take_zero,List.drop_succ_cons,List.drop_zero,List.cons_append,List.nil_append] at hL'
        subst hL'
        gi_wp2_with fail
        gi_meet
        case rel=>exact ⟨rfl,hR.1,hR.2.1⟩
      ·have HM:=Lib.hid (cExt_c rest xv xa xcap hCW hlen hrl hRd2)
       have he:entStep c (120 :: rest,xv)=extStep c rest xv:=by unfold entStep; simp
       rw [← he] at HM
       unfold ReadPost at HM
       have e1:kindV 120=fnV 81:=rfl
       have e2:(kindF 120).isSome=true:=rfl
       rw [e1,e2]
       clear e1 e2 he
       generalize entStep c (120 :: rest,xv)=es at *
       obtain ⟨c2,rb⟩:=es
       simp only at HM ⊢
       have HC2:=(HM.out).mono (R':=fun e w'=>e=.returned (.bool rb)∧((∃ f',CW w' S (S+3) (3 * (pre.map EntX.kv).length+3) c2 f'∧Kp W w' f f' (fun x=>x ≠ .no))∧Below S W w'∧w'.cell? ⟨S+4,0,none⟩=some (.pointer (some ⟨S+3,0,none⟩)))) (by
        rintro e w3 ⟨rfl,⟨f3,hc3,hk3⟩,hb3⟩
        refine ⟨rfl,⟨f3,hc3,hKP.trans hk3⟩,(hW1.mono hC.cw.szB).trans hb3,?_⟩
        exact (hK.ptr.grown (hKP.trans hk3).gr (fun hn=>hn hC.s4)).cell 0 (by simp))
       have HCALL:=Lib.hid HC2
       clear HM HC2
       refine regionR hmix l _ (by kernel_rfl) (fun ⟨_,_,h⟩=>h) ?_
       refine any_call' 8 27 38 [.bool true,.bool false,.bool false,fnV 81,.pointer (some ⟨S+3,0,none⟩),.string sx,strV rest,.slice xa xv.length xcap,.bool rb,.bool (!rb),.bool (!rb)] (fun w'=>(∃ f',CW w' S (S+3) (3 * (pre.map EntX.kv).length+3) c2 f'∧Kp W w' f f' (fun x=>x ≠ .no))∧Below S W w'∧w'.cell? ⟨S+4,0,none⟩=some (.pointer (some ⟨S+3,0,none⟩))) (by kernel_rfl) (by kernel_rfl) rfl (by kernel_rfl) rfl rfl (Nat.le_of_ble_eq_true (by kernel_rfl)) ?_ (by kernel_rfl) 81 #[.pointer (some ⟨S+3,0,none⟩),strV rest,.slice xa xv.length xcap] (by kernel_rfl) HCALL.out ?_
       ·intro w' hw'
        have hx0:w'.cell? ⟨S+4,0,none⟩=some (.pointer (some ⟨S+3,0,none⟩)):=by
         rcases hw' with rfl | h
         ·exact hpc
         ·exact h.2.2
        constructor
        ·refine GvAll.run (by kernel_rfl) (by kernel_rfl) ?_
         refine GvAll.run (by kernel_rfl) (by kernel_rfl) ?_
         refine GvAll.run (by kernel_rfl) (by kernel_rfl) ?_
         refine GvAll.run (by kernel_rfl) (by kernel_rfl) ?_
         refine GvAll.run (by kernel_rfl) (xi_ldp _ _ _ _ (by kernel_rfl) hx0) ?_
         refine GvAll.run (by kernel_rfl) (by kernel_rfl) ?_
         refine GvAll.run (by kernel_rfl) (xi_slice (fun _=>rfl) _ sx _ _ (by kernel_rfl) (by omega) (by rw [hsz]; exact hsl)) ?_
         refine GvAll.run (by kernel_rfl) (by kernel_rfl) ?_
         exact GvAll.nil
        ·refine GvAll.run (by kernel_rfl) (xi_not _ rb _ (by kernel_rfl)) ?_
         refine GvAll.run (by kernel_rfl) (xi_pick _ _ _ _ _ (by kernel_rfl) (by kernel_rfl)) ?_
         exact GvAll.nil
       ·intro L' hL' w12 hR
        simp only [List.take_succ_cons,List.take_zero,List.drop_succ_cons,List.drop_zero,List.cons_append,List.nil_append] at hL'
        subst hL'
        gi_wp2_with fail
        gi_meet
        case rel=>exact ⟨rfl,hR.1,hR.2.1⟩
      ·have HM:=Lib.hid (cTask_c rest xv xa xcap hCW hlen hRd2)
       have he:entStep c (116 :: rest,xv)=tskStep c rest xv:=by unfold entStep; simp
       rw [← he] at HM
       unfold ReadPost at HM
       have e1:kindV 116=fnV 80:=rfl
       have e2:(kindF 116).isSome=true:=rfl
       rw [e1,e2]
       clear e1 e2 he
       generalize entStep c (116 :: rest,xv)=es at *
       obtain ⟨c2,rb⟩:=es
       simp only at HM ⊢
       have HC2:=(HM.out).mono (R':=fun e w'=>e=.returned (.bool rb)∧((∃ f',CW w' S (S+3) (3 * (pre.map EntX.kv).length+3) c2 f'∧Kp W w' f f' (fun x=>x ≠ .no))∧Below S W w'∧w'.cell? ⟨S+4,0,none⟩=some (.pointer (some ⟨S+3,0,none⟩)))) (by
        rintro e w3 ⟨rfl,⟨f3,hc3,hk3⟩,hb3⟩
        refine ⟨rfl,⟨f3,hc3,hKP.trans hk3⟩,(hW1.mono hC.cw.szB).trans hb3,?_⟩
        exact (hK.ptr.grown (hKP.trans hk3).gr (fun hn=>hn hC.s4)).cell 0 (by simp))
       have HCALL:=Lib.hid HC2
       clear HM HC2
       refine regionR hmix l _ (by kernel_rfl) (fun ⟨_,_,h⟩=>h) ?_
       refine any_call' 8 27 38 [.bool true,.bool false,.bool false,fnV 80,.pointer (some ⟨S+3,0,none⟩),.string sx,strV rest,.slice xa xv.length xcap,.bool rb,.bool (!rb),.bool (!rb)] (fun w'=>(∃ f',CW w' S (S+3) (3 * (pre.map EntX.kv).length+3) c2 f'∧Kp W w' f f' (fun x=>x ≠ .no))∧Below S W w'∧w'.cell? ⟨S+4,0,none⟩=some (.pointer (some ⟨S+3,0,none⟩))) (by kernel_rfl) (by kernel_rfl) rfl (by kernel_rfl) rfl rfl (Nat.le_of_ble_eq_true (by kernel_rfl)) ?_ (by kernel_rfl) 80 #[.pointer (some ⟨S+3,0,none⟩),strV rest,.slice xa xv.length xcap] (by kernel_rfl) HCALL.out ?_
       ·intro w' hw'
        have hx0:w'.cell? ⟨S+4,0,none⟩=some (.pointer (some ⟨S+3,0,none⟩)):=by
         rcases hw' with rfl | h
         ·exact hpc
         ·exact h.2.2
        constructor
        ·refine GvAll.run (by kernel_rfl) (by kernel_rfl) ?_
         refine GvAll.run (by kernel_rfl) (by kernel_rfl) ?_
         refine GvAll.run (by kernel_rfl) (by kernel_rfl) ?_
         refine GvAll.run (by kernel_rfl) (by kernel_rfl) ?_
         refine GvAll.run (by kernel_rfl) (xi_ldp _ _ _ _ (by kernel_rfl) hx0) ?_
         refine GvAll.run (by kernel_rfl) (by kernel_rfl) ?_
         refine GvAll.run (by kernel_rfl) (xi_slice (fun _=>rfl) _ sx _ _ (by kernel_rfl) (by omega) (by rw [hsz]; exact hsl)) ?_
         refine GvAll.run (by kernel_rfl) (by kernel_rfl) ?_
         exact GvAll.nil
        ·refine GvAll.run (by kernel_rfl) (xi_not _ rb _ (by kernel_rfl)) ?_
         refine GvAll.run (by kernel_rfl) (xi_pick _ _ _ _ _ (by kernel_rfl) (by kernel_rfl)) ?_
         exact GvAll.nil
       ·intro L' hL' w12 hR
        simp only [List.take_succ_cons,List.take_zero,List.drop_succ_cons,List.drop_zero,List.cons_append,List.nil_append] at hL'
        subst hL'
        gi_wp2_with fail
        gi_meet
        case rel=>exact ⟨rfl,hR.1,hR.2.1⟩
      ·have HM:=Lib.hid (member_c rest xv xa xcap hCW hlen hrl hvl)
       have he:entStep c (109 :: rest,xv)=memStep c rest xv:=by unfold entStep; simp
       rw [← he] at HM
       unfold ReadPost at HM
       have e1:kindV 109=fnV 79:=rfl
       have e2:(kindF 109).isSome=true:=rfl
       rw [e1,e2]
       clear e1 e2 he
       generalize entStep c (109 :: rest,xv)=es at *
       obtain ⟨c2,rb⟩:=es
       simp only at HM ⊢
       have HC2:=(HM.out).mono (R':=fun e w'=>e=.returned (.bool rb)∧((∃ f',CW w' S (S+3) (3 * (pre.map EntX.kv).length+3) c2 f'∧Kp W w' f f' (fun x=>x ≠ .no))∧Below S W w'∧w'.cell? ⟨S+4,0,none⟩=some (.pointer (some ⟨S+3,0,none⟩)))) (by
        rintro e w3 ⟨rfl,⟨f3,hc3,hk3⟩,hb3⟩
        refine ⟨rfl,⟨f3,hc3,hKP.trans hk3⟩,(hW1.mono hC.cw.szB).trans hb3,?_⟩
        exact (hK.ptr.grown (hKP.trans hk3).gr (fun hn=>hn hC.s4)).cell 0 (by simp))
       have HCALL:=Lib.hid HC2
       clear HM HC2
       refine regionR hmix l _ (by kernel_rfl) (fun ⟨_,_,h⟩=>h) ?_
       refine any_call' 8 27 38 [.bool true,.bool false,.bool false,fnV 79,.pointer (some ⟨S+3,0,none⟩),.string sx,strV rest,.slice xa xv.length xcap,.bool rb,.bool (!rb),.bool (!rb)] (fun w'=>(∃ f',CW w' S (S+3) (3 * (pre.map EntX.kv).length+3) c2 f'∧Kp W w' f f' (fun x=>x ≠ .no))∧Below S W w'∧w'.cell? ⟨S+4,0,none⟩=some (.pointer (some ⟨S+3,0,none⟩))) (by kernel_rfl) (by kernel_rfl) rfl (by kernel_rfl) rfl rfl (Nat.le_of_ble_eq_true (by kernel_rfl)) ?_ (by kernel_rfl) 79 #[.pointer (some ⟨S+3,0,none⟩),strV rest,.slice xa xv.length xcap] (by kernel_rfl) HCALL.out ?_
       ·intro w' hw'
        have hx0:w'.cell? ⟨S+4,0,none⟩=some (.pointer (some ⟨S+3,0,none⟩)):=by
         rcases hw' with rfl | h
         ·exact hpc
         ·exact h.2.2
        constructor
        ·refine GvAll.run (by kernel_rfl) (by kernel_rfl) ?_
         refine GvAll.run (by kernel_rfl) (by kernel_rfl) ?_
         refine GvAll.run (by kernel_rfl) (by kernel_rfl) ?_
         refine GvAll.run (by kernel_rfl) (by kernel_rfl) ?_
         refine GvAll.run (by kernel_rfl) (xi_ldp _ _ _ _ (by kernel_rfl) hx0) ?_
         refine GvAll.run (by kernel_rfl) (by kernel_rfl) ?_
         refine GvAll.run (by kernel_rfl) (xi_slice (fun _=>rfl) _ sx _ _ (by kernel_rfl) (by omega) (by rw [hsz]; exact hsl)) ?_
         refine GvAll.run (by kernel_rfl) (by kernel_rfl) ?_
         exact GvAll.nil
        ·refine GvAll.run (by kernel_rfl) (xi_not _ rb _ (by kernel_rfl)) ?_
         refine GvAll.run (by kernel_rfl) (xi_pick _ _ _ _ _ (by kernel_rfl) (by kernel_rfl)) ?_
         exact GvAll.nil
       ·intro L' hL' w12 hR
        simp only [List.take_succ_cons,List.take_zero,List.drop_succ_cons,List.drop_zero,List.cons_append,List.nil_append] at hL'
        subst hL'
        gi_wp2_with fail
        gi_meet
        case rel=>exact ⟨rfl,hR.1,hR.2.1⟩
      ·have HM:=Lib.hid (class_c rest xv xa xcap hCW hlen hrl hvl)
       have he:entStep c (99 :: rest,xv)=clsStep c rest xv:=by unfold entStep; simp
       rw [← he] at HM
       unfold ReadPost at HM
       have e1:kindV 99=fnV 78:=rfl
       have e2:(kindF 99).isSome=true:=rfl
       rw [e1,e2]
       clear e1 e2 he
       generalize entStep c (99 :: rest,xv)=es at *
       obtain ⟨c2,rb⟩:=es
       simp only at HM ⊢
       have HC2:=(HM.out).mono (R':=fun e w'=>e=.returned (.bool rb)∧((∃ f',CW w' S (S+3) (3 * (pre.map EntX.kv).length+3) c2 f'∧Kp W w' f f' (fun x=>x ≠ .no))∧Below S W w'∧w'.cell? ⟨S+4,0,none⟩=some (.pointer (some ⟨S+3,0,none⟩)))) (by
        rintro e w3 ⟨rfl,⟨f3,hc3,hk3⟩,hb3⟩
        refine ⟨rfl,⟨f3,hc3,hKP.trans hk3⟩,(hW1.mono hC.cw.szB).trans hb3,?_⟩
        exact (hK.ptr.grown (hKP.trans hk3).gr (fun hn=>hn hC.s4)).cell 0 (by simp))
       have HCALL:=Lib.hid HC2
       clear HM HC2
       refine regionR hmix l _ (by kernel_rfl) (fun ⟨_,_,h⟩=>h) ?_
       refine any_call' 8 27 38 [.bool true,.bool false,.bool false,fnV 78,.pointer (some ⟨S+3,0,none⟩),.string sx,strV rest,.slice xa xv.length xcap,.bool rb,.bool (!rb),.bool (!rb)] (fun w'=>(∃ f',CW w' S (S+3) (3 * (pre.map EntX.kv).length+3) c2 f'∧Kp W w' f f' (fun x=>x ≠ .no))∧Below S W w'∧w'.cell? ⟨S+4,0,none⟩=some (.pointer (some ⟨S+3,0,none⟩))) (by kernel_rfl) (by kernel_rfl) rfl (by kernel_rfl) rfl rfl (Nat.le_of_ble_eq_true (by kernel_rfl)) ?_ (by kernel_rfl) 78 #[.pointer (some ⟨S+3,0,none⟩),strV rest,.slice xa xv.length xcap] (by kernel_rfl) HCALL.out ?_
       ·intro w' hw'
        have hx0:w'.cell? ⟨S+4,0,none⟩=some (.pointer (some ⟨S+3,0,none⟩)):=by
         rcases hw' with rfl | h
         ·exact hpc
         ·exact h.2.2
        constructor
        ·refine GvAll.run (by kernel_rfl) (by kernel_rfl) ?_
         refine GvAll.run (by kernel_rfl) (by kernel_rfl) ?_
         refine GvAll.run (by kernel_rfl) (by kernel_rfl) ?_
         refine GvAll.run (by kernel_rfl) (by kernel_rfl) ?_
         refine GvAll.run (by kernel_rfl) (xi_ldp _ _ _ _ (by kernel_rfl) hx0) ?_
         refine GvAll.run (by kernel_rfl) (by kernel_rfl) ?_
         refine GvAll.run (by kernel_rfl) (xi_slice (fun _=>rfl) _ sx _ _ (by kernel_rfl) (by omega) (by rw [hsz]; exact hsl)) ?_
         refine GvAll.run (by kernel_rfl) (by kernel_rfl) ?_
         exact GvAll.nil
        ·refine GvAll.run (by kernel_rfl) (xi_not _ rb _ (by kernel_rfl)) ?_
         refine GvAll.run (by kernel_rfl) (xi_pick _ _ _ _ _ (by kernel_rfl) (by kernel_rfl)) ?_
         exact GvAll.nil
       ·intro L' hL' w12 hR
        simp only [List.take_succ_cons,List.take_zero,List.drop_succ_cons,List.drop_zero,List.cons_append,List.nil_append] at hL'
        subst hL'
        gi_wp2_with fail
        gi_meet
        case rel=>exact ⟨rfl,hR.1,hR.2.1⟩
     case rest=>
      obtain ⟨rfl,⟨f3,hc3,hk3⟩,hb3⟩:=hcut
      generalize hes:entStep c (k0 :: rest,xv)=es at *
      obtain ⟨c2,rb⟩:=es
      simp only at hc3 ⊢
      have hltS:S+6+1 < W.heap.size:=by
       obtain ⟨o,ho, -⟩:=hL (S+6+1) (Or.inr rfl)
       exact (Array.getElem?_eq_some_iff.1 ho).1
      have hKL:KeepL (S+6) W wc:=fun k hk o ho _=>(hk3.gr.block k (Array.getElem?_eq_some_iff.1 ho).1 (fun hn=>by
       rcases hk with rfl | rfl
       ·exact hn hC.d0
       ·exact hn hC.d1)).trans ho
      have hKw:SchK w w.heap.size kc S wc:=hK.grown hk3.gr (fun g hg hn=>by
       obtain ⟨m0,m4,m5,v1,v2,v3,hv⟩:=hC.cw
       have:=hv.lo g hn
       omega) (fun hn=>hn hC.s4)
      have hkv:(pre ++ [({ k:=k0 :: rest,v:=xv,a:=xa,cap:=xcap }:EntX)]).map EntX.kv=pre.map EntX.kv ++ [(k0 :: rest,xv)]:=by rw [List.map_append]; rfl
      cases rb with
      | true=>
        have hN2:=hC.next (by omega) (by omega) (k0 :: rest,xv) (by rw [hes]) (by rw [hes]; exact hc3) hk3
        have HR:Hid (KeepL (S+6) W wc∧Grown (fun g=>¬ p g) W wc∧SchI w w.heap.size kc S (S+6) p (pre ++ [({ k:=k0 :: rest,v:=xv,a:=xa,cap:=xcap }:EntX)]) wc):=Lib.hid ⟨hKL,hk3.gr.mono (fun g _ hn hp=>hn (hC.pn g hp).2),hKw,_,_,by rw [hkv]; exact hN2⟩
        clear hKL hKw hkv hN2 hc3 hk3 hb3
        gi_wp2
        exact HR.out
      | false=>
        have hres:=hKw.res.cell 0 (by simp)
        have hfz:=hKw.res.frozen 0
        have HR:Hid (entsGo contZ ((pre ++ [({ k:=k0 :: rest,v:=xv,a:=xa,cap:=xcap }:EntX)]).map EntX.kv)=none):=Lib.hid (by
         rw [hkv,entsGo_app,hC.go]
         show entsGo c [(k0 :: rest,xv)]=none
         rw [entsGo_one,hes]
         rfl)
        have HK2:=Lib.hid (hKw.setF rfl)
        have HKL:=Lib.hid hKL
        clear hkv hc3 hk3 hb3 hKL
        gi_wp2
        refine ⟨fun k hk o ho hc=>(Below.heap_setCell wc ⟨w.heap.size,0,none⟩ _ k (by show k ≠ w.heap.size; omega)).trans (HKL.out k hk o ho hc),HK2.out,HR.out⟩
 case done=>
  intro xs W hxs hI hK
  obtain ⟨hK1,c,f,hC⟩:=hI
  rw [hxs] at hC
  have hg:=entsGo_good _ _ _ GoodC.z hC.go
  have hlen:3 * s.c.ents.length≤1000000:=by
   have h1:=pWt_len s.c.ents
   have h2:=h.ok.wt
   have h3:=h.ok.max
   omega
  have HWH:=Lib.hid (whole_c hC.cw hlen hg.inC hg.tk hg.tr)
  have HE:Hid (isSchoolP s.c.ents=wholeP c):=Lib.hid (by unfold isSchoolP; rw [hC.go])
  have hpc:=hK1.ptr.cell 0 (by simp)
  have HK1:=Lib.hid hK1
  have HK:=Lib.hid hK
  dsimp only
  clear hI0 hC9 hK9 hb9 hJ9 hB9
  gi_wp2_with (refine ⟨trivial,?_⟩; gi_at_call 84; refine (callsIn_wide.2 HWH.out).mono ?_; rintro e w10 ⟨rfl,hb10⟩; have hr10:=((HK1.out.res).below hb10).cell 0 (by simp); have hf10:=((HK1.out.res).below hb10).frozen 0)
  have hlt6:=(Array.getElem?_eq_some_iff.1 HK.out).1
  have hK10:(w10.setCell ⟨w.heap.size,0,none⟩ (.bool (wholeP c))).heap[S+6]?=some (.deferred (some [])):=by
   have h1:=(hb10.block _ hlt6).trans HK.out
   rw [hs9] at h1
   exact (Below.heap_setCell w10 ⟨w.heap.size,0,none⟩ _ (S+6) (by show S+6 ≠ w.heap.size; omega)).trans h1
  refine ⟨by simp,.inl ⟨_,_,rfl,run_takeDeferred hK10,?_⟩⟩
  have hc10:(w10.setCell ⟨w.heap.size,0,none⟩ (.bool (wholeP c))).cell? ⟨w.heap.size,0,none⟩=some (.bool (wholeP c)):=World.cell?_setCell_same' _ _ _ (by rw [hr10]; rfl)
  have hcf:((w10.setCell ⟨w.heap.size,0,none⟩ (.bool (wholeP c))).putObj (S+6) (.deferred none)).cell? ⟨w.heap.size,0,none⟩=some (.bool (wholeP c)):=
   cell_kept hc10 (grownBy_putObj' _ (S+6) (.deferred none)) (fun r e=>by cases e; exact ⟨_,hK10,rfl⟩)
  have hB10:Below w.heap.size w w10:=HK1.out.bel.trans (hb10.mono HK1.out.bel.size)
  refine ⟨_,ret_boolC rfl _ _ ⟨w.heap.size,0,none⟩ (wholeP c) rfl hcf,by rw [HE.out],?_⟩
  exact (hB10.setCell (p:=⟨w.heap.size,0,none⟩) (Nat.le_refl _) _).grown (grownBy_putObj' _ (S+6) (.deferred none)) (by simp; exact hB10.size) (fun k e=>by cases e; omega)
 case stop=>
  intro pre W hpre hI hK
  dsimp only
  gi_wp2
  refine ⟨by simp,.inl ⟨_,_,rfl,run_takeDeferred hK,?_⟩⟩
  obtain ⟨hK1,hN⟩:=hI
  have hcf:(W.putObj w9.heap.size (.deferred none)).cell? ⟨w.heap.size,0,none⟩=some (.bool false):=
   cell_kept (hK1.res.cell 0 (by simp)) (grownBy_putObj' _ w9.heap.size (.deferred none)) (fun r e=>by cases e; exact ⟨_,hK,rfl⟩)
  have HE:isSchoolP s.c.ents=false:=by
   obtain ⟨Q,hQ⟩:=hpre
   unfold isSchoolP
   rw [← hQ,entsGo_pre hN]
  refine ⟨_,ret_boolC rfl _ _ ⟨w.heap.size,0,none⟩ false rfl hcf,by rw [HE],?_⟩
  exact hK1.bel.grown (grownBy_putObj' _ w9.heap.size (.deferred none)) hK1.bel.size (fun k e=>by cases e; omega)
end Go.Proofs.YtbcfpdlhieaepaaGreatDoor
