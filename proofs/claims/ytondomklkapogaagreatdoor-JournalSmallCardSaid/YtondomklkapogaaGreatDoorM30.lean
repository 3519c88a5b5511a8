/- The reference's State and Code. -/
import Derived.Test.YtondomklkapogaaGreatDoorM18
import Derived.Deep.RegionHeld3
import Derived.Test.YtondomklkapogaaGreatDoorM28
import Derived.Test.YtondomklkapogaaGreatDoorM29
namespace Go.Proofs.YtondomklkapogaaGreatDoor
section
open Go.RowKit SeedP Go.Maps
set_option maxRecDepth 100000 in
/-- State -/
theorem rstate_c (gen:Nat) (v:Value) (P:PEnts) (B:Nat) (w:World) (hv:EntsAt w B v P) (hB:B≤w.heap.size) (hg:gen≤9223372036854775807) (hw:pWt P≤1073741824) :
 Calls Tryz.prog 52 #[.int .i64 gen,v] w fun e w'=>(∃ v',e=.returned v'∧w'.ownsRow w.heap.size 5 1 v' (stateB gen P).length (byts (stateB gen P)))∧Below w.heap.size w w':=by
 have HV:=Lib.hid hv
 obtain ⟨a,c,rfl,hl,hm,hc⟩:=hv
 unfold maxLen at hm
 have hpl:=pWt_len P
 have hpn:P.length≤1073741824:=by omega
 have hg8:IntKind.u64.wrap (gen:Int)=(gen:Int):=by rw [IntKind.wrap_u64]; omega
 have HN8:=Lib.hid (fun W=>rnumber_c gen 8 W (by omega) (by omega))
 have HN4:=Lib.hid (fun W=>rnumber_c P.length 4 W (by omega) (by omega))
 have HG:=Lib.hid (And.intro hg hw)
 clear hc hpl hg hw
 go_enter Tryz.func52,Tryz.ntmps52
 go_wp2_with fail
 refine (HN8.out w).mono ?_
 rintro e w1 ⟨⟨v1,rfl,hy1⟩,hb1⟩
 have HY1:=Lib.hid hy1
 have HB1:=Lib.hid hb1
 clear hy1 hb1
 go_wp2_with fail
 refine (HN4.out w1).mono ?_
 rintro e w2 ⟨⟨v2,rfl,hy2⟩,hb2⟩
 have hy1:=own_grown HY1.out (Grown.of_below hb2 (S:=fun _=>False)) (fun _ _ _ h=>h)
 have HY2:=Lib.hid (RdB.of_own hy2)
 have HB2:=Lib.hid (HB1.out.trans (hb2.mono HB1.out.size))
 have hsz:=HB2.out.size
 obtain ⟨aa2,ac2,rfl⟩:∃ aa2 ac2,v2=.slice aa2 (numB P.length 4).length ac2:=by
  obtain ⟨ba,bc,e,_⟩:=HY2.out.open_
  exact ⟨ba,bc,e⟩
 have l4:=numB_length P.length 4
 have l8:=numB_length gen 8
 clear hy2 hb2 HY1 HN4 HN8 HB1
 go_upto_region 2 with (at_builtin; go_must (refine wpList_app rfl _ _ rfl w.heap.size _ _ (numB gen 8) rfl hy1 _ (numB P.length 4) rfl HY2.out (by omega) hsz ?_); intro v3 w3 hy3 hb3)
 have HY3:Hid (w3.ownsRow w.heap.size 5 1 v3 (numB gen 8 ++ numB P.length 4 ++ ((P.take 0).flatMap entB)).length (byts (numB gen 8 ++ numB P.length 4 ++ ((P.take 0).flatMap entB)))):=Lib.hid (by
  rw [List.take_zero,List.flatMap_nil,List.append_nil,List.length_append]; exact hy3)
 have HB3:=Lib.hid (HB2.out.trans hb3)
 clear hy1 hy3 hb3 HB2 HY2 l4 l8 hsz
 go_wp2_with fail
 go_loopw [5,6] (fun b i wr=>∃ j:Nat,j≤P.length∧i=.int .i64 j∧wr.ownsRow w.heap.size 5 1 b (numB gen 8 ++ numB P.length 4 ++ ((P.take j).flatMap entB)).length (byts (numB gen 8 ++ numB P.length 4 ++ ((P.take j).flatMap entB)))∧Below w.heap.size w wr) (fun _ i _=>P.length - (intOf i).toNat)
 case atStart=>exact ⟨0,Nat.zero_le _,rfl,HY3.out,HB3.out⟩
 case round=>
  obtain ⟨j,hj,rfl,hy,hb⟩:=hrel
  clear HY3 HB3
  have HY:=Lib.hid hy
  have HB:=Lib.hid hb
  clear hy hb
  by_cases hlt:j < P.length
  ·obtain ⟨a',c',e,_,_,hc⟩:=HV.out.below (HB.out.mono hB)
   simp only [Value.slice.injEq] at e
   obtain ⟨rfl,_,rfl⟩:=e
   rcases hc with hc | ⟨g,off,rfl,hg,hcell⟩
   ·rw [hc] at hlt; simp at hlt
   obtain ⟨vv,c0,c1,hvv⟩:=hcell j hlt
   have hs:=rWt_take P j hlt
   have h0:=pWt_nonneg (P.take j)
   have h1:pWt (P.take (j+1))≤pWt P:=by
    have:=pWt_nonneg (P.drop (j+1))
    have e:pWt P=pWt (P.take (j+1))+pWt (P.drop (j+1)):=by
     conv=>lhs; rw [← List.take_append_drop (j+1) P]
     unfold pWt; rw [List.map_append,List.sum_append]
    omega
   have hwt:=HG.out.2
   have hkl:P[j].1.length≤1073741824:=by omega
   have hvl:P[j].2.length≤1073741824:=by omega
   have hel:=entB_len P[j]
   unfold eWt at hel
   have hll:=ents_len (P.take j)
   have hacc:(numB gen 8 ++ numB P.length 4 ++ ((P.take j).flatMap entB)).length+(entB P[j]).length≤4294967296:=by
    rw [List.length_append,List.length_append,numB_length,numB_length]; omega
   have HACC:=Lib.hid hacc
   have HNX:=Lib.hid (show numB gen 8 ++ numB P.length 4 ++ ((P.take (j+1)).flatMap entB)=numB gen 8 ++ numB P.length 4 ++ ((P.take j).flatMap entB) ++ entB P[j] by
    rw [List.take_succ_eq_append_getElem hlt,List.flatMap_append,List.flatMap_singleton,List.append_assoc (numB gen 8 ++ numB P.length 4)])
   generalize (P.take j).flatMap entB=acc at *
   generalize P[j]=en at *
   have HE:=Lib.hid (rentry_c en.1 vv en.2 B wr.drew hvv.drew (Nat.le_trans hB HB.out.size) hkl hvl)
   have hsz:=HB.out.size
   clear hcell hs h0 h1 hwt hkl hvl hel hll hacc hvv
   go_upto_region 5 with (fail)
   go_region_held3 (fun w'=>w'.cell? ⟨g,off+j * 2,none⟩=some (strV en.1)∧w'.cell? ⟨g,off+j * 2+1,none⟩=some vv)
    (first | exact ⟨c0,c1⟩ | exact ⟨keep_cell hb5 c0,keep_cell hb5 c1⟩ | exact ⟨x0,x1⟩)
    (first
     | (go_at_call 83; go_must (refine HE.out.mono ?_); rintro e w5 ⟨⟨v5,rfl,hy5⟩,hb5⟩
        have hb5:Below wr.heap.size wr w5:=undrew hb5
        have hyy:=own_grown HY.out (Grown.of_below hb5 (S:=fun _=>False)) (fun _ _ _ h=>h)
        have hv5:=RdB.of_own hy5
        have HB5:=HB.out.trans (hb5.mono hsz))
     | (have _t:=hyy; clear _t; go_must (refine step_app rfl (.tmp 21) (.tmp 32) rfl w.heap.size u5 (numB gen 8 ++ numB P.length 4 ++ acc).length (numB gen 8 ++ numB P.length 4 ++ acc) rfl hyy v5 (entB (en.1,en.2)) rfl hv5 HACC.out HB5.size ?_); intro v6 w6 hy6 hg6
        have hb6:=below_own hyy hg6 HB5.size
        have x0:=(hb6.cell (p:=⟨g,off+j * 2,none⟩) (by show g < w.heap.size; omega)).trans (keep_cell hb5 c0)
        have x1:=(hb6.cell (p:=⟨g,off+j * 2+1,none⟩) (by show g < w.heap.size; omega)).trans (keep_cell hb5 c1)))
   have HY6:=Lib.hid (show w6.ownsRow w.heap.size 5 1 v6 (numB gen 8 ++ numB P.length 4 ++ ((P.take (j+1)).flatMap entB)).length (byts (numB gen 8 ++ numB P.length 4 ++ ((P.take (j+1)).flatMap entB))) by
    rw [HNX.out,List.length_append]; exact hy6)
   have HB6:=Lib.hid (HB5.trans hb6)
   clear hyy hy6 hg6 hb6 hb5 hy5 hv5 HB5 x0 x1 c0 c1
   go_wp2
   go_roundw
   case rel=>exact ⟨j+1,by omega,by go_num,HY6.out,HB6.out⟩
   case measure=>simp [intOf]; omega
  ·obtain rfl:j=P.length:=by omega
   have HF:=Lib.hid (show wr.ownsRow w.heap.size 5 1 u5 (stateB gen P).length (byts (stateB gen P)) by
    have h:=HY.out
    rw [List.take_length] at h; exact h)
   clear HY
   go_wp2
   go_ret
   exact ⟨⟨_,rfl,HF.out⟩,HB.out⟩
end
section
open Go.RowKit SeedP Go.Maps
set_option maxRecDepth 100000 in
/-- first, with the value that it hands back named -/
theorem rfirst_v (v:Value) (l:List UInt8) (x:Int) (B:Nat) (w0:World) (hv0:RdB w0 B v l) (hl:l.length≤1073741824) :
 ∃ a n c,(∀ code s,nextB l x=some (code,s)→(∀ W',RdB W' B v l→RdB W' B (.slice a n c) code)∧n=code.length)∧∀ w,RdB w B v l→Calls Tryz.prog 80 #[v,.int .u64 x] w fun e w'=>e=.returned (.tuple #[.slice a n c,.bool (nextB l x).isSome])∧w=w':=by
 rw [nextB_eq]
 by_cases h12:l.length < 12
 ·rw [if_neg (by omega)]
  refine ⟨none,0,0,(fun _ _ h=>by cases h),fun w _=>?_⟩
  obtain ⟨a,c,rfl,_⟩:=hv0.open_
  clear hv0
  go_enter Tryz.func80,Tryz.ntmps80
  go_wp2
  go_ret2
  exact ⟨rfl,rfl⟩
 ·rcases hv0 with ⟨_,rfl⟩ | ⟨g,off,cap,rfl,hlc,hcm,hg,_⟩
  ·simp at h12
  have hopen:∀ w,RdB w B (.slice (some ⟨g,off,none⟩) l.length cap) l→∀ j,j < l.length→w.cell? ⟨g,off+j,none⟩=some (.int .u8 (l.getD j 0).toNat):=fun w hW=>by
   rcases hW with ⟨_,rfl⟩ | ⟨g',off',cap',e,hlc',hcm',hg',hcell'⟩
   ·simp at h12
   ·simp only [Value.slice.injEq,Option.some.injEq,Addr.mk.injEq,and_true,true_and] at e
    obtain ⟨⟨rfl,rfl⟩,rfl⟩:=e
    exact hcell'
  have hb4:bLen l < 4294967296:=by
   have:=numV_lt (l.take 4)
   have e:(l.take 4).length=4:=by rw [List.length_take]; omega
   rw [e] at this; exact this
  by_cases hlong:l.length < 12+bLen l
  ·rw [if_neg (by omega)]
   refine ⟨none,0,0,(fun _ _ h=>by cases h),fun w hW=>?_⟩
   have HS0:=Lib.hid (value_c _ _ B w (RdB.sub 0 4 cap (by omega) (by omega) hcm hg (hopen w hW) hlc) (by rw [List.length_take]; omega))
   rw [List.drop_zero,show numV (l.take 4)=bLen l from rfl,Nat.add_zero] at HS0
   have hgt:((l.length:Int) - 12) < ((bLen l:Nat):Int):=by omega
   have hcv:IntKind.u64.wrap ((l.length:Int) - 12)=(l.length:Int) - 12:=by rw [IntKind.wrap_u64]; omega
   have hl12:(12:Int)≤(l.length:Int):=by omega
   have hlc4:4≤cap:=by omega
   generalize bLen l=n at *
   clear hopen hW
   unfold maxLen at hcm
   go_enter Tryz.func80,Tryz.ntmps80
   go_wp2_with fail
   refine HS0.out.mono ?_
   rintro e w1 ⟨rfl,rfl⟩
   go_wp2
   go_ret2
   exact ⟨rfl,rfl⟩
  ·have hb8:bSum l < 18446744073709551616:=numV_lt64 (by rw [List.length_take]; omega)
   obtain ⟨ca,hca,hcode⟩:∃ ca,(if cap=12 then some ⟨g,off,none⟩ else some ⟨g,off+12,none⟩:Option Addr)=some ca∧∀ W',RdB W' B (.slice (some ⟨g,off,none⟩) l.length cap) l→RdB W' B (.slice (some ca) (bLen l) (cap - 12)) (bCode l):=by
    by_cases hc:cap=12
    ·rw [if_pos hc]
     have hn:bLen l=0:=by omega
     exact ⟨_,rfl,fun _ _=>Or.inl ⟨Or.inr ⟨_,_,by rw [hn]⟩,by unfold bCode; rw [hn,List.take_zero]⟩⟩
    ·rw [if_neg hc]
     exact ⟨_,rfl,fun W' hW=>RdB.sub 12 (bLen l) (cap - 12) (by omega) (by omega) (by omega) hg (hopen W' hW) hlc⟩
   have hcl:bLen l=(bCode l).length:=by unfold bCode; rw [List.length_take,List.length_drop]; omega
   refine ⟨some ca,bLen l,cap - 12,fun code s h=>?_,fun w hW=>?_⟩
   ·split at h
    ·simp only [Option.some.injEq,Prod.mk.injEq] at h
     rw [← h.1]; exact ⟨hcode,hcl⟩
    ·cases h
   have HS0:=Lib.hid (value_c _ _ B w (RdB.sub 0 4 cap (by omega) (by omega) hcm hg (hopen w hW) hlc) (by rw [List.length_take]; omega))
   rw [List.drop_zero,show numV (l.take 4)=bLen l from rfl,Nat.add_zero] at HS0
   have HS1:=Lib.hid (value_c _ _ B w (RdB.sub 4 8 (cap - 4) (by omega) (by omega) (by omega) hg (hopen w hW) hlc) (by rw [List.length_take]; omega))
   rw [show numV ((l.drop 4).take 8)=bSum l from rfl] at HS1
   have HS2:=Lib.hid (rsum_c x _ (bCode l) B w (hcode w hW))
   have HF:Hid (∀ q,q=decide ((bSum l:Int)=subI x (bCode l))→q=(if 12≤l.length∧12+bLen l≤l.length∧subI x (bCode l)=(bSum l:Int) then some (bCode l,(bSum l:Int)) else none).isSome):=Lib.hid (by
    rintro q rfl
    by_cases he:(bSum l:Int)=subI x (bCode l)
    ·rw [if_pos ⟨by omega,by omega,he.symm⟩,decide_eq_true he]; rfl
    ·rw [if_neg (fun h=>he h.2.2.symm),decide_eq_false he]; rfl)
   have hgt:¬ ((l.length:Int) - 12) < ((bLen l:Nat):Int):=by omega
   have hcv:IntKind.u64.wrap ((l.length:Int) - 12)=(l.length:Int) - 12:=by rw [IntKind.wrap_u64]; omega
   have hl12:(12:Int)≤(l.length:Int):=by omega
   have hlc4:4≤cap:=by omega
   have hlc12:12≤cap:=by omega
   have hne4:¬ cap=4:=by omega
   have hnl:12+bLen l≤cap:=by omega
   have hw24:IntKind.u64.wrap (12+(bLen l:Int))=12+(bLen l:Int):=by rw [IntKind.wrap_u64]; omega
   generalize (if 12≤l.length∧12+bLen l≤l.length∧subI x (bCode l)=(bSum l:Int) then some (bCode l,(bSum l:Int)) else none)=RR at *
   generalize bLen l=n at *
   generalize subI x (bCode l)=sx at *
   generalize bSum l=bs at *
   clear hopen hW hcode hcl
   unfold maxLen at hcm
   go_enter Tryz.func80,Tryz.ntmps80
   go_wp2_with fail
   refine HS0.out.mono ?_
   rintro e w1 ⟨rfl,rfl⟩
   go_wp2_with fail
   refine HS0.out.mono ?_
   rintro e w1 ⟨rfl,rfl⟩
   go_wp2_with fail
   rw [show 12+n - 12=n by omega]
   refine HS1.out.mono ?_
   rintro e w1 ⟨rfl,rfl⟩
   go_wp2_with fail
   refine HS2.out.mono ?_
   rintro e w1 ⟨rfl,rfl⟩
   go_wp2
   go_ret2
   exact ⟨by rw [← HF.out _ rfl]; rfl,rfl⟩
theorem rjC_nostr (pw:Int) (a0 a1 ae:Option Addr) (n0 c0 n1 c1 ne ce:Nat) (gen fl ed sum:Int) (down:Bool):∀ x ∈ rjC pw (.slice a0 n0 c0) (.slice a1 n1 c1) (.slice ae ne ce) gen fl ed sum down,∀ s,x ≠ .string s:=by
 intro x hx m
 simp only [rjC,List.mem_cons,List.not_mem_nil,or_false] at hx
 rcases hx with rfl | rfl | rfl | rfl | rfl | rfl | rfl | rfl | rfl <;> simp
theorem EntsAt.away {w w':World} {B A:Nat} {v:Value} {P:PEnts} {t:TypeId} {xs:List Value} (h:EntsAt w B v P) (hb:Blk w A t xs) (hx:∀ x ∈ xs,∀ m:Int,x ≠ .int .u8 m) (hs:∀ x ∈ xs,∀ s,x ≠ .string s) (hg:Grown (fun k=>k=A) w w'):EntsAt w' B v P:=by
 obtain ⟨a,cap,e,h1,h2,h3⟩:=h
 refine ⟨a,cap,e,h1,h2,?_⟩
 rcases h3 with h3 | ⟨g,off,e2,hg2,h4⟩
 ·exact Or.inl h3
 ·refine Or.inr ⟨g,off,e2,hg2,fun j hj=>?_⟩
  obtain ⟨vv,q0,q1,q2⟩:=h4 j hj
  have hgA:g ≠ A:=by
   rintro rfl
   exact hs _ (hb.cell_some q0) _ rfl
  exact ⟨vv,(World.cell?_of_block (hg.block g (World.block_lt_of_cell? w ⟨g,off+j * 2,none⟩ q0) hgA)).trans q0,(World.cell?_of_block (hg.block g (World.block_lt_of_cell? w ⟨g,off+j * 2,none⟩ q0) hgA)).trans q1,q2.away hb hx hg⟩
/-- read's memory: the disk that it was given, its result, its journal -/
structure RdM (w W:World) (pw:Int) (a0 a1:Option Addr) (n0 n1 c0 c1 k:Nat) (ae:Option Addr) (ce:Nat) (gen ed sum:Int) (P:PEnts):Prop where
 dk:Blk W w.heap.size 47 [.int .i64 pw,.slice a0 n0 c0,.slice a1 n1 c1]
 zb:Blk W (w.heap.size+1) 52 (rjC 0 (.slice none 0 0) (.slice none 0 0) (.slice none 0 0) 0 0 0 0 false)
 jb:Blk W (w.heap.size+1+1) 52 (rjC pw (.slice a0 n0 c0) (.slice a1 n1 c1) (.slice ae P.length ce) gen k ed sum false)
 be:Below w.heap.size w W
 en:EntsAt W W.heap.size (.slice ae P.length ce) P
section
variable {w W:World} {pw:Int} {a0 a1:Option Addr} {n0 n1 c0 c1 k:Nat} {ae:Option Addr} {ce:Nat} {gen ed sum:Int} {P:PEnts}
theorem RdM.start (w:World) (pw:Int) (a0 a1:Option Addr) (n0 n1 c0 c1 k:Nat) :
 RdM w (((w.alloc (.cells #[.int .i64 pw,.slice a0 n0 c0,.slice a1 n1 c1] 47)).alloc (.cells #[.int .i64 0,.slice none 0 0,.slice none 0 0,.slice none 0 0,.int .i64 0,.int .i64 0,.int .i64 0,.int .u64 0,.bool false] 52)).alloc (.cells #[.int .i64 pw,.slice a0 n0 c0,.slice a1 n1 c1,.slice none 0 0,.int .i64 0,.int .i64 k,.int .i64 0,.int .u64 0,.bool false] 52)) pw a0 a1 n0 n1 c0 c1 k none 0 0 0 0 []:=
 ⟨((Blk.new w _ [.int .i64 pw,.slice a0 n0 c0,.slice a1 n1 c1]).alloc _).alloc _,(Blk.at (g:=w.heap.size+1) _ _ [.int .i64 0,.slice none 0 0,.slice none 0 0,.slice none 0 0,.int .i64 0,.int .i64 0,.int .i64 0,.int .u64 0,.bool false] (by simp)).alloc _,Blk.at _ _ [.int .i64 pw,.slice a0 n0 c0,.slice a1 n1 c1,.slice none 0 0,.int .i64 0,.int .i64 k,.int .i64 0,.int .u64 0,.bool false] (by simp),(((Below.refl w.heap.size w).alloc (Nat.le_refl _) _).alloc (by simp) _).alloc (by simp; omega) _,EntsAt.nil _ _⟩
theorem RdM.below (h:RdM w W pw a0 a1 n0 n1 c0 c1 k ae ce gen ed sum P) {W':World} (hb:Below W.heap.size W W'):RdM w W' pw a0 a1 n0 n1 c0 c1 k ae ce gen ed sum P:=
 ⟨h.dk.below hb,h.zb.below hb,h.jb.below hb,h.be.trans (hb.mono h.be.size),(h.en.below hb).mono hb.size⟩
theorem RdM.grown_set (h:RdM w W pw a0 a1 n0 n1 c0 c1 k ae ce gen ed sum P) {gen' ed' sum':Int} (j:Nat) (v:Value) (hjb:Blk (W.setCell ⟨w.heap.size+1+1,j,none⟩ v) (w.heap.size+1+1) 52 (rjC pw (.slice a0 n0 c0) (.slice a1 n1 c1) (.slice ae P.length ce) gen' k ed' sum' false)):RdM w (W.setCell ⟨w.heap.size+1+1,j,none⟩ v) pw a0 a1 n0 n1 c0 c1 k ae ce gen' ed' sum' P:=by
 have hg:Grown (fun q=>q=w.heap.size+1+1) W (W.setCell ⟨w.heap.size+1+1,j,none⟩ v):=Grown.setCell (S:=fun q=>q=w.heap.size+1+1) (Grown.refl _ W) (a:=⟨w.heap.size+1+1,j,none⟩) rfl v
 exact ⟨h.dk.other (by show w.heap.size ≠ w.heap.size+1+1; omega) v,h.zb.other (by show w.heap.size+1 ≠ w.heap.size+1+1; omega) v,hjb,h.be.setCell (by show w.heap.size≤w.heap.size+1+1; omega) v,(h.en.away h.jb (rjC_nobyte _ _ _ _ _ _ _ _ _ _ _ _ _ _ _) (rjC_nostr _ _ _ _ _ _ _ _ _ _ _ _ _ _ _) hg).mono hg.size⟩
theorem RdM.setGen (h:RdM w W pw a0 a1 n0 n1 c0 c1 k ae ce gen ed sum P) (x:Int):RdM w (W.setCell ⟨w.heap.size+1+1,4,none⟩ (.int .i64 x)) pw a0 a1 n0 n1 c0 c1 k ae ce x ed sum P:=h.grown_set 4 _ (h.jb.set 4 (.int .i64 x))
theorem RdM.setEd (h:RdM w W pw a0 a1 n0 n1 c0 c1 k ae ce gen ed sum P) (x:Int):RdM w (W.setCell ⟨w.heap.size+1+1,6,none⟩ (.int .i64 x)) pw a0 a1 n0 n1 c0 c1 k ae ce gen x sum P:=h.grown_set 6 _ (h.jb.set 6 (.int .i64 x))
theorem RdM.setSum (h:RdM w W pw a0 a1 n0 n1 c0 c1 k ae ce gen ed sum P) (x:Int):RdM w (W.setCell ⟨w.heap.size+1+1,7,none⟩ (.int .u64 x)) pw a0 a1 n0 n1 c0 c1 k ae ce gen ed x P:=h.grown_set 7 _ (h.jb.set 7 (.int .u64 x))
theorem RdM.setEnts (h:RdM w W pw a0 a1 n0 n1 c0 c1 k ae ce gen ed sum P) {ae':Option Addr} {ce':Nat} {Q:PEnts} (he:EntsAt W W.heap.size (.slice ae' Q.length ce') Q):RdM w (W.setCell ⟨w.heap.size+1+1,3,none⟩ (.slice ae' Q.length ce')) pw a0 a1 n0 n1 c0 c1 k ae' ce' gen ed sum Q:=by
 have hg:Grown (fun q=>q=w.heap.size+1+1) W (W.setCell ⟨w.heap.size+1+1,3,none⟩ (.slice ae' Q.length ce')):=Grown.setCell (S:=fun q=>q=w.heap.size+1+1) (Grown.refl _ W) (a:=⟨w.heap.size+1+1,3,none⟩) rfl _
 exact ⟨h.dk.other (by show w.heap.size ≠ w.heap.size+1+1; omega) _,h.zb.other (by show w.heap.size+1 ≠ w.heap.size+1+1; omega) _,h.jb.set 3 _,h.be.setCell (by show w.heap.size≤w.heap.size+1+1; omega) _,(he.away h.jb (rjC_nobyte _ _ _ _ _ _ _ _ _ _ _ _ _ _ _) (rjC_nostr _ _ _ _ _ _ _ _ _ _ _ _ _ _ _) hg).mono hg.size⟩
/-- what it hands back is copied -/
theorem RdM.copied (h:RdM w W pw a0 a1 n0 n1 c0 c1 k ae ce gen ed sum P) (y0 y1 y2 y3 y4 y5 y6 y7 y8:Value):Below w.heap.size w (set9 W (w.heap.size+1) y0 y1 y2 y3 y4 y5 y6 y7 y8)∧EntsAt (set9 W (w.heap.size+1) y0 y1 y2 y3 y4 y5 y6 y7 y8) (set9 W (w.heap.size+1) y0 y1 y2 y3 y4 y5 y6 y7 y8).heap.size (.slice ae P.length ce) P:=by
 have hg:=set9_grown W (w.heap.size+1) y0 y1 y2 y3 y4 y5 y6 y7 y8
 exact ⟨h.be.trans (hg.below (fun q e=>by have e:q=w.heap.size+1:=e; omega) h.be.size),(h.en.away h.zb (rjC_nobyte _ _ _ _ _ _ _ _ _ _ _ _ _ _ _) (rjC_nostr _ _ _ _ _ _ _ _ _ _ _ _ _ _ _) hg).mono hg.size⟩
end
theorem pChgs_bound:∀ (cs:List Chg) (P:PEnts),(keysOf P).Nodup→pWt (pChgs P cs)≤pWt P+2 * (((cs.map chgSize).sum:Nat):Int)
 | [],P,_=>by simp [pChgs]
 | c :: cs,P,h=>by
   have h1:=pChgs_bound cs (pChg P c) (pChg_nodup P c h)
   have h2:=pChg_wt P c h
   have h3:pCw P c≤2 * ((chgSize c:Nat):Int):=by
    unfold pCw chgSize
    cases pFind P c.key <;> cases c.drop <;> simp <;> omega
   have e:pChgs P (c :: cs)=pChgs (pChg P c) cs:=rfl
   rw [e]
   simp only [List.map_cons,List.sum_cons]
   omega
theorem sum_mem {l:List Chg} {c:Chg} (h:c ∈ l):chgSize c≤(l.map chgSize).sum:=by
 induction l with
 | nil=>cases h
 | cons x r ih=>
   simp only [List.map_cons,List.sum_cons]
   rcases List.mem_cons.1 h with rfl | h
   ·omega
   ·have:=ih h; omega
theorem sum_len (l:List Chg):2 * l.length≤(l.map chgSize).sum:=by
 induction l with
 | nil=>simp
 | cons x r ih=>
   have:=chgSize_pos x
   simp only [List.map_cons,List.sum_cons,List.length_cons]
   omega
theorem rChanges_small {b:List UInt8} {cs:List Chg} (h:rChanges b=some cs):(cs.map chgSize).sum≤b.length:=by
 unfold rChanges at h
 split at h
 ·cases h
 ·split at h
  ·cases h
  ·rename_i l hE
   split at h
   ·simp only [Option.some.injEq] at h
    subst h
    have:=chs_size _ _ _ (by rw [List.length_drop]; omega) hE
    rw [List.length_drop] at this
    omega
   ·cases h
theorem rC1_drop {b:List UInt8} {c:Chg} {n:Nat} (h:rC1 b=some (c,n)):c.drop=true→c.val=[]:=by
 unfold rC1 at h
 split at h
 ·cases ho:rOne (b.drop 1) with
  | none=>rw [ho] at h; cases h
  | some p=>
    rw [ho] at h
    simp only [Option.map_some,Option.some.injEq,Prod.mk.injEq] at h
    obtain ⟨rfl,_⟩:=h
    intro h2; cases h2
 ·split at h
  ·cases h
  ·simp only [Option.some.injEq,Prod.mk.injEq] at h
   obtain ⟨rfl,_⟩:=h
   intro _; rfl
theorem chs_drop:∀ (fuel:Nat) (b:List UInt8) (cs:List Chg),rChs fuel b=some cs→∀ c ∈ cs,c.drop=true→c.val=[]:=by
 intro fuel
 induction fuel with
 | zero=>
   intro b cs h
   simp only [rChs,Option.some.injEq] at h
   subst h
   intro c hc; cases hc
 | succ f ih=>
   intro b cs h
   rw [rChs_one] at h
   by_cases h1:b.length < 1
   ·rw [if_pos h1] at h
    simp only [Option.some.injEq] at h
    subst h
    intro c hc; cases hc
   ·rw [if_neg h1] at h
    cases h2:rC1 b with
    | none=>rw [h2] at h; cases h
    | some p=>
      obtain ⟨c,m⟩:=p
      rw [h2] at h
      simp only [] at h
      cases hr:rChs f (b.drop m) with
      | none=>rw [hr] at h; cases h
      | some l=>
        rw [hr] at h
        simp only [Option.map_some,Option.some.injEq] at h
        subst h
        intro c' hc'
        rcases List.mem_cons.1 hc' with rfl | hc'
        ·exact rC1_drop h2
        ·exact ih _ _ hr c' hc'
theorem rChanges_mem {b:List UInt8} {cs:List Chg} (h:rChanges b=some cs):∀ c ∈ cs,c.key.length≤b.length∧c.val.length≤b.length:=by
 have hs:=rChanges_small h
 intro c hc
 have h1:=sum_mem hc
 have hd:c.drop=true→c.val=[]:=by
  unfold rChanges at h
  split at h
  ·cases h
  ·split at h
   ·cases h
   ·rename_i l hE
    split at h
    ·simp only [Option.some.injEq] at h
     subst h
     exact chs_drop _ _ _ hE c hc
    ·cases h
 have h2:chgSize c=2+c.key.length+if c.drop then 0 else 2+c.val.length:=rfl
 cases hdr:c.drop with
 | true=>rw [hd hdr]; rw [hdr] at h2; simp at h2 ⊢; omega
 | false=>rw [hdr] at h2; simp at h2; omega
end
end Go.Proofs.YtondomklkapogaaGreatDoor
