/- The reference's small functions: number, value, sum, Block, entry. -/
import Derived.Test.YtondomklkapogaaGreatDoorM17
import Derived.Deep.QuietTactic
import Derived.BigQuiet
namespace Go.Proofs.YtondomklkapogaaGreatDoor
section
open Go.RowKit SeedP Go.Maps
/-- the reference's Mix -/
theorem rmix_c (x:Int) (w:World) (x0:0≤x) (x1:x≤18446744073709551615) :
 Calls Tryz.prog 79 #[.int .u64 x] w fun e w'=>e=.returned (.int .u64 (mixI x))∧w=w':=by
 obtain ⟨b,rfl⟩:=exists_toI x x0 x1
 go_enter Tryz.func79,Tryz.ntmps79
 go_wp2
 go_ret
 refine ⟨ret_int ?_,rfl⟩
 unfold mixI
 simp only [shr30,shr27,shr31,w_xor,w_wrap,ofI_mul,ofI_toI,tdiv_toI]
 rfl
theorem numV_snoc' (l:List UInt8) (b:UInt8):numV (l ++ [b])=numV l * 256+b.toNat:=numV_snoc l b
theorem numV_lt64 {l:List UInt8} (h:l.length≤8):numV l < 18446744073709551616:=by
 have h1:=numV_lt l
 have h2:256 ^ l.length≤256 ^ 8:=Nat.pow_le_pow_right (by omega) h
 omega
set_option maxRecDepth 100000 in
/-- value -/
theorem value_c (v:Value) (l:List UInt8) (B:Nat) (w:World) (hv:RdB w B v l) (hl:l.length≤8) :
 Calls Tryz.prog 95 #[v] w fun e w'=>e=.returned (.int .u64 (numV l))∧w=w':=by
 obtain ⟨a,c,rfl,_,_,hc⟩:=hv.open_
 have HC:=Lib.hid hc
 clear hc hv
 go_enter Tryz.func95,Tryz.ntmps95
 go_wp2
 go_loop [3,4] (fun n i=>∃ j:Nat,j≤l.length∧i=.int .i64 j∧n=.int .u64 (numV (l.take j))) (fun _ i=>l.length - (intOf i).toNat)
 case atStart=>exact ⟨0,Nat.zero_le _,rfl,rfl⟩
 case round=>
  obtain ⟨j,hj,rfl,rfl⟩:=hrel
  by_cases hlt:j < l.length
  ·rcases HC.out with rfl | ⟨g,off,rfl,_,_,hg,hcell⟩
   ·simp at hlt
   have c1:=hcell j hlt
   have hs:numV (l.take (j+1))=numV (l.take j) * 256+(l.getD j 0).toNat:=by
    rw [List.take_succ_eq_append_getElem hlt,numV_snoc',List.getD_eq_getElem?_getD,List.getElem?_eq_getElem hlt]; rfl
   have hb:=numV_lt (l.take j)
   have hb2:256 ^ (l.take j).length≤256 ^ 7:=Nat.pow_le_pow_right (by omega) (by rw [List.length_take]; omega)
   have hy:=(l.getD j 0).toNat_lt
   generalize (l.getD j 0).toNat=y at *
   generalize numV (l.take j)=n at *
   have hn:n < 72057594037927936:=by omega
   have HS:=Lib.hid hs
   have e1:IntKind.u64.wrap ((n:Int) * 256)=(n:Int) * 256:=by rw [IntKind.wrap_u64]; omega
   have e2:IntKind.u64.wrap ((n:Int) * 256+(y:Int))=(n:Int) * 256+(y:Int):=by rw [IntKind.wrap_u64]; omega
   clear hs hb hb2 hcell
   go_wp2
   go_round
   case rel=>exact ⟨j+1,by omega,by go_num,by rw [HS.out]; go_num⟩
   case measure=>simp [intOf]; omega
  ·obtain rfl:j=l.length:=by omega
   rw [List.take_length]
   go_wp2
   go_ret
   exact ⟨rfl,rfl⟩
set_option maxRecDepth 100000 in
/-- number -/
theorem rnumber_c (n k:Nat) (w:World) (hn:n < 18446744073709551616) (hk:k≤8) :
 Calls Tryz.prog 49 #[.int .u64 n,.int .i64 k] w fun e w'=>(∃ v',e=.returned v'∧w'.ownsRow w.heap.size 5 1 v' (numB n k).length (byts (numB n k)))∧Below w.heap.size w w':=by
 have HN:=Lib.hid hn
 clear hn
 go_enter Tryz.func49,Tryz.ntmps49
 go_wp2
 go_loopw [0,5,6] (fun nv b i wr=>∃ j:Nat,j≤k∧i=.int .i64 j∧nv=.int .u64 ((n / 256 ^ j:Nat):Int)∧wr.ownsRow w.heap.size 5 1 b (numB n j).length (byts (numB n j))∧Below w.heap.size w wr) (fun _ _ i _=>k - (intOf i).toNat)
 case atStart=>exact ⟨0,Nat.zero_le _,rfl,by simp,World.ownsRow_nil w w.heap.size _ 1,Below.refl _ _⟩
 case round=>
  obtain ⟨j,hj,rfl,rfl,hown,hb⟩:=hrel
  by_cases hlt:j < k
  ·have hm:n / 256 ^ j≤n:=Nat.div_le_self _ _
   have hd:n / 256 ^ (j+1)=n / 256 ^ j / 256:=by rw [Nat.pow_succ,Nat.div_div_eq_div_mul]
   have hnl:=HN.out
   have HD:=Lib.hid hd
   have hby:((n / 256 ^ j:Nat):Int) % 256=((UInt8.ofNat (n / 256 ^ j)).toNat:Int):=by rw [UInt8.toNat_ofNat']; omega
   have HB:Hid (numB n (j+1)=UInt8.ofNat (n / 256 ^ j) :: numB n j):=Lib.hid rfl
   generalize n / 256 ^ j=q at *
   generalize UInt8.ofNat q=y at *
   have hw8:IntKind.u8.wrap ((q:Int) % 256)=(y.toNat:Int):=by rw [hby,IntKind.wrap_u8]; have:=y.toNat_lt; omega
   have hw9:IntKind.u64.wrap ((q:Int) / 256)=(q:Int) / 256:=by rw [IntKind.wrap_u64]; omega
   have hj8:(numB n j).length≤8:=by rw [numB_length]; omega
   have HOWN:=Lib.hid (RdB.of_own hown)
   have hsz:=hb.size
   clear hown hd hnl hm
   obtain ⟨ba,bc,rfl⟩:∃ ba bc,u5=.slice ba (numB n j).length bc:=by
    obtain ⟨ba,bc,e,_⟩:=HOWN.out.open_
    exact ⟨ba,bc,e⟩
   have HR2:=Lib.hid (HOWN.out.below ((Below.refl wr.heap.size wr).alloc (Nat.le_refl _) (.cells #[.int .u8 y.toNat] 5)))
   have HB2:=Lib.hid (hb.alloc hsz (.cells #[.int .u8 y.toNat] 5))
   clear hb HOWN
   go_wp2_with (at_builtin; go_must (refine wpList_app rfl _ _ rfl w.heap.size _ 1 [y] rfl (own_lit wr w.heap.size [y] (by simp [maxLen]) 1 rfl hsz) _ (numB n j) rfl HR2.out (by omega) (Nat.le_trans hsz (by simp)) ?_); intro v2 w2 hown2 hb2)
   have HO2:Hid (w2.ownsRow w.heap.size 5 1 v2 (numB n (j+1)).length (byts (numB n (j+1)))):=Lib.hid (by
    rw [HB.out]
    have h:=hown2
    rw [show 1+(numB n j).length=(y :: numB n j).length by simp; omega] at h
    exact h)
   have HB3:=Lib.hid (HB2.out.trans hb2)
   clear hown2 hb2
   go_roundw
   case rel=>exact ⟨j+1,by omega,by go_num,by rw [HD.out]; exact congrArg (Value.int .u64) (by omega),HO2.out,HB3.out⟩
   case measure=>simp [intOf]; omega
  ·obtain rfl:j=k:=by omega
   have HO:=Lib.hid hown
   clear hown
   go_wp2
   go_ret
   exact ⟨⟨_,rfl,HO.out⟩,hb⟩
set_option maxRecDepth 100000 in
/-- sum -/
theorem rsum_c (x:Int) (v:Value) (l:List UInt8) (B:Nat) (w:World) (hv:RdB w B v l) :
 Calls Tryz.prog 50 #[.int .u64 x,v] w fun e w'=>e=.returned (.int .u64 (subI x l))∧w=w':=by
 obtain ⟨a,c,rfl,hm,_,hc⟩:=hv.open_
 unfold maxLen at hm
 have HC:=Lib.hid hc
 have HI:=Lib.hid (show subI x l=subK (mixI (bits .xor .u64 x l.length)) (l.take l.length) by unfold subI; rw [List.take_of_length_le (Nat.le_refl _)])
 clear hc hv
 go_enter Tryz.func50,Tryz.ntmps50
 go_wp2_with fail
 refine (rmix_c _ _ (xor_lo _ _) (xor_hi _ _)).mono ?_
 rintro e w1 ⟨rfl,rfl⟩
 generalize mixI (bits .xor .u64 x l.length)=k0 at *
 go_wp2_with fail
 go_loop [0,5] (fun k i=>∃ j:Nat,j≤l.length∧i=.int .i64 j∧k=.int .u64 (subK k0 (l.take j))) (fun _ i=>l.length - (intOf i).toNat)
 case atStart=>exact ⟨0,Nat.zero_le _,rfl,rfl⟩
 case round=>
  obtain ⟨j,hj,rfl,rfl⟩:=hrel
  by_cases hlt:j < l.length
  ·rcases HC.out with rfl | ⟨g,off,rfl,_,_,hgB,hcell⟩
   ·simp at hlt
   have c1:=hcell j hlt
   have HS:=Lib.hid (show mixI (bits .xor .u64 (subK k0 (l.take j)) (l.getD j 0).toNat)=subK k0 (l.take (j+1)) by
    rw [List.take_succ_eq_append_getElem hlt,subK_snoc,List.getD_eq_getElem?_getD,List.getElem?_eq_getElem hlt]; rfl)
   generalize l.getD j 0=y at *
   have hy:=byte_wrap y
   clear hcell
   go_wp2_with fail
   refine (rmix_c _ _ (xor_lo _ _) (xor_hi _ _)).mono ?_
   rintro e w2 ⟨rfl,rfl⟩
   go_wp2
   go_round
   case rel=>exact ⟨j+1,by omega,by go_num,by rw [← HS.out]⟩
   case measure=>simp [intOf]; omega
  ·obtain rfl:j=l.length:=by omega
   go_wp2
   go_ret
   exact ⟨ret_int (by rw [HI.out,List.take_length]),rfl⟩
set_option maxRecDepth 100000 in
/-- Block -/
theorem rblock_c (x:Int) (v:Value) (l:List UInt8) (B:Nat) (w:World) (hv:RdB w B v l) (hB:B≤w.heap.size) (hl:l.length≤1073741824) :
 Calls Tryz.prog 14 #[.int .u64 x,v] w fun e w'=>(∃ v',e=.returned v'∧w'.ownsRow w.heap.size 5 1 v' (blockB (subI x l) l).length (byts (blockB (subI x l) l)))∧Below w.heap.size w w':=by
 have HV:=Lib.hid hv
 obtain ⟨a,c,rfl,hm,_⟩:=hv.open_
 clear hv
 have hsr:=subI_range x l
 obtain ⟨sn,hsn⟩:∃ sn:Nat,subI x l=(sn:Int):=⟨(subI x l).toNat,by omega⟩
 have hsn2:sn < 18446744073709551616:=by omega
 have hbk:blockB (subI x l) l=numB l.length 4 ++ numB sn 8 ++ l:=by unfold blockB; rw [hsn]; rfl
 rw [hbk]
 have HSN:=Lib.hid (And.intro hsn hsn2)
 have HN4:=Lib.hid (fun W=>rnumber_c l.length 4 W (by omega) (by omega))
 have HN8:=Lib.hid (fun W=>rnumber_c sn 8 W hsn2 (by omega))
 have HHL:=Lib.hid hl
 have hlen:(l.length:Int)≤1073741824:=by omega
 clear hsr hsn hsn2 hbk
 go_enter Tryz.func14,Tryz.ntmps14
 go_wp2_with fail
 refine (HN4.out w).mono ?_
 rintro e w1 ⟨⟨v1,rfl,hy1⟩,hb1⟩
 have HV1:=Lib.hid (HV.out.below (hb1.mono hB))
 have hS:=rsum_c x _ l B w1 HV1.out
 rw [HSN.out.1] at hS
 have HS:=Lib.hid hS
 have HY1:=Lib.hid hy1
 clear hS hy1
 go_wp2_with fail
 refine HS.out.mono ?_
 rintro e w2 ⟨rfl,rfl⟩
 go_wp2_with fail
 refine (HN8.out w1).mono ?_
 rintro e w2 ⟨⟨v2,rfl,hy2⟩,hb2⟩
 have hy1:=own_grown HY1.out (Grown.of_below hb2 (S:=fun _=>False)) (fun _ _ _ h=>h)
 have HY2:=Lib.hid (RdB.of_own hy2)
 have HV2:=Lib.hid (HV1.out.below (hb2.mono (Nat.le_trans hB hb1.size)))
 have HB2:=Lib.hid (hb1.trans (hb2.mono hb1.size))
 have hsz:=HB2.out.size
 obtain ⟨aa2,ac2,rfl⟩:∃ aa2 ac2,v2=.slice aa2 (numB sn 8).length ac2:=by
  obtain ⟨ba,bc,e,_⟩:=HY2.out.open_
  exact ⟨ba,bc,e⟩
 have l4:=numB_length l.length 4
 have l8:=numB_length sn 8
 clear hy2 hb1 hb2 HV HV1 HY1 HSN HN4 HN8 HS
 go_upto_region 2 with (at_builtin; go_must (refine wpList_app rfl _ _ rfl w.heap.size _ _ (numB l.length 4) rfl hy1 _ (numB sn 8) rfl HY2.out (by omega) hsz ?_); intro v3 w3 hy3 hb3)
 have HV3:=Lib.hid (HV2.out.below (hb3.mono hB))
 have hy3:w3.ownsRow w.heap.size 5 1 v3 (numB l.length 4 ++ numB sn 8).length (byts (numB l.length 4 ++ numB sn 8)):=by rw [List.length_append]; exact hy3
 have HB3:=Lib.hid (HB2.out.trans hb3)
 have hsz3:=HB3.out.size
 have l12:(numB l.length 4 ++ numB sn 8).length=12:=by rw [List.length_append,numB_length,numB_length]
 clear hy1 hb3 HB2 HV2 hsz HY2 l4 l8
 go_wp2_with (at_builtin; go_must (refine wpList_app rfl _ _ rfl w.heap.size _ _ (numB l.length 4 ++ numB sn 8) rfl hy3 _ l rfl HV3.out (by have:=HHL.out; omega) hsz3 ?_); intro v4 w4 hy4 hb4)
 have HF:=Lib.hid (And.intro (show w4.ownsRow w.heap.size 5 1 v4 (numB l.length 4 ++ numB sn 8 ++ l).length (byts (numB l.length 4 ++ numB sn 8 ++ l)) by rw [List.length_append]; exact hy4) (HB3.out.trans hb4))
 clear hy3 hy4 hb4 l12
 go_ret
 exact ⟨⟨v4,rfl,HF.out.1⟩,HF.out.2⟩
set_option maxRecDepth 100000 in
/-- entry -/
theorem rentry_c (key:List UInt8) (v:Value) (l:List UInt8) (B:Nat) (w:World) (hv:RdB w B v l) (hB:B≤w.heap.size) (hk:key.length≤1073741824) (hl:l.length≤1073741824) :
 Calls Tryz.prog 83 #[strV key,v] w fun e w'=>(∃ v',e=.returned v'∧w'.ownsRow w.heap.size 5 1 v' (entB (key,l)).length (byts (entB (key,l))))∧Below w.heap.size w w':=by
 have HV:=Lib.hid hv
 obtain ⟨a,c,rfl,hm,_⟩:=hv.open_
 clear hv
 have hb1:((key.length:Int)) % 256=((UInt8.ofNat key.length).toNat:Int):=by rw [UInt8.toNat_ofNat']; omega
 have hent:entB (key,l)=[UInt8.ofNat key.length] ++ key ++ numB l.length 2 ++ l:=by unfold entB; simp
 rw [hent]
 generalize UInt8.ofNat key.length=b at *
 have hw8:IntKind.u8.wrap (key.length:Int)=(b.toNat:Int):=by rw [IntKind.wrap_u8]; exact hb1
 have HN2:=Lib.hid (fun W=>rnumber_c l.length 2 W (by omega) (by omega))
 have HHL:=Lib.hid (And.intro hk hl)
 have hlen:(l.length:Int)≤1073741824:=by omega
 obtain ⟨cc,wc,hcv,hrd,hbc⟩:=conv_sb (w.alloc (.cells #[.int .u8 b.toNat] 5)) key (by unfold maxLen; omega)
 have hown:=own_lit w w.heap.size [b] (by simp [maxLen]) 1 rfl (Nat.le_refl _)
 have hba:=(Below.refl w.heap.size w).alloc (Nat.le_refl _) (.cells #[.int .u8 b.toNat] 5)
 have hbc2:Below w.heap.size w wc:=hba.trans (hbc.mono hba.size)
 have HO:=Lib.hid (own_grown (w:=w.alloc (.cells #[.int .u8 b.toNat] 5)) hown (Grown.of_below hbc (S:=fun _=>False)) (fun _ _ _ h=>h))
 have hrb:=hrd.toB
 rw [show (w.alloc (.cells #[.int .u8 b.toNat] 5)).heap.size=w.heap.size+1 by simp] at hrb
 have HRD:=Lib.hid hrb
 have HBC:=Lib.hid hbc2
 have hszc:=hbc2.size
 clear hent hb1 hrd hrb hbc hba hown hbc2
 go_enter Tryz.func83,Tryz.ntmps83
 go_upto_region 2 with (at_builtin; go_must (refine wpList_app rfl _ _ rfl w.heap.size _ _ [b] rfl HO.out _ key rfl HRD.out (by omega) hszc ?_); intro v3 w3 hy3 hb3)
 have hy3:w3.ownsRow w.heap.size 5 1 v3 ([b] ++ key).length (byts ([b] ++ key)):=by rw [List.length_append]; exact hy3
 have HB3:=Lib.hid (HBC.out.trans hb3)
 have HY3:=Lib.hid hy3
 have HV3:=Lib.hid (HV.out.below (HB3.out.mono hB))
 clear hcv hy3 hb3 HBC HO HRD hszc
 go_wp2_with fail
 refine (HN2.out w3).mono ?_
 rintro e w4 ⟨⟨v4,rfl,hy4⟩,hb4⟩
 have hy5:=own_grown HY3.out (Grown.of_below hb4 (S:=fun _=>False)) (fun _ _ _ h=>h)
 have HY4:=Lib.hid (RdB.of_own hy4)
 have HB4:=Lib.hid (HB3.out.trans (hb4.mono HB3.out.size))
 have HV4:=Lib.hid (HV3.out.below (hb4.mono (Nat.le_trans hB HB3.out.size)))
 obtain ⟨aa2,ac2,rfl⟩:∃ aa2 ac2,v4=.slice aa2 (numB l.length 2).length ac2:=by
  obtain ⟨ba,bc,e,_⟩:=HY4.out.open_
  exact ⟨ba,bc,e⟩
 have l2:=numB_length l.length 2
 have hsz4:=HB4.out.size
 have hl1:([b] ++ key).length=1+key.length:=by simp; omega
 have HL1:=Lib.hid hl1
 clear hy4 hb4 HY3 HN2 HB3 HV3 HV hl1
 go_wp2_with (first
  | (have _t:=hy5; clear _t; at_builtin; go_must (refine wpList_app rfl _ _ rfl w.heap.size v3 ([b] ++ key).length ([b] ++ key) rfl hy5 (.slice aa2 2 ac2) (numB l.length 2) rfl (by have:=HY4.out; rwa [l2] at this) (by have:=HL1.out; have:=HHL.out; omega) hsz4 ?_); intro v6 w6 hy6 hb6
     have HV6:=Lib.hid (HV4.out.below (hb6.mono hB))
     have HB6:=Lib.hid (HB4.out.trans hb6)
     have hsz6:=HB6.out.size
     clear hy5)
  | (at_builtin; go_must (refine wpList_app rfl _ _ rfl w.heap.size v6 (([b] ++ key).length+(numB l.length 2).length) ([b] ++ key ++ numB l.length 2) rfl hy6 _ l rfl HV6.out (by have:=HL1.out; have:=HHL.out; omega) hsz6 ?_); intro v7 w7 hy7 hb7))
 have HF:=Lib.hid (And.intro (show w7.ownsRow w.heap.size 5 1 v7 ([b] ++ key ++ numB l.length 2 ++ l).length (byts ([b] ++ key ++ numB l.length 2 ++ l)) by
  have e:([b] ++ key ++ numB l.length 2 ++ l).length=([b] ++ key).length+(numB l.length 2).length+l.length:=by simp only [List.length_append]
  rw [e]; exact hy7) (HB6.out.trans hb7))
 clear hy6 hy7 hb7 hb6
 go_ret
 exact ⟨⟨v7,rfl,HF.out.1⟩,HF.out.2⟩
end
section
open Go.RowKit SeedP Go.Maps
/-- one entry in memory -/
def EntIn (w:World) (B g off:Nat) (e:List UInt8 × List UInt8):Prop:=∃ vv,w.cell? ⟨g,off,none⟩=some (strV e.1)∧w.cell? ⟨g,off+1,none⟩=some vv∧RdB w B vv e.2
/-- a slice of entries, below block B -/
def EntsAt (w:World) (B:Nat) (v:Value) (P:PEnts):Prop:=
 ∃ a cap,v=.slice a P.length cap∧P.length≤cap∧cap≤maxLen∧(P=[]∨∃ g off,a=some ⟨g,off,none⟩∧g < B∧∀ j (h:j < P.length),EntIn w B g (off+j * 2) P[j])
theorem EntIn.below {w w':World} {B g off:Nat} {e:List UInt8 × List UInt8} (h:EntIn w B g off e) (hg:g < B) (hb:Below B w w'):EntIn w' B g off e:=by
 obtain ⟨vv,h0,h1,h2⟩:=h
 exact ⟨vv,(hb.cell (p:=⟨g,off,none⟩) hg).trans h0,(hb.cell (p:=⟨g,off+1,none⟩) hg).trans h1,h2.below hb⟩
theorem EntsAt.below {w w':World} {B:Nat} {v:Value} {P:PEnts} (h:EntsAt w B v P) (hb:Below B w w'):EntsAt w' B v P:=by
 obtain ⟨a,cap,e,h1,h2,h3⟩:=h
 refine ⟨a,cap,e,h1,h2,?_⟩
 rcases h3 with h3 | ⟨g,off,e2,hg,h4⟩
 ·exact Or.inl h3
 ·exact Or.inr ⟨g,off,e2,hg,fun j hj=>(h4 j hj).below hg hb⟩
theorem EntIn.mono {w:World} {B B' g off:Nat} {e:List UInt8 × List UInt8} (h:EntIn w B g off e) (hB:B≤B'):EntIn w B' g off e:=by
 obtain ⟨vv,h0,h1,h2⟩:=h
 exact ⟨vv,h0,h1,h2.mono hB⟩
theorem EntsAt.mono {w:World} {B B':Nat} {v:Value} {P:PEnts} (h:EntsAt w B v P) (hB:B≤B'):EntsAt w B' v P:=by
 obtain ⟨a,cap,e,h1,h2,h3⟩:=h
 refine ⟨a,cap,e,h1,h2,?_⟩
 rcases h3 with h3 | ⟨g,off,e2,hg,h4⟩
 ·exact Or.inl h3
 ·exact Or.inr ⟨g,off,e2,by omega,fun j hj=>(h4 j hj).mono hB⟩
theorem EntsAt.nil (w:World) (B:Nat):EntsAt w B (.slice none 0 0) []:=⟨none,0,rfl,Nat.le_refl _,Nat.zero_le _,Or.inl rfl⟩
theorem rWt_take (P:PEnts) (j:Nat) (hj:j < P.length):pWt (P.take (j+1))=pWt (P.take j)+(3+(P[j].1.length:Int)+P[j].2.length):=by
 unfold pWt
 rw [List.take_succ_eq_append_getElem hj,List.map_append,List.sum_append]
 simp [eWt]
/-- whether a key is found -/
def FindRes (P:PEnts) (k:List UInt8) (w:World) (e:Ending) (w':World):Prop:=(∃ n:Int,e=.returned (.int .i64 n)∧ -1≤n∧decide (n < 0)=!(pFind P k).isSome)∧w=w'
set_option maxRecDepth 100000 in
/-- Find -/
theorem rfind_c (v:Value) (P:PEnts) (k:List UInt8) (B:Nat) (w:World) (hv:EntsAt w B v P) :
 Calls Tryz.prog 63 #[v,strV k] w (FindRes P k w):=by
 obtain ⟨a,c,rfl,hl,hm,hc⟩:=hv
 unfold maxLen at hm
 have HC:=Lib.hid hc
 clear hc
 go_enter Tryz.func63,Tryz.ntmps63
 go_wp2
 go_loop [5] (fun i=>∃ j:Nat,j≤P.length∧i=.int .i64 j∧Hid (pFind P k=pFind (P.drop j) k)) (fun i=>P.length - (intOf i).toNat)
 case atStart=>exact ⟨0,Nat.zero_le _,rfl,Lib.hid rfl⟩
 case round=>
  obtain ⟨j,hj,rfl,HI⟩:=hrel
  by_cases hlt:j < P.length
  ·rcases HC.out with hc | ⟨g,off,rfl,hg,hcell⟩
   ·rw [hc] at hlt; simp at hlt
   obtain ⟨vv,c0,c1,hvv⟩:=hcell j hlt
   have HD:=Lib.hid (show pFind (P.drop j) k=if P[j].1 == k then some P[j].2 else pFind (P.drop (j+1)) k by rw [List.drop_eq_getElem_cons hlt,pFind_cons])
   generalize P[j]=en at *
   clear hcell hvv c1
   by_cases hk:en.1=k
   ·have HF:=Lib.hid (show FindRes P k w (.returned (.int .i64 j)) w from ⟨⟨j,rfl,by omega,by rw [HI.out,HD.out,hk]; simp⟩,rfl⟩)
    subst hk
    clear HI HD
    go_wp2
    go_ret
    exact HF.out
   ·have hb:(en.1 == k)=false:=by rw [beq_eq_false_iff_ne]; exact hk
    have HN:=Lib.hid (show pFind P k=pFind (P.drop (j+1)) k by rw [HI.out,HD.out,hb]; rfl)
    clear HI HD hk
    go_wp2
    go_round
    case rel=>exact ⟨j+1,by omega,by go_num,HN⟩
    case measure=>simp [intOf]; omega
  ·obtain rfl:j=P.length:=by omega
   have HF:=Lib.hid (show FindRes P k w (.returned (.int .i64 (-1))) w from ⟨⟨-1,rfl,by omega,by rw [HI.out,List.drop_length]; rfl⟩,rfl⟩)
   clear HI
   go_wp2
   go_ret
   exact HF.out
set_option maxRecDepth 100000 in
/-- Weight -/
theorem rweight_c (v:Value) (P:PEnts) (B:Nat) (w:World) (hv:EntsAt w B v P) (hw:pWt P≤4611686018427387904) :
 Calls Tryz.prog 53 #[v] w fun e w'=>e=.returned (.int .i64 (pWt P))∧Below w.heap.size w w':=by
 obtain ⟨a,c,rfl,hl,hm,hc⟩:=hv
 unfold maxLen at hm
 have HC:=Lib.hid hc
 have HW:=Lib.hid hw
 clear hc hw
 go_enter Tryz.func53,Tryz.ntmps53
 go_wp2
 go_loopw [3,4] (fun n i wr=>∃ j:Nat,j≤P.length∧i=.int .i64 j∧n=.int .i64 (pWt (P.take j))∧Below w.heap.size w wr) (fun _ i _=>P.length - (intOf i).toNat)
 case atStart=>exact ⟨0,Nat.zero_le _,rfl,rfl,Below.refl _ _⟩
 case round=>
  obtain ⟨j,hj,rfl,rfl,hb⟩:=hrel
  by_cases hlt:j < P.length
  ·rcases HC.out with hc | ⟨g,off,rfl,hg,hcell⟩
   ·rw [hc] at hlt; simp at hlt
   obtain ⟨vv,c0,c1,hvv⟩:=hcell j hlt
   obtain ⟨va,vc,rfl,_⟩:=hvv.open_
   have r0:=keep_cell hb c0
   have r1:=keep_cell hb c1
   have hs:=rWt_take P j hlt
   have h0:=pWt_nonneg (P.take j)
   have h1:pWt (P.take (j+1))≤pWt P:=by
    have:=pWt_nonneg (P.drop (j+1))
    have e:pWt P=pWt (P.take (j+1))+pWt (P.drop (j+1)):=by
     conv=>lhs; rw [← List.take_append_drop (j+1) P]
     unfold pWt; rw [List.map_append,List.sum_append]
    omega
   have hwt:=HW.out
   have hkl:(P[j].1.length:Int)≤4611686018427387904:=by omega
   have hvl:(P[j].2.length:Int)≤4611686018427387904:=by omega
   have hz:pWt (P.take j)+3+(P[j].1.length:Int)+(P[j].2.length:Int)≤4611686018427387904:=by omega
   have HS:=Lib.hid hs
   have HB:=Lib.hid hb
   generalize P[j]=en at *
   generalize pWt (P.take j)=z at *
   clear hcell hvv c0 c1 hs h1 hwt hb
   go_upto_region 5 with (fail)
   go_quiet (fail)
   all_goals
    go_wp2
    go_roundw
    case rel=>exact ⟨j+1,by omega,by go_num,congrArg (Value.int .i64) (by have:=HS.out; omega),below_drewN HB.out _⟩
    case measure=>simp [intOf]; omega
  ·obtain rfl:j=P.length:=by omega
   rw [List.take_length]
   go_wp2
   go_ret
   exact ⟨rfl,hb⟩
end
end Go.Proofs.YtondomklkapogaaGreatDoor
