/- JournalSmall: great, its loops, each walked by itself. -/
import Derived.Test.YtondomklkapogaaGreatDoorM47
namespace Go.Proofs.YtondomklkapogaaGreatDoor
open Go.RowKit SeedP Go.Maps
set_option linter.unusedVariables false
/-- one byte as a text -/
theorem byte_str (w:World) (n:Nat) (b:UInt8) (hb:(b.toNat:Int)=(n:Int)):(convert 25 9 (.slice (some ⟨w.heap.size,0,none⟩) 1 1)).run Tryz.prog (w.alloc (.cells #[.int .u8 (n:Int)] 5))=.ok (.string ⟨#[b]⟩) (w.alloc (.cells #[.int .u8 (n:Int)] 5)):=by
 have h:=conv_c (rdB_lit w [b] (by simp [maxLen]) 1 rfl)
 simp only [byts,List.map_cons,List.map_nil,hb] at h
 exact h
theorem cat_k (c b:UInt8):(⟨#[c]⟩:ByteArray) ++ ⟨#[b]⟩=⟨#[c,b]⟩:=rfl
noncomputable def cgB2:Code:=((Tryz.f19.body.bind (findB 2)).getD .skip)
set_option maxRecDepth 1000000 in
set_option maxHeartbeats 8000000 in
theorem great2 {K:Act→World→Prop} {Q':Exit→Act→World→Prop} {c0 c1 c3 c4 c7 c8 c9 c10 c11 c12 c13 c14 c15 c16 c17 c18 c19 c20 c21 c22 c23 c24 c25 c26 c27 c28 c29 c30 c31 c32 c33 c34 c35 c36 c37 c38 c39 c40 c41 c42 c43 c44 c45 c46 c47 c48 c49 c50 c51 c52 c53 c54 c55 c56 c57 c58 c59 c60 c61 c62 c63 c64 c65 c66 c67 c68 c69 c70 c71 c72 c73 c74 c75 c76 c77 c78 c79 c80 c81 c82 c83 c84 c85 c86 c87 c88 c89 c90 c91 c92 c93 c94 c95 c96 c97 c98 c99 c100 c101 c102:Value} {gv:Nat} (w:World) (HV:Hid (TB w (.slice (some ⟨gv,0,none⟩) 4000 4000)))
 (HK:Hid (∀ (d6 d18 d19 d20 d21 d22 d23 d24 d25 d26 d27 d28 d29 d30 d31:Value) (w':World) (ca:Option Addr) (cc:Nat) (xs:List (Chg × Value)),xs.length=16→CRow w.heap.size w' (.slice ca 16 cc) xs→Below w.heap.size w w'→K ⟨#[c0,c1,.slice (some ⟨gv,0,none⟩) 4000 4000,c3,c4,.slice ca 16 cc,d6,c7,c8,c9,c10,c11,c12,c13,c14,c15,c16,c17,d18,d19,d20,d21,d22,d23,d24,d25,d26,d27,d28,d29,d30,d31,c32,c33,c34,c35,c36,c37,c38,c39,c40,c41,c42,c43,c44,c45,c46,c47,c48,c49,c50,c51,c52,c53,c54,c55,c56,c57,c58,c59,c60,c61,c62,c63,c64,c65,c66,c67,c68,c69,c70,c71,c72,c73,c74,c75,c76,c77,c78,c79,c80,c81,c82,c83,c84,c85,c86,c87,c88,c89,c90,c91,c92,c93,c94,c95,c96,c97,c98,c99,c100,c101,c102],[]⟩ w')) :
 Code.wp Tryz.prog cgB2 (Exit.then K Q') ⟨#[c0,c1,.slice (some ⟨gv,0,none⟩) 4000 4000,c3,c4,.slice none 0 0,.int .i64 0,c7,c8,c9,c10,c11,c12,c13,c14,c15,c16,c17,c18,c19,c20,c21,c22,c23,c24,c25,c26,c27,c28,c29,c30,c31,c32,c33,c34,c35,c36,c37,c38,c39,c40,c41,c42,c43,c44,c45,c46,c47,c48,c49,c50,c51,c52,c53,c54,c55,c56,c57,c58,c59,c60,c61,c62,c63,c64,c65,c66,c67,c68,c69,c70,c71,c72,c73,c74,c75,c76,c77,c78,c79,c80,c81,c82,c83,c84,c85,c86,c87,c88,c89,c90,c91,c92,c93,c94,c95,c96,c97,c98,c99,c100,c101,c102],[]⟩ w:=by
 conv=>arg 2; whnf
 have W0:=Lib.hid (And.intro (CRow.nil w.heap.size w) (Below.refl w.heap.size w))
 go_wp2
 go_loopw [5,6] (fun cv iv wr=>∃ (i:Nat) (xs:List (Chg × Value)),i≤16∧iv=.int .i64 (i:Int)∧xs.length=i∧CRow w.heap.size wr cv xs∧Below w.heap.size w wr) (fun _ i _=>16 - (intOf i).toNat)
 case atStart=>exact ⟨0,[],by omega,rfl,rfl,W0.out.1,W0.out.2⟩
 case round=>
  obtain ⟨i,xs,hi,rfl,hx,hcr,hbw⟩:=hrel
  obtain ⟨ca,cc,rfl⟩:=hcr.slice
  rw [hx] at hcr ⊢
  have HXL:=Lib.hid hx
  have HX:=Lib.hid hcr
  have HBW:=Lib.hid hbw
  have hC0:w.heap.size≤wr.heap.size:=hbw.size
  have HVW:=Lib.hid ((KeepT.of_below hbw).tb _ HV.out)
  clear hcr hbw W0 hx
  by_cases hlt:i < 16
  ·have b1:decide ((i:Int) < 16)=true:=decide_eq_true (by omega)
   have b2:(i:Int) < 16:=by omega
   obtain ⟨b,hbi⟩:∃ b:UInt8,(b.toNat:Int)=(i:Int):=⟨UInt8.ofNat i,by rw [UInt8.toNat_ofNat']; omega⟩
   have hw8:IntKind.u8.wrap (i:Int)=(i:Int):=IntWalk.u8_in _ (by omega)
   have hcv:=byte_str wr i b hbi
   have hck:=cat_k 107 b
   have ha1:=(Below.refl wr.heap.size wr).alloc (Nat.le_refl _) (.cells #[.int .u8 (i:Int)] 5)
   have ha2:=(Below.refl (wr.alloc (.cells #[.int .u8 (i:Int)] 5)).heap.size (wr.alloc (.cells #[.int .u8 (i:Int)] 5))).alloc (Nat.le_refl _) (.cells #[strV [107,b],.slice (some ⟨gv,0,none⟩) 4000 4000,.bool false] 60)
   have HX2:=Lib.hid ((HX.out.below ha1).below ha2)
   have HB2:=Lib.hid ((HBW.out.trans (ha1.mono hC0)).trans (ha2.mono (Nat.le_trans hC0 ha1.size)))
   have HV2:=Lib.hid ((KeepT.of_below ha2).tb _ ((KeepT.of_below ha1).tb _ HVW.out))
   clear ha1 ha2
   go_wp2_with (at_builtin; go_must (refine wpList_chgM (xs:=xs) (C:=w.heap.size) rfl _ _ rfl rfl HX2.out _ (⟨[107,b],[],false⟩,.slice (some ⟨gv,0,none⟩) 4000 4000) rfl (Blk.at _ _ _ (by simp)) ⟨by show 2≤60; omega,HV2.out⟩ (by have:=HXL.out; omega) (by simp; omega) ?_))
   intro v7 w7 h71 h72 h73 h74 h74b h75
   obtain ⟨a7,c7',rfl⟩:=h71.slice
   have hyl:(xs ++ [((⟨[107,b],[],false⟩:Chg),(.slice (some ⟨gv,0,none⟩) 4000 4000:Value))]).length=i+1:=by rw [List.length_append,HXL.out]; rfl
   have HY:=Lib.hid (And.intro h71 (HB2.out.trans h73))
   clear h71 h72 h73 h74 h74b h75 hcv hck HX2 HB2 HV2 HX HBW
   generalize xs ++ [((⟨[107,b],[],false⟩:Chg),(.slice (some ⟨gv,0,none⟩) 4000 4000:Value))]=ys at *
   go_wp2
   go_roundw
   case rel=>exact ⟨i+1,ys,by omega,by go_num,by omega,HY.out.1,HY.out.2⟩
   case measure=>simp [intOf]; omega
  ·obtain rfl:i=16:=by omega
   go_wp2_with fail
   exact HK.out _ _ _ _ _ _ _ _ _ _ _ _ _ _ _ _ _ _ xs HXL.out HX.out HBW.out
noncomputable def cgB0:Code:=((Tryz.f19.body.bind (findB 0)).getD .skip)
set_option maxRecDepth 1000000 in
set_option maxHeartbeats 8000000 in
theorem great0 {K:Act→World→Prop} {Q':Exit→Act→World→Prop} {c0 c3 c4 c5 c6 c7 c8 c9 c10 c11 c15 c16 c17 c18 c19 c20 c21 c22 c23 c24 c25 c26 c27 c28 c29 c30 c31 c32 c33 c34 c35 c36 c37 c38 c39 c40 c41 c42 c43 c44 c45 c46 c47 c48 c49 c50 c51 c52 c53 c54 c55 c56 c57 c58 c59 c60 c61 c62 c63 c64 c65 c66 c67 c68 c69 c70 c71 c72 c73 c74 c75 c76 c77 c78 c79 c80 c81 c82 c83 c84 c85 c86 c87 c88 c89 c90 c91 c92 c93 c94 c95 c96 c97 c98 c99 c100 c101 c102:Value} {B gv g12:Nat} {cs12:List Value} (w:World) (h12:Hid (Blk w g12 3 cs12)) (h12n:cs12.length=3) (h12v:Hid (∀ x ∈ cs12,∃ n:Nat,n≤4000∧x=.int .i64 (n:Int))) (HZ:Hid (Blk w gv 5 (ints .u8 (zeros 4000)))) (hB:B≤w.heap.size)
 (HK:Hid (∀ (d4 d5 d6 d14 d15 d16 d17 d18 d19 d20 d21 d22 d23 d24 d25 d26 d27 d28 d29 d30 d31 d32 d33 d34 d35 d36 d37 d38 d39 d40 d41 d42 d43:Value) (w':World) (lv:Value),Up1 B w w' lv 3→K ⟨#[c0,lv,.slice (some ⟨gv,0,none⟩) 4000 4000,c3,d4,d5,d6,c7,c8,c9,c10,c11,.slice (some ⟨g12,0,none⟩) 3 3,.int .i64 3,d14,d15,d16,d17,d18,d19,d20,d21,d22,d23,d24,d25,d26,d27,d28,d29,d30,d31,d32,d33,d34,d35,d36,d37,d38,d39,d40,d41,d42,d43,c44,c45,c46,c47,c48,c49,c50,c51,c52,c53,c54,c55,c56,c57,c58,c59,c60,c61,c62,c63,c64,c65,c66,c67,c68,c69,c70,c71,c72,c73,c74,c75,c76,c77,c78,c79,c80,c81,c82,c83,c84,c85,c86,c87,c88,c89,c90,c91,c92,c93,c94,c95,c96,c97,c98,c99,c100,c101,c102],[]⟩ w')) :
 Code.wp Tryz.prog cgB0 (Exit.then K Q') ⟨#[c0,.slice none 0 0,.slice (some ⟨gv,0,none⟩) 4000 4000,c3,c4,c5,c6,c7,c8,c9,c10,c11,.slice (some ⟨g12,0,none⟩) 3 3,.int .i64 3,.int .i64 0,c15,c16,c17,c18,c19,c20,c21,c22,c23,c24,c25,c26,c27,c28,c29,c30,c31,c32,c33,c34,c35,c36,c37,c38,c39,c40,c41,c42,c43,c44,c45,c46,c47,c48,c49,c50,c51,c52,c53,c54,c55,c56,c57,c58,c59,c60,c61,c62,c63,c64,c65,c66,c67,c68,c69,c70,c71,c72,c73,c74,c75,c76,c77,c78,c79,c80,c81,c82,c83,c84,c85,c86,c87,c88,c89,c90,c91,c92,c93,c94,c95,c96,c97,c98,c99,c100,c101,c102],[]⟩ w:=by
 conv=>arg 2; whnf
 have W0:=Lib.hid (Up1.mk (Lst.nil B w 0) (Below.refl B w) (KeepT.refl w))
 go_wp2
 go_loopw [1,14] (fun lv iv wr=>∃ i:Nat,i≤3∧iv=.int .i64 (i:Int)∧Up1 B w wr lv i) (fun _ i _=>3 - (intOf i).toNat)
 case atStart=>exact ⟨0,by omega,rfl,W0.out⟩
 case round=>
  obtain ⟨i,hi,rfl,hl⟩:=hrel
  obtain ⟨la,ln,lc,rfl⟩:=hl.lst.slice
  have HU:=Lib.hid hl
  by_cases hlt:i < 3
  ·have b1:decide ((i:Int) < 3)=true:=decide_eq_true (by omega)
   have b2:(i:Int) < 3:=by omega
   obtain ⟨x,⟨n,hn,rfl⟩,hc⟩:=cell_nth (hl.kp.bk _ _ _ (by decide) (by decide) h12.out) h12v.out i (by omega)
   have hBr:B≤wr.heap.size:=Nat.le_trans hB hl.be.size
   have HVB:=Lib.hid (hl.kp.bk _ _ _ (by decide) (by decide) HZ.out)
   have HV:=Lib.hid (zer_tb HVB.out (Nat.le_refl _) (by omega) (by omega))
   clear hl W0
   go_upto_block 2 with (fail)
   refine great2 wr HV (Lib.hid ?_)
   intro d6 d18 d19 d20 d21 d22 d23 d24 d25 d26 d27 d28 d29 d30 d31 w6 ca cc xs hx hcr hbw
   have HXL:=Lib.hid hx
   have HB6:=Lib.hid hbw
   have hs6:wr.heap.size≤w6.heap.size:=hbw.size
   have HV6:=Lib.hid (HVB.out.below hbw)
   have ha1:=(Below.refl w6.heap.size w6).alloc (Nat.le_refl _) (.cells #[strV [120],.slice (some ⟨gv,0,none⟩) n 4000,.bool false] 60)
   have HX1:=Lib.hid (hcr.below ha1)
   have HB61:=Lib.hid (HB6.out.trans (ha1.mono hs6))
   have HT6:=Lib.hid ((KeepT.of_below ha1).tb _ (zer_tb HV6.out (show n≤4000 by omega) (by omega) (by omega)))
   have hn4:(n:Int)≤4000:=by omega
   clear hcr hbw hc ha1 hx
   go_wp2_with (at_builtin; refine wpList_chgM (xs:=xs) (C:=wr.heap.size) rfl _ _ rfl rfl HX1.out w6.heap.size (⟨[120],[],false⟩,.slice (some ⟨gv,0,none⟩) n 4000) rfl (Blk.new w6 60 _) ⟨by show 1≤60; omega,HT6.out⟩ (by have:=HXL.out; omega) (by simp; omega) ?_)
   intro v7 w7 h71 h72 h73 h74 h74b h75
   obtain ⟨a7,c7',rfl⟩:=h71.slice
   have hl7:(xs ++ [((⟨[120],[],false⟩:Chg),(.slice (some ⟨gv,0,none⟩) n 4000:Value))]).length=17:=by rw [List.length_append,HXL.out]; rfl
   have HT7:=Lib.hid (h71.tc (by omega))
   rw [hl7] at HT7
   have HU7:=Lib.hid (HU.out.below hB (HB61.out.trans h73))
   clear h71 h72 h73 h74 h74b h75 HX1 HB61 HT6 HU HB6 HV6
   rw [hl7]
   go_wp2_with (at_builtin; go_must (refine wpList_acts rfl _ _ rfl rfl (HU7.out.lst.below ((Below.refl w7.heap.size w7).alloc (Nat.le_refl _) _)) w7.heap.size 1 [⟨0,0,.slice a7 17 c7',[],.slice none 0 0⟩] rfl rfl (Blk.new w7 41 _) ?_ (by omega) (by have:=HU7.out.be.size; simp; omega) ?_))
   ·intro a ha
    obtain rfl:=List.mem_singleton.1 ha
    exact ga0 _ _ _ _ _ ((KeepT.alloc _ _).tc _ HT7.out) (by simp) (TB.nil _)
   intro v10 w10 hl10 hb10 hk10
   have HU10:=Lib.hid ((HU7.out.below hB ((Below.refl w7.heap.size w7).alloc (Nat.le_refl _) _)).step hl10 hb10 hk10)
   obtain ⟨a10,n10,c10',rfl⟩:=hl10.slice
   clear hl10 hb10 hk10 HU7 HT7
   go_wp2
   go_roundw
   case rel=>exact ⟨i+1,by omega,by go_num,HU10.out⟩
   case measure=>simp [intOf]; omega
  ·obtain rfl:i=3:=by omega
   go_wp2_with fail
   exact HK.out _ _ _ _ _ _ _ _ _ _ _ _ _ _ _ _ _ _ _ _ _ _ _ _ _ _ _ _ _ _ _ _ _ _ _ HU.out
noncomputable def cgB4:Code:=((Tryz.f19.body.bind (findB 4)).getD .skip)
set_option maxRecDepth 1000000 in
set_option maxHeartbeats 8000000 in
theorem great4 {K:Act→World→Prop} {Q':Exit→Act→World→Prop} {c0 c3 c4 c5 c6 c8 c9 c10 c11 c12 c13 c14 c15 c16 c17 c18 c19 c20 c21 c22 c23 c24 c25 c26 c27 c28 c29 c30 c31 c32 c33 c34 c35 c36 c37 c38 c39 c40 c41 c42 c43 c44 c45 c46 c47 c48 c49 c50 c51 c52 c53 c54 c55 c56 c57 c58 c59 c60 c61 c62 c63 c64 c65 c66 c67 c68 c69 c70 c71 c72 c73 c74 c75 c76 c77 c78 c79 c80 c81 c82 c83 c84 c85 c86 c87 c88 c89 c90 c91 c92 c93 c94 c95 c96 c97 c98 c99 c100 c101 c102:Value} {B gv:Nat} {la:Option Addr} {ln lc:Nat} (w:World) (HL:Hid (Lst B w (.slice la ln lc) 3)) (HZ:Hid (Blk w gv 5 (ints .u8 (zeros 4000)))) (hB:B≤w.heap.size)
 (HK:Hid (∀ (d7 d44 d45 d46 d47 d48 d49 d50 d51 d52 d53 d54 d55 d56 d57:Value) (w':World) (lv:Value),Up1 B w w' lv 23→K ⟨#[c0,lv,.slice (some ⟨gv,0,none⟩) 4000 4000,c3,c4,c5,c6,d7,c8,c9,c10,c11,c12,c13,c14,c15,c16,c17,c18,c19,c20,c21,c22,c23,c24,c25,c26,c27,c28,c29,c30,c31,c32,c33,c34,c35,c36,c37,c38,c39,c40,c41,c42,c43,d44,d45,d46,d47,d48,d49,d50,d51,d52,d53,d54,d55,d56,d57,c58,c59,c60,c61,c62,c63,c64,c65,c66,c67,c68,c69,c70,c71,c72,c73,c74,c75,c76,c77,c78,c79,c80,c81,c82,c83,c84,c85,c86,c87,c88,c89,c90,c91,c92,c93,c94,c95,c96,c97,c98,c99,c100,c101,c102],[]⟩ w')) :
 Code.wp Tryz.prog cgB4 (Exit.then K Q') ⟨#[c0,.slice la ln lc,.slice (some ⟨gv,0,none⟩) 4000 4000,c3,c4,c5,c6,.int .i64 0,c8,c9,c10,c11,c12,c13,c14,c15,c16,c17,c18,c19,c20,c21,c22,c23,c24,c25,c26,c27,c28,c29,c30,c31,c32,c33,c34,c35,c36,c37,c38,c39,c40,c41,c42,c43,c44,c45,c46,c47,c48,c49,c50,c51,c52,c53,c54,c55,c56,c57,c58,c59,c60,c61,c62,c63,c64,c65,c66,c67,c68,c69,c70,c71,c72,c73,c74,c75,c76,c77,c78,c79,c80,c81,c82,c83,c84,c85,c86,c87,c88,c89,c90,c91,c92,c93,c94,c95,c96,c97,c98,c99,c100,c101,c102],[]⟩ w:=by
 conv=>arg 2; whnf
 have W0:=Lib.hid (Up1.mk HL.out (Below.refl B w) (KeepT.refl w))
 go_wp2
 go_loopw [1,7] (fun lv iv wr=>∃ i:Nat,i≤20∧iv=.int .i64 (i:Int)∧Up1 B w wr lv (3+i)) (fun _ i _=>20 - (intOf i).toNat)
 case atStart=>exact ⟨0,by omega,rfl,W0.out⟩
 case round=>
  obtain ⟨i,hi,rfl,hl⟩:=hrel
  obtain ⟨la,ln,lc,rfl⟩:=hl.lst.slice
  have HU:=Lib.hid hl
  have HVB:=Lib.hid (hl.kp.bk _ _ _ (by decide) (by decide) HZ.out)
  clear hl W0
  by_cases hlt:i < 20
  ·have b1:decide ((i:Int) < 20)=true:=decide_eq_true (by omega)
   have b2:(i:Int) < 20:=by omega
   obtain ⟨b,hbi⟩:∃ b:UInt8,(b.toNat:Int)=(i:Int):=⟨UInt8.ofNat i,by rw [UInt8.toNat_ofNat']; omega⟩
   have hw8:IntKind.u8.wrap (i:Int)=(i:Int):=IntWalk.u8_in _ (by omega)
   have hcv:=byte_str wr i b hbi
   have hck:=cat_k 102 b
   have ha1:=(Below.refl wr.heap.size wr).alloc (Nat.le_refl _) (.cells #[.int .u8 (i:Int)] 5)
   have HU1:=Lib.hid (HU.out.below hB ha1)
   have HT1:=Lib.hid (zer_tb (HVB.out.below ha1) (Nat.le_refl 4000) (by omega) (by omega))
   clear ha1
   go_wp2_with (at_builtin; go_must (refine wpList_acts rfl _ _ rfl rfl (HU1.out.lst.below ((Below.refl _ _).alloc (Nat.le_refl _) _)) _ 1 [⟨4,0,.slice none 0 0,[102,b],.slice (some ⟨gv,0,none⟩) 4000 4000⟩] rfl rfl (Blk.at _ _ _ (by simp)) ?_ (by omega) (by have:=HU1.out.be.size; simp at this ⊢; omega) ?_))
   ·intro a ha
    obtain rfl:=List.mem_singleton.1 ha
    exact ga0 _ _ _ _ _ (TC.nil _) (by show 2≤60; omega) ((KeepT.alloc _ _).tb _ HT1.out)
   intro v10 w10 hl10 hb10 hk10
   have HU10:=Lib.hid ((HU1.out.below hB ((Below.refl _ _).alloc (Nat.le_refl _) _)).step hl10 hb10 hk10)
   obtain ⟨a10,n10,c10',rfl⟩:=hl10.slice
   clear hl10 hb10 hk10 HU1 HT1 hcv hck
   go_wp2
   go_roundw
   case rel=>exact ⟨i+1,by omega,by go_num,HU10.out⟩
   case measure=>simp [intOf]; omega
  ·obtain rfl:i=20:=by omega
   go_wp2_with fail
   exact HK.out _ _ _ _ _ _ _ _ _ _ _ _ _ _ _ _ _ HU.out
section
variable {ρ:Operand→Value} {d:Option Tmp} {ty:TypeId} {pos:String} {af:Array Edge} {gd:Option (Nat × Bool)}
theorem xs_sub4 (hρ:∀ v,ρ (.const v)=v) (x:Operand) (n:Nat) (w:World) (hx:ρ x=.int .i64 (n:Int)) (hn:4≤n) (hm:n≤100000):(execOp ρ ⟨d,.binOp .sub 3 x (.const (.int .i64 4)) 3,ty,pos,af,gd⟩).run Tryz.prog w=.ok (.value (.int .i64 ((n - 4:Nat):Int))) w:=by
 have hw:IntKind.i64.wrap ((n:Int) - 4)=((n - 4:Nat):Int):=by rw [IntWalk.i64_in _ (by omega)]; omega
 simp [go_sem,hρ,hx,hw]
theorem xs_bact (hρ:∀ v,ρ (.const v)=v) (y:Operand) (k:ByteArray) (a:Option Addr) (n c:Nat) (w:World) (hy:ρ y=.slice a n c):(execOp ρ ⟨d,.build 41 #[(0,.const (.int .i64 4)),(3,.const (.string k)),(4,y)],ty,pos,af,gd⟩).run Tryz.prog w=.ok (.value (.agg #[.int .i64 4,.int .i64 0,.slice none 0 0,.string k,.slice a n c])) w:=by
 simp [go_sem,hρ,hy]
theorem xs_bs2 (x y:Operand) (k k':ByteArray) (a a':Option Addr) (n n' c c':Nat) (w:World) (hx:ρ x=.agg #[.int .i64 4,.int .i64 0,.slice none 0 0,.string k,.slice a n c]) (hy:ρ y=.agg #[.int .i64 4,.int .i64 0,.slice none 0 0,.string k',.slice a' n' c']):(execOp ρ ⟨d,.buildSlice 22 2 #[(0,x),(1,y)],ty,pos,af,gd⟩).run Tryz.prog w=.ok (.value (.slice (some ⟨w.heap.size,0,none⟩) 2 2)) (w.alloc (.cells #[.int .i64 4,.int .i64 0,.slice none 0 0,.string k,.slice a n c,.int .i64 4,.int .i64 0,.slice none 0 0,.string k',.slice a' n' c'] 41)):=by
 simp [go_sem,hx,hy]
end
theorem turn_acts {Y:Nat→Option Bool} {b:Act} {w:World} {Q:Value→World→Prop} {d:Option Tmp} {ty:TypeId} {pos:String} {af:Array Edge} {gd:Option (Nat × Bool)} (s x:Operand) (hw:Region.wanted ⟨d,.call { callee:=.builtin .append,args:=#[s,x],argTypes:=#[22,22] },ty,pos,af,gd⟩ Y=true)
 {B k:Nat} {v:Value} (hs:b.eval s=v) (h:Lst B w v k) (q m:Nat) (new:List AV) (hx:b.eval x=.slice (some ⟨q,0,none⟩) m m) (hm:m=new.length) (hb:Blk w q 41 (arow new)) (hn:∀ a ∈ new,GA w a) (hk:k+m≤100000) (hB:B≤w.heap.size)
 (hQ:∀ v' w',Lst B w' v' (k+m)→Below B w w'→KeepT w w'→Q v' w'):TurnOk Tryz.prog Y b w ⟨d,.call { callee:=.builtin .append,args:=#[s,x],argTypes:=#[22,22] },ty,pos,af,gd⟩ Q:=by
 obtain ⟨v',w',hr,h1,h2,h3⟩:=acts_run h ty q m new hm hb hn hk hB
 refine turn_run hw v' w' ?_ (hQ v' w' h1 h2 h3)
 unfold execOp
 simp only [resolve,invoke,builtin,Sem.run_bind,Sem.run_pure,Result.andThen_ok,List.map_toArray,List.map_cons,List.map_nil,hs,hx,hr]
/-- while two acts are added -/
def TwX (w0 W:World) (B:Nat) (lv:Value) (k gv n:Nat):Nat→List Value→World→Prop
 | 0,_,w=>Below W.heap.size W w
 | 1,vs,w=>Below W.heap.size W w∧∃ q,vs.getD 0 undef=.slice (some ⟨q,0,none⟩) 2 2∧Blk w q 41 (arow [⟨4,0,.slice none 0 0,[121],.slice (some ⟨gv,0,none⟩) n 4000⟩,⟨4,0,.slice none 0 0,[122],.slice (some ⟨gv,0,none⟩) (n - 4) 4000⟩])
 | 2,vs,w=>Up1 B w0 w (vs.getD 1 undef) (k+2)
 | 3,vs,w=>Up1 B w0 w (vs.getD 2 undef) (k+2)
 | _,_,_=>False
noncomputable def cgB6:Code:=((Tryz.f19.body.bind (findB 6)).getD .skip)
set_option maxRecDepth 1000000 in
set_option maxHeartbeats 8000000 in
theorem great6 {K:Act→World→Prop} {Q':Exit→Act→World→Prop} {c0 c3 c4 c5 c6 c7 c9 c10 c11 c12 c13 c14 c15 c16 c17 c18 c19 c20 c21 c22 c23 c24 c25 c26 c27 c28 c29 c30 c31 c32 c33 c34 c35 c36 c37 c38 c39 c40 c41 c42 c43 c44 c45 c46 c47 c48 c49 c50 c51 c52 c53 c54 c55 c56 c57 c58 c59 c60 c61 c62 c63 c64 c65 c66 c67 c68 c69 c70 c71 c72 c73 c74 c75 c76 c77 c78 c79 c80 c81 c82 c83 c84 c85 c86 c87 c88 c89 c90 c91 c92 c93 c94 c95 c96 c97 c98 c99 c100 c101 c102:Value} {B gv:Nat} {la:Option Addr} {ln lc:Nat} (w:World) (HL:Hid (Lst B w (.slice la ln lc) 23)) (HZ0:Hid (Blk w gv 5 (ints .u8 (zeros 4000)))) (hB:B≤w.heap.size)
 (HK:Hid (∀ (d8 d58 d59 d60 d61 d62 d63 d64 d65 d66 d67 d68 d69 d70 d71 d72 d73:Value) (w':World) (lv:Value) (k:Nat),k≤100000→Up1 B w w' lv k→K ⟨#[c0,lv,.slice (some ⟨gv,0,none⟩) 4000 4000,c3,c4,c5,c6,c7,d8,c9,c10,c11,c12,c13,c14,c15,c16,c17,c18,c19,c20,c21,c22,c23,c24,c25,c26,c27,c28,c29,c30,c31,c32,c33,c34,c35,c36,c37,c38,c39,c40,c41,c42,c43,c44,c45,c46,c47,c48,c49,c50,c51,c52,c53,c54,c55,c56,c57,d58,d59,d60,d61,d62,d63,d64,d65,d66,d67,d68,d69,d70,d71,d72,d73,c74,c75,c76,c77,c78,c79,c80,c81,c82,c83,c84,c85,c86,c87,c88,c89,c90,c91,c92,c93,c94,c95,c96,c97,c98,c99,c100,c101,c102],[]⟩ w')) :
 Code.wp Tryz.prog cgB6 (Exit.then K Q') ⟨#[c0,.slice la ln lc,.slice (some ⟨gv,0,none⟩) 4000 4000,c3,c4,c5,c6,c7,.int .i64 5,c9,c10,c11,c12,c13,c14,c15,c16,c17,c18,c19,c20,c21,c22,c23,c24,c25,c26,c27,c28,c29,c30,c31,c32,c33,c34,c35,c36,c37,c38,c39,c40,c41,c42,c43,c44,c45,c46,c47,c48,c49,c50,c51,c52,c53,c54,c55,c56,c57,c58,c59,c60,c61,c62,c63,c64,c65,c66,c67,c68,c69,c70,c71,c72,c73,c74,c75,c76,c77,c78,c79,c80,c81,c82,c83,c84,c85,c86,c87,c88,c89,c90,c91,c92,c93,c94,c95,c96,c97,c98,c99,c100,c101,c102],[]⟩ w:=by
 conv=>arg 2; whnf
 have W0:=Lib.hid (Up1.mk HL.out (Below.refl B w) (KeepT.refl w))
 go_wp2
 go_loopw [1,8] (fun lv nv wr=>∃ n k:Nat,5≤n∧n≤12000∧k≤n+40∧nv=.int .i64 (n:Int)∧Up1 B w wr lv k) (fun _ n _=>4000 - (intOf n).toNat)
 case atStart=>exact ⟨5,23,by omega,by omega,by omega,rfl,W0.out⟩
 case round=>
  obtain ⟨n,k,hn0,hn1,hk,rfl,hl⟩:=hrel
  obtain ⟨la,ln,lc,rfl⟩:=hl.lst.slice
  have HU:=Lib.hid hl
  have hBr:B≤wr.heap.size:=Nat.le_trans hB hl.be.size
  have HZ:=Lib.hid (hl.kp.bk _ _ _ (by decide) (by decide) HZ0.out)
  clear hl W0
  by_cases hlt:n < 4000
  ·have b1:decide ((n:Int) < 4000)=true:=decide_eq_true (by omega)
   go_upto_region 20 with (fail)
   refine wp_region_mixL (by kernel_rfl) 12 1 _ rfl rfl (by kernel_rfl) (by kernel_rfl) (Nat.le_of_ble_eq_true (by kernel_rfl)) [some (.slice la ln lc),some (.slice (some ⟨gv,0,none⟩) 4000 4000),some (.int .i64 (n:Int)),some (.slice (some ⟨gv,0,none⟩) n 4000),some (.agg #[.int .i64 4,.int .i64 0,.slice none 0 0,.string ⟨#[121]⟩,.slice (some ⟨gv,0,none⟩) n 4000]),some (.slice (some ⟨gv,0,none⟩) 4000 4000),some (.int .i64 (n:Int)),some (.int .i64 ((n - 4:Nat):Int)),some (.slice (some ⟨gv,0,none⟩) (n - 4) 4000),some (.agg #[.int .i64 4,.int .i64 0,.slice none 0 0,.string ⟨#[122]⟩,.slice (some ⟨gv,0,none⟩) (n - 4) 4000]),none,none,none] [10,11,12] (by kernel_rfl) (by kernel_rfl) (by kernel_rfl) (SeqG (TwX w wr B (.slice la ln lc) k gv n) [10,11,12].length) (SeqG.start (bl_drew wr)) ?_ ?_
   ·refine EachI.cons (MixOkL.pure (by kernel_rfl) (fun _=>by kernel_rfl) (fun _ _=>by kernel_rfl)) ?_
    refine EachI.cons (MixOkL.pure (by kernel_rfl) (fun _=>by kernel_rfl) (fun _ _=>by kernel_rfl)) ?_
    refine EachI.cons (MixOkL.pure (by kernel_rfl) (fun _=>by kernel_rfl) (fun _ _=>by kernel_rfl)) ?_
    refine EachI.cons (MixOkL.pure (by kernel_rfl) (fun _=>by kernel_rfl) (fun _ wx=>xs_upto _ _ _ _ _ _ _ _ _ 4000 4000 n wx (by kernel_rfl) (by kernel_rfl) (by omega))) ?_
    refine EachI.cons (MixOkL.pure (by kernel_rfl) (fun _=>by kernel_rfl) (fun _ wx=>xs_bact (fun _=>rfl) _ ⟨#[121]⟩ _ n 4000 wx (by kernel_rfl))) ?_
    refine EachI.cons (MixOkL.pure (by kernel_rfl) (fun _=>by kernel_rfl) (fun _ _=>by kernel_rfl)) ?_
    refine EachI.cons (MixOkL.pure (by kernel_rfl) (fun _=>by kernel_rfl) (fun _ _=>by kernel_rfl)) ?_
    refine EachI.cons (MixOkL.pure (by kernel_rfl) (fun _=>by kernel_rfl) (fun _ wx=>xs_sub4 (fun _=>rfl) _ n wx (by kernel_rfl) (by omega) (by omega))) ?_
    refine EachI.cons (MixOkL.pure (by kernel_rfl) (fun _=>by kernel_rfl) (fun _ wx=>xs_upto _ _ _ _ _ _ _ _ _ 4000 4000 (n - 4) wx (by kernel_rfl) (by kernel_rfl) (by omega))) ?_
    refine EachI.cons (MixOkL.pure (by kernel_rfl) (fun _=>by kernel_rfl) (fun _ wx=>xs_bact (fun _=>rfl) _ ⟨#[122]⟩ _ (n - 4) 4000 wx (by kernel_rfl))) ?_
    refine EachI.cons (MixOkL.chain (by kernel_rfl) 0 rfl (by kernel_rfl) (by decide) (fun ws wx hS=>?_)) ?_
    ·have hbl:=(Below.refl wx.heap.size wx).alloc (Nat.le_refl _) (.cells #[.int .i64 4,.int .i64 0,.slice none 0 0,.string ⟨#[121]⟩,.slice (some ⟨gv,0,none⟩) n 4000,.int .i64 4,.int .i64 0,.slice none 0 0,.string ⟨#[122]⟩,.slice (some ⟨gv,0,none⟩) (n - 4) 4000] 41)
     have hS:Below wr.heap.size wr wx:=hS
     exact turn_run (by kernel_rfl) _ _ (xs_bs2 _ _ ⟨#[121]⟩ ⟨#[122]⟩ _ _ n (n - 4) 4000 4000 wx (by kernel_rfl) (by kernel_rfl)) ⟨hS.trans (hbl.mono hS.size),_,rfl,Blk.new wx 41 _⟩
    refine EachI.cons (MixOkL.chain (by kernel_rfl) 1 rfl (by kernel_rfl) (by decide) (fun ws wx hS=>?_)) ?_
    ·obtain ⟨hb,q,eq,hq⟩:=hS
     have eq:ws 10=.slice (some ⟨q,0,none⟩) 2 2:=eq
     have hz:=HZ.out.below hb
     refine turn_acts _ _ (by kernel_rfl) (by kernel_rfl) (HU.out.lst.below hb) q 2 [⟨4,0,.slice none 0 0,[121],.slice (some ⟨gv,0,none⟩) n 4000⟩,⟨4,0,.slice none 0 0,[122],.slice (some ⟨gv,0,none⟩) (n - 4) 4000⟩] (Eq.trans (b:=ws 10) (by kernel_rfl) eq) rfl hq ?_ (by omega) (Nat.le_trans hBr hb.size) (fun v' w' h1 h2 h3=>(HU.out.below hB hb).step h1 h2 h3)
     intro a ha
     simp only [List.mem_cons,List.not_mem_nil,or_false] at ha
     rcases ha with rfl | rfl
     ·exact ga0 _ _ _ _ _ (TC.nil _) (by show 1≤60; omega) (zer_tb hz (by omega) (by omega) (by omega))
     ·exact ga0 _ _ _ _ _ (TC.nil _) (by show 1≤60; omega) (zer_tb hz (by omega) (by omega) (by omega))
    refine EachI.cons (MixOkL.chain (by kernel_rfl) 2 rfl (by kernel_rfl) (by decide) (fun ws wx hS=>?_)) ?_
    ·exact turn_run (by kernel_rfl) (ws 11) wx (by kernel_rfl) hS
    exact EachI.nil
   intro ws L' hL' w8 hG8
   have hF:=SeqG.fin hG8
   have hF:Up1 B w w8 (ws 12) (k+2):=hF
   obtain ⟨a8,n8,c8',e8⟩:=hF.lst.slice
   rw [e8] at hF
   have HF:=Lib.hid hF
   simp only [List.set_cons_succ,List.set_cons_zero,setAll,mix,List.getElem?_cons_succ,List.getElem?_cons_zero,Option.join_some,Option.getD_some,Option.getD_none,Nat.reduceAdd,e8] at hL'
   subst hL'
   clear hG8 hF e8
   have hw3:IntKind.i64.wrap ((n:Int) * 3)=(n:Int) * 3:=IntWalk.i64_in _ (by omega)
   go_wp2
   try rw [hw3]
   try go_wp2
   go_roundw
   case rel=>exact ⟨n * 3,k+2,by omega,by omega,by omega,by go_num,HF.out⟩
   case measure=>simp [intOf]; omega
  ·have b1:decide ((n:Int) < 4000)=false:=decide_eq_false (by omega)
   go_wp2_with fail
   exact HK.out _ _ _ _ _ _ _ _ _ _ _ _ _ _ _ _ _ _ _ k (by omega) HU.out
noncomputable def cgB8:Code:=((Tryz.f19.body.bind (findB 8)).getD .skip)
/-- the acts of great's last part -/
def gActs:List AV:=[⟨4,0,.slice none 0 0,[97],.slice none 0 0⟩,⟨6,0,.slice none 0 0,[],.slice none 0 0⟩,⟨6,0,.slice none 0 0,[],.slice none 0 0⟩,⟨6,0,.slice none 0 0,[],.slice none 0 0⟩,⟨4,0,.slice none 0 0,[98],.slice none 0 0⟩,⟨7, -1,.slice none 0 0,[],.slice none 0 0⟩]
theorem gActs_ok (w:World):∀ a ∈ gActs,GA w a:=by
 intro a ha
 unfold gActs at ha
 simp only [List.mem_cons,List.not_mem_nil,or_false] at ha
 rcases ha with rfl | rfl | rfl | rfl | rfl | rfl
 ·exact ga0 _ _ _ _ _ (TC.nil _) (by simp) (TB.nil _)
 ·exact ga0 _ _ _ _ _ (TC.nil _) (by simp) (TB.nil _)
 ·exact ga0 _ _ _ _ _ (TC.nil _) (by simp) (TB.nil _)
 ·exact ga0 _ _ _ _ _ (TC.nil _) (by simp) (TB.nil _)
 ·exact ga0 _ _ _ _ _ (TC.nil _) (by simp) (TB.nil _)
 ·exact ga1 _ _
set_option maxRecDepth 1000000 in
set_option maxHeartbeats 8000000 in
theorem great8 {K:Act→World→Prop} {Q':Exit→Act→World→Prop} {c0 c1 c2 c3 c4 c5 c6 c7 c8 c10 c11 c12 c13 c14 c15 c16 c17 c18 c19 c20 c21 c22 c23 c24 c25 c26 c27 c28 c29 c30 c31 c32 c33 c34 c35 c36 c37 c38 c39 c40 c41 c42 c43 c44 c45 c46 c47 c48 c49 c50 c51 c52 c53 c54 c55 c56 c57 c58 c59 c60 c61 c62 c63 c64 c65 c66 c67 c68 c69 c70 c71 c72 c73 c74 c75 c76 c77 c78 c79 c80 c81 c82 c83 c84 c85 c86 c87 c88 c89 c90 c91 c92 c93 c94 c95 c96 c97 c98 c99 c100 c101 c102:Value} (w:World) (HS:Hid (St w))
 (HK:Hid (∀ (d0 d9 d10 d78 d79 d80 d81 d82 d83 d84 d85 d86 d87 d88 d89 d90 d91 d92 d93 d94 d95 d96 d97 d98 d99 d100 d101 d102:Value) (w':World),Below w.heap.size w w'→St w'→K ⟨#[d0,c1,c2,c3,c4,c5,c6,c7,c8,d9,d10,c11,c12,c13,c14,c15,c16,c17,c18,c19,c20,c21,c22,c23,c24,c25,c26,c27,c28,c29,c30,c31,c32,c33,c34,c35,c36,c37,c38,c39,c40,c41,c42,c43,c44,c45,c46,c47,c48,c49,c50,c51,c52,c53,c54,c55,c56,c57,c58,c59,c60,c61,c62,c63,c64,c65,c66,c67,c68,c69,c70,c71,c72,c73,c74,c75,c76,c77,d78,d79,d80,d81,d82,d83,d84,d85,d86,d87,d88,d89,d90,d91,d92,d93,d94,d95,d96,d97,d98,d99,d100,d101,d102],[]⟩ w')) :
 Code.wp Tryz.prog cgB8 (Exit.then K Q') ⟨#[c0,c1,c2,c3,c4,c5,c6,c7,c8,.int .i64 4611686018427387902,c10,c11,c12,c13,c14,c15,c16,c17,c18,c19,c20,c21,c22,c23,c24,c25,c26,c27,c28,c29,c30,c31,c32,c33,c34,c35,c36,c37,c38,c39,c40,c41,c42,c43,c44,c45,c46,c47,c48,c49,c50,c51,c52,c53,c54,c55,c56,c57,c58,c59,c60,c61,c62,c63,c64,c65,c66,c67,c68,c69,c70,c71,c72,c73,c74,c75,c76,c77,c78,c79,c80,c81,c82,c83,c84,c85,c86,c87,c88,c89,c90,c91,c92,c93,c94,c95,c96,c97,c98,c99,c100,c101,c102],[]⟩ w:=by
 conv=>arg 2; whnf
 have W0:=Lib.hid (And.intro (Below.refl w.heap.size w) HS.out)
 go_wp2
 go_loopw [9] (fun nv wr=>∃ i:Nat,i≤4∧nv=.int .i64 ((4611686018427387902+i:Nat):Int)∧Below w.heap.size w wr∧St wr) (fun n _=>4611686018427387906 - (intOf n).toNat)
 case atStart=>exact ⟨0,by omega,rfl,W0.out.1,W0.out.2⟩
 case round=>
  obtain ⟨i,hi,rfl,hb,hs⟩:=hrel
  have HB:=Lib.hid hb
  have HSR:=Lib.hid hs
  clear hb hs W0
  generalize hgn:4611686018427387902+i=gn at *
  by_cases hlt:i < 4
  ·have b1:decide ((gn:Int)≤4611686018427387905)=true:=decide_eq_true (by omega)
   have b2:(gn:Int)≤4611686018427387905:=by omega
   have HG:=Lib.hid hgn
   have hg9:gn≤4611686018427387905:=by omega
   have hg8:1≤gn:=by omega
   have hl0:(stateB gn []).length≤100:=by have:=stateB_len gn []; have e:pWt []=0:=rfl; omega
   clear hgn
   go_wp2_with fail
   refine (rstate_c gn (.slice none 0 0) [] wr.heap.size wr (EntsAt.nil _ _) (Nat.le_refl _) (by omega) (by decide)).mono ?_
   rintro e w1 ⟨⟨v1,rfl,ho1⟩,hb1⟩
   have hr1:=RdB.of_own ho1
   obtain ⟨a1,c1',rfl, -⟩:=hr1.open_
   have HR1:=Lib.hid hr1
   have HB1:=Lib.hid (HB.out.trans (hb1.mono HB.out.size))
   have HS1:=Lib.hid (HSR.out.below hb1 HSR.out.pos)
   clear ho1 hr1 hb1
   generalize stateB gn []=sb1 at *
   go_wp2_with fail
   refine (rblock_c 0 (.slice a1 sb1.length c1') sb1 w1.heap.size w1 HR1.out (Nat.le_refl _) (by omega)).mono ?_
   rintro e w2 ⟨⟨v2,rfl,ho2⟩,hb2⟩
   have hlb:(blockB (subI 0 sb1) sb1).length≤112:=by rw [blockB_len]; omega
   have hr2:=RdB.of_own ho2
   obtain ⟨a2,c2',rfl, -⟩:=hr2.open_
   have HR2:=Lib.hid hr2
   have HB2:=Lib.hid (HB1.out.trans (hb2.mono HB1.out.size))
   have HS2:=Lib.hid (HS1.out.below hb2 HS1.out.pos)
   clear ho2 hr2 hb2 HR1 HB1 HS1
   generalize blockB (subI 0 sb1) sb1=bk1 at *
   have hw1:IntKind.i64.wrap ((gn:Int) - 1)=((gn - 1:Nat):Int):=by rw [IntWalk.i64_in _ (by omega)]; omega
   have ha:=(Below.refl w2.heap.size w2).alloc (Nat.le_refl _) (.cells #[strV [113],.slice none 0 0] 96)
   have hbk:=Blk.new w2 96 [strV [113],.slice none 0 0]
   have HE:Hid (EntsAt (w2.alloc (.cells #[strV [113],.slice none 0 0] 96)) (w2.alloc (.cells #[strV [113],.slice none 0 0] 96)).heap.size (.slice (some ⟨w2.heap.size,0,none⟩) 1 1) [([113],[])]):=Lib.hid (by
    refine ⟨_,1,rfl,Nat.le_refl _,by unfold maxLen; omega,Or.inr ⟨w2.heap.size,0,rfl,by simp,fun j hj=>?_⟩⟩
    obtain rfl:j=0:=by simp at hj; omega
    exact ⟨.slice none 0 0,hbk.cell 0 (by simp),hbk.cell 1 (by simp),RdB.nil _ _⟩)
   have HR2b:=Lib.hid ((HR2.out.below ha).mono ha.size)
   have HB2b:=Lib.hid (HB2.out.trans (ha.mono HB2.out.size))
   have HS2b:=Lib.hid (HS2.out.below ha HS2.out.pos)
   clear ha hbk HR2 HB2 HS2 HB HSR
   have HSC:=Lib.hid (rstate_c (gn - 1) _ [([113],[])] _ _ HE.out (Nat.le_refl _) (by omega) (by decide))
   have hl2:(stateB (gn - 1) [([113],[])]).length≤100:=by have:=stateB_len (gn - 1) [([113],[])]; have e:pWt [([113],[])]=4:=rfl; omega
   go_wp2_with fail
   refine HSC.out.mono ?_
   rintro e w3 ⟨⟨v3,rfl,ho3⟩,hb3⟩
   have hr3:=RdB.of_own ho3
   obtain ⟨a3,c3',rfl, -⟩:=hr3.open_
   have HR3:=Lib.hid hr3
   have HR2c:=Lib.hid ((HR2b.out.below hb3).mono hb3.size)
   have HB3:=Lib.hid (HB2b.out.trans (hb3.mono HB2b.out.size))
   have HS3:=Lib.hid (HS2b.out.below hb3 HS2b.out.pos)
   clear ho3 hr3 hb3 HR2b HB2b HS2b HE HSC
   generalize stateB (gn - 1) [([113],[])]=sb2 at *
   go_wp2_with fail
   refine (rblock_c 0 (.slice a3 sb2.length c3') sb2 w3.heap.size w3 HR3.out (Nat.le_refl _) (by omega)).mono ?_
   rintro e w4 ⟨⟨v4,rfl,ho4⟩,hb4⟩
   have hlb2:(blockB (subI 0 sb2) sb2).length≤112:=by rw [blockB_len]; omega
   have hr4:=RdB.of_own ho4
   obtain ⟨a4,c4',rfl, -⟩:=hr4.open_
   have HR4:=Lib.hid hr4
   have HR2d:=Lib.hid ((HR2c.out.below hb4).mono hb4.size)
   have HB4:=Lib.hid (HB3.out.trans (hb4.mono HB3.out.size))
   have HS4:=Lib.hid (HS3.out.below hb4 HS3.out.pos)
   clear ho4 hr4 hb4 HR2c HB3 HS3 HR3
   generalize blockB (subI 0 sb2) sb2=bk2 at *
   have hbd:=Blk.new w4 28 [.int .i64 (-1),.slice a2 bk1.length c2',.slice a4 bk2.length c4']
   have ha:=(Below.refl w4.heap.size w4).alloc (Nat.le_refl _) (.cells #[.int .i64 (-1),.slice a2 bk1.length c2',.slice a4 bk2.length c4'] 28)
   have HBD:=Lib.hid hbd
   have HR4b:=Lib.hid ((HR4.out.below ha).mono ha.size)
   have HR2e:=Lib.hid ((HR2d.out.below ha).mono ha.size)
   have HB4b:=Lib.hid (HB4.out.trans (ha.mono HB4.out.size))
   have HS4b:=Lib.hid (HS4.out.below ha HS4.out.pos)
   clear hbd ha HR4 HR2d HB4 HS4
   go_upto_region 27 with (fail)
   change Code.wp _ _ _ _ (w4.alloc (.cells #[.int .i64 (-1),.slice a2 bk1.length c2',.slice a4 bk2.length c4'] 28))
   generalize w4.alloc (.cells #[.int .i64 (-1),.slice a2 bk1.length c2',.slice a4 bk2.length c4'] 28)=w5 at *
   generalize w4.heap.size=db at *
   have y0:=HBD.out.cell 0 (by simp)
   have y1:=HBD.out.cell 1 (by simp)
   have y2:=HBD.out.cell 2 (by simp)
   simp only [List.getD_cons_zero,List.getD_cons_succ] at y0 y1 y2
   have ha:=(Below.refl w5.heap.size w5).alloc (Nat.le_refl _) (.cells (arow (gActs)).toArray 41)
   obtain ⟨L,hL1,hL2,hL3⟩:=acts_at (Blk.new w5 41 (arow gActs)) gActs (gActs_ok _) (fun _ _ h=>h) (Nat.le_refl 6) (by unfold maxLen; omega)
   have HDO:=Lib.hid (does_c ⟨-1,bk1,bk2⟩ (.slice a2 bk1.length c2') (.slice a4 bk2.length c4') _ L _ (HS4b.out.below ha HS4b.out.pos) ((HR2e.out.below ha).mono ha.size) ((HR4b.out.below ha).mono ha.size) (by show bk1.length≤_; omega) (by show bk2.length≤_; omega) (by show (-1:Int)≤9223372036854775807; decide) hL1 hL3 (by have e:gActs.length=6:=rfl; omega))
   have HB6:=Lib.hid (HB4b.out.trans (ha.mono HB4b.out.size))
   have HS6:=Lib.hid (HS4b.out.below ha HS4b.out.pos)
   clear ha hL1 hL2 hL3 HBD HR4b HR2e HB4b HS4b
   go_wp2_with fail
   refine HDO.out.mono ?_
   rintro e w7 ⟨rfl,hb7⟩
   have HB7:=Lib.hid (HB6.out.trans (hb7.mono HB6.out.size))
   have HS7:=Lib.hid (HS6.out.below hb7 HS6.out.pos)
   clear hb7 HDO HB6 HS6 y0 y1 y2 hw1
   go_wp2
   go_roundw
   case rel=>exact ⟨i+1,by omega,by have:=HG.out; subst this; go_num,HB7.out,HS7.out⟩
   case measure=>have:=HG.out; subst this; simp [intOf]; omega
  ·obtain rfl:i=4:=by omega
   have b1:decide ((gn:Int)≤4611686018427387905)=false:=decide_eq_false (by omega)
   go_wp2_with fail
   exact HK.out _ _ _ _ _ _ _ _ _ _ _ _ _ _ _ _ _ _ _ _ _ _ _ _ _ _ _ _ _ HB.out HSR.out
set_option maxRecDepth 1000000 in
set_option maxHeartbeats 8000000 in
/-- great -/
theorem great_c (W:World) (hs:St W):Calls Tryz.prog 19 #[] W fun e w'=>e=.returned (.bool true)∧Below W.heap.size W w':=by
 have hmk:(Instr.makeSlice 25 (.int .i64 4000) (.int .i64 4000)).run Tryz.prog W=.ok (.slice (some ⟨W.heap.size,0,none⟩) 4000 4000) (W.alloc (zerC 4000)):=mk_zer 4000 (by omega) W
 have hb1:=(Below.refl W.heap.size W).alloc (Nat.le_refl _) (zerC 4000)
 have hb2:=hb1.alloc (by simp) (.cells #[.int .i64 1433,.int .i64 1434,.int .i64 1435] 3)
 have HB2:=Lib.hid hb2
 have HZ2:Hid (Blk ((W.alloc (zerC 4000)).alloc (.cells #[.int .i64 1433,.int .i64 1434,.int .i64 1435] 3)) W.heap.size 5 (ints .u8 (zeros 4000))):=Lib.hid ((zer_blk W 4000).alloc _)
 have H12:Hid (Blk ((W.alloc (zerC 4000)).alloc (.cells #[.int .i64 1433,.int .i64 1434,.int .i64 1435] 3)) (W.heap.size+1) 3 [.int .i64 1433,.int .i64 1434,.int .i64 1435]):=Lib.hid (Blk.at _ _ [.int .i64 1433,.int .i64 1434,.int .i64 1435] (by simp))
 have HS2:=Lib.hid (hs.below hb2 hs.pos)
 have HP:=Lib.hid hs.pos
 have HV:Hid (∀ x ∈ [Value.int .i64 1433,.int .i64 1434,.int .i64 1435],∃ n:Nat,n≤4000∧x=.int .i64 (n:Int)):=Lib.hid (by
  intro x hx
  simp only [List.mem_cons,List.not_mem_nil,or_false] at hx
  rcases hx with rfl | rfl | rfl
  ·exact ⟨1433,by omega,rfl⟩
  ·exact ⟨1434,by omega,rfl⟩
  ·exact ⟨1435,by omega,rfl⟩)
 clear hb1 hb2 hs
 go_enter Tryz.func19,Tryz.ntmps19
 go_upto_block 0 with (fail)
 change Code.wp _ _ _ _ ((W.alloc (zerC 4000)).alloc (.cells #[.int .i64 1433,.int .i64 1434,.int .i64 1435] 3))
 generalize hw2:(W.alloc (zerC 4000)).alloc (.cells #[.int .i64 1433,.int .i64 1434,.int .i64 1435] 3)=w2 at *
 clear hmk hw2
 refine great0 (B:=W.heap.size) w2 H12 rfl HV HZ2 HB2.out.size (Lib.hid ?_)
 intro d4 d5 d6 d14 d15 d16 d17 d18 d19 d20 d21 d22 d23 d24 d25 d26 d27 d28 d29 d30 d31 d32 d33 d34 d35 d36 d37 d38 d39 d40 d41 d42 d43 w3 lv hu
 have HU3:=Lib.hid hu
 obtain ⟨la,ln,lc,rfl⟩:=hu.lst.slice
 have HZ3:=Lib.hid (hu.kp.bk _ _ _ (by decide) (by decide) HZ2.out)
 have HB3:=Lib.hid (HB2.out.trans hu.be)
 have HS3:=Lib.hid (HS2.out.below hu.be HP.out)
 have HL3:=Lib.hid hu.lst
 clear hu HU3 HZ2 H12 HV
 dsimp only
 go_upto_block 4 with (fail)
 refine great4 (B:=W.heap.size) w3 HL3 HZ3 HB3.out.size (Lib.hid ?_)
 intro d7 d44 d45 d46 d47 d48 d49 d50 d51 d52 d53 d54 d55 d56 d57 w4 lv hu
 obtain ⟨la4,ln4,lc4,rfl⟩:=hu.lst.slice
 have HZ4:=Lib.hid (hu.kp.bk _ _ _ (by decide) (by decide) HZ3.out)
 have HB4:=Lib.hid (HB3.out.trans hu.be)
 have HS4:=Lib.hid (HS3.out.below hu.be HP.out)
 have HL4:=Lib.hid hu.lst
 clear hu HZ3 HB3 HS3 HL3 HB2 HS2
 dsimp only
 go_upto_block 6 with (fail)
 refine great6 (B:=W.heap.size) w4 HL4 HZ4 HB4.out.size (Lib.hid ?_)
 intro d8 d58 d59 d60 d61 d62 d63 d64 d65 d66 d67 d68 d69 d70 d71 d72 d73 w5 lv k hk hu
 obtain ⟨la5,ln5,lc5,rfl⟩:=hu.lst.slice
 have HB5:=Lib.hid (HB4.out.trans hu.be)
 have HS5:=Lib.hid (HS4.out.below hu.be HP.out)
 obtain ⟨L,hL1,hL2,hL3⟩:=hu.lst.acts
 have HDO:=Lib.hid (does_c ⟨-1,[],[]⟩ (.slice none 0 0) (.slice none 0 0) _ L w5 HS5.out (RdB.nil _ _) (RdB.nil _ _) (by simp) (by simp) (by show (-1:Int)≤9223372036854775807; decide) hL1 hL3 (by omega))
 clear hu HZ4 HB4 HS4 HL4 hL1 hL2 hL3
 dsimp only
 go_wp2_with fail
 refine HDO.out.mono ?_
 rintro e w6 ⟨rfl,hb6⟩
 have HB6:=Lib.hid (HB5.out.trans (hb6.mono HB5.out.size))
 have HS6:=Lib.hid (HS5.out.below hb6 HS5.out.pos)
 clear hb6 HDO HB5 HS5
 go_upto_block 8 with (fail)
 refine great8 w6 HS6 (Lib.hid ?_)
 intro d0 d9 d10 d78 d79 d80 d81 d82 d83 d84 d85 d86 d87 d88 d89 d90 d91 d92 d93 d94 d95 d96 d97 d98 d99 d100 d101 d102 w7 hb7 hs7
 have HB7:=Lib.hid (HB6.out.trans (hb7.mono HB6.out.size))
 clear hb7 hs7
 dsimp only
 go_wp2
 go_ret
 exact ⟨rfl,HB7.out⟩
end Go.Proofs.YtondomklkapogaaGreatDoor
