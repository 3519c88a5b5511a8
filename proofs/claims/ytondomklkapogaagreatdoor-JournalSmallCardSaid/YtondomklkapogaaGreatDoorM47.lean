/- JournalSmall: its loops, each walked by itself. -/
import Derived.Test.YtondomklkapogaaGreatDoorM46
import Derived.Deep.DeepMust
namespace Go.Proofs.YtondomklkapogaaGreatDoor
open Go.RowKit SeedP Go.Maps
set_option linter.unusedVariables false
/-- cells of zeros -/
abbrev zerC (n:Nat):Obj:=.cells (ints .u8 (zeros n)).toArray 5
theorem mk_zer (n:Nat) (hn:n≤1000000) (w:World):(Instr.makeSlice 25 (.int .i64 (n:Int)) (.int .i64 (n:Int))).run Tryz.prog w=.ok (.slice (some ⟨w.heap.size,0,none⟩) n n) (w.alloc (zerC n)):=by
 obtain ⟨i,hi,hz,hs1,hby⟩:=info_parts infoB
 exact make_ints 25 5 i .u8 Tryz.underlying25 hi hz hs1 (by rw [hby]; omega) n (by omega) w
theorem zer_blk (w:World) (n:Nat):Blk (w.alloc (zerC n)) w.heap.size 5 (ints .u8 (zeros n)):=Blk.new w 5 (ints .u8 (zeros n))
theorem zer_len (n:Nat):(ints .u8 (zeros n)).length=n:=by unfold ints zeros; simp
theorem zer_byte (n:Nat):∀ x ∈ ints .u8 (zeros n),∃ b:UInt8,x=.int .u8 b.toNat:=by
 intro x hx
 refine ⟨0,?_⟩
 unfold ints zeros at hx
 simp at hx
 rw [hx.2]; rfl
theorem zer_tb {w:World} {g n m:Nat} (h:Blk w g 5 (ints .u8 (zeros n))) (hn:m≤n) (hx:m≤10000) (hm:n≤1000000):TB w (.slice (some ⟨g,0,none⟩) m n):=
 Or.inr ⟨g,0,m,n,_,rfl,hn,by unfold maxLen; omega,hx,h,by rw [zer_len]; omega,zer_byte n⟩
theorem zer_rd {w:World} {g n m:Nat} (h:Blk w g 5 (ints .u8 (zeros n))) (hn:m≤n) (hm:n≤1000000):RdB w w.heap.size (.slice (some ⟨g,0,none⟩) m n) (List.replicate m 0):=by
 refine Or.inr ⟨g,0,n,by rw [List.length_replicate],by rw [List.length_replicate]; exact hn,by unfold maxLen; omega,h.lt,fun j hj=>?_⟩
 rw [List.length_replicate] at hj
 rw [Nat.zero_add,h.cell j (by rw [zer_len]; omega)]
 unfold ints zeros
 simp [List.getD_eq_getElem?_getD,hj,show j < n by omega]
theorem byte_tb (w:World) (n:Nat) (hn:n < 256):TB (w.alloc (.cells #[.int .u8 n] 5)) (.slice (some ⟨w.heap.size,0,none⟩) 1 1):=
 Or.inr ⟨w.heap.size,0,1,1,[.int .u8 n],rfl,Nat.le_refl _,by unfold maxLen; omega,by omega,Blk.new w _ [.int .u8 n],Nat.le_refl _,fun x hx=>by
  obtain rfl:=List.mem_singleton.1 hx
  exact ⟨UInt8.ofNat n,by rw [UInt8.toNat_ofNat',Nat.mod_eq_of_lt (by omega)]⟩⟩
set_option maxRecDepth 100000 in
/-- key -/
theorem skey_c (n:Nat) (hn:n≤60) (w:World):Calls Tryz.prog 18 #[.int .i64 (n:Int)] w fun e w'=>(∃ k:List UInt8,e=.returned (strV k)∧k.length=n)∧Below w.heap.size w w':=by
 have HM:=mk_zer n (by omega) w
 have HB:=Lib.hid ((Below.refl w.heap.size w).alloc (Nat.le_refl _) (zerC n))
 have HC:=Lib.hid (conv_c (zer_rd (zer_blk w n) (Nat.le_refl _) (by omega)))
 have hc:=HC.out
 unfold strV at hc
 go_enter Tryz.func18,Tryz.ntmps18
 go_wp2
 go_ret
 exact ⟨⟨List.replicate n 0,rfl,by simp⟩,HB.out⟩
/-- what a loop that adds acts leaves -/
structure Up1 (B:Nat) (w w':World) (lv:Value) (k:Nat):Prop where
 lst:Lst B w' lv k
 be:Below B w w'
 kp:KeepT w w'
theorem Up1.step {B k:Nat} {w w' w2:World} {v v':Value} {k':Nat} (h:Up1 B w w' v k) (hl:Lst B w2 v' k') (hb:Below B w' w2) (hk:KeepT w' w2):Up1 B w w2 v' k':=⟨hl,h.be.trans hb,h.kp.trans hk⟩
theorem Up1.below {B k:Nat} {w w' w2:World} {v:Value} (h:Up1 B w w' v k) (hB:B≤w.heap.size) (hb:Below w'.heap.size w' w2):Up1 B w w2 v k:=⟨h.lst.below hb,h.be.trans (hb.mono (Nat.le_trans hB h.be.size)),h.kp.trans (KeepT.of_below hb)⟩
theorem cell_nth {w:World} {g:Nat} {t:TypeId} {cs:List Value} {P:Value→Prop} (h:Blk w g t cs) (hP:∀ x ∈ cs,P x) (j:Nat) (hj:j < cs.length):∃ x,P x∧w.cell? ⟨g,j,none⟩=some x:=by
 refine ⟨cs[j],hP _ (List.getElem_mem hj),?_⟩
 rw [h.cell j hj,List.getD_eq_getElem?_getD,List.getElem?_eq_getElem hj,Option.getD_some]
theorem ga0 (w:World) (kind:Int) (vl:Value) (key:List UInt8) (vv:Value) (h1:TC w vl) (h2:key.length≤60) (h3:TB w vv):GA w ⟨kind,0,vl,key,vv⟩:=⟨by show (-9223372036854775808:Int)≤0; decide,by show (0:Int)≤9223372036854775807; decide,h1,h2,h3⟩
theorem ga1 (w:World) (kind:Int):GA w ⟨kind, -1,.slice none 0 0,[],.slice none 0 0⟩:=⟨by show (-9223372036854775808:Int)≤ -1; decide,by show (-1:Int)≤9223372036854775807; decide,TC.nil w,by simp,TB.nil w⟩
noncomputable def csB0:Code:=((Tryz.f5.body.bind (findB 0)).getD .skip)
set_option maxRecDepth 1000000 in
set_option maxHeartbeats 8000000 in
theorem small0 {K:Act→World→Prop} {Q':Exit→Act→World→Prop} {c0 c3 c4 c5 c6 c7 c8 c9 c10 c11 c12 c13 c17 c18 c19 c20 c21 c22 c23 c24 c25 c26 c27 c28 c29 c30 c31 c32 c33 c34 c35 c36 c37 c38 c39 c40 c41 c42 c43 c44 c45 c46 c47 c48 c49 c50 c51 c52 c53 c54 c55 c56 c57 c58 c59 c60 c61 c62 c63 c64 c65 c66 c67 c68 c69 c70 c71 c72 c73 c74 c75 c76 c77 c78 c79 c80 c81 c82 c83 c84 c85 c86 c87 c88 c89 c90 c91 c92 c93 c94 c95 c96 c97 c98 c99 c100 c101 c102 c103 c104 c105 c106 c107 c108 c109 c110 c111 c112 c113 c114 c115 c116 c117 c118 c119 c120 c121 c122 c123 c124 c125 c126 c127 c128 c129 c130 c131 c132 c133 c134 c135 c136 c137 c138 c139 c140 c141 c142 c143 c144 c145 c146 c147 c148 c149 c150 c151 c152 c153 c154 c155:Value} {B g14:Nat} {cs14:List Value} (w:World) (h14:Hid (Blk w g14 3 cs14)) (h14n:cs14.length=6) (h14v:Hid (∀ x ∈ cs14,∃ n:Nat,n≤41∧x=.int .i64 (n:Int))) (hB:B≤w.heap.size)
 (HK:Hid (∀ (d4 d16 d17 d18 d19 d20 d21 d22 d23 d24 d25 d26 d27 d28 d29 d30 d31 d32 d33 d34 d35 d36 d37 d38:Value) (w':World) (lv:Value),Up1 B w w' lv 18→K ⟨#[c0,.func (.func 18) #[] #[],lv,c3,d4,c5,c6,c7,c8,c9,c10,c11,c12,c13,.slice (some ⟨g14,0,none⟩) 6 6,.int .i64 6,d16,d17,d18,d19,d20,d21,d22,d23,d24,d25,d26,d27,d28,d29,d30,d31,d32,d33,d34,d35,d36,d37,d38,c39,c40,c41,c42,c43,c44,c45,c46,c47,c48,c49,c50,c51,c52,c53,c54,c55,c56,c57,c58,c59,c60,c61,c62,c63,c64,c65,c66,c67,c68,c69,c70,c71,c72,c73,c74,c75,c76,c77,c78,c79,c80,c81,c82,c83,c84,c85,c86,c87,c88,c89,c90,c91,c92,c93,c94,c95,c96,c97,c98,c99,c100,c101,c102,c103,c104,c105,c106,c107,c108,c109,c110,c111,c112,c113,c114,c115,c116,c117,c118,c119,c120,c121,c122,c123,c124,c125,c126,c127,c128,c129,c130,c131,c132,c133,c134,c135,c136,c137,c138,c139,c140,c141,c142,c143,c144,c145,c146,c147,c148,c149,c150,c151,c152,c153,c154,c155],[]⟩ w')) :
 Code.wp Tryz.prog csB0 (Exit.then K Q') ⟨#[c0,.func (.func 18) #[] #[],.slice none 0 0,c3,c4,c5,c6,c7,c8,c9,c10,c11,c12,c13,.slice (some ⟨g14,0,none⟩) 6 6,.int .i64 6,.int .i64 0,c17,c18,c19,c20,c21,c22,c23,c24,c25,c26,c27,c28,c29,c30,c31,c32,c33,c34,c35,c36,c37,c38,c39,c40,c41,c42,c43,c44,c45,c46,c47,c48,c49,c50,c51,c52,c53,c54,c55,c56,c57,c58,c59,c60,c61,c62,c63,c64,c65,c66,c67,c68,c69,c70,c71,c72,c73,c74,c75,c76,c77,c78,c79,c80,c81,c82,c83,c84,c85,c86,c87,c88,c89,c90,c91,c92,c93,c94,c95,c96,c97,c98,c99,c100,c101,c102,c103,c104,c105,c106,c107,c108,c109,c110,c111,c112,c113,c114,c115,c116,c117,c118,c119,c120,c121,c122,c123,c124,c125,c126,c127,c128,c129,c130,c131,c132,c133,c134,c135,c136,c137,c138,c139,c140,c141,c142,c143,c144,c145,c146,c147,c148,c149,c150,c151,c152,c153,c154,c155],[]⟩ w:=by
 conv=>arg 2; whnf
 have W0:=Lib.hid (Up1.mk (Lst.nil B w 0) (Below.refl B w) (KeepT.refl w))
 go_wp2
 go_loopw [2,16] (fun lv iv wr=>∃ i:Nat,i≤6∧iv=.int .i64 i∧Up1 B w wr lv (3 * i)) (fun _ i _=>6 - (intOf i).toNat)
 case atStart=>exact ⟨0,by omega,rfl,W0.out⟩
 case round=>
  obtain ⟨i,hi,rfl,hl⟩:=hrel
  obtain ⟨la,ln,lc,rfl⟩:=hl.lst.slice
  have HU:=Lib.hid hl
  by_cases hlt:i < 6
  ·have b1:decide ((i:Int) < 6)=true:=decide_eq_true (by omega)
   have b2:(i:Int) < 6:=by omega
   obtain ⟨x,⟨n,hn,rfl⟩,hc⟩:=cell_nth (hl.kp.bk _ _ _ (by decide) (by decide) h14.out) h14v.out i (by omega)
   have HK1:=Lib.hid (fun w=>skey_c n (by omega) w)
   clear hl
   go_wp2_with fail
   refine (HK1.out _).mono ?_
   rintro e w2 ⟨⟨k1,rfl,hk1⟩,hb2⟩
   have HU2:=Lib.hid (HU.out.below hB hb2)
   clear hb2 hc HU
   have hw8:IntKind.u8.wrap (n:Int)=(n:Int):=IntWalk.u8_in _ (by omega)
   have hba:=(Below.refl w2.heap.size w2).alloc (Nat.le_refl _) (.cells #[.int .u8 (n:Int)] 5)
   have HV:=Lib.hid (byte_tb w2 n (by omega))
   have HU3:=Lib.hid (HU2.out.below hB hba)
   clear hba
   go_wp2_with fail
   refine (HK1.out _).mono ?_
   rintro e w4 ⟨⟨k2,rfl,hk2⟩,hb4⟩
   have HU4:=Lib.hid (HU3.out.below hB hb4)
   have HV4:=Lib.hid ((KeepT.of_below hb4).tb _ HV.out)
   clear hb4 HU3 HV HU2
   go_wp2_with fail
   refine (HK1.out _).mono ?_
   rintro e w5 ⟨⟨k3,rfl,hk3⟩,hb5⟩
   have HU5:=Lib.hid (HU4.out.below hB hb5)
   have HV5:=Lib.hid ((KeepT.of_below hb5).tb _ HV4.out)
   clear hb5 HU4 HV4
   generalize w2.heap.size=vb at *
   go_wp2_with (at_builtin; go_must (refine wpList_acts rfl _ _ rfl rfl (HU5.out.lst.below ((Below.refl w5.heap.size w5).alloc (Nat.le_refl _) _)) w5.heap.size 3 [⟨4,0,.slice none 0 0,k1,.slice (some ⟨vb,0,none⟩) 1 1⟩,⟨5,0,.slice none 0 0,k2,.slice none 0 0⟩,⟨4,0,.slice none 0 0,k3,.slice none 0 0⟩] rfl rfl (Blk.new w5 41 _) ?_ (by omega) (by have:=HU5.out.be.size; simp; omega) ?_))
   ·intro a ha
    simp only [List.mem_cons,List.not_mem_nil,or_false] at ha
    rcases ha with rfl | rfl | rfl
    ·exact ga0 _ _ _ _ _ (TC.nil _) (by show k1.length≤60; omega) ((KeepT.alloc _ _).tb _ HV5.out)
    ·exact ga0 _ _ _ _ _ (TC.nil _) (by show k2.length≤60; omega) (TB.nil _)
    ·exact ga0 _ _ _ _ _ (TC.nil _) (by show k3.length≤60; omega) (TB.nil _)
   intro v6 w6 hl6 hb6 hk6
   have HU6:=Lib.hid ((HU5.out.below hB ((Below.refl w5.heap.size w5).alloc (Nat.le_refl _) _)).step hl6 hb6 hk6)
   obtain ⟨a6,n6,c6',rfl⟩:=hl6.slice
   clear hl6 hb6 hk6 HU5 HV5
   go_wp2
   go_roundw
   case rel=>exact ⟨i+1,by omega,by go_num,HU6.out⟩
   case measure=>simp [intOf]; omega
  ·obtain rfl:i=6:=by omega
   go_wp2_with fail
   exact HK.out _ _ _ _ _ _ _ _ _ _ _ _ _ _ _ _ _ _ _ _ _ _ _ _ _ _ HU.out
noncomputable def csB2:Code:=((Tryz.f5.body.bind (findB 2)).getD .skip)
set_option maxRecDepth 1000000 in
set_option maxHeartbeats 8000000 in
theorem small2 {K:Act→World→Prop} {Q':Exit→Act→World→Prop} {c0 c1 c3 c4 c6 c7 c8 c9 c10 c11 c12 c13 c14 c15 c16 c17 c18 c19 c20 c21 c22 c23 c24 c25 c26 c27 c28 c29 c30 c31 c32 c33 c34 c35 c36 c37 c38 c39 c40 c41 c42 c43 c44 c45 c46 c47 c48 c49 c50 c51 c52 c53 c54 c55 c56 c57 c58 c59 c60 c61 c62 c63 c64 c65 c66 c67 c68 c69 c70 c71 c72 c73 c74 c75 c76 c77 c78 c79 c80 c81 c82 c83 c84 c85 c86 c87 c88 c89 c90 c91 c92 c93 c94 c95 c96 c97 c98 c99 c100 c101 c102 c103 c104 c105 c106 c107 c108 c109 c110 c111 c112 c113 c114 c115 c116 c117 c118 c119 c120 c121 c122 c123 c124 c125 c126 c127 c128 c129 c130 c131 c132 c133 c134 c135 c136 c137 c138 c139 c140 c141 c142 c143 c144 c145 c146 c147 c148 c149 c150 c151 c152 c153 c154 c155:Value} {B:Nat} {la:Option Addr} {ln lc:Nat} (w:World) (HL:Hid (Lst B w (.slice la ln lc) 18)) (hB:B≤w.heap.size)
 (HK:Hid (∀ (d5 d39 d40 d41 d42 d43 d44 d45 d46 d47 d48:Value) (w':World) (lv:Value),Up1 B w w' lv 21→K ⟨#[c0,c1,lv,c3,c4,d5,c6,c7,c8,c9,c10,c11,c12,c13,c14,c15,c16,c17,c18,c19,c20,c21,c22,c23,c24,c25,c26,c27,c28,c29,c30,c31,c32,c33,c34,c35,c36,c37,c38,d39,d40,d41,d42,d43,d44,d45,d46,d47,d48,c49,c50,c51,c52,c53,c54,c55,c56,c57,c58,c59,c60,c61,c62,c63,c64,c65,c66,c67,c68,c69,c70,c71,c72,c73,c74,c75,c76,c77,c78,c79,c80,c81,c82,c83,c84,c85,c86,c87,c88,c89,c90,c91,c92,c93,c94,c95,c96,c97,c98,c99,c100,c101,c102,c103,c104,c105,c106,c107,c108,c109,c110,c111,c112,c113,c114,c115,c116,c117,c118,c119,c120,c121,c122,c123,c124,c125,c126,c127,c128,c129,c130,c131,c132,c133,c134,c135,c136,c137,c138,c139,c140,c141,c142,c143,c144,c145,c146,c147,c148,c149,c150,c151,c152,c153,c154,c155],[]⟩ w')) :
 Code.wp Tryz.prog csB2 (Exit.then K Q') ⟨#[c0,c1,.slice la ln lc,c3,c4,.int .i64 4095,c6,c7,c8,c9,c10,c11,c12,c13,c14,c15,c16,c17,c18,c19,c20,c21,c22,c23,c24,c25,c26,c27,c28,c29,c30,c31,c32,c33,c34,c35,c36,c37,c38,c39,c40,c41,c42,c43,c44,c45,c46,c47,c48,c49,c50,c51,c52,c53,c54,c55,c56,c57,c58,c59,c60,c61,c62,c63,c64,c65,c66,c67,c68,c69,c70,c71,c72,c73,c74,c75,c76,c77,c78,c79,c80,c81,c82,c83,c84,c85,c86,c87,c88,c89,c90,c91,c92,c93,c94,c95,c96,c97,c98,c99,c100,c101,c102,c103,c104,c105,c106,c107,c108,c109,c110,c111,c112,c113,c114,c115,c116,c117,c118,c119,c120,c121,c122,c123,c124,c125,c126,c127,c128,c129,c130,c131,c132,c133,c134,c135,c136,c137,c138,c139,c140,c141,c142,c143,c144,c145,c146,c147,c148,c149,c150,c151,c152,c153,c154,c155],[]⟩ w:=by
 conv=>arg 2; whnf
 have W0:=Lib.hid (Up1.mk HL.out (Below.refl B w) (KeepT.refl w))
 go_wp2
 go_loopw [2,5] (fun lv iv wr=>∃ i:Nat,i≤3∧iv=.int .i64 ((4095+i:Nat):Int)∧Up1 B w wr lv (18+i)) (fun _ i _=>4098 - (intOf i).toNat)
 case atStart=>exact ⟨0,by omega,rfl,W0.out⟩
 case round=>
  obtain ⟨i,hi,rfl,hl⟩:=hrel
  obtain ⟨la,ln,lc,rfl⟩:=hl.lst.slice
  have HU:=Lib.hid hl
  clear hl
  generalize hm:4095+i=m at *
  by_cases hlt:i < 3
  ·have b1:decide ((m:Int)≤4097)=true:=decide_eq_true (by omega)
   have b2:(m:Int)≤4097:=by omega
   have hmk:=mk_zer m (by omega) wr
   have hba:=(Below.refl wr.heap.size wr).alloc (Nat.le_refl _) (zerC m)
   have HU1:=Lib.hid (HU.out.below hB hba)
   have HV:=Lib.hid (zer_tb (zer_blk wr m) (Nat.le_refl _) (by omega) (by omega))
   clear hba
   go_wp2_with (at_builtin; go_must (refine wpList_acts rfl _ _ rfl rfl (HU1.out.lst.below ((Below.refl _ _).alloc (Nat.le_refl _) _)) _ 1 [⟨4,0,.slice none 0 0,[118],.slice (some ⟨wr.heap.size,0,none⟩) m m⟩] rfl rfl (Blk.at _ _ _ (by simp)) ?_ (by omega) (by have:=HU1.out.be.size; simp at this ⊢; omega) ?_))
   ·intro a ha
    obtain rfl:=List.mem_singleton.1 ha
    exact ga0 _ _ _ _ _ (TC.nil _) (by decide) ((KeepT.alloc _ _).tb _ HV.out)
   intro v6 w6 hl6 hb6 hk6
   have HU6:=Lib.hid ((HU1.out.below hB ((Below.refl _ _).alloc (Nat.le_refl _) _)).step hl6 hb6 hk6)
   obtain ⟨a6,n6,c6',rfl⟩:=hl6.slice
   clear hl6 hb6 hk6 HU1 HV hmk HU
   go_wp2
   go_roundw
   case rel=>exact ⟨i+1,by omega,by subst hm; go_num,HU6.out⟩
   case measure=>subst hm; simp [intOf]; omega
  ·obtain rfl:i=3:=by omega
   have b1:decide ((m:Int)≤4097)=false:=decide_eq_false (by omega)
   go_wp2_with fail
   exact HK.out _ _ _ _ _ _ _ _ _ _ _ _ _ HU.out
section
variable {ρ:Operand→Value} {d:Option Tmp} {ty:TypeId} {pos:String} {af:Array Edge} {gd:Option (Nat × Bool)}
theorem xs_conv8 (x:Operand) (n:Nat) (w:World) (hx:ρ x=.int .i64 (n:Int)) (hn:n < 256):(execOp ρ ⟨d,.convert 3 5 x,ty,pos,af,gd⟩).run Tryz.prog w=.ok (.value (.int .u8 (n:Int))) w:=by
 have hw:IntKind.u8.wrap (n:Int)=(n:Int):=IntWalk.u8_in _ (by omega)
 simp [go_sem,hx,hw]
theorem xs_kcat (hρ:∀ v,ρ (.const v)=v) (y:Operand) (b:UInt8) (w:World) (hy:ρ y=strV [b]):(execOp ρ ⟨d,.binOp .add 9 (.const (.string ⟨#[107]⟩)) y 9,ty,pos,af,gd⟩).run Tryz.prog w=.ok (.value (strV [107,b])) w:=by
 simp [go_sem,hρ,hy]
 rfl
theorem xs_mkz (x y:Operand) (n:Nat) (w:World) (hx:ρ x=.int .i64 (n:Int)) (hy:ρ y=.int .i64 (n:Int)) (hn:n≤1000000):(execOp ρ ⟨d,.makeSlice 25 x y,ty,pos,af,gd⟩).run Tryz.prog w=.ok (.value (.slice (some ⟨w.heap.size,0,none⟩) n n)) (w.alloc (zerC n)):=by
 have h:=mk_zer n hn w
 unfold execOp
 simp only [Sem.run_bind,Sem.run_pure,Result.andThen_ok,hx,hy,h]
theorem xs_bsB (x:Operand) (n:Int) (w:World) (hx:ρ x=.int .u8 n):(execOp ρ ⟨d,.buildSlice 25 1 #[(0,x)],ty,pos,af,gd⟩).run Tryz.prog w=.ok (.value (.slice (some ⟨w.heap.size,0,none⟩) 1 1)) (w.alloc (.cells #[.int .u8 n] 5)):=by
 simp [go_sem,hx]
theorem xs_bch (x y:Operand) (s:ByteArray) (a:Option Addr) (n c:Nat) (w:World) (hx:ρ x=.string s) (hy:ρ y=.slice a n c):(execOp ρ ⟨d,.build 60 #[(0,x),(1,y)],ty,pos,af,gd⟩).run Tryz.prog w=.ok (.value (.agg #[.string s,.slice a n c,.bool false])) w:=by
 simp [go_sem,hx,hy]
end
theorem turn_chg {Y:Nat→Option Bool} {b:Act} {w:World} {Q:Value→World→Prop} {d:Option Tmp} {ty:TypeId} {pos:String} {af:Array Edge} {gd:Option (Nat × Bool)} (s x:Operand) (hw:Region.wanted ⟨d,.call { callee:=.builtin .append,args:=#[s,x],argTypes:=#[39,39] },ty,pos,af,gd⟩ Y=true)
 {C:Nat} {v:Value} {xs:List (Chg × Value)} (hs:b.eval s=v) (h:CRow C w v xs) (q:Nat) (y:Chg × Value) (hx:b.eval x=.slice (some ⟨q,0,none⟩) 1 1) (hb:Blk w q 60 (chgCells y)) (hy:y.1.key.length≤60∧TB w y.2) (hk:xs.length≤100000) (hC:C≤w.heap.size)
 (hQ:∀ v' w',CRow C w' v' (xs ++ [y])→Below C w w'→Q v' w'):TurnOk Tryz.prog Y b w ⟨d,.call { callee:=.builtin .append,args:=#[s,x],argTypes:=#[39,39] },ty,pos,af,gd⟩ Q:=by
 obtain ⟨v',w',hr,h1,_,h3,_,_⟩:=chg_run h ty q y hb hy hk hC
 refine turn_run hw v' w' ?_ (hQ v' w' h1 h3)
 unfold execOp
 simp only [resolve,invoke,builtin,Sem.run_bind,Sem.run_pure,Result.andThen_ok,List.map_toArray,List.map_cons,List.map_nil,hs,hx,hr]
/-- while one change is made -/
structure OcG (W:World) (C:Nat) (cv:Value) (xs:List (Chg × Value)) (b:UInt8) (ds:List Bool) (vs:List Value) (w:World):Prop where
 gb:Below C W w
 sz:W.heap.size≤w.heap.size
 gc:ds.getD 4 false=false→CRow C w cv xs
 g0:ds.getD 0 false=true→ds.getD 4 false=false→RdB w w.heap.size (vs.getD 0 undef) [b]
 g1:ds.getD 1 false=true→ds.getD 4 false=false→TB w (vs.getD 1 undef)
 g2:ds.getD 2 false=true→vs.getD 2 undef=.agg #[strV [107,b],vs.getD 1 undef,.bool false]
 g3:ds.getD 3 false=true→ds.getD 4 false=false→∃ q,vs.getD 3 undef=.slice (some ⟨q,0,none⟩) 1 1∧Blk w q 60 (chgCells (⟨[107,b],[],false⟩,vs.getD 1 undef))
 g4:ds.getD 4 false=true→∃ y,CRow C w (vs.getD 4 undef) (xs ++ [y])
 g5:ds.getD 5 false=true→vs.getD 5 undef=vs.getD 4 undef
noncomputable def csB6:Code:=((Tryz.f5.body.bind (findB 6)).getD .skip)
set_option maxRecDepth 1000000 in
set_option maxHeartbeats 8000000 in
theorem small6 {K:Act→World→Prop} {Q':Exit→Act→World→Prop} {c0 c1 c2 c3 c4 c5 c6 c10 c11 c12 c13 c14 c15 c16 c17 c18 c19 c20 c21 c22 c23 c24 c25 c26 c27 c28 c29 c30 c31 c32 c33 c34 c35 c36 c37 c38 c39 c40 c41 c42 c43 c44 c45 c46 c47 c48 c49 c50 c51 c52 c53 c54 c55 c56 c57 c58 c59 c60 c61 c62 c63 c64 c65 c66 c67 c68 c69 c70 c71 c72 c73 c74 c75 c76 c77 c78 c79 c80 c81 c82 c83 c84 c85 c86 c87 c88 c89 c90 c91 c92 c93 c94 c95 c96 c97 c98 c99 c100 c101 c102 c103 c104 c105 c106 c107 c108 c109 c110 c111 c112 c113 c114 c115 c116 c117 c118 c119 c120 c121 c122 c123 c124 c125 c126 c127 c128 c129 c130 c131 c132 c133 c134 c135 c136 c137 c138 c139 c140 c141 c142 c143 c144 c145 c146 c147 c148 c149 c150 c151 c152 c153 c154 c155:Value} {n:Nat} (w:World) (hn:n≤65)
 (HK:Hid (∀ (d9 d55 d56 d57 d58 d59 d60 d61 d62 d63 d64 d65 d66 d67 d68 d69 d70:Value) (w':World) (ca:Option Addr) (cc:Nat) (xs:List (Chg × Value)),xs.length=n→CRow w.heap.size w' (.slice ca xs.length cc) xs→Below w.heap.size w w'→K ⟨#[c0,c1,c2,c3,c4,c5,c6,.int .i64 (n:Int),.slice ca xs.length cc,d9,c10,c11,c12,c13,c14,c15,c16,c17,c18,c19,c20,c21,c22,c23,c24,c25,c26,c27,c28,c29,c30,c31,c32,c33,c34,c35,c36,c37,c38,c39,c40,c41,c42,c43,c44,c45,c46,c47,c48,c49,c50,c51,c52,c53,c54,d55,d56,d57,d58,d59,d60,d61,d62,d63,d64,d65,d66,d67,d68,d69,d70,c71,c72,c73,c74,c75,c76,c77,c78,c79,c80,c81,c82,c83,c84,c85,c86,c87,c88,c89,c90,c91,c92,c93,c94,c95,c96,c97,c98,c99,c100,c101,c102,c103,c104,c105,c106,c107,c108,c109,c110,c111,c112,c113,c114,c115,c116,c117,c118,c119,c120,c121,c122,c123,c124,c125,c126,c127,c128,c129,c130,c131,c132,c133,c134,c135,c136,c137,c138,c139,c140,c141,c142,c143,c144,c145,c146,c147,c148,c149,c150,c151,c152,c153,c154,c155],[]⟩ w')) :
 Code.wp Tryz.prog csB6 (Exit.then K Q') ⟨#[c0,c1,c2,c3,c4,c5,c6,.int .i64 (n:Int),.slice none 0 0,.int .i64 0,c10,c11,c12,c13,c14,c15,c16,c17,c18,c19,c20,c21,c22,c23,c24,c25,c26,c27,c28,c29,c30,c31,c32,c33,c34,c35,c36,c37,c38,c39,c40,c41,c42,c43,c44,c45,c46,c47,c48,c49,c50,c51,c52,c53,c54,c55,c56,c57,c58,c59,c60,c61,c62,c63,c64,c65,c66,c67,c68,c69,c70,c71,c72,c73,c74,c75,c76,c77,c78,c79,c80,c81,c82,c83,c84,c85,c86,c87,c88,c89,c90,c91,c92,c93,c94,c95,c96,c97,c98,c99,c100,c101,c102,c103,c104,c105,c106,c107,c108,c109,c110,c111,c112,c113,c114,c115,c116,c117,c118,c119,c120,c121,c122,c123,c124,c125,c126,c127,c128,c129,c130,c131,c132,c133,c134,c135,c136,c137,c138,c139,c140,c141,c142,c143,c144,c145,c146,c147,c148,c149,c150,c151,c152,c153,c154,c155],[]⟩ w:=by
 conv=>arg 2; whnf
 have W0:=Lib.hid (And.intro (CRow.nil w.heap.size w) (Below.refl w.heap.size w))
 have HC0:Hid (w.heap.size=w.heap.size):=Lib.hid rfl
 go_wp2
 go_loopw [8,9] (fun cv iv wr=>∃ (i:Nat) (xs:List (Chg × Value)),i≤n∧iv=.int .i64 (i:Int)∧xs.length=i∧CRow w.heap.size wr cv xs∧Below w.heap.size w wr) (fun _ i _=>n - (intOf i).toNat)
 case atStart=>exact ⟨0,[],by omega,rfl,rfl,W0.out.1,W0.out.2⟩
 case round=>
  obtain ⟨i,xs,hi,rfl,hx,hcr,hbw⟩:=hrel
  obtain ⟨ca,cc,rfl⟩:=hcr.slice
  have HX:=Lib.hid hcr
  have HBW:=Lib.hid hbw
  have hC0:w.heap.size≤wr.heap.size:=hbw.size
  clear hcr hbw W0 HC0
  generalize w.heap.size=C at *
  by_cases hlt:i < n
  ·have b1:decide ((i:Int) < (n:Int))=true:=decide_eq_true (by omega)
   obtain ⟨b,hbi⟩:∃ b:UInt8,(b.toNat:Int)=(i:Int):=⟨UInt8.ofNat i,by rw [UInt8.toNat_ofNat']; omega⟩
   go_upto_region 19 with (fail)
   refine wp_region_mixL (by kernel_rfl) 11 8 _ rfl rfl (by kernel_rfl) (by kernel_rfl) (Nat.le_of_ble_eq_true (by kernel_rfl)) [some (.slice ca xs.length cc),some (.int .i64 (i:Int)),some (.int .u8 (i:Int)),none,some (strV [b]),some (strV [107,b]),some (.int .i64 (i:Int)),none,none,none,none,none] [3,7,8,9,10,11] (by kernel_rfl) (by kernel_rfl) (by kernel_rfl) (OcG wr C (.slice ca xs.length cc) xs b) ⟨(bl_drew wr).mono hC0,Nat.le_refl _,fun _=>HX.out.below (bl_drew wr),(fun h=>by cases h),(fun h=>by cases h),(fun h=>by cases h),(fun h=>by cases h),(fun h=>by cases h),(fun h=>by cases h)⟩ ?_ ?_
   ·refine EachI.cons (MixOkL.pure (by kernel_rfl) (fun _=>by kernel_rfl) (fun _ _=>by kernel_rfl)) ?_
    refine EachI.cons (MixOkL.pure (by kernel_rfl) (fun _=>by kernel_rfl) (fun _ _=>by kernel_rfl)) ?_
    refine EachI.cons (MixOkL.pure (by kernel_rfl) (fun _=>by kernel_rfl) (fun _ wx=>xs_conv8 _ i wx (by kernel_rfl) (by omega))) ?_
    refine EachI.cons (MixOkL.turn (by kernel_rfl) (fun dn ws wx hG hdep hcl hni=>?_)) ?_
    ·have h4:=not_done (hcl 4 3 (by kernel_rfl)) hni
     have h5:=not_done (hcl 5 4 (by kernel_rfl)) h4
     have h8:=not_done (hcl 8 5 (by kernel_rfl)) h5
     have h9:=not_done (hcl 9 8 (by kernel_rfl)) h8
     have h10:=not_done (hcl 10 9 (by kernel_rfl)) h9
     have h11:=not_done (hcl 11 10 (by kernel_rfl)) h10
     have hbl:=(Below.refl wx.heap.size wx).alloc (Nat.le_refl _) (.cells #[.int .u8 (i:Int)] 5)
     refine turn_run (by kernel_rfl) _ _ (xs_bsB _ (i:Int) wx (by kernel_rfl)) ⟨hG.gb.trans (hbl.mono (Nat.le_trans hC0 hG.sz)),Nat.le_trans hG.sz hbl.size,fun h=>(hG.gc h).below hbl,fun _ _=>?_,fun h1 h2=>(KeepT.of_below hbl).tb _ (hG.g1 h1 h2),hG.g2,fun h1 h2=>by obtain ⟨q,e,h⟩:=hG.g3 h1 h2; exact ⟨q,e,h.below hbl⟩,(fun h=>by have h:dn 10=true:=h; rw [h10] at h; cases h),(fun h=>by have h:dn 11=true:=h; rw [h11] at h; cases h)⟩
     have h:=rdB_lit wx [b] (by simp [maxLen]) 1 rfl
     simp only [byts,List.map_cons,List.map_nil,hbi] at h
     exact h.mono (by simp)
    refine EachI.cons (MixOkL.look (by kernel_rfl) (fun _=>by kernel_rfl) (fun dn ws wx hG hdep hcl hni=>xr_bstr _ _ _ _ _ _ _ (ws 3) _ [b] wx (by kernel_rfl) (hG.g0 (hdep 3 (by kernel_rfl)) (not_done (hcl 10 9 (by kernel_rfl)) (not_done (hcl 9 8 (by kernel_rfl)) (not_done (hcl 8 5 (by kernel_rfl)) (not_done (hcl 5 4 (by kernel_rfl)) hni))))))) ?_
    refine EachI.cons (MixOkL.pure (by kernel_rfl) (fun _=>by kernel_rfl) (fun _ wx=>xs_kcat (fun _=>rfl) _ b wx (by kernel_rfl))) ?_
    refine EachI.cons (MixOkL.pure (by kernel_rfl) (fun _=>by kernel_rfl) (fun _ _=>by kernel_rfl)) ?_
    refine EachI.cons (MixOkL.turn (by kernel_rfl) (fun dn ws wx hG hdep hcl hni=>?_)) ?_
    ·have h8:=not_done (hcl 8 7 (by kernel_rfl)) hni
     have h9:=not_done (hcl 9 8 (by kernel_rfl)) h8
     have h10:=not_done (hcl 10 9 (by kernel_rfl)) h9
     have h11:=not_done (hcl 11 10 (by kernel_rfl)) h10
     have hbl:=(Below.refl wx.heap.size wx).alloc (Nat.le_refl _) (zerC i)
     exact turn_run (by kernel_rfl) _ _ (xs_mkz _ _ i wx (by kernel_rfl) (by kernel_rfl) (by omega)) ⟨hG.gb.trans (hbl.mono (Nat.le_trans hC0 hG.sz)),Nat.le_trans hG.sz hbl.size,fun h=>(hG.gc h).below hbl,fun h1 h2=>((hG.g0 h1 h2).below hbl).mono hbl.size,fun _ _=>zer_tb (zer_blk wx i) (Nat.le_refl _) (by omega) (by omega),(fun h=>by have h:dn 8=true:=h; rw [h8] at h; cases h),(fun h _=>by have h:dn 9=true:=h; rw [h9] at h; cases h),(fun h=>by have h:dn 10=true:=h; rw [h10] at h; cases h),(fun h=>by have h:dn 11=true:=h; rw [h11] at h; cases h)⟩
    refine EachI.cons (MixOkL.turn (by kernel_rfl) (fun dn ws wx hG hdep hcl hni=>?_)) ?_
    ·have h9:=not_done (hcl 9 8 (by kernel_rfl)) hni
     have h10:=not_done (hcl 10 9 (by kernel_rfl)) h9
     have htb:=hG.g1 (hdep 7 (by kernel_rfl)) h10
     obtain ⟨a7,n7,c7,e7⟩:=htb.slice
     have e7:ws 7=.slice a7 n7 c7:=e7
     exact turn_run (by kernel_rfl) _ wx (xs_bch _ _ ⟨#[107,b]⟩ a7 n7 c7 wx (by kernel_rfl) (Eq.trans (b:=ws 7) (by kernel_rfl) e7)) ⟨hG.gb,hG.sz,hG.gc,hG.g0,hG.g1,fun _=>by show Value.agg _=Value.agg #[strV [107,b],ws 7,.bool false]; rw [e7],(fun h _=>by have h:dn 9=true:=h; rw [h9] at h; cases h),hG.g4,hG.g5⟩
    refine EachI.cons (MixOkL.turn (by kernel_rfl) (fun dn ws wx hG hdep hcl hni=>?_)) ?_
    ·have h10:=not_done (hcl 10 9 (by kernel_rfl)) hni
     have h11:=not_done (hcl 11 10 (by kernel_rfl)) h10
     have d8:=hdep 8 (by kernel_rfl)
     have htb:=hG.g1 (hcl 8 7 (by kernel_rfl) d8) h10
     obtain ⟨a7,n7,c7,e7⟩:=htb.slice
     have e7:ws 7=.slice a7 n7 c7:=e7
     have e8:ws 8=.agg #[strV [107,b],ws 7,.bool false]:=hG.g2 d8
     rw [e7] at e8
     have hbl:=(Below.refl wx.heap.size wx).alloc (Nat.le_refl _) (.cells #[.string ⟨#[107,b]⟩,.slice a7 n7 c7,.bool false] 60)
     refine turn_run (by kernel_rfl) _ _ (xg_bsJ _ ⟨#[107,b]⟩ a7 n7 c7 false wx (Eq.trans (b:=ws 8) (by kernel_rfl) e8)) ⟨hG.gb.trans (hbl.mono (Nat.le_trans hC0 hG.sz)),Nat.le_trans hG.sz hbl.size,fun h=>(hG.gc h).below hbl,fun h1 h2=>((hG.g0 h1 h2).below hbl).mono hbl.size,fun h1 h2=>(KeepT.of_below hbl).tb _ (hG.g1 h1 h2),hG.g2,fun _ _=>⟨_,rfl,?_⟩,(fun h=>by have h:dn 10=true:=h; rw [h10] at h; cases h),(fun h=>by have h:dn 11=true:=h; rw [h11] at h; cases h)⟩
     show Blk _ _ _ [strV [107,b],ws 7,.bool false]
     rw [e7]
     exact Blk.new wx 60 [strV [107,b],.slice a7 n7 c7,.bool false]
    refine EachI.cons (MixOkL.turn (by kernel_rfl) (fun dn ws wx hG hdep hcl hni=>?_)) ?_
    ·have h11:=not_done (hcl 11 10 (by kernel_rfl)) hni
     have d9:=hdep 9 (by kernel_rfl)
     have d8:=hcl 9 8 (by kernel_rfl) d9
     have htb:=hG.g1 (hcl 8 7 (by kernel_rfl) d8) hni
     obtain ⟨q,eq,hq⟩:=hG.g3 d9 hni
     have eq:ws 9=.slice (some ⟨q,0,none⟩) 1 1:=eq
     exact turn_chg _ _ (by kernel_rfl) (by kernel_rfl) (hG.gc hni) q (⟨[107,b],[],false⟩,ws 7) (Eq.trans (b:=ws 9) (by kernel_rfl) eq) hq ⟨by show 2≤60; omega,htb⟩ (by omega) (Nat.le_trans hC0 hG.sz) (fun v' w' h1 h2=>⟨hG.gb.trans h2,Nat.le_trans hG.sz h2.size,(fun h=>by cases h),(fun _ h=>by cases h),(fun _ h=>by cases h),hG.g2,(fun _ h=>by cases h),fun _=>⟨_,h1⟩,(fun h=>by have h:dn 11=true:=h; rw [h11] at h; cases h)⟩)
    refine EachI.cons (MixOkL.turn (by kernel_rfl) (fun dn ws wx hG hdep hcl hni=>?_)) ?_
    ·exact turn_run (by kernel_rfl) (ws 10) wx (by kernel_rfl) ⟨hG.gb,hG.sz,hG.gc,hG.g0,hG.g1,hG.g2,hG.g3,hG.g4,fun _=>rfl⟩
    exact EachI.nil
   intro ws L' hL' w8 hG8
   obtain ⟨y,hy⟩:=hG8.g4 rfl
   have hy:CRow C w8 (ws 10) (xs ++ [y]):=hy
   have e11:ws 11=ws 10:=hG8.g5 rfl
   obtain ⟨a8,c8',e8⟩:=hy.slice
   rw [e8] at hy
   have e11:=e11.trans e8
   have HY:=Lib.hid (And.intro hy (HBW.out.trans hG8.gb))
   simp only [List.set_cons_succ,List.set_cons_zero,setAll,mix,List.getElem?_cons_succ,List.getElem?_cons_zero,Option.join_some,Option.getD_some,Option.getD_none,Nat.reduceAdd,e11] at hL'
   subst hL'
   clear hG8 hy e11 e8
   have hyl:(xs ++ [y]).length=i+1:=by rw [List.length_append,hx]; rfl
   generalize xs ++ [y]=ys at *
   go_wp2
   go_roundw
   case rel=>exact ⟨i+1,ys,by omega,by go_num,by omega,HY.out.1,HY.out.2⟩
   case measure=>simp [intOf]; omega
  ·obtain rfl:i=n:=by omega
   have b1:decide ((i:Int) < (i:Int))=false:=by simp
   go_wp2_with fail
   exact HK.out _ _ _ _ _ _ _ _ _ _ _ _ _ _ _ _ _ _ _ _ _ hx HX.out HBW.out
noncomputable def csB4:Code:=((Tryz.f5.body.bind (findB 4)).getD .skip)
set_option maxRecDepth 1000000 in
set_option maxHeartbeats 8000000 in
theorem small4 {K:Act→World→Prop} {Q':Exit→Act→World→Prop} {c0 c1 c3 c4 c5 c6 c7 c8 c9 c10 c11 c12 c13 c14 c15 c16 c17 c18 c19 c20 c21 c22 c23 c24 c25 c26 c27 c28 c29 c30 c31 c32 c33 c34 c35 c36 c37 c38 c39 c40 c41 c42 c43 c44 c45 c46 c47 c48 c52 c53 c54 c55 c56 c57 c58 c59 c60 c61 c62 c63 c64 c65 c66 c67 c68 c69 c70 c71 c72 c73 c74 c75 c76 c77 c78 c79 c80 c81 c82 c83 c84 c85 c86 c87 c88 c89 c90 c91 c92 c93 c94 c95 c96 c97 c98 c99 c100 c101 c102 c103 c104 c105 c106 c107 c108 c109 c110 c111 c112 c113 c114 c115 c116 c117 c118 c119 c120 c121 c122 c123 c124 c125 c126 c127 c128 c129 c130 c131 c132 c133 c134 c135 c136 c137 c138 c139 c140 c141 c142 c143 c144 c145 c146 c147 c148 c149 c150 c151 c152 c153 c154 c155:Value} {B g49:Nat} {cs49:List Value} {la:Option Addr} {ln lc:Nat} (w:World) (h49:Hid (Blk w g49 3 cs49)) (h49n:cs49.length=5) (h49v:Hid (∀ x ∈ cs49,∃ n:Nat,n≤65∧x=.int .i64 (n:Int))) (HL:Hid (Lst B w (.slice la ln lc) 21)) (hB:B≤w.heap.size)
 (HK:Hid (∀ (d7 d8 d9 d51 d52 d53 d54 d55 d56 d57 d58 d59 d60 d61 d62 d63 d64 d65 d66 d67 d68 d69 d70 d71 d72 d73 d74 d75 d76 d77 d78 d79 d80 d81 d82 d83 d84 d85 d86 d87:Value) (w':World) (lv:Value),Up1 B w w' lv 41→K ⟨#[c0,c1,lv,c3,c4,c5,c6,d7,d8,d9,c10,c11,c12,c13,c14,c15,c16,c17,c18,c19,c20,c21,c22,c23,c24,c25,c26,c27,c28,c29,c30,c31,c32,c33,c34,c35,c36,c37,c38,c39,c40,c41,c42,c43,c44,c45,c46,c47,c48,.slice (some ⟨g49,0,none⟩) 5 5,.int .i64 5,d51,d52,d53,d54,d55,d56,d57,d58,d59,d60,d61,d62,d63,d64,d65,d66,d67,d68,d69,d70,d71,d72,d73,d74,d75,d76,d77,d78,d79,d80,d81,d82,d83,d84,d85,d86,d87,c88,c89,c90,c91,c92,c93,c94,c95,c96,c97,c98,c99,c100,c101,c102,c103,c104,c105,c106,c107,c108,c109,c110,c111,c112,c113,c114,c115,c116,c117,c118,c119,c120,c121,c122,c123,c124,c125,c126,c127,c128,c129,c130,c131,c132,c133,c134,c135,c136,c137,c138,c139,c140,c141,c142,c143,c144,c145,c146,c147,c148,c149,c150,c151,c152,c153,c154,c155],[]⟩ w')) :
 Code.wp Tryz.prog csB4 (Exit.then K Q') ⟨#[c0,c1,.slice la ln lc,c3,c4,c5,c6,c7,c8,c9,c10,c11,c12,c13,c14,c15,c16,c17,c18,c19,c20,c21,c22,c23,c24,c25,c26,c27,c28,c29,c30,c31,c32,c33,c34,c35,c36,c37,c38,c39,c40,c41,c42,c43,c44,c45,c46,c47,c48,.slice (some ⟨g49,0,none⟩) 5 5,.int .i64 5,.int .i64 0,c52,c53,c54,c55,c56,c57,c58,c59,c60,c61,c62,c63,c64,c65,c66,c67,c68,c69,c70,c71,c72,c73,c74,c75,c76,c77,c78,c79,c80,c81,c82,c83,c84,c85,c86,c87,c88,c89,c90,c91,c92,c93,c94,c95,c96,c97,c98,c99,c100,c101,c102,c103,c104,c105,c106,c107,c108,c109,c110,c111,c112,c113,c114,c115,c116,c117,c118,c119,c120,c121,c122,c123,c124,c125,c126,c127,c128,c129,c130,c131,c132,c133,c134,c135,c136,c137,c138,c139,c140,c141,c142,c143,c144,c145,c146,c147,c148,c149,c150,c151,c152,c153,c154,c155],[]⟩ w:=by
 conv=>arg 2; whnf
 have W0:=Lib.hid (Up1.mk HL.out (Below.refl B w) (KeepT.refl w))
 go_wp2
 go_loopw [2,51] (fun lv iv wr=>∃ i:Nat,i≤5∧iv=.int .i64 (i:Int)∧Up1 B w wr lv (21+4 * i)) (fun _ i _=>5 - (intOf i).toNat)
 case atStart=>exact ⟨0,by omega,rfl,W0.out⟩
 case round=>
  obtain ⟨i,hi,rfl,hl⟩:=hrel
  obtain ⟨la,ln,lc,rfl⟩:=hl.lst.slice
  have HU:=Lib.hid hl
  by_cases hlt:i < 5
  ·have b1:decide ((i:Int) < 5)=true:=decide_eq_true (by omega)
   have b2:(i:Int) < 5:=by omega
   obtain ⟨x,⟨n,hn,rfl⟩,hc⟩:=cell_nth (hl.kp.bk _ _ _ (by decide) (by decide) h49.out) h49v.out i (by omega)
   have hBr:B≤wr.heap.size:=Nat.le_trans hB hl.be.size
   clear hl W0
   go_upto_block 6 with (fail)
   refine small6 wr hn (Lib.hid ?_)
   intro d9 d55 d56 d57 d58 d59 d60 d61 d62 d63 d64 d65 d66 d67 d68 d69 d70 w6 ca cc xs hx hcr hbw
   have hcr:CRow wr.heap.size w6 (.slice ca n cc) xs:=by rw [← hx]; exact hcr
   have HX:=Lib.hid hcr
   have HB6:=Lib.hid hbw
   have HXL:=Lib.hid hx
   have hxn:ChM w6 w6 (.slice none 0 0) (.slice none 0 0) 0∨True:=Or.inr trivial
   rw [hx]
   have hs6:wr.heap.size≤w6.heap.size:=hbw.size
   have ha1:=(Below.refl w6.heap.size w6).alloc (Nat.le_refl _) (.cells #[strV [118],.slice none 0 0,.bool true] 60)
   have HX1:=Lib.hid (HX.out.below ha1)
   have HB61:=Lib.hid (HB6.out.trans (ha1.mono hs6))
   clear hcr hbw hc ha1 hx hxn
   go_wp2_with (at_builtin; refine wpList_chgM (xs:=xs) (C:=wr.heap.size) rfl _ _ rfl rfl HX1.out w6.heap.size (⟨[118],[],true⟩,.slice none 0 0) rfl (Blk.new w6 60 _) ⟨by show 1≤60; omega,TB.nil _⟩ (by have:=HXL.out; omega) (by simp; omega) ?_)
   intro v7 w7 h71 h72 h73 h74 h74b h75
   obtain ⟨a7,c7',rfl⟩:=h71.slice
   have hl7:(xs ++ [((⟨[118],[],true⟩:Chg),(.slice none 0 0:Value))]).length=n+1:=by rw [List.length_append,HXL.out]; rfl
   have HT7:=Lib.hid (h71.tc (by omega))
   rw [hl7] at HT7
   rw [hl7,HXL.out] at h75
   have HM7:=Lib.hid h75
   have HB7:=Lib.hid (HB61.out.trans h73)
   have HX7:=Lib.hid h72
   have hs7:wr.heap.size≤w7.heap.size:=HB7.out.size
   have ha2:=(Below.refl w7.heap.size w7).alloc (Nat.le_refl _) (.cells #[strV [107,0],.slice none 0 0,.bool false] 60)
   have HX8:=Lib.hid (HX7.out.below ha2)
   have HT8:=Lib.hid ((KeepT.of_below ha2).tc _ HT7.out)
   have HB8:=Lib.hid (HB7.out.trans (ha2.mono hs7))
   clear h71 h72 h73 h74 h74b h75 ha2 HX1 HB61 HX7
   rw [hl7]
   go_wp2_with (at_builtin; refine wpList_chgM (xs:=xs) (C:=wr.heap.size) rfl _ _ rfl rfl HX8.out w7.heap.size (⟨[107,0],[],false⟩,.slice none 0 0) rfl (Blk.new w7 60 _) ⟨by show 2≤60; omega,TB.nil _⟩ (by have:=HXL.out; omega) (by simp; omega) ?_)
   intro v9 w9 h91 h92 h93 h94 h94b h95
   obtain ⟨a9,c9',rfl⟩:=h91.slice
   have hl9:(xs ++ [((⟨[107,0],[],false⟩:Chg),(.slice none 0 0:Value))]).length=n+1:=by rw [List.length_append,HXL.out]; rfl
   have HT9:=Lib.hid (h91.tc (by omega))
   rw [hl9] at HT9
   rw [hl9,HXL.out] at h95
   have HT7b:=Lib.hid (two_tc HM7.out HT8.out h95 HT9.out)
   have HTC:=Lib.hid (h92.tc (by have:=HXL.out; omega))
   have HU9:=Lib.hid (HU.out.below hB (HB8.out.trans h93))
   clear h91 h92 h93 h94 h94b h95 HX8 HT8 HB8 HM7 HT7 HX HB6 HU
   rw [hl9]
   go_wp2_with (at_builtin; go_must (refine wpList_acts rfl _ _ rfl rfl (HU9.out.lst.below ((Below.refl w9.heap.size w9).alloc (Nat.le_refl _) _)) w9.heap.size 4 [⟨0,0,.slice ca n cc,[],.slice none 0 0⟩,⟨0,0,.slice a7 (n+1) c7',[],.slice none 0 0⟩,⟨0,0,.slice a9 (n+1) c9',[],.slice none 0 0⟩,⟨7, -1,.slice none 0 0,[],.slice none 0 0⟩] rfl rfl (Blk.new w9 41 _) ?_ (by omega) (by have:=HU9.out.be.size; simp; omega) ?_))
   ·intro a ha
    simp only [List.mem_cons,List.not_mem_nil,or_false] at ha
    rcases ha with rfl | rfl | rfl | rfl
    ·exact ga0 _ _ _ _ _ ((KeepT.alloc _ _).tc _ HTC.out) (by simp) (TB.nil _)
    ·exact ga0 _ _ _ _ _ ((KeepT.alloc _ _).tc _ HT7b.out) (by simp) (TB.nil _)
    ·exact ga0 _ _ _ _ _ ((KeepT.alloc _ _).tc _ HT9.out) (by simp) (TB.nil _)
    ·exact ga1 _ _
   intro v10 w10 hl10 hb10 hk10
   have HU10:=Lib.hid ((HU9.out.below hB ((Below.refl w9.heap.size w9).alloc (Nat.le_refl _) _)).step hl10 hb10 hk10)
   obtain ⟨a10,n10,c10',rfl⟩:=hl10.slice
   clear hl10 hb10 hk10 HU9 HTC HT7b HT9
   go_wp2
   go_roundw
   case rel=>exact ⟨i+1,by omega,by go_num,HU10.out⟩
   case measure=>simp [intOf]; omega
  ·obtain rfl:i=5:=by omega
   go_wp2_with fail
   exact HK.out _ _ _ _ _ _ _ _ _ _ _ _ _ _ _ _ _ _ _ _ _ _ _ _ _ _ _ _ _ _ _ _ _ _ _ _ _ _ _ _ _ _ HU.out
end Go.Proofs.YtondomklkapogaaGreatDoor
