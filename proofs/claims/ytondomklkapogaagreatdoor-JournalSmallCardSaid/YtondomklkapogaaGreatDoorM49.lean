/- JournalSmall: the law returns true. -/
import Derived.Test.YtondomklkapogaaGreatDoorM48
import Derived.Test.YtondomklkapogaaGreatDoorCards
import Derived.Test.YtondomklkapogaaGreatDoorTie
import Derived.Test.YtondomklkapogaaGreatDoorM02
import Derived.ProofKit
import Derived.OpenShut
import Derived.LaidMore
import Derived.Deep.DeepHandedRow
import Derived.Lib.LaidTab
import Derived.SizedLaws
import Derived.Deep.Slices
import Derived.Deep.Fields
import Derived.ChangeSame
namespace Go.Proofs.YtondomklkapogaaGreatDoor
section
open Go.RowKit SeedP Go.Maps
set_option linter.unusedVariables false
noncomputable def csB8:Code:=((Tryz.f5.body.bind (findB 8)).getD .skip)
set_option maxRecDepth 1000000 in
set_option maxHeartbeats 8000000 in
theorem small8 {K:Act→World→Prop} {Q':Exit→Act→World→Prop} {c0 c1 c2 c3 c4 c5 c6 c7 c8 c9 c12 c13 c14 c15 c16 c17 c18 c19 c20 c21 c22 c23 c24 c25 c26 c27 c28 c29 c30 c31 c32 c33 c34 c35 c36 c37 c38 c39 c40 c41 c42 c43 c44 c45 c46 c47 c48 c49 c50 c51 c52 c53 c54 c55 c56 c57 c58 c59 c60 c61 c62 c63 c64 c65 c66 c67 c68 c69 c70 c71 c72 c73 c74 c75 c76 c77 c78 c79 c80 c81 c82 c83 c84 c85 c86 c87 c88 c89 c90 c91 c92 c93 c94 c95 c96 c97 c98 c99 c100 c101 c102 c103 c104 c105 c106 c107 c108 c109 c110 c111 c112 c113 c114 c115 c116 c117 c118 c119 c120 c121 c122 c123 c124 c125 c126 c127 c128 c129 c130 c131 c132 c133 c134 c135 c136 c137 c138 c139 c140 c141 c142 c143 c144 c145 c146 c147 c148 c149 c150 c151 c152 c153 c154 c155:Value} {fb:Nat} {L:List ActP} (w:World) (HS:Hid (St w)) (HL:Hid (ActsAt w w.heap.size (.slice (some ⟨fb,0,none⟩) 6 6) L)) (HOK:Hid (∀ a ∈ L,a.Ok)) (hn:L.length≤1000)
 (HK:Hid (∀ (d0 d11 d119 d120 d121 d122 d123 d124 d125 d126 d127:Value) (w':World),Below w.heap.size w w'→St w'→K ⟨#[d0,c1,c2,c3,c4,c5,c6,c7,c8,c9,.slice (some ⟨fb,0,none⟩) 6 6,d11,c12,c13,c14,c15,c16,c17,c18,c19,c20,c21,c22,c23,c24,c25,c26,c27,c28,c29,c30,c31,c32,c33,c34,c35,c36,c37,c38,c39,c40,c41,c42,c43,c44,c45,c46,c47,c48,c49,c50,c51,c52,c53,c54,c55,c56,c57,c58,c59,c60,c61,c62,c63,c64,c65,c66,c67,c68,c69,c70,c71,c72,c73,c74,c75,c76,c77,c78,c79,c80,c81,c82,c83,c84,c85,c86,c87,c88,c89,c90,c91,c92,c93,c94,c95,c96,c97,c98,c99,c100,c101,c102,c103,c104,c105,c106,c107,c108,c109,c110,c111,c112,c113,c114,c115,c116,c117,c118,d119,d120,d121,d122,d123,d124,d125,d126,d127,c128,c129,c130,c131,c132,c133,c134,c135,c136,c137,c138,c139,c140,c141,c142,c143,c144,c145,c146,c147,c148,c149,c150,c151,c152,c153,c154,c155],[]⟩ w')) :
 Code.wp Tryz.prog csB8 (Exit.then K Q') ⟨#[c0,c1,c2,c3,c4,c5,c6,c7,c8,c9,.slice (some ⟨fb,0,none⟩) 6 6,.int .i64 (-2),c12,c13,c14,c15,c16,c17,c18,c19,c20,c21,c22,c23,c24,c25,c26,c27,c28,c29,c30,c31,c32,c33,c34,c35,c36,c37,c38,c39,c40,c41,c42,c43,c44,c45,c46,c47,c48,c49,c50,c51,c52,c53,c54,c55,c56,c57,c58,c59,c60,c61,c62,c63,c64,c65,c66,c67,c68,c69,c70,c71,c72,c73,c74,c75,c76,c77,c78,c79,c80,c81,c82,c83,c84,c85,c86,c87,c88,c89,c90,c91,c92,c93,c94,c95,c96,c97,c98,c99,c100,c101,c102,c103,c104,c105,c106,c107,c108,c109,c110,c111,c112,c113,c114,c115,c116,c117,c118,c119,c120,c121,c122,c123,c124,c125,c126,c127,c128,c129,c130,c131,c132,c133,c134,c135,c136,c137,c138,c139,c140,c141,c142,c143,c144,c145,c146,c147,c148,c149,c150,c151,c152,c153,c154,c155],[]⟩ w:=by
 conv=>arg 2; whnf
 have W0:=Lib.hid (And.intro (Below.refl w.heap.size w) HS.out)
 go_wp2
 go_loopw [11] (fun nv wr=>∃ p:Int, -2≤p∧p≤140∧nv=.int .i64 p∧Below w.heap.size w wr∧St wr) (fun n _=>(140 - intOf n).toNat)
 case atStart=>exact ⟨-2,by omega,by omega,rfl,W0.out.1,W0.out.2⟩
 case round=>
  obtain ⟨p,hp0,hp1,rfl,hb,hs⟩:=hrel
  have HB:=Lib.hid hb
  by_cases hlt:p < 140
  ·have b1:decide (p < 140)=true:=decide_eq_true hlt
   have HDO:=Lib.hid (does_c ⟨p,[],[]⟩ (.slice none 0 0) (.slice none 0 0) _ L wr hs (RdB.nil _ _) (RdB.nil _ _) (by simp) (by simp) (by show p≤9223372036854775807; omega) ((HL.out.below hb).raise hb.size) HOK.out (by omega))
   have HSR:=Lib.hid hs
   clear hb hs W0
   go_wp2_with fail
   refine HDO.out.mono ?_
   rintro e w7 ⟨rfl,hb7⟩
   have HB7:=Lib.hid (HB.out.trans (hb7.mono HB.out.size))
   have HS7:=Lib.hid (HSR.out.below hb7 HSR.out.pos)
   clear hb7 HDO HB HSR
   go_wp2
   go_roundw
   case rel=>exact ⟨p+1,by omega,by omega,by go_num,HB7.out,HS7.out⟩
   case measure=>simp [intOf]; omega
  ·obtain rfl:p=140:=by omega
   have b1:decide ((140:Int) < 140)=false:=by decide
   have HSR:=Lib.hid hs
   clear hb hs W0
   go_wp2_with fail
   exact HK.out _ _ _ _ _ _ _ _ _ _ _ _ HB.out HSR.out
noncomputable def csB10:Code:=((Tryz.f5.body.bind (findB 10)).getD .skip)
set_option maxRecDepth 1000000 in
set_option maxHeartbeats 8000000 in
theorem small10 {K:Act→World→Prop} {Q':Exit→Act→World→Prop} {c0 c1 c2 c3 c4 c5 c6 c7 c8 c9 c11 c14 c15 c16 c17 c18 c19 c20 c21 c22 c23 c24 c25 c26 c27 c28 c29 c30 c31 c32 c33 c34 c35 c36 c37 c38 c39 c40 c41 c42 c43 c44 c45 c46 c47 c48 c49 c50 c51 c52 c53 c54 c55 c56 c57 c58 c59 c60 c61 c62 c63 c64 c65 c66 c67 c68 c69 c70 c71 c72 c73 c74 c75 c76 c77 c78 c79 c80 c81 c82 c83 c84 c85 c86 c87 c88 c89 c90 c91 c92 c93 c94 c95 c96 c97 c98 c99 c100 c101 c102 c103 c104 c105 c106 c107 c108 c109 c110 c111 c112 c113 c114 c115 c116 c117 c118 c119 c120 c121 c122 c123 c124 c125 c126 c127 c128 c129 c130 c131 c132 c133 c134 c135 c136 c137 c138 c139 c140 c141 c142 c143 c144 c145 c146 c147 c148 c149 c150 c151 c152 c153 c154 c155:Value} {fb gl:Nat} {L:List ActP} (w:World) (HS:Hid (St w)) (HZ:Hid (Blk w gl 5 (ints .u8 (zeros 262145)))) (HL:Hid (ActsAt w w.heap.size (.slice (some ⟨fb,0,none⟩) 6 6) L)) (HOK:Hid (∀ a ∈ L,a.Ok)) (hn:L.length≤1000)
 (HK:Hid (∀ (d0 d13 d129 d130 d131 d132 d133 d134 d135 d136 d137 d138 d139 d140 d141 d142 d143 d144 d145 d146 d147 d148 d149 d150 d151:Value) (w':World),Below w.heap.size w w'→St w'→K ⟨#[d0,c1,c2,c3,c4,c5,c6,c7,c8,c9,.slice (some ⟨fb,0,none⟩) 6 6,c11,.slice (some ⟨gl,0,none⟩) 262145 262145,d13,c14,c15,c16,c17,c18,c19,c20,c21,c22,c23,c24,c25,c26,c27,c28,c29,c30,c31,c32,c33,c34,c35,c36,c37,c38,c39,c40,c41,c42,c43,c44,c45,c46,c47,c48,c49,c50,c51,c52,c53,c54,c55,c56,c57,c58,c59,c60,c61,c62,c63,c64,c65,c66,c67,c68,c69,c70,c71,c72,c73,c74,c75,c76,c77,c78,c79,c80,c81,c82,c83,c84,c85,c86,c87,c88,c89,c90,c91,c92,c93,c94,c95,c96,c97,c98,c99,c100,c101,c102,c103,c104,c105,c106,c107,c108,c109,c110,c111,c112,c113,c114,c115,c116,c117,c118,c119,c120,c121,c122,c123,c124,c125,c126,c127,c128,d129,d130,d131,d132,d133,d134,d135,d136,d137,d138,d139,d140,d141,d142,d143,d144,d145,d146,d147,d148,d149,d150,d151,c152,c153,c154,c155],[]⟩ w')) :
 Code.wp Tryz.prog csB10 (Exit.then K Q') ⟨#[c0,c1,c2,c3,c4,c5,c6,c7,c8,c9,.slice (some ⟨fb,0,none⟩) 6 6,c11,.slice (some ⟨gl,0,none⟩) 262145 262145,.int .i64 262143,c14,c15,c16,c17,c18,c19,c20,c21,c22,c23,c24,c25,c26,c27,c28,c29,c30,c31,c32,c33,c34,c35,c36,c37,c38,c39,c40,c41,c42,c43,c44,c45,c46,c47,c48,c49,c50,c51,c52,c53,c54,c55,c56,c57,c58,c59,c60,c61,c62,c63,c64,c65,c66,c67,c68,c69,c70,c71,c72,c73,c74,c75,c76,c77,c78,c79,c80,c81,c82,c83,c84,c85,c86,c87,c88,c89,c90,c91,c92,c93,c94,c95,c96,c97,c98,c99,c100,c101,c102,c103,c104,c105,c106,c107,c108,c109,c110,c111,c112,c113,c114,c115,c116,c117,c118,c119,c120,c121,c122,c123,c124,c125,c126,c127,c128,c129,c130,c131,c132,c133,c134,c135,c136,c137,c138,c139,c140,c141,c142,c143,c144,c145,c146,c147,c148,c149,c150,c151,c152,c153,c154,c155],[]⟩ w:=by
 conv=>arg 2; whnf
 have W0:=Lib.hid (And.intro (Below.refl w.heap.size w) HS.out)
 go_wp2
 go_loopw [13] (fun nv wr=>∃ n:Nat,262143≤n∧n≤262146∧nv=.int .i64 (n:Int)∧Below w.heap.size w wr∧St wr) (fun n _=>262146 - (intOf n).toNat)
 case atStart=>exact ⟨262143,by omega,by omega,rfl,W0.out.1,W0.out.2⟩
 case round=>
  obtain ⟨n,hp0,hp1,rfl,hb,hs⟩:=hrel
  have HB:=Lib.hid hb
  have HSR:=Lib.hid hs
  by_cases hlt:n≤262145
  ·have b1:decide ((n:Int)≤262145)=true:=decide_eq_true (by omega)
   have b2:(n:Int)≤262145:=by omega
   have hz:=zer_rd (HZ.out.below hb) hlt (by omega)
   have HDO:=Lib.hid (does_c ⟨-1,[],List.replicate n 0⟩ (.slice none 0 0) _ _ L wr hs (RdB.nil _ _) hz (by simp) (by show (List.replicate n (0:UInt8)).length≤_; rw [List.length_replicate]; omega) (by show (-1:Int)≤9223372036854775807; decide) ((HL.out.below hb).raise hb.size) HOK.out (by omega))
   clear hb hs W0 hz
   go_wp2_with fail
   refine HDO.out.mono ?_
   rintro e w7 ⟨rfl,hb7⟩
   have HB7:=Lib.hid (HB.out.trans (hb7.mono HB.out.size))
   have HS7:=Lib.hid (HSR.out.below hb7 HSR.out.pos)
   have ha:=(Below.refl w7.heap.size w7).alloc (Nat.le_refl _) (.cells #[.int .u8 0] 5)
   have HB8:=Lib.hid (HB7.out.trans (ha.mono HB7.out.size))
   have HS8:=Lib.hid (HS7.out.below ha HS7.out.pos)
   have hz8:=zer_rd (HZ.out.below HB8.out) hlt (by omega)
   have h0:RdB (w7.alloc (.cells #[.int .u8 0] 5)) (w7.alloc (.cells #[.int .u8 0] 5)).heap.size (.slice (some ⟨w7.heap.size,0,none⟩) 1 1) [0]:=(rdB_lit w7 [0] (by simp [maxLen]) 1 rfl).mono (by simp)
   have HDO2:=Lib.hid (does_c ⟨50,List.replicate n 0,[0]⟩ _ _ _ L _ HS8.out hz8 h0 (by show (List.replicate n (0:UInt8)).length≤_; rw [List.length_replicate]; omega) (by simp) (by show (50:Int)≤9223372036854775807; decide) ((HL.out.below HB8.out).raise HB8.out.size) HOK.out (by omega))
   clear hb7 HDO HB HSR ha hz8 h0
   go_wp2_with fail
   refine HDO2.out.mono ?_
   rintro e w9 ⟨rfl,hb9⟩
   have HB9:=Lib.hid (HB8.out.trans (hb9.mono HB8.out.size))
   have HS9:=Lib.hid (HS8.out.below hb9 HS8.out.pos)
   clear hb9 HDO2 HB8 HS8 HB7 HS7
   go_wp2
   go_roundw
   case rel=>exact ⟨n+1,by omega,by omega,by go_num,HB9.out,HS9.out⟩
   case measure=>simp [intOf]; omega
  ·have b1:decide ((n:Int)≤262145)=false:=decide_eq_false (by omega)
   clear hb hs W0
   go_wp2_with fail
   exact HK.out _ _ _ _ _ _ _ _ _ _ _ _ _ _ _ _ _ _ _ _ _ _ _ _ _ _ HB.out HSR.out
end
section
open Go.RowKit SeedP Go.Maps
set_option linter.unusedVariables false
/-- the acts done at all amounts of power: their changes lie in block q -/
def fActs (b q:Nat):List AV:=[⟨4,0,.slice none 0 0,[97],.slice (some ⟨b,0,none⟩) 1 1⟩,⟨0,0,.slice (some ⟨q,0,none⟩) 2 2,[],.slice none 0 0⟩,⟨6,0,.slice none 0 0,[],.slice none 0 0⟩,⟨5,0,.slice none 0 0,[97],.slice none 0 0⟩,⟨7, -1,.slice none 0 0,[],.slice none 0 0⟩,⟨4,0,.slice none 0 0,[99],.slice none 0 0⟩]
theorem fActs_ok (w:World) (b q:Nat) (hb:TB w (.slice (some ⟨b,0,none⟩) 1 1)) (hq:TC w (.slice (some ⟨q,0,none⟩) 2 2)):∀ a ∈ fActs b q,GA w a:=by
 intro a ha
 unfold fActs at ha
 simp only [List.mem_cons,List.not_mem_nil,or_false] at ha
 rcases ha with rfl | rfl | rfl | rfl | rfl | rfl
 ·exact ga0 _ _ _ _ _ (TC.nil _) (by simp) hb
 ·exact ga0 _ _ _ _ _ hq (by simp) (TB.nil _)
 ·exact ga0 _ _ _ _ _ (TC.nil _) (by simp) (TB.nil _)
 ·exact ga0 _ _ _ _ _ (TC.nil _) (by simp) (TB.nil _)
 ·exact ga1 _ _
 ·exact ga0 _ _ _ _ _ (TC.nil _) (by simp) (TB.nil _)
theorem two_bytes (w:World):TB (w.alloc (.cells #[.int .u8 2,.int .u8 3] 5)) (.slice (some ⟨w.heap.size,0,none⟩) 2 2):=
 Or.inr ⟨w.heap.size,0,2,2,[.int .u8 2,.int .u8 3],rfl,Nat.le_refl _,by unfold maxLen; omega,by omega,Blk.new w _ [.int .u8 2,.int .u8 3],Nat.le_refl _,fun x hx=>by
  simp only [List.mem_cons,List.not_mem_nil,or_false] at hx
  rcases hx with rfl | rfl
  ·exact ⟨2,rfl⟩
  ·exact ⟨3,rfl⟩⟩
theorem chgs_tc {w:World} {g:Nat} (ys:List (Chg × Value)) (n:Nat) (hn:n=ys.length) (hb:Blk w g 60 (crow ys)) (hg:∀ y ∈ ys,y.1.key.length≤60∧TB w y.2) (hx:n≤100):TC w (.slice (some ⟨g,0,none⟩) n n):=
 tc_block hb ys hn (fun _ _ h=>h) hg (Nat.le_refl _) (by unfold maxLen; omega) hx (by rw [crow_length]; omega)
set_option maxRecDepth 1000000 in
set_option maxHeartbeats 8000000 in
/-- the walk -/
theorem journalSmall_walk (W:World) (hs:St W):Calls Tryz.prog 5 #[] W fun e w'=>e=.returned (.bool true)∧Below W.heap.size W w':=by
 have hb1:=(Below.refl W.heap.size W).alloc (Nat.le_refl _) (.cells #[.int .i64 0,.int .i64 1,.int .i64 2,.int .i64 39,.int .i64 40,.int .i64 41] 3)
 have H14:Hid (Blk (W.alloc (.cells #[.int .i64 0,.int .i64 1,.int .i64 2,.int .i64 39,.int .i64 40,.int .i64 41] 3)) W.heap.size 3 [.int .i64 0,.int .i64 1,.int .i64 2,.int .i64 39,.int .i64 40,.int .i64 41]):=Lib.hid (Blk.new W _ [.int .i64 0,.int .i64 1,.int .i64 2,.int .i64 39,.int .i64 40,.int .i64 41])
 have HB1:=Lib.hid hb1
 have HS1:=Lib.hid (hs.below hb1 hs.pos)
 have HP:=Lib.hid hs.pos
 have HV:Hid (∀ x ∈ [Value.int .i64 0,.int .i64 1,.int .i64 2,.int .i64 39,.int .i64 40,.int .i64 41],∃ n:Nat,n≤41∧x=.int .i64 (n:Int)):=Lib.hid (by
  intro x hx
  simp only [List.mem_cons,List.not_mem_nil,or_false] at hx
  rcases hx with rfl | rfl | rfl | rfl | rfl | rfl
  ·exact ⟨0,by omega,rfl⟩
  ·exact ⟨1,by omega,rfl⟩
  ·exact ⟨2,by omega,rfl⟩
  ·exact ⟨39,by omega,rfl⟩
  ·exact ⟨40,by omega,rfl⟩
  ·exact ⟨41,by omega,rfl⟩)
 have HV5:Hid (∀ x ∈ [Value.int .i64 0,.int .i64 1,.int .i64 63,.int .i64 64,.int .i64 65],∃ n:Nat,n≤65∧x=.int .i64 (n:Int)):=Lib.hid (by
  intro x hx
  simp only [List.mem_cons,List.not_mem_nil,or_false] at hx
  rcases hx with rfl | rfl | rfl | rfl | rfl
  ·exact ⟨0,by omega,rfl⟩
  ·exact ⟨1,by omega,rfl⟩
  ·exact ⟨63,by omega,rfl⟩
  ·exact ⟨64,by omega,rfl⟩
  ·exact ⟨65,by omega,rfl⟩)
 clear hb1 hs
 go_enter Tryz.func5,Tryz.ntmps5
 go_upto_block 0 with (fail)
 change Code.wp _ _ _ _ (W.alloc (.cells #[.int .i64 0,.int .i64 1,.int .i64 2,.int .i64 39,.int .i64 40,.int .i64 41] 3))
 generalize W.alloc (.cells #[.int .i64 0,.int .i64 1,.int .i64 2,.int .i64 39,.int .i64 40,.int .i64 41] 3)=w1 at *
 refine small0 (B:=W.heap.size) w1 H14 rfl HV HB1.out.size (Lib.hid ?_)
 intro d4 d16 d17 d18 d19 d20 d21 d22 d23 d24 d25 d26 d27 d28 d29 d30 d31 d32 d33 d34 d35 d36 d37 d38 w2 lv hu
 obtain ⟨la,ln,lc,rfl⟩:=hu.lst.slice
 have HB2:=Lib.hid (HB1.out.trans hu.be)
 have HS2:=Lib.hid (HS1.out.below hu.be HP.out)
 have HL2:=Lib.hid hu.lst
 clear hu H14 HV HB1 HS1
 dsimp only
 go_upto_block 2 with (fail)
 refine small2 (B:=W.heap.size) w2 HL2 HB2.out.size (Lib.hid ?_)
 intro d5 d39 d40 d41 d42 d43 d44 d45 d46 d47 d48 w3 lv hu
 obtain ⟨la3,ln3,lc3,rfl⟩:=hu.lst.slice
 have ha:=(Below.refl w3.heap.size w3).alloc (Nat.le_refl _) (.cells #[.int .i64 0,.int .i64 1,.int .i64 63,.int .i64 64,.int .i64 65] 3)
 have hb3:=HB2.out.trans hu.be
 have HB3:=Lib.hid (hb3.trans (ha.mono hb3.size))
 have HS3:=Lib.hid ((HS2.out.below hu.be HP.out).below ha (HS2.out.below hu.be HP.out).pos)
 have HL3:=Lib.hid (hu.lst.below ha)
 have H49:Hid (Blk (w3.alloc (.cells #[.int .i64 0,.int .i64 1,.int .i64 63,.int .i64 64,.int .i64 65] 3)) w3.heap.size 3 [.int .i64 0,.int .i64 1,.int .i64 63,.int .i64 64,.int .i64 65]):=Lib.hid (Blk.new w3 _ [.int .i64 0,.int .i64 1,.int .i64 63,.int .i64 64,.int .i64 65])
 clear hu ha hb3 HB2 HS2 HL2
 dsimp only
 go_upto_block 4 with (fail)
 change Code.wp _ _ _ _ (w3.alloc (.cells #[.int .i64 0,.int .i64 1,.int .i64 63,.int .i64 64,.int .i64 65] 3))
 generalize w3.alloc (.cells #[.int .i64 0,.int .i64 1,.int .i64 63,.int .i64 64,.int .i64 65] 3)=w4 at *
 refine small4 (B:=W.heap.size) w4 H49 rfl HV5 HL3 HB3.out.size (Lib.hid ?_)
 intro d7 d8 d9 d51 d52 d53 d54 d55 d56 d57 d58 d59 d60 d61 d62 d63 d64 d65 d66 d67 d68 d69 d70 d71 d72 d73 d74 d75 d76 d77 d78 d79 d80 d81 d82 d83 d84 d85 d86 d87 w5 lv hu
 obtain ⟨la5,ln5,lc5,rfl⟩:=hu.lst.slice
 have HB5:=Lib.hid (HB3.out.trans hu.be)
 have HS5:=Lib.hid (HS3.out.below hu.be HP.out)
 have HL5:=Lib.hid hu.lst
 clear hu HB3 HS3 HL3 H49 HV5
 dsimp only
 have ha1:=(Below.refl w5.heap.size w5).alloc (Nat.le_refl _) (.cells #[.int .u8 1] 5)
 have T1:TB (w5.alloc (.cells #[.int .u8 1] 5)) (.slice (some ⟨w5.heap.size,0,none⟩) 1 1):=byte_tb w5 1 (by omega)
 have HT1:=Lib.hid T1
 have HL6:=Lib.hid (HL5.out.below ha1)
 have HB6:=Lib.hid (HB5.out.trans (ha1.mono HB5.out.size))
 have HS6:=Lib.hid (HS5.out.below ha1 HS5.out.pos)
 clear ha1 T1
 have HC2:Hid (TC ((w5.alloc (.cells #[.int .u8 1] 5)).alloc (.cells (crow [(⟨[118],[],true⟩,.slice (some ⟨w5.heap.size,0,none⟩) 1 1)]).toArray 60)) (.slice (some ⟨w5.heap.size+1,0,none⟩) 1 1)):=Lib.hid (chgs_tc [(⟨[118],[],true⟩,.slice (some ⟨w5.heap.size,0,none⟩) 1 1)] 1 rfl (Blk.at _ _ _ (by simp)) (fun y hy=>by obtain rfl:=List.mem_singleton.1 hy; exact ⟨by show 1≤60; omega,(KeepT.alloc _ _).tb _ HT1.out⟩) (by omega))
 have HC3:Hid (TC (((w5.alloc (.cells #[.int .u8 1] 5)).alloc (.cells (crow [(⟨[118],[],true⟩,.slice (some ⟨w5.heap.size,0,none⟩) 1 1)]).toArray 60)).alloc (.cells (crow [(⟨[119],[],true⟩,.slice none 0 0),(⟨[119],[],false⟩,.slice none 0 0)]).toArray 60)) (.slice (some ⟨w5.heap.size+1+1,0,none⟩) 2 2)):=Lib.hid (chgs_tc [(⟨[119],[],true⟩,.slice none 0 0),(⟨[119],[],false⟩,.slice none 0 0)] 2 rfl (Blk.at _ _ _ (by simp)) (fun y hy=>by
  simp only [List.mem_cons,List.not_mem_nil,or_false] at hy
  rcases hy with rfl | rfl
  ·exact ⟨by show 1≤60; omega,TB.nil _⟩
  ·exact ⟨by show 1≤60; omega,TB.nil _⟩) (by omega))
 have HC4:Hid (TC ((((w5.alloc (.cells #[.int .u8 1] 5)).alloc (.cells (crow [(⟨[118],[],true⟩,.slice (some ⟨w5.heap.size,0,none⟩) 1 1)]).toArray 60)).alloc (.cells (crow [(⟨[119],[],true⟩,.slice none 0 0),(⟨[119],[],false⟩,.slice none 0 0)]).toArray 60)).alloc (.cells (crow [(⟨[119],[],true⟩,.slice none 0 0),(⟨[],[],false⟩,.slice none 0 0)]).toArray 60)) (.slice (some ⟨w5.heap.size+1+1+1,0,none⟩) 2 2)):=Lib.hid (chgs_tc [(⟨[119],[],true⟩,.slice none 0 0),(⟨[],[],false⟩,.slice none 0 0)] 2 rfl (Blk.at _ _ _ (by simp)) (fun y hy=>by
  simp only [List.mem_cons,List.not_mem_nil,or_false] at hy
  rcases hy with rfl | rfl
  ·exact ⟨by show 1≤60; omega,TB.nil _⟩
  ·exact ⟨by show 0≤60; omega,TB.nil _⟩) (by omega))
 have HL7:Hid (Up1 W.heap.size w5 (((((w5.alloc (.cells #[.int .u8 1] 5)).alloc (.cells (crow [(⟨[118],[],true⟩,.slice (some ⟨w5.heap.size,0,none⟩) 1 1)]).toArray 60)).alloc (.cells (crow [(⟨[119],[],true⟩,.slice none 0 0),(⟨[119],[],false⟩,.slice none 0 0)]).toArray 60)).alloc (.cells (crow [(⟨[119],[],true⟩,.slice none 0 0),(⟨[],[],false⟩,.slice none 0 0)]).toArray 60)).alloc (.cells (arow [⟨0,0,.slice (some ⟨w5.heap.size+1,0,none⟩) 1 1,[],.slice none 0 0⟩,⟨0,0,.slice (some ⟨w5.heap.size+1+1,0,none⟩) 2 2,[],.slice none 0 0⟩,⟨0,0,.slice (some ⟨w5.heap.size+1+1+1,0,none⟩) 2 2,[],.slice none 0 0⟩]).toArray 41)) (.slice la5 ln5 lc5) 41):=Lib.hid (by
  have h0:=Up1.mk HL5.out (Below.refl W.heap.size w5) (KeepT.refl w5)
  have hB:=HB5.out.size
  exact ((((h0.below hB ((Below.refl _ _).alloc (Nat.le_refl _) _)).below hB ((Below.refl _ _).alloc (Nat.le_refl _) _)).below hB ((Below.refl _ _).alloc (Nat.le_refl _) _)).below hB ((Below.refl _ _).alloc (Nat.le_refl _) _)).below hB ((Below.refl _ _).alloc (Nat.le_refl _) _))
 go_wp2_with (at_builtin; go_must (refine wpList_acts rfl _ _ rfl rfl HL7.out.lst _ 3 [⟨0,0,.slice (some ⟨w5.heap.size+1,0,none⟩) 1 1,[],.slice none 0 0⟩,⟨0,0,.slice (some ⟨w5.heap.size+1+1,0,none⟩) 2 2,[],.slice none 0 0⟩,⟨0,0,.slice (some ⟨w5.heap.size+1+1+1,0,none⟩) 2 2,[],.slice none 0 0⟩] rfl rfl (Blk.at _ _ _ (by simp)) ?_ (by omega) (Nat.le_trans HB5.out.size HL7.out.be.size) ?_))
 ·intro a ha
  simp only [List.mem_cons,List.not_mem_nil,or_false] at ha
  rcases ha with rfl | rfl | rfl
  ·exact ga0 _ _ _ _ _ ((KeepT.alloc _ _).tc _ ((KeepT.alloc _ _).tc _ ((KeepT.alloc _ _).tc _ HC2.out))) (by simp) (TB.nil _)
  ·exact ga0 _ _ _ _ _ ((KeepT.alloc _ _).tc _ ((KeepT.alloc _ _).tc _ HC3.out)) (by simp) (TB.nil _)
  ·exact ga0 _ _ _ _ _ ((KeepT.alloc _ _).tc _ HC4.out) (by simp) (TB.nil _)
 intro v7 w7 hl7 hb7 hk7
 obtain ⟨a7,n7,c7',rfl⟩:=hl7.slice
 have HB7:=Lib.hid (HB5.out.trans (HL7.out.be.trans hb7))
 have HS7:=Lib.hid (HS5.out.below (HL7.out.be.trans hb7) HP.out)
 obtain ⟨L,hL1,hL2,hL3⟩:=hl7.acts
 have HDO:=Lib.hid (does_c ⟨-1,[],[]⟩ (.slice none 0 0) (.slice none 0 0) _ L w7 HS7.out (RdB.nil _ _) (RdB.nil _ _) (by simp) (by simp) (by show (-1:Int)≤9223372036854775807; decide) hL1 hL3 (by omega))
 clear hl7 hb7 hk7 hL1 hL2 hL3 HL7 HC2 HC3 HC4 HT1 HL6 HB6 HS6 HL5 HB5 HS5
 go_wp2_with fail
 refine HDO.out.mono ?_
 rintro e w8 ⟨rfl,hb8⟩
 have HB8:=Lib.hid (HB7.out.trans (hb8.mono HB7.out.size))
 have HS8:=Lib.hid (HS7.out.below hb8 HS7.out.pos)
 clear hb8 HDO HB7 HS7
 go_upto_block 8 with (fail)
 have T1:TB (w8.alloc (.cells #[.int .u8 1] 5)) (.slice (some ⟨w8.heap.size,0,none⟩) 1 1):=byte_tb w8 1 (by omega)
 have e8:(w8.alloc (.cells #[.int .u8 1] 5)).heap.size=w8.heap.size+1:=by simp
 have T2:=two_bytes (w8.alloc (.cells #[.int .u8 1] 5))
 rw [e8] at T2
 have ha1:=(Below.refl w8.heap.size w8).alloc (Nat.le_refl _) (.cells #[.int .u8 1] 5)
 have ha2:=ha1.alloc ha1.size (.cells #[.int .u8 2,.int .u8 3] 5)
 have ha3:=ha2.alloc ha2.size (.cells (crow [(⟨[98],[],false⟩,.slice none 0 0),(⟨[97],[],false⟩,.slice (some ⟨w8.heap.size+1,0,none⟩) 2 2)]).toArray 60)
 have ha4:=ha3.alloc ha3.size (.cells (arow (fActs w8.heap.size (w8.heap.size+1+1))).toArray 41)
 have hC:TC (((w8.alloc (.cells #[.int .u8 1] 5)).alloc (.cells #[.int .u8 2,.int .u8 3] 5)).alloc (.cells (crow [(⟨[98],[],false⟩,.slice none 0 0),(⟨[97],[],false⟩,.slice (some ⟨w8.heap.size+1,0,none⟩) 2 2)]).toArray 60)) (.slice (some ⟨w8.heap.size+1+1,0,none⟩) 2 2):=chgs_tc [(⟨[98],[],false⟩,.slice none 0 0),(⟨[97],[],false⟩,.slice (some ⟨w8.heap.size+1,0,none⟩) 2 2)] 2 rfl (Blk.at _ _ _ (by simp)) (fun y hy=>by
  simp only [List.mem_cons,List.not_mem_nil,or_false] at hy
  rcases hy with rfl | rfl
  ·exact ⟨by show 1≤60; omega,TB.nil _⟩
  ·exact ⟨by show 1≤60; omega,(KeepT.alloc _ _).tb _ T2⟩) (by omega)
 have hk:=(KeepT.alloc (((w8.alloc (.cells #[.int .u8 1] 5)).alloc (.cells #[.int .u8 2,.int .u8 3] 5)).alloc (.cells (crow [(⟨[98],[],false⟩,.slice none 0 0),(⟨[97],[],false⟩,.slice (some ⟨w8.heap.size+1,0,none⟩) 2 2)]).toArray 60)) (.cells (arow (fActs w8.heap.size (w8.heap.size+1+1))).toArray 41))
 obtain ⟨L,hL1,hL2,hL3⟩:=acts_at (Blk.at (g:=w8.heap.size+1+1+1) (((w8.alloc (.cells #[.int .u8 1] 5)).alloc (.cells #[.int .u8 2,.int .u8 3] 5)).alloc (.cells (crow [(⟨[98],[],false⟩,.slice none 0 0),(⟨[97],[],false⟩,.slice (some ⟨w8.heap.size+1,0,none⟩) 2 2)]).toArray 60)) 41 (arow (fActs w8.heap.size (w8.heap.size+1+1))) (by simp)) (fActs w8.heap.size (w8.heap.size+1+1)) (fActs_ok _ _ _ (hk.tb _ ((KeepT.alloc _ _).tb _ ((KeepT.alloc _ _).tb _ T1))) (hk.tc _ hC)) (fun _ _ h=>h) (Nat.le_refl 6) (by unfold maxLen; omega)
 have HLL:=Lib.hid hL1
 have HOK:=Lib.hid hL3
 have hln:L.length≤1000:=by have e:(fActs w8.heap.size (w8.heap.size+1+1)).length=6:=rfl; omega
 have HB9:=Lib.hid (HB8.out.trans (ha4.mono HB8.out.size))
 have HS9:=Lib.hid (HS8.out.below ha4 HS8.out.pos)
 clear T1 T2 e8 ha1 ha2 ha3 ha4 hC hk hL1 hL2 hL3 HB8 HS8
 change Code.wp _ _ _ _ ((((w8.alloc (.cells #[.int .u8 1] 5)).alloc (.cells #[.int .u8 2,.int .u8 3] 5)).alloc (.cells (crow [(⟨[98],[],false⟩,.slice none 0 0),(⟨[97],[],false⟩,.slice (some ⟨w8.heap.size+1,0,none⟩) 2 2)]).toArray 60)).alloc (.cells (arow (fActs w8.heap.size (w8.heap.size+1+1))).toArray 41))
 have HLL:Hid (ActsAt _ _ (.slice (some ⟨w8.heap.size+1+1+1,0,none⟩) 6 6) L):=HLL
 generalize (((w8.alloc (.cells #[.int .u8 1] 5)).alloc (.cells #[.int .u8 2,.int .u8 3] 5)).alloc (.cells (crow [(⟨[98],[],false⟩,.slice none 0 0),(⟨[97],[],false⟩,.slice (some ⟨w8.heap.size+1,0,none⟩) 2 2)]).toArray 60)).alloc (.cells (arow (fActs w8.heap.size (w8.heap.size+1+1))).toArray 41)=w9 at *
 generalize w8.heap.size+1+1+1=fb at *
 refine small8 w9 HS9 HLL HOK hln (Lib.hid ?_)
 intro d0 d11 d119 d120 d121 d122 d123 d124 d125 d126 d127 w10 hb10 hs10
 have hmk:(Instr.makeSlice 25 (.int .i64 262145) (.int .i64 262145)).run Tryz.prog w10=.ok (.slice (some ⟨w10.heap.size,0,none⟩) 262145 262145) (w10.alloc (zerC 262145)):=mk_zer 262145 (by omega) w10
 have ha:=(Below.refl w10.heap.size w10).alloc (Nat.le_refl _) (zerC 262145)
 have HLL2:=Lib.hid (((HLL.out.below (hb10.trans (ha.mono hb10.size)))).raise (Nat.le_trans hb10.size ha.size))
 have HB10:=Lib.hid (HB9.out.trans ((hb10.trans (ha.mono hb10.size)).mono HB9.out.size))
 have HS10:=Lib.hid (hs10.below ha hs10.pos)
 have HZ:=Lib.hid (zer_blk w10 262145)
 clear hb10 hs10 ha HLL HB9 HS9
 dsimp only
 go_upto_block 10 with (fail)
 change Code.wp _ _ _ _ (w10.alloc (zerC 262145))
 generalize hw11:w10.alloc (zerC 262145)=w11 at *
 clear hmk hw11
 refine small10 w11 HS10 HZ HLL2 HOK hln (Lib.hid ?_)
 intro d0 d13 d129 d130 d131 d132 d133 d134 d135 d136 d137 d138 d139 d140 d141 d142 d143 d144 d145 d146 d147 d148 d149 d150 d151 w12 hb12 hs12
 have HB12:=Lib.hid (HB10.out.trans (hb12.mono HB10.out.size))
 have HS12:=Lib.hid hs12
 clear hb12 hs12 HB10 HS10 HZ HLL2 HOK
 dsimp only
 go_wp2_with fail
 refine (great_c _ HS12.out).mono ?_
 rintro e w13 ⟨rfl,hb13⟩
 have HB13:=Lib.hid (HB12.out.trans (hb13.mono HB12.out.size))
 have HS13:=Lib.hid (HS12.out.below hb13 HS12.out.pos)
 clear hb13
 go_wp2_with fail
 refine (awake_c _ HS13.out).mono ?_
 rintro e w14 ⟨rfl,hb14⟩
 have HB14:=Lib.hid (HB13.out.trans (hb14.mono HB13.out.size))
 clear hb14
 go_wp2
 go_ret
 exact ⟨rfl,HB14.out⟩
end
section
section
open Go.ChangeShapes Go.WideShapes Go.ChangeAt Go.RowKit
theorem own:ownKnob Tryz.prog.godebug=none:=by kernel_rfl
theorem gS:Tryz.prog.globalNamed "lyceum/seed.steps"=some 0:=by kernel_rfl
theorem tS:(Tryz.prog.globals[0]?).map (·.type)=some 146:=by kernel_rfl
theorem cellsA:Tryz.prog.cellsOf 146=6:=by kernel_rfl
theorem cellsS:Tryz.prog.cellsOf 145=2:=by kernel_rfl
theorem cellsU:Tryz.prog.cellsOf 131=1:=by kernel_rfl
theorem cellsW:Tryz.prog.cellsOf 46=1:=by kernel_rfl
/-- one step of mixing, read -/
theorem step_read {W:World} {H:Type} {enc:TypeId × Value→H} {base:Nat} {sp:Nat→Bool} {held:Bool} {fuel:Nat} {a b:Value} {x y:Int} {q:List MemPlace}
 (h:DataW.trod enc Tryz.prog W base sp held fuel 145 [a,b]=some (.agg [.lit (.int .u64 x),.lit (.int .u64 y)],q)):a=.int .u64 x∧b=.int .u64 y:=by
 obtain ⟨y0,y1,n,hx,_,h0,h1⟩:=trod_struct2 Tryz.underlying145 h
 simp only [cellsU,cellsW,List.drop_zero,List.take_succ_cons,List.take_zero,List.drop_succ_cons] at h0 h1
 obtain ⟨k0,e0,r0,_⟩:=DataW.trod_int Tryz.underlying131 h0
 obtain ⟨k1,e1,r1,_⟩:=DataW.trod_int Tryz.underlying46 h1
 subst r0 r1
 simp only [Prod.mk.injEq,DataW.agg.injEq,List.cons.injEq,DataW.lit.injEq,Lit.int.injEq,true_and,and_true] at hx
 obtain ⟨⟨rfl,rfl⟩,_⟩:=hx
 simp only [List.cons.injEq,and_true] at e0 e1
 exact ⟨e0,e1⟩
set_option maxRecDepth 100000 in
theorem steps_of_laid {W:World} (h:laidMetH Tryz.prog [("lyceum/seed.steps",Rows.laid_lyceum_seed_steps)] W):St W:=by
 rw [MakeChecks.laidMetH_plain _ _ _ (by kernel_rfl)] at h
 obtain ⟨ps,⟨g0,t0,cs0,f0,p0,q0,hg0,ht0,hv0,hd0,_,_⟩,_,_⟩:=h
 obtain rfl:=Option.some.inj (gS.symm.trans hg0)
 obtain rfl:=Option.some.inj (tS.symm.trans ht0)
 obtain ⟨xs,m,rfl,hx,hlen,hn3,hel⟩:=DataW.trod_array Tryz.underlying146 hd0
 rw [cellsA] at hlen
 have hc:∀ i,W.cell? ⟨0,i,none⟩=cs0[i]?:=fun i=>World.var?_cell gS hv0 i
 obtain ⟨l⟩:=cs0
 match l,hlen with
 | [a0,a1,a2,a3,a4,a5],_=>
   match xs,hn3 with
   | [x0,x1,x2],_=>
     have e0:=hel 0 (by decide)
     have e1:=hel 1 (by decide)
     have e2:=hel 2 (by decide)
     simp [cellsS] at e0 e1 e2
     unfold Rows.laid_lyceum_seed_steps at hx
     simp only [Prod.mk.injEq,DataW.agg.injEq,List.map_cons,List.map_nil,List.cons.injEq,and_true] at hx
     obtain ⟨⟨r0,r1,r2⟩,_⟩:=hx
     obtain ⟨d0,q0⟩:=x0
     obtain ⟨d1,q1⟩:=x1
     obtain ⟨d2,q2⟩:=x2
     simp only at r0 r1 r2
     subst r0 r1 r2
     obtain ⟨rfl,rfl⟩:=step_read e0
     obtain ⟨rfl,rfl⟩:=step_read e1
     obtain ⟨rfl,rfl⟩:=step_read e2
     exact ⟨hc 0,hc 1,hc 2,hc 3,hc 4,hc 5⟩
/-- A WORLD FOR THE WITNESS: the settled one, the steps (block 0) holding what their initialiser lays. -/
noncomputable def laidWorld (os:Os):World:=
 { World.holding Tryz.prog os ⟨#[],#[],[]⟩ with heap:=(World.holding Tryz.prog os ⟨#[],#[],[]⟩).heap.modify 0 fun
  | .cells _ t frozen=>.cells #[.int .u64 30,.int .u64 13787848793156543929,.int .u64 27,.int .u64 10723151780598845931,.int .u64 31,.int .u64 1] t frozen
  | o=>o }
theorem laid_met (os:Os) (args:Array Value):laidMet Tryz.prog [("lyceum/seed.steps",Rows.laid_lyceum_seed_steps)] ((laidWorld os).forCall (fun _ _=>0) ⟨#[],args,[]⟩).memory:=
 laidMet_of_run' 8 (by kernel_rfl) (by kernel_rfl)
end
end
end Go.Proofs.YtondomklkapogaaGreatDoor
