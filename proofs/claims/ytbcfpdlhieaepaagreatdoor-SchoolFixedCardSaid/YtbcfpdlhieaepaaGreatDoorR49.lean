/- SchoolFixed: its inner loops, each walked by itself. Written by mkfixedw.py. -/
import Derived.Test.YtbcfpdlhieaepaaGreatDoorR46
import Derived.Test.YtbcfpdlhieaepaaGreatDoorR48
import Derived.Test.YtbcfpdlhieaepaaGreatDoorR42
import Derived.Test.YtbcfpdlhieaepaaGreatDoorR41
import Derived.Deep.CutBlock
namespace Go.Proofs.YtbcfpdlhieaepaaGreatDoor
open Go.RowKit SeedP Go.Maps
set_option linter.unusedVariables false
noncomputable def sfB2:Code:=((Tryz.f8.body.bind (fndB 2)).getD .skip)
set_option maxRecDepth 1000000 in
set_option maxHeartbeats 8000000 in
theorem fixedLp1 {K:Act→World→Prop} {Q':Exit→Act→World→Prop} {c0 c1 c2 c3 c5 c6 c7 c8 c10 c11 c12 c13 c15 c16 c17 c18 c19 c20 c21 c22 c23 c24 c25 c26 c27 c28 c29 c30 c31 c32 c33 c34 c35 c36 c37 c38 c39 c40 c41 c42 c43 c44 c45 c46 c47 c48 c49 c50 c51 c52 c53 c54 c55 c56 c57 c58 c59 c60 c61 c62 c63 c64 c65 c66 c67 c68 c69 c70 c71 c72 c73 c74 c75 c76 c77 c78 c79 c80 c81 c82 c83 c84 c85 c86 c87 c88 c89 c90 c91 c92 c93 c94 c95 c96 c97 c98 c99 c100 c101 c102 c103 c104 c105 c106 c107 c108 c109 c110 c111 c112 c113 c114 c115 c116 c117 c118 c119 c120 c121 c122 c123 c124 c125 c126 c127 c128 c129 c130 c131 c132 c133 c134 c135 c136 c137 c138 c139 c140 c141 c142 c143 c144 c145 c146 c147 c148 c149 c150 c151 c152 c153 c154 c155 c156 c157 c158 c159 c160 c161 c162 c163 c164 c165 c166 c167 c168 c169 c170 c171 c172 c173 c174 c175 c176 c177 c178 c179 c180 c181 c182 c183 c184 c185 c186 c187 c188 c189 c190 c191 c192 c193 c194 c195 c196 c197 c198 c199 c200 c201 c202 c203 c204 c205 c206 c207 c208 c209 c210 c211 c212 c213 c214 c215 c216 c217 c218 c219 c220 c221 c222 c223 c224 c225 c226 c227 c228 c229 c230 c231 c232 c233 c234 c235 c236 c237 c238 c239 c240 c241 c242 c243:Value} {n0 sb jb mb tc:Nat} {ta:Option Addr} {T:List TaskP} {s1:JS} (w:World) (HX:Hid (SX n0 w sb n0 jb mb s1)) (HT:Hid (TskAt w (.slice ta T.length tc) T)) (HF:Hid (∀ i t,T[i]?=some t→s1.taskP (i+1:Nat)=some t)) (HL9:Hid (T.length≤9999))
 (HK:Hid (∀ (d2 d14 d15 d16 d112 d113 d114 d115 d116 d117 d118 d119 d120 d121 d122 d123 d124 d125 d126 d127 d128 d129 d130 d131 d132 d133 d134 d135 d136 d137 d138 d139 d140 d141 d142 d143 d144 d145 d146 d147 d148 d149 d150 d151 d152 d153 d154 d155 d156 d157 d158 d159 d160 d161 d162 d163 d164 d165 d166 d167 d168 d169 d170 d171 d172 d173 d174 d175 d176 d177 d178 d179 d180 d181 d182 d183 d184 d185 d186 d187 d188 d189 d190 d191 d192 d193:Value) (w':World),Below w.heap.size w w'→K ⟨#[c0,c1,d2,c3,sv sb,c5,c6,c7,c8,.slice ta T.length tc,c10,c11,c12,c13,d14,d15,d16,c17,c18,c19,c20,c21,c22,c23,c24,c25,c26,c27,c28,c29,c30,c31,c32,c33,c34,c35,c36,c37,c38,c39,c40,c41,c42,c43,c44,c45,c46,c47,c48,c49,c50,c51,c52,c53,c54,c55,c56,c57,c58,c59,c60,c61,c62,c63,c64,c65,c66,c67,c68,c69,c70,c71,c72,c73,c74,c75,c76,c77,c78,c79,c80,c81,c82,c83,c84,c85,c86,c87,c88,c89,c90,c91,c92,c93,c94,c95,c96,c97,c98,c99,c100,c101,c102,c103,c104,c105,c106,c107,c108,c109,c110,c111,d112,d113,d114,d115,d116,d117,d118,d119,d120,d121,d122,d123,d124,d125,d126,d127,d128,d129,d130,d131,d132,d133,d134,d135,d136,d137,d138,d139,d140,d141,d142,d143,d144,d145,d146,d147,d148,d149,d150,d151,d152,d153,d154,d155,d156,d157,d158,d159,d160,d161,d162,d163,d164,d165,d166,d167,d168,d169,d170,d171,d172,d173,d174,d175,d176,d177,d178,d179,d180,d181,d182,d183,d184,d185,d186,d187,d188,d189,d190,d191,d192,d193,c194,c195,c196,c197,c198,c199,c200,c201,c202,c203,c204,c205,c206,c207,c208,c209,c210,c211,c212,c213,c214,c215,c216,c217,c218,c219,c220,c221,c222,c223,c224,c225,c226,c227,c228,c229,c230,c231,c232,c233,c234,c235,c236,c237,c238,c239,c240,c241,c242,c243],[]⟩ w')) :
 Code.wp Tryz.prog sfB2 (Exit.then K Q') ⟨#[c0,c1,c2,c3,sv sb,c5,c6,c7,c8,.slice ta T.length tc,c10,c11,c12,c13,.int .i64 0,c15,c16,c17,c18,c19,c20,c21,c22,c23,c24,c25,c26,c27,c28,c29,c30,c31,c32,c33,c34,c35,c36,c37,c38,c39,c40,c41,c42,c43,c44,c45,c46,c47,c48,c49,c50,c51,c52,c53,c54,c55,c56,c57,c58,c59,c60,c61,c62,c63,c64,c65,c66,c67,c68,c69,c70,c71,c72,c73,c74,c75,c76,c77,c78,c79,c80,c81,c82,c83,c84,c85,c86,c87,c88,c89,c90,c91,c92,c93,c94,c95,c96,c97,c98,c99,c100,c101,c102,c103,c104,c105,c106,c107,c108,c109,c110,c111,c112,c113,c114,c115,c116,c117,c118,c119,c120,c121,c122,c123,c124,c125,c126,c127,c128,c129,c130,c131,c132,c133,c134,c135,c136,c137,c138,c139,c140,c141,c142,c143,c144,c145,c146,c147,c148,c149,c150,c151,c152,c153,c154,c155,c156,c157,c158,c159,c160,c161,c162,c163,c164,c165,c166,c167,c168,c169,c170,c171,c172,c173,c174,c175,c176,c177,c178,c179,c180,c181,c182,c183,c184,c185,c186,c187,c188,c189,c190,c191,c192,c193,c194,c195,c196,c197,c198,c199,c200,c201,c202,c203,c204,c205,c206,c207,c208,c209,c210,c211,c212,c213,c214,c215,c216,c217,c218,c219,c220,c221,c222,c223,c224,c225,c226,c227,c228,c229,c230,c231,c232,c233,c234,c235,c236,c237,c238,c239,c240,c241,c242,c243],[]⟩ w:=by
 dsimp only
 conv=>arg 2; whnf
 have hun:undef=Value.tuple #[]:=rfl
 go_wp2
 go_loopw [14] (fun kv wr=>∃ j:Nat,j≤T.length∧kv=.int .i64 j∧Below w.heap.size w wr) (fun kv _=>T.length - (intOf kv).toNat)
 case atStart=>exact ⟨0,Nat.zero_le _,rfl,Below.refl _ _⟩
 case round=>
  obtain ⟨j,hj,rfl,hbj⟩:=hrel
  have HBJ:=Lib.hid hbj
  have hl9:=HL9.out
  by_cases hjl:j < T.length
  ·have p1:decide ((j:Int) < (T.length:Int))=true:=decide_eq_true (by omega)
   have p2:(j:Int) < (T.length:Int):=by omega
   obtain ⟨t,ht⟩:∃ t,T[j]=t:=⟨_,rfl⟩
   obtain ⟨gq,aq,cq,rfl,hgq,⟨x0,x1,x2,x3,x4,x5,x6⟩,hrd⟩:=(HT.out.below hbj).at_ hjl ht
   have HTC:=Lib.hid (task_x (((j+1:Nat):Int)) (HX.out.below hbj))
   rw [HF.out j t (by rw [List.getElem?_eq_getElem hjl,ht]),show ((j+1:Nat):Int)=(j:Int)+1 by omega] at HTC
   have HRD:=Lib.hid hrd
   have HJL:=Lib.hid hjl
   clear ht hrd hbj
   obtain ⟨cls,name,frm,due,late,tries,body⟩:=t
   simp only at x0 x1 x2 x3 x4 x5 x6 HRD
   go_wp2_with fail
   refine HTC.out.mono ?_
   rintro e w15 ⟨⟨tb,tbc,rfl,hv⟩,hb⟩
   dsimp only
   simp only at hv
   go_upto_region 28 with (fail)
   have hba:Below w15.heap.size w15 (w15.alloc (.cells #[strV cls,strV name,.int .i64 frm,.int .i64 due,.int .i64 late,.int .i64 tries,.slice tb body.length tbc] 35)):=(Below.refl _ _).alloc (Nat.le_refl _) _
   have HYT:=Lib.hid (Blk.new w15 35 [strV cls,strV name,.int .i64 frm,.int .i64 due,.int .i64 late,.int .i64 tries,.slice tb body.length tbc])
   have hb2:=hb.trans (hba.mono hb.size)
   have x0:=keep_cell hb2 x0
   have x1:=keep_cell hb2 x1
   have x2:=keep_cell hb2 x2
   have x3:=keep_cell hb2 x3
   have x4:=keep_cell hb2 x4
   have x5:=keep_cell hb2 x5
   have x6:=keep_cell hb2 x6
   have HW:=Lib.hid (HBJ.out.trans (hb2.mono HBJ.out.size))
   have HRT:=Lib.hid (hv.later hba)
   have HRO:=Lib.hid (HRD.out.later hb2)
   clear hv hb hba hb2 HTC HRD
   change Code.wp _ _ _ _ (w15.alloc (.cells #[strV cls,strV name,.int .i64 frm,.int .i64 due,.int .i64 late,.int .i64 tries,.slice tb body.length tbc] 35))
   change Hid (Blk (w15.alloc (.cells #[strV cls,strV name,.int .i64 frm,.int .i64 due,.int .i64 late,.int .i64 tries,.slice tb body.length tbc] 35)) _ _ _) at HYT
   generalize w15.alloc (.cells #[strV cls,strV name,.int .i64 frm,.int .i64 due,.int .i64 late,.int .i64 tries,.slice tb body.length tbc] 35)=w16 at *
   generalize w15.heap.size=gt at *
   have HSB:=Lib.hid (fun W (h:Below w16.heap.size w16 W)=>sameB_c (.slice tb body.length tbc) (.slice aq body.length cq) body W (HRT.out.later h) (HRO.out.later h))
   obtain ⟨z0,z1,z2,z3,z4,z5,z6, -⟩:=t7_of HYT.out
   refine fixed28 (tx:=body) w16 hjl x0 x1 x2 x3 x4 x5 x6 z0 z1 z2 z3 z4 z5 z6 (Lib.hid ⟨HRT.out,HRO.out⟩) (Lib.hid ?_)
   intro e125 e126 e127 e128 e129 e130 e131 e132 e133 e134 e135 e136 e137 e138 e139 e140 e141 e142 e143 e144 e145 e146 e147 e148 e149 e150 e151 e152 e153 e154 e155 e156 e157 e158 e159 e160 e161 e162 e163 e164 e165 e166 e167 e168 e169 e170 e171 e172 e173 e174 e175 e176 e177 e178 e179 e180 e181 e182 e183 e184 e185 e186 e187 e188 e189 e190 e191 e192 w' hB
   dsimp only
   have HW2:=Lib.hid (HW.out.trans (hB.mono HW.out.size))
   clear HSB HW x0 x1 x2 x3 x4 x5 x6 z0 z1 z2 z3 z4 z5 z6 hB HRT HRO
   go_wp2
   go_roundw
   case rel=>exact ⟨j+1,HJL.out,by go_num,HW2.out⟩
   case measure=>have:=HJL.out; simp [intOf]; omega
  ·obtain rfl:j=T.length:=by omega
   have p1:decide ((T.length:Int) < (T.length:Int))=false:=by simp
   go_wp2
   exact HK.out _ _ _ _ _ _ _ _ _ _ _ _ _ _ _ _ _ _ _ _ _ _ _ _ _ _ _ _ _ _ _ _ _ _ _ _ _ _ _ _ _ _ _ _ _ _ _ _ _ _ _ _ _ _ _ _ _ _ _ _ _ _ _ _ _ _ _ _ _ _ _ _ _ _ _ _ _ _ _ _ _ _ _ _ _ _ _ HBJ.out
noncomputable def sfB4:Code:=((Tryz.f8.body.bind (fndB 4)).getD .skip)
set_option maxRecDepth 1000000 in
set_option maxHeartbeats 8000000 in
theorem fixedLp2 {K:Act→World→Prop} {Q':Exit→Act→World→Prop} {c0 c1 c2 c3 c4 c5 c6 c8 c9 c11 c13 c14 c15 c16 c18 c19 c20 c21 c22 c23 c24 c25 c26 c27 c28 c29 c30 c31 c32 c33 c34 c35 c36 c37 c38 c39 c40 c41 c42 c43 c44 c45 c46 c47 c48 c49 c50 c51 c52 c53 c54 c55 c56 c57 c58 c59 c60 c61 c62 c63 c64 c65 c66 c67 c68 c69 c70 c71 c72 c73 c74 c75 c76 c77 c78 c79 c80 c81 c82 c83 c84 c85 c86 c87 c88 c89 c90 c91 c92 c93 c94 c95 c96 c97 c98 c99 c100 c101 c102 c103 c104 c105 c106 c107 c108 c109 c110 c111 c112 c113 c114 c115 c116 c117 c118 c119 c120 c121 c122 c123 c124 c125 c126 c127 c128 c129 c130 c131 c132 c133 c134 c135 c136 c137 c138 c139 c140 c141 c142 c143 c144 c145 c146 c147 c148 c149 c150 c151 c152 c153 c154 c155 c156 c157 c158 c159 c160 c161 c162 c163 c164 c165 c166 c167 c168 c169 c170 c171 c172 c173 c174 c175 c176 c177 c178 c179 c180 c181 c182 c183 c184 c185 c186 c187 c188 c189 c190 c191 c192 c193 c194 c195 c196 c197 c198 c199 c200 c201 c202 c203 c204 c205 c206 c207 c208 c209 c210 c211 c212 c213 c214 c215 c216 c217 c218 c219 c220 c221 c222 c223 c224 c225 c226 c227 c228 c229 c230 c231 c232 c233 c234 c235 c236 c237 c238 c239 c240 c241 c242 c243:Value} {ga ac bc:Nat} {av bv:Option Addr} {A A1:List (Nat × List UInt8)} {D D1 kd k:Int} (w:World) (y0:w.cell? ⟨ga,0,none⟩=some (.int .i64 kd)) (hkk:kd % 10=k) (HP:Hid (∀ W,Calls Tryz.prog 23 #[.int .i64 kd,.int .i64 10] W fun e w'=>e=.returned (.int .i64 k)∧W=w')) (HQ:Hid (AtsAt w (.slice av A.length ac) D A)) (HA:Hid (AtsAt w (.slice bv A1.length bc) D1 A1)) (F5:Hid (∃ q,A1=A ++ q)) (F8:Hid (kd % 10 ≠ 4→A ≠ []→D1=D)) (HL9:Hid (A.length≤99))
 (HK:Hid (∀ (d2 d17 d194 d195 d196 d197 d198 d199 d200 d201 d202 d203 d204 d205 d206 d207 d208 d209 d210 d211 d212 d213 d214 d215 d216 d217 d218 d219 d220 d221 d222 d223 d224 d225 d226 d227 d228 d229 d230 d231 d232 d233 d234 d235 d236 d237 d238 d239 d240 d241 d242 d243:Value) (w':World),Below w.heap.size w w'→K ⟨#[c0,c1,d2,c3,c4,c5,c6,.pointer (some ⟨ga,0,none⟩),c8,c9,.slice av A.length ac,c11,.slice bv A1.length bc,c13,c14,c15,c16,d17,c18,c19,c20,c21,c22,c23,c24,c25,c26,c27,c28,c29,c30,c31,c32,c33,c34,c35,c36,c37,c38,c39,c40,c41,c42,c43,c44,c45,c46,c47,c48,c49,c50,c51,c52,c53,c54,c55,c56,c57,c58,c59,c60,c61,c62,c63,c64,c65,c66,c67,c68,c69,c70,c71,c72,c73,c74,c75,c76,c77,c78,c79,c80,c81,c82,c83,c84,c85,c86,c87,c88,c89,c90,c91,c92,c93,c94,c95,c96,c97,c98,c99,c100,c101,c102,c103,c104,c105,c106,c107,c108,c109,c110,c111,c112,c113,c114,c115,c116,c117,c118,c119,c120,c121,c122,c123,c124,c125,c126,c127,c128,c129,c130,c131,c132,c133,c134,c135,c136,c137,c138,c139,c140,c141,c142,c143,c144,c145,c146,c147,c148,c149,c150,c151,c152,c153,c154,c155,c156,c157,c158,c159,c160,c161,c162,c163,c164,c165,c166,c167,c168,c169,c170,c171,c172,c173,c174,c175,c176,c177,c178,c179,c180,c181,c182,c183,c184,c185,c186,c187,c188,c189,c190,c191,c192,c193,d194,d195,d196,d197,d198,d199,d200,d201,d202,d203,d204,d205,d206,d207,d208,d209,d210,d211,d212,d213,d214,d215,d216,d217,d218,d219,d220,d221,d222,d223,d224,d225,d226,d227,d228,d229,d230,d231,d232,d233,d234,d235,d236,d237,d238,d239,d240,d241,d242,d243],[]⟩ w')) :
 Code.wp Tryz.prog sfB4 (Exit.then K Q') ⟨#[c0,c1,c2,c3,c4,c5,c6,.pointer (some ⟨ga,0,none⟩),c8,c9,.slice av A.length ac,c11,.slice bv A1.length bc,c13,c14,c15,c16,.int .i64 0,c18,c19,c20,c21,c22,c23,c24,c25,c26,c27,c28,c29,c30,c31,c32,c33,c34,c35,c36,c37,c38,c39,c40,c41,c42,c43,c44,c45,c46,c47,c48,c49,c50,c51,c52,c53,c54,c55,c56,c57,c58,c59,c60,c61,c62,c63,c64,c65,c66,c67,c68,c69,c70,c71,c72,c73,c74,c75,c76,c77,c78,c79,c80,c81,c82,c83,c84,c85,c86,c87,c88,c89,c90,c91,c92,c93,c94,c95,c96,c97,c98,c99,c100,c101,c102,c103,c104,c105,c106,c107,c108,c109,c110,c111,c112,c113,c114,c115,c116,c117,c118,c119,c120,c121,c122,c123,c124,c125,c126,c127,c128,c129,c130,c131,c132,c133,c134,c135,c136,c137,c138,c139,c140,c141,c142,c143,c144,c145,c146,c147,c148,c149,c150,c151,c152,c153,c154,c155,c156,c157,c158,c159,c160,c161,c162,c163,c164,c165,c166,c167,c168,c169,c170,c171,c172,c173,c174,c175,c176,c177,c178,c179,c180,c181,c182,c183,c184,c185,c186,c187,c188,c189,c190,c191,c192,c193,c194,c195,c196,c197,c198,c199,c200,c201,c202,c203,c204,c205,c206,c207,c208,c209,c210,c211,c212,c213,c214,c215,c216,c217,c218,c219,c220,c221,c222,c223,c224,c225,c226,c227,c228,c229,c230,c231,c232,c233,c234,c235,c236,c237,c238,c239,c240,c241,c242,c243],[]⟩ w:=by
 dsimp only
 conv=>arg 2; whnf
 have hun:undef=Value.tuple #[]:=rfl
 go_wp2
 go_loopw [17] (fun kv wr=>∃ j:Nat,j≤A.length∧kv=.int .i64 j∧Below w.heap.size w wr) (fun kv _=>A.length - (intOf kv).toNat)
 case atStart=>exact ⟨0,Nat.zero_le _,rfl,Below.refl _ _⟩
 case round=>
  obtain ⟨j,hj,rfl,hbj⟩:=hrel
  have HBJ:=Lib.hid hbj
  have hl9:=HL9.out
  by_cases hjl:j < A.length
  ·have p1:decide ((j:Int) < (A.length:Int))=true:=decide_eq_true (by omega)
   have p2:(j:Int) < (A.length:Int):=by omega
   obtain ⟨q,hq⟩:=F5.out
   have hj1:j < A1.length:=by rw [hq,List.length_append]; omega
   have p3:(j:Int) < (A1.length:Int):=by omega
   obtain ⟨x,hx⟩:∃ x,A[j]=x:=⟨_,rfl⟩
   have hx1:A1[j]=x:=by subst hq; rw [List.getElem_append_left hjl,hx]
   obtain ⟨gq,aq,cq,rfl, -,q0,q1,q2,hrq⟩:=(HQ.out.below hbj).at_ hjl hx
   obtain ⟨gr,ar,cr,rfl, -,r0,r1,r2,hrr⟩:=(HA.out.below hbj).at_ hj1 hx1
   have HD8:Hid (k ≠ 4→D1=D):=Lib.hid (fun h4=>F8.out (by rw [hkk]; exact h4) (fun e=>by rw [e] at hjl; simp at hjl))
   have HJL:=Lib.hid hjl
   obtain ⟨tm,tx⟩:=x
   simp only at q0 q1 q2 r0 r1 r2 hrq hrr
   have HRR:=Lib.hid hrr
   have HRQ:=Lib.hid hrq
   have HSB:=Lib.hid (fun W (h:Below wr.heap.size wr W)=>sameB_c (.slice ar tx.length cr) (.slice aq tx.length cq) tx W (hrr.later h) (hrq.later h))
   have y0:=keep_cell hbj y0
   have e0:((tm:Int) != (tm:Int))=false:=by simp
   have hB:Below wr.heap.size wr wr:=Below.refl _ _
   clear hx hx1 hq hrq hrr hbj
   go_upto_region 33 with (fail)
   by_cases hbb:decide (D1 < (tm:Int))=decide (D < (tm:Int))
   ·rw [hbb] at r1
    generalize decide (D < (tm:Int))=b0 at *
    clear hbb
    refine fixed33 (tx:=tx) wr hjl hj1 q0 q1 q2 r0 r1 r2 (Lib.hid ⟨HRR.out,HRQ.out⟩) (Lib.hid ?_)
    intro e200 e201 e202 e203 e204 e205 e206 e207 e208 e209 e210 e211 e212 e213 e214 e215 e216 e217 e218 e219 e220 e221 e222 e223 e224 e225 e226 e227 e228 e229 e230 e231 e232 e233 e234 e235 e236 e237 e238 e239 e240 e241 e242 w' hB
    dsimp only
    have HBN:=Lib.hid (HBJ.out.trans (hB.mono HBJ.out.size))
    clear hB
    go_wp2
    go_roundw
    case rel=>exact ⟨j+1,HJL.out,by go_num,HBN.out⟩
    case measure=>have:=HJL.out; simp [intOf]; omega
   ·have h4:k=4:=by
     refine Decidable.byContradiction (fun h4=>hbb ?_)
     rw [HD8.out h4]
    have q4:(k != 4)=false:=by simp [h4]
    generalize decide (D < (tm:Int))=b0 at *
    generalize decide (D1 < (tm:Int))=b1 at *
    have q5:(b1 != b0)=true:=by simpa using hbb
    clear h4 hbb
    cases b0 with
    | true=>
      cases b1 with
      | true=>exact absurd q5 (by decide)
      | false=>
        go_region_held3 (fun w'=>(w'.cell? ⟨gq,j * 3,none⟩=some (.int .i64 (tm:Nat))∧w'.cell? ⟨gq,j * 3+1,none⟩=some (.bool true)∧w'.cell? ⟨gq,j * 3+2,none⟩=some (.slice aq tx.length cq))∧(w'.cell? ⟨gr,j * 3,none⟩=some (.int .i64 (tm:Nat))∧w'.cell? ⟨gr,j * 3+1,none⟩=some (.bool false)∧w'.cell? ⟨gr,j * 3+2,none⟩=some (.slice ar tx.length cr))∧w'.cell? ⟨ga,0,none⟩=some (.int .i64 kd))
         (exact ⟨⟨q0,q1,q2⟩,⟨r0,r1,r2⟩,y0⟩)
         (first
          | (go_at_call 28; refine (HSB.out _ (by first | exact hB | exact hB.drew)).mono ?_; go_must (rintro e w18 ⟨rfl,hb⟩); go_must (dsimp only); go_must (have q0:=keep_cell hb q0); go_must (have q1:=keep_cell hb q1); go_must (have q2:=keep_cell hb q2); go_must (have r0:=keep_cell hb r0); go_must (have r1:=keep_cell hb r1); go_must (have r2:=keep_cell hb r2); go_must (have y0:=keep_cell hb y0); go_must (have hB:Below wr.heap.size wr w18:=(by first | exact hB.trans (hb.mono hB.size) | exact hB.trans ((undrew hb).mono hB.size))); go_must (clear hb))
          | (go_at_call 23; refine (HP.out _).mono ?_; go_must (rintro e _ ⟨rfl,rfl⟩)))
        have HBN:=Lib.hid (HBJ.out.trans (hB.mono HBJ.out.size))
        clear hB
        go_wp2
        go_roundw
        case rel=>exact ⟨j+1,HJL.out,by go_num,HBN.out⟩
        case measure=>have:=HJL.out; simp [intOf]; omega
    | false=>
      cases b1 with
      | false=>exact absurd q5 (by decide)
      | true=>
        go_region_held3 (fun w'=>(w'.cell? ⟨gq,j * 3,none⟩=some (.int .i64 (tm:Nat))∧w'.cell? ⟨gq,j * 3+1,none⟩=some (.bool false)∧w'.cell? ⟨gq,j * 3+2,none⟩=some (.slice aq tx.length cq))∧(w'.cell? ⟨gr,j * 3,none⟩=some (.int .i64 (tm:Nat))∧w'.cell? ⟨gr,j * 3+1,none⟩=some (.bool true)∧w'.cell? ⟨gr,j * 3+2,none⟩=some (.slice ar tx.length cr))∧w'.cell? ⟨ga,0,none⟩=some (.int .i64 kd))
         (exact ⟨⟨q0,q1,q2⟩,⟨r0,r1,r2⟩,y0⟩)
         (first
          | (go_at_call 28; refine (HSB.out _ (by first | exact hB | exact hB.drew)).mono ?_; go_must (rintro e w18 ⟨rfl,hb⟩); go_must (dsimp only); go_must (have q0:=keep_cell hb q0); go_must (have q1:=keep_cell hb q1); go_must (have q2:=keep_cell hb q2); go_must (have r0:=keep_cell hb r0); go_must (have r1:=keep_cell hb r1); go_must (have r2:=keep_cell hb r2); go_must (have y0:=keep_cell hb y0); go_must (have hB:Below wr.heap.size wr w18:=(by first | exact hB.trans (hb.mono hB.size) | exact hB.trans ((undrew hb).mono hB.size))); go_must (clear hb))
          | (go_at_call 23; refine (HP.out _).mono ?_; go_must (rintro e _ ⟨rfl,rfl⟩)))
        have HBN:=Lib.hid (HBJ.out.trans (hB.mono HBJ.out.size))
        clear hB
        go_wp2
        go_roundw
        case rel=>exact ⟨j+1,HJL.out,by go_num,HBN.out⟩
        case measure=>have:=HJL.out; simp [intOf]; omega
  ·obtain rfl:j=A.length:=by omega
   have p1:decide ((A.length:Int) < (A.length:Int))=false:=by simp
   go_wp2
   exact HK.out _ _ _ _ _ _ _ _ _ _ _ _ _ _ _ _ _ _ _ _ _ _ _ _ _ _ _ _ _ _ _ _ _ _ _ _ _ _ _ _ _ _ _ _ _ _ _ _ _ _ _ _ _ HBJ.out
end Go.Proofs.YtbcfpdlhieaepaaGreatDoor
