/- A part of a body, by its number. -/
import Derived.Test.YtbcfpdlhieaepaaGreatDoorR01
import Derived.Test.YtbcfpdlhieaepaaGreatDoorR42
import Derived.Test.YtbcfpdlhieaepaaGreatDoorR41
import Derived.Test.YtbcfpdlhieaepaaGreatDoorR21
namespace Go.Proofs.YtbcfpdlhieaepaaGreatDoor
section
open Go.RowKit SeedP Go.Maps
def fndR (n:Nat):Code→Option Code
 | .region id ops d=>if id=n then some (.region id ops d) else none
 | .seq a b=>match fndR n a with
   | some c=>some c
   | none=>fndR n b
 | .cond _ a b=>match fndR n a with
   | some c=>some c
   | none=>fndR n b
 | .block _ c=>fndR n c
 | .loop c=>fndR n c
 | .scope c=>fndR n c
 | _=>none
def fndB (n:Nat):Code→Option Code
 | .seq a b=>match fndB n a with
   | some c=>some c
   | none=>fndB n b
 | .cond _ a b=>match fndB n a with
   | some c=>some c
   | none=>fndB n b
 | .block id c=>if id=n then some (.block id c) else fndB n c
 | .loop c=>fndB n c
 | .scope c=>fndB n c
 | _=>none
end
section
open Go.RowKit SeedP Go.Maps
set_option linter.unusedVariables false
theorem wr64 {x:Int} (h0: -9223372036854775808≤x) (h1:x≤9223372036854775807):wrap64 x=x:=by unfold wrap64; omega
theorem iwr64 {x:Int} (h0: -9223372036854775808≤x) (h1:x≤9223372036854775807):IntKind.i64.wrap x=x:=by rw [IntKind.wrap_i64]; omega
theorem due_z (s:JS) (id:Int) (st:List UInt8):s.dueP id st=(s.taskZ id).due+s.extP id st:=by
 unfold JS.dueP JS.taskZ
 cases s.taskP id <;> rfl
theorem early_nil {now frm:Int} {A:List (Nat × List UInt8)} (h:A.length=0):earlyB now frm A=decide (now < frm):=by
 obtain rfl:=List.length_eq_zero_iff.1 h
 unfold earlyB; simp
theorem early_last {now frm:Int} {A:List (Nat × List UInt8)} {j:Nat} (h:A.length=j+1) (hj:j < A.length):earlyB now frm A=(decide (now < frm) || decide (now < (A[j].1:Int))):=by
 unfold earlyB
 have e:A.getLast?=some A[j]:=by
  rw [List.getLast?_eq_getElem?,h,Nat.add_sub_cancel,List.getElem?_eq_getElem hj]
 rw [e]
noncomputable def srR22:Code:=((Tryz.f7.body.bind (fndR 22)).getD .skip)
set_option maxRecDepth 1000000 in
set_option maxHeartbeats 8000000 in
theorem rules22 {K:Act→World→Prop} {Q':Exit→Act→World→Prop} {c0 c1 c2 c3 c4 c5 c7 c9 c11 c12 c13 c14 c15 c16 c17 c18 c19 c20 c21 c22 c23 c24 c25 c26 c27 c28 c29 c30 c31 c32 c33 c34 c35 c36 c37 c38 c39 c40 c41 c42 c43 c44 c45 c46 c47 c48 c49 c50 c51 c52 c53 c54 c55 c56 c57 c58 c59 c60 c61 c62 c63 c64 c65 c66 c67 c68 c69 c70 c71 c72 c73 c74 c75 c76 c77 c78 c79 c80 c81 c82 c83 c84 c85 c86 c87 c88 c89 c90 c91 c92 c93 c94 c95 c96 c97 c98 c99 c100 c101 c102 c103 c104 c105 c106 c107 c108 c109 c110 c111 c112 c113 c114 c115 c116 c117 c118 c119 c120 c121 c122 c123 c124 c125 c126 c127 c128 c129 c130 c131 c132 c133 c134 c135 c136 c137 c138 c139 c140 c141 c142 c143 c144 c145 c146 c147 c148 c149 c150 c151 c152 c153 c154 c155 c156 c157 c158 c159 c160 c161 c162 c163 c164 c165 c166 c167 c168 c169 c170 c171 c172 c173 c174 c175 c176 c177 c178 c179 c180 c181 c182 c183 c184 c185 c186 c187 c188 c189 c190 c191 c192 c193 c194 c195 c196 c197 c198 c199 c200 c201 c202 c203 c204 c205 c206 c207 c208 c209 c210 c211 c212 c213 c214 c215 c216 c217 c218 c219 c220 c221 c222 c223 c224 c225 c226 c227 c228 c229 c230 c231 c232 c233 c234 c235 c236 c237 c238 c239 c240 c241 c242 c243 c244 c245 c246:Value} {ga gt:Nat} {av:Option Addr} {m0 ac:Nat} {D0 n frm:Int} {A0:List (Nat × List UInt8)} (w:World) (y11:w.cell? ⟨ga,11,none⟩=some (.int .i64 n)) (t2:w.cell? ⟨gt,2,none⟩=some (.int .i64 frm)) (HQ:Hid (AtsAt w (.slice av m0 ac) D0 A0)) (hm0:A0.length=m0) (h99:m0≤99)
 (HK:Hid (∀ (d97 d98 d99 d100 d101 d102 d103 d104 d105 d106 d107 d108 d109 d110 d111 d112 d113 d114 d115 d116 d117 d118:Value) (w':World),Below w.heap.size w w'→K ⟨#[c0,c1,c2,c3,c4,c5,.pointer (some ⟨ga,0,none⟩),c7,.pointer (some ⟨gt,0,none⟩),c9,.slice av m0 ac,c11,c12,c13,c14,.bool (earlyB n frm A0),c16,c17,c18,c19,c20,c21,c22,c23,c24,c25,c26,c27,c28,c29,c30,c31,c32,c33,c34,c35,c36,c37,c38,c39,c40,c41,c42,c43,c44,c45,c46,c47,c48,c49,c50,c51,c52,c53,c54,c55,c56,c57,c58,c59,c60,c61,c62,c63,c64,c65,c66,c67,c68,c69,c70,c71,c72,c73,c74,c75,c76,c77,c78,c79,c80,c81,c82,c83,c84,c85,c86,c87,c88,c89,c90,c91,c92,c93,c94,c95,c96,d97,d98,d99,d100,d101,d102,d103,d104,d105,d106,d107,d108,d109,d110,d111,d112,d113,d114,d115,d116,d117,d118,c119,c120,c121,c122,c123,c124,c125,c126,c127,c128,c129,c130,c131,c132,c133,c134,c135,c136,c137,c138,c139,c140,c141,c142,c143,c144,c145,c146,c147,c148,c149,c150,c151,c152,c153,c154,c155,c156,c157,c158,c159,c160,c161,c162,c163,c164,c165,c166,c167,c168,c169,c170,c171,c172,c173,c174,c175,c176,c177,c178,c179,c180,c181,c182,c183,c184,c185,c186,c187,c188,c189,c190,c191,c192,c193,c194,c195,c196,c197,c198,c199,c200,c201,c202,c203,c204,c205,c206,c207,c208,c209,c210,c211,c212,c213,c214,c215,c216,c217,c218,c219,c220,c221,c222,c223,c224,c225,c226,c227,c228,c229,c230,c231,c232,c233,c234,c235,c236,c237,c238,c239,c240,c241,c242,c243,c244,c245,c246],[]⟩ w')) :
 Code.wp Tryz.prog srR22 (Exit.then K Q') ⟨#[c0,c1,c2,c3,c4,c5,.pointer (some ⟨ga,0,none⟩),c7,.pointer (some ⟨gt,0,none⟩),c9,.slice av m0 ac,c11,c12,c13,c14,c15,c16,c17,c18,c19,c20,c21,c22,c23,c24,c25,c26,c27,c28,c29,c30,c31,c32,c33,c34,c35,c36,c37,c38,c39,c40,c41,c42,c43,c44,c45,c46,c47,c48,c49,c50,c51,c52,c53,c54,c55,c56,c57,c58,c59,c60,c61,c62,c63,c64,c65,c66,c67,c68,c69,c70,c71,c72,c73,c74,c75,c76,c77,c78,c79,c80,c81,c82,c83,c84,c85,c86,c87,c88,c89,c90,c91,c92,c93,c94,c95,c96,c97,c98,c99,c100,c101,c102,c103,c104,c105,c106,c107,c108,c109,c110,c111,c112,c113,c114,c115,c116,c117,c118,c119,c120,c121,c122,c123,c124,c125,c126,c127,c128,c129,c130,c131,c132,c133,c134,c135,c136,c137,c138,c139,c140,c141,c142,c143,c144,c145,c146,c147,c148,c149,c150,c151,c152,c153,c154,c155,c156,c157,c158,c159,c160,c161,c162,c163,c164,c165,c166,c167,c168,c169,c170,c171,c172,c173,c174,c175,c176,c177,c178,c179,c180,c181,c182,c183,c184,c185,c186,c187,c188,c189,c190,c191,c192,c193,c194,c195,c196,c197,c198,c199,c200,c201,c202,c203,c204,c205,c206,c207,c208,c209,c210,c211,c212,c213,c214,c215,c216,c217,c218,c219,c220,c221,c222,c223,c224,c225,c226,c227,c228,c229,c230,c231,c232,c233,c234,c235,c236,c237,c238,c239,c240,c241,c242,c243,c244,c245,c246],[]⟩ w:=by
 dsimp only
 conv=>arg 2; whnf
 have hun:undef=Value.tuple #[]:=rfl
 have HF:Hid (∀ q,q=earlyB n frm A0→∀ d97 d98 d99 d100 d101 d102 d103 d104 d105 d106 d107 d108 d109 d110 d111 d112 d113 d114 d115 d116 d117 d118 (w':World),Below w.heap.size w w'→K ⟨#[c0,c1,c2,c3,c4,c5,.pointer (some ⟨ga,0,none⟩),c7,.pointer (some ⟨gt,0,none⟩),c9,.slice av m0 ac,c11,c12,c13,c14,.bool q,c16,c17,c18,c19,c20,c21,c22,c23,c24,c25,c26,c27,c28,c29,c30,c31,c32,c33,c34,c35,c36,c37,c38,c39,c40,c41,c42,c43,c44,c45,c46,c47,c48,c49,c50,c51,c52,c53,c54,c55,c56,c57,c58,c59,c60,c61,c62,c63,c64,c65,c66,c67,c68,c69,c70,c71,c72,c73,c74,c75,c76,c77,c78,c79,c80,c81,c82,c83,c84,c85,c86,c87,c88,c89,c90,c91,c92,c93,c94,c95,c96,d97,d98,d99,d100,d101,d102,d103,d104,d105,d106,d107,d108,d109,d110,d111,d112,d113,d114,d115,d116,d117,d118,c119,c120,c121,c122,c123,c124,c125,c126,c127,c128,c129,c130,c131,c132,c133,c134,c135,c136,c137,c138,c139,c140,c141,c142,c143,c144,c145,c146,c147,c148,c149,c150,c151,c152,c153,c154,c155,c156,c157,c158,c159,c160,c161,c162,c163,c164,c165,c166,c167,c168,c169,c170,c171,c172,c173,c174,c175,c176,c177,c178,c179,c180,c181,c182,c183,c184,c185,c186,c187,c188,c189,c190,c191,c192,c193,c194,c195,c196,c197,c198,c199,c200,c201,c202,c203,c204,c205,c206,c207,c208,c209,c210,c211,c212,c213,c214,c215,c216,c217,c218,c219,c220,c221,c222,c223,c224,c225,c226,c227,c228,c229,c230,c231,c232,c233,c234,c235,c236,c237,c238,c239,c240,c241,c242,c243,c244,c245,c246],[]⟩ w'):=Lib.hid (fun q hq=>by subst hq; exact HK.out)
 clear HK
 by_cases h1:n < frm
 ·have p1:decide (n < frm)=true:=decide_eq_true h1
  have HE:Hid (earlyB n frm A0=true):=Lib.hid (by unfold earlyB; rw [p1]; rfl)
  clear h1
  go_quiet (fail)
  go_wp2
  exact HF.out _ HE.out.symm _ _ _ _ _ _ _ _ _ _ _ _ _ _ _ _ _ _ _ _ _ _ _ (below_drewN (Below.refl _ _) _)
 ·have p1:decide (n < frm)=false:=decide_eq_false h1
  clear h1
  by_cases h0:m0=0
  ·subst h0
   have HE:Hid (earlyB n frm A0=false):=Lib.hid (by rw [early_nil hm0,p1])
   go_quiet (fail)
   go_wp2
   exact HF.out _ HE.out.symm _ _ _ _ _ _ _ _ _ _ _ _ _ _ _ _ _ _ _ _ _ _ _ (below_drewN (Below.refl _ _) _)
  ·obtain ⟨j,hj⟩:∃ j,m0=j+1:=⟨m0 - 1,by omega⟩
   have hjl:j < A0.length:=by omega
   have HE:Hid (earlyB n frm A0=decide (n < (A0[j].1:Int))):=Lib.hid (by rw [early_last (hm0.trans hj) hjl,p1]; rfl)
   have hq:=HQ.out
   obtain ⟨gq,aq,cq,rfl, -,q0, -, -, -⟩:=hq.at_ hjl rfl
   have p2':decide (0 < m0)=true:=decide_eq_true (by omega)
   have p2:decide ((0:Int) < (m0:Int))=true:=decide_eq_true (by omega)
   have p4:(j:Int) < (m0:Int):=by omega
   have p5:j < m0:=by omega
   have o1: -9223372036854775808≤(m0:Int) - 1:=by omega
   have o2:(m0:Int) - 1≤9223372036854775807:=by omega
   have o3:(m0:Int) - 1=(j:Int):=by omega
   have p3:wrap64 ((m0:Int) - 1)=(j:Int):=(wr64 o1 o2).trans o3
   clear o1 o2 o3
   generalize A0[j]=x at *
   generalize hbq:decide (n < (x.1:Int))=bq at *
   clear hq hj h0 h99
   go_quiet (fail)
   go_wp2
   exact HF.out _ HE.out.symm _ _ _ _ _ _ _ _ _ _ _ _ _ _ _ _ _ _ _ _ _ _ _ (below_drewN (Below.refl _ _) _)
noncomputable def srR23:Code:=((Tryz.f7.body.bind (fndR 23)).getD .skip)
set_option maxRecDepth 1000000 in
set_option maxHeartbeats 8000000 in
theorem rules23 {K:Act→World→Prop} {Q':Exit→Act→World→Prop} {c0 c1 c2 c3 c4 c5 c7 c9 c13 c14 c16 c17 c18 c19 c20 c21 c22 c23 c24 c25 c26 c27 c28 c29 c30 c31 c32 c33 c34 c35 c36 c37 c38 c39 c40 c41 c42 c43 c44 c45 c46 c47 c48 c49 c50 c51 c52 c53 c54 c55 c56 c57 c58 c59 c60 c61 c62 c63 c64 c65 c66 c67 c68 c69 c70 c71 c72 c73 c74 c75 c76 c77 c78 c79 c80 c81 c82 c83 c84 c85 c86 c87 c88 c89 c90 c91 c92 c93 c94 c95 c96 c97 c98 c99 c100 c101 c102 c103 c104 c105 c106 c107 c108 c109 c110 c111 c112 c113 c114 c115 c116 c117 c118 c119 c120 c121 c122 c123 c124 c125 c126 c127 c128 c129 c130 c131 c132 c133 c134 c135 c136 c137 c138 c139 c140 c141 c142 c143 c144 c145 c146 c147 c148 c149 c150 c151 c152 c153 c154 c155 c156 c157 c158 c159 c160 c161 c162 c163 c164 c165 c166 c167 c168 c169 c170 c171 c172 c173 c174 c175 c176 c177 c178 c179 c180 c181 c182 c183 c184 c185 c186 c187 c188 c189 c190 c191 c192 c193 c194 c195 c196 c197 c198 c199 c200 c201 c202 c203 c204 c205 c206 c207 c208 c209 c210 c211 c212 c213 c214 c215 c216 c217 c218 c219 c220 c221 c222 c223 c224 c225 c226 c227 c228 c229 c230 c231 c232 c233 c234 c235 c236 c237 c238 c239 c240 c241 c242 c243 c244 c245 c246:Value} {ga gt:Nat} {av ax:Option Addr} {m0 ac tl cx x0:Nat} {bin ea:Bool} {n late tries:Int} (w:World) (y11:w.cell? ⟨ga,11,none⟩=some (.int .i64 n)) (y12:w.cell? ⟨ga,12,none⟩=some (.slice ax tl cx)) (t4:w.cell? ⟨gt,4,none⟩=some (.int .i64 late)) (t5:w.cell? ⟨gt,5,none⟩=some (.int .i64 tries)) (p7:wrap64 (late+(x0:Int))=late+(x0:Int))
 (HK:Hid (∀ (d119 d120 d121 d122 d123 d124 d125 d126 d127 d128 d129 d130 d131 d132 d133 d134 d135 d136 d137 d138 d139 d140 d141 d142 d143 d144 d145 d146 d147 d148 d149 d150 d151 d152 d153 d154 d155:Value) (w':World),w'=w→K ⟨#[c0,c1,c2,c3,c4,c5,.pointer (some ⟨ga,0,none⟩),c7,.pointer (some ⟨gt,0,none⟩),c9,.slice av m0 ac,.int .i64 (x0:Int),.bool bin,c13,c14,.bool ea,.bool (fitB bin n tl ea late x0 m0 tries),c17,c18,c19,c20,c21,c22,c23,c24,c25,c26,c27,c28,c29,c30,c31,c32,c33,c34,c35,c36,c37,c38,c39,c40,c41,c42,c43,c44,c45,c46,c47,c48,c49,c50,c51,c52,c53,c54,c55,c56,c57,c58,c59,c60,c61,c62,c63,c64,c65,c66,c67,c68,c69,c70,c71,c72,c73,c74,c75,c76,c77,c78,c79,c80,c81,c82,c83,c84,c85,c86,c87,c88,c89,c90,c91,c92,c93,c94,c95,c96,c97,c98,c99,c100,c101,c102,c103,c104,c105,c106,c107,c108,c109,c110,c111,c112,c113,c114,c115,c116,c117,c118,d119,d120,d121,d122,d123,d124,d125,d126,d127,d128,d129,d130,d131,d132,d133,d134,d135,d136,d137,d138,d139,d140,d141,d142,d143,d144,d145,d146,d147,d148,d149,d150,d151,d152,d153,d154,d155,c156,c157,c158,c159,c160,c161,c162,c163,c164,c165,c166,c167,c168,c169,c170,c171,c172,c173,c174,c175,c176,c177,c178,c179,c180,c181,c182,c183,c184,c185,c186,c187,c188,c189,c190,c191,c192,c193,c194,c195,c196,c197,c198,c199,c200,c201,c202,c203,c204,c205,c206,c207,c208,c209,c210,c211,c212,c213,c214,c215,c216,c217,c218,c219,c220,c221,c222,c223,c224,c225,c226,c227,c228,c229,c230,c231,c232,c233,c234,c235,c236,c237,c238,c239,c240,c241,c242,c243,c244,c245,c246],[]⟩ w')) :
 Code.wp Tryz.prog srR23 (Exit.then K Q') ⟨#[c0,c1,c2,c3,c4,c5,.pointer (some ⟨ga,0,none⟩),c7,.pointer (some ⟨gt,0,none⟩),c9,.slice av m0 ac,.int .i64 (x0:Int),.bool bin,c13,c14,.bool ea,c16,c17,c18,c19,c20,c21,c22,c23,c24,c25,c26,c27,c28,c29,c30,c31,c32,c33,c34,c35,c36,c37,c38,c39,c40,c41,c42,c43,c44,c45,c46,c47,c48,c49,c50,c51,c52,c53,c54,c55,c56,c57,c58,c59,c60,c61,c62,c63,c64,c65,c66,c67,c68,c69,c70,c71,c72,c73,c74,c75,c76,c77,c78,c79,c80,c81,c82,c83,c84,c85,c86,c87,c88,c89,c90,c91,c92,c93,c94,c95,c96,c97,c98,c99,c100,c101,c102,c103,c104,c105,c106,c107,c108,c109,c110,c111,c112,c113,c114,c115,c116,c117,c118,c119,c120,c121,c122,c123,c124,c125,c126,c127,c128,c129,c130,c131,c132,c133,c134,c135,c136,c137,c138,c139,c140,c141,c142,c143,c144,c145,c146,c147,c148,c149,c150,c151,c152,c153,c154,c155,c156,c157,c158,c159,c160,c161,c162,c163,c164,c165,c166,c167,c168,c169,c170,c171,c172,c173,c174,c175,c176,c177,c178,c179,c180,c181,c182,c183,c184,c185,c186,c187,c188,c189,c190,c191,c192,c193,c194,c195,c196,c197,c198,c199,c200,c201,c202,c203,c204,c205,c206,c207,c208,c209,c210,c211,c212,c213,c214,c215,c216,c217,c218,c219,c220,c221,c222,c223,c224,c225,c226,c227,c228,c229,c230,c231,c232,c233,c234,c235,c236,c237,c238,c239,c240,c241,c242,c243,c244,c245,c246],[]⟩ w:=by
 dsimp only
 conv=>arg 2; whnf
 have hun:undef=Value.tuple #[]:=rfl
 have HF:Hid (∀ q,q=fitB bin n tl ea late x0 m0 tries→∀ d119 d120 d121 d122 d123 d124 d125 d126 d127 d128 d129 d130 d131 d132 d133 d134 d135 d136 d137 d138 d139 d140 d141 d142 d143 d144 d145 d146 d147 d148 d149 d150 d151 d152 d153 d154 d155,K ⟨#[c0,c1,c2,c3,c4,c5,.pointer (some ⟨ga,0,none⟩),c7,.pointer (some ⟨gt,0,none⟩),c9,.slice av m0 ac,.int .i64 (x0:Int),.bool bin,c13,c14,.bool ea,.bool q,c17,c18,c19,c20,c21,c22,c23,c24,c25,c26,c27,c28,c29,c30,c31,c32,c33,c34,c35,c36,c37,c38,c39,c40,c41,c42,c43,c44,c45,c46,c47,c48,c49,c50,c51,c52,c53,c54,c55,c56,c57,c58,c59,c60,c61,c62,c63,c64,c65,c66,c67,c68,c69,c70,c71,c72,c73,c74,c75,c76,c77,c78,c79,c80,c81,c82,c83,c84,c85,c86,c87,c88,c89,c90,c91,c92,c93,c94,c95,c96,c97,c98,c99,c100,c101,c102,c103,c104,c105,c106,c107,c108,c109,c110,c111,c112,c113,c114,c115,c116,c117,c118,d119,d120,d121,d122,d123,d124,d125,d126,d127,d128,d129,d130,d131,d132,d133,d134,d135,d136,d137,d138,d139,d140,d141,d142,d143,d144,d145,d146,d147,d148,d149,d150,d151,d152,d153,d154,d155,c156,c157,c158,c159,c160,c161,c162,c163,c164,c165,c166,c167,c168,c169,c170,c171,c172,c173,c174,c175,c176,c177,c178,c179,c180,c181,c182,c183,c184,c185,c186,c187,c188,c189,c190,c191,c192,c193,c194,c195,c196,c197,c198,c199,c200,c201,c202,c203,c204,c205,c206,c207,c208,c209,c210,c211,c212,c213,c214,c215,c216,c217,c218,c219,c220,c221,c222,c223,c224,c225,c226,c227,c228,c229,c230,c231,c232,c233,c234,c235,c236,c237,c238,c239,c240,c241,c242,c243,c244,c245,c246],[]⟩ w):=Lib.hid (fun q hq=>by subst hq; exact fun d119 d120 d121 d122 d123 d124 d125 d126 d127 d128 d129 d130 d131 d132 d133 d134 d135 d136 d137 d138 d139 d140 d141 d142 d143 d144 d145 d146 d147 d148 d149 d150 d151 d152 d153 d154 d155=>HK.out d119 d120 d121 d122 d123 d124 d125 d126 d127 d128 d129 d130 d131 d132 d133 d134 d135 d136 d137 d138 d139 d140 d141 d142 d143 d144 d145 d146 d147 d148 d149 d150 d151 d152 d153 d154 d155 _ rfl)
 clear HK
 cases bin with
 | false=>go_wp2; exact HF.out false (by simp [fitB]) _ _ _ _ _ _ _ _ _ _ _ _ _ _ _ _ _ _ _ _ _ _ _ _ _ _ _ _ _ _ _ _ _ _ _ _ _
 | true=>
   cases h0:decide (0≤n) with
   | false=>go_wp2; exact HF.out false (by simp [fitB,h0]) _ _ _ _ _ _ _ _ _ _ _ _ _ _ _ _ _ _ _ _ _ _ _ _ _ _ _ _ _ _ _ _ _ _ _ _ _
   | true=>
     cases h1:decide (n≤2147483647) with
     | false=>go_wp2; exact HF.out false (by simp [fitB,h0,h1]) _ _ _ _ _ _ _ _ _ _ _ _ _ _ _ _ _ _ _ _ _ _ _ _ _ _ _ _ _ _ _ _ _ _ _ _ _
     | true=>
       cases h2:decide ((tl:Int)≤4000) with
       | false=>go_wp2; exact HF.out false (by simp [fitB,h0,h1,h2]) _ _ _ _ _ _ _ _ _ _ _ _ _ _ _ _ _ _ _ _ _ _ _ _ _ _ _ _ _ _ _ _ _ _ _ _ _
       | true=>
         cases ea with
         | true=>go_wp2; exact HF.out false (by simp [fitB]) _ _ _ _ _ _ _ _ _ _ _ _ _ _ _ _ _ _ _ _ _ _ _ _ _ _ _ _ _ _ _ _ _ _ _ _ _
         | false=>
           cases h3:decide (n≤late+(x0:Int)) with
           | false=>go_wp2; exact HF.out false (by simp [fitB,h3]) _ _ _ _ _ _ _ _ _ _ _ _ _ _ _ _ _ _ _ _ _ _ _ _ _ _ _ _ _ _ _ _ _ _ _ _ _
           | true=>
             cases h4:decide ((m0:Int) < tries) with
             | false=>go_wp2; exact HF.out false (by simp [fitB,h4]) _ _ _ _ _ _ _ _ _ _ _ _ _ _ _ _ _ _ _ _ _ _ _ _ _ _ _ _ _ _ _ _ _ _ _ _ _
             | true=>go_wp2; exact HF.out true (by simp [fitB,h0,h1,h2,h3,h4]) _ _ _ _ _ _ _ _ _ _ _ _ _ _ _ _ _ _ _ _ _ _ _ _ _ _ _ _ _ _ _ _ _ _ _ _ _
noncomputable def srR29:Code:=((Tryz.f7.body.bind (fndR 29)).getD .skip)
set_option maxRecDepth 1000000 in
set_option maxHeartbeats 8000000 in
theorem rules29 {K:Act→World→Prop} {Q':Exit→Act→World→Prop} {c0 c1 c2 c3 c4 c5 c7 c9 c12 c13 c14 c15 c18 c20 c21 c22 c23 c24 c25 c26 c27 c28 c29 c30 c31 c32 c33 c34 c35 c36 c37 c38 c39 c40 c41 c42 c43 c44 c45 c46 c47 c48 c49 c50 c51 c52 c53 c54 c55 c56 c57 c58 c59 c60 c61 c62 c63 c64 c65 c66 c67 c68 c69 c70 c71 c72 c73 c74 c75 c76 c77 c78 c79 c80 c81 c82 c83 c84 c85 c86 c87 c88 c89 c90 c91 c92 c93 c94 c95 c96 c97 c98 c99 c100 c101 c102 c103 c104 c105 c106 c107 c108 c109 c110 c111 c112 c113 c114 c115 c116 c117 c118 c119 c120 c121 c122 c123 c124 c125 c126 c127 c128 c129 c130 c131 c132 c133 c134 c135 c136 c137 c138 c139 c140 c141 c142 c143 c144 c145 c146 c147 c148 c149 c150 c151 c152 c153 c154 c155 c156 c157 c158 c159 c160 c161 c162 c163 c164 c165 c166 c167 c168 c169 c170 c171 c172 c173 c174 c175 c176 c177 c178 c179 c180 c181 c182 c183 c184 c185 c186 c187 c188 c189 c190 c191 c192 c193 c194 c195 c196 c197 c198 c199 c200 c201 c202 c203 c204 c205 c206 c207 c208 c209 c210 c211 c212 c213 c214 c215 c216 c217 c218 c219 c220 c221 c222 c223 c224 c225 c226 c227 c228 c229 c230 c231 c232 c233 c234 c235 c236 c237 c238 c239 c240 c241 c242 c243 c244 c245 c246:Value} {ga gt gq:Nat} {av aq ax:Option Addr} {m0 m1 ac bc tl cq cx x0:Nat} {bl:Bool} {n due:Int} {tx:List UInt8} (w:World) (htl:tx.length=tl) (q0:w.cell? ⟨gq,m0 * 3,none⟩=some (.int .i64 n)) (q1:w.cell? ⟨gq,m0 * 3+1,none⟩=some (.bool bl)) (q2:w.cell? ⟨gq,m0 * 3+2,none⟩=some (.slice aq tl cq)) (y11:w.cell? ⟨ga,11,none⟩=some (.int .i64 n)) (y12:w.cell? ⟨ga,12,none⟩=some (.slice ax tl cx)) (t3:w.cell? ⟨gt,3,none⟩=some (.int .i64 due)) (hbl:decide (due+(x0:Int) < n)=bl) (p1':IntKind.i64.wrap ((m0:Int)+1)=(m1:Int)) (p3':IntKind.i64.wrap ((m1:Int) - 1)=(m0:Int)) (p5:m0 < m1) (p6':IntKind.i64.wrap (due+(x0:Int))=due+(x0:Int)) (HRQ:Hid (RdB w w.heap.size (.slice aq tl cq) tx∧RdB w w.heap.size (.slice ax tl cx) tx))
 (HK:Hid (∀ (d193 d194 d195 d196 d197 d198 d199 d200 d201 d202 d203 d204 d205 d206 d207 d208 d209 d210 d211 d212 d213 d214 d215 d216 d217 d218 d219 d220 d221 d222 d223 d224 d225 d226 d227 d228 d229 d230 d231 d232 d233 d234 d235 d236 d237 d238 d239 d240 d241 d242 d243 d244 d245:Value) (w':World),Below w.heap.size w w'→K ⟨#[c0,c1,c2,c3,c4,c5,.pointer (some ⟨ga,0,none⟩),c7,.pointer (some ⟨gt,0,none⟩),c9,.slice av m0 ac,.int .i64 (x0:Int),c12,c13,c14,c15,.bool true,.int .i64 (m1:Int),c18,.slice (some ⟨gq,0,none⟩) m1 bc,c20,c21,c22,c23,c24,c25,c26,c27,c28,c29,c30,c31,c32,c33,c34,c35,c36,c37,c38,c39,c40,c41,c42,c43,c44,c45,c46,c47,c48,c49,c50,c51,c52,c53,c54,c55,c56,c57,c58,c59,c60,c61,c62,c63,c64,c65,c66,c67,c68,c69,c70,c71,c72,c73,c74,c75,c76,c77,c78,c79,c80,c81,c82,c83,c84,c85,c86,c87,c88,c89,c90,c91,c92,c93,c94,c95,c96,c97,c98,c99,c100,c101,c102,c103,c104,c105,c106,c107,c108,c109,c110,c111,c112,c113,c114,c115,c116,c117,c118,c119,c120,c121,c122,c123,c124,c125,c126,c127,c128,c129,c130,c131,c132,c133,c134,c135,c136,c137,c138,c139,c140,c141,c142,c143,c144,c145,c146,c147,c148,c149,c150,c151,c152,c153,c154,c155,c156,c157,c158,c159,c160,c161,c162,c163,c164,c165,c166,c167,c168,c169,c170,c171,c172,c173,c174,c175,c176,c177,c178,c179,c180,c181,c182,c183,c184,c185,c186,c187,c188,c189,c190,c191,c192,d193,d194,d195,d196,d197,d198,d199,d200,d201,d202,d203,d204,d205,d206,d207,d208,d209,d210,d211,d212,d213,d214,d215,d216,d217,d218,d219,d220,d221,d222,d223,d224,d225,d226,d227,d228,d229,d230,d231,d232,d233,d234,d235,d236,d237,d238,d239,d240,d241,d242,d243,d244,d245,.bool false],[]⟩ w')) :
 Code.wp Tryz.prog srR29 (Exit.then K Q') ⟨#[c0,c1,c2,c3,c4,c5,.pointer (some ⟨ga,0,none⟩),c7,.pointer (some ⟨gt,0,none⟩),c9,.slice av m0 ac,.int .i64 (x0:Int),c12,c13,c14,c15,.bool true,.int .i64 (m1:Int),c18,.slice (some ⟨gq,0,none⟩) m1 bc,c20,c21,c22,c23,c24,c25,c26,c27,c28,c29,c30,c31,c32,c33,c34,c35,c36,c37,c38,c39,c40,c41,c42,c43,c44,c45,c46,c47,c48,c49,c50,c51,c52,c53,c54,c55,c56,c57,c58,c59,c60,c61,c62,c63,c64,c65,c66,c67,c68,c69,c70,c71,c72,c73,c74,c75,c76,c77,c78,c79,c80,c81,c82,c83,c84,c85,c86,c87,c88,c89,c90,c91,c92,c93,c94,c95,c96,c97,c98,c99,c100,c101,c102,c103,c104,c105,c106,c107,c108,c109,c110,c111,c112,c113,c114,c115,c116,c117,c118,c119,c120,c121,c122,c123,c124,c125,c126,c127,c128,c129,c130,c131,c132,c133,c134,c135,c136,c137,c138,c139,c140,c141,c142,c143,c144,c145,c146,c147,c148,c149,c150,c151,c152,c153,c154,c155,c156,c157,c158,c159,c160,c161,c162,c163,c164,c165,c166,c167,c168,c169,c170,c171,c172,c173,c174,c175,c176,c177,c178,c179,c180,c181,c182,c183,c184,c185,c186,c187,c188,c189,c190,c191,c192,c193,c194,c195,c196,c197,c198,c199,c200,c201,c202,c203,c204,c205,c206,c207,c208,c209,c210,c211,c212,c213,c214,c215,c216,c217,c218,c219,c220,c221,c222,c223,c224,c225,c226,c227,c228,c229,c230,c231,c232,c233,c234,c235,c236,c237,c238,c239,c240,c241,c242,c243,c244,c245,c246],[]⟩ w:=by
 dsimp only
 conv=>arg 2; whnf
 have hun:undef=Value.tuple #[]:=rfl
 have hBd:Below w.heap.size w w.drew:=bl_drew w
 have HCALL:Hid (Calls Tryz.prog 28 #[.slice aq tl cq,.slice ax tl cx] w.drew (fun e w'=>e=.returned (.bool true)∧Below w.heap.size w w')):=Lib.hid ((sameB_c _ _ tx _ (HRQ.out.1.later hBd) (HRQ.out.2.later hBd)).mono (fun e w' hh=>⟨hh.1,hBd.trans (hh.2.mono hBd.size)⟩))
 refine wp_region_call' (by kernel_rfl) 51 193 247 ([.bool true,.bool false,.bool false,.int .i64 (m1:Int),.slice av m0 ac,.int .i64 (m0:Int),.int .i64 (m1:Int),.bool false,.bool false,.bool false,.slice (some ⟨gq,0,none⟩) m1 bc,.int .i64 (m1:Int),.int .i64 (m1:Int),.bool false,.bool false,.bool false,.slice (some ⟨gq,0,none⟩) m1 bc,.int .i64 (m1:Int),.int .i64 (m0:Int),.pointer (some ⟨gq,m0 * 3,none⟩),.pointer (some ⟨gq,m0 * 3,none⟩),.int .i64 n,.pointer (some ⟨ga,11,none⟩),.int .i64 n,.bool false,.bool false,.bool false,.slice (some ⟨gq,0,none⟩) m1 bc,.int .i64 (m1:Int),.int .i64 (m0:Int)] ++ [.pointer (some ⟨gq,m0 * 3,none⟩),.pointer (some ⟨gq,m0 * 3+1,none⟩),.bool bl,.pointer (some ⟨ga,11,none⟩),.int .i64 n,.pointer (some ⟨gt,3,none⟩),.int .i64 due,.int .i64 (x0:Int),.int .i64 (due+(x0:Int)),.bool bl,.bool false,.bool false,.bool false,.slice (some ⟨gq,0,none⟩) m1 bc,.int .i64 (m1:Int),.int .i64 (m0:Int),.pointer (some ⟨gq,m0 * 3,none⟩),.pointer (some ⟨gq,m0 * 3+2,none⟩),.slice aq tl cq,.pointer (some ⟨ga,12,none⟩),.slice ax tl cx,.bool true,.bool false,.bool false]:List Value) (fun w'=>Below w.heap.size w w') (by kernel_rfl) (by kernel_rfl) rfl (by kernel_rfl) rfl rfl (Nat.le_of_ble_eq_true (by kernel_rfl)) ?_ (by kernel_rfl) 28 #[.slice aq tl cq,.slice ax tl cx] (by kernel_rfl) ?_ ?_
 ·intro w' hw'
  have hbw:Below w.heap.size w w':=by rcases hw' with rfl | h; exact hBd; exact h
  have q0:=keep_cell hbw q0
  have q1:=keep_cell hbw q1
  have q2:=keep_cell hbw q2
  have y11:=keep_cell hbw y11
  have y12:=keep_cell hbw y12
  have t3:=keep_cell hbw t3
  constructor
  ·refine GvAll.run (by kernel_rfl) (by kernel_rfl) ?_
   refine GvAll.run (by kernel_rfl) (by kernel_rfl) ?_
   refine GvAll.run (by kernel_rfl) (by kernel_rfl) ?_
   refine GvAll.run (by kernel_rfl) (by kernel_rfl) ?_
   refine GvAll.run (by kernel_rfl) (by kernel_rfl) ?_
   refine GvAll.run (by kernel_rfl) (yr_len _ _ _ _ _ _ _ av m0 ac (by kernel_rfl)) ?_
   refine GvAll.run (by kernel_rfl) (yr_add _ _ _ _ _ _ _ _ _ (m0:Int) 1 _ (by kernel_rfl) (by kernel_rfl) p1') ?_
   refine GvAll.run (by kernel_rfl) (yr_neq _ _ _ _ _ _ _ _ _ (m1:Int) (by kernel_rfl) (by kernel_rfl)) ?_
   refine GvAll.run (by kernel_rfl) (by kernel_rfl) ?_
   refine GvAll.run (by kernel_rfl) (by kernel_rfl) ?_
   refine GvAll.run (by kernel_rfl) (by kernel_rfl) ?_
   refine GvAll.run (by kernel_rfl) (yr_len _ _ _ _ _ _ _ (some ⟨gq,0,none⟩) m1 bc (by kernel_rfl)) ?_
   refine GvAll.run (by kernel_rfl) (by kernel_rfl) ?_
   refine GvAll.run (by kernel_rfl) (yr_neq _ _ _ _ _ _ _ _ _ (m1:Int) (by kernel_rfl) (by kernel_rfl)) ?_
   refine GvAll.run (by kernel_rfl) (by kernel_rfl) ?_
   refine GvAll.run (by kernel_rfl) (by kernel_rfl) ?_
   refine GvAll.run (by kernel_rfl) (by kernel_rfl) ?_
   refine GvAll.run (by kernel_rfl) (by kernel_rfl) ?_
   refine GvAll.run (by kernel_rfl) (yr_sub _ _ _ _ _ _ _ _ _ (m1:Int) 1 _ (by kernel_rfl) (by kernel_rfl) p3') ?_
   refine GvAll.run (by kernel_rfl) (yr_at _ _ _ _ _ _ _ _ _ gq m1 bc m0 (by kernel_rfl) (by kernel_rfl) p5) ?_
   refine GvAll.run (by kernel_rfl) (by kernel_rfl) ?_
   refine GvAll.run (by kernel_rfl) (yr_ldi _ _ _ _ _ _ _ _ _ _ (by kernel_rfl) q0) ?_
   refine GvAll.run (by kernel_rfl) (by kernel_rfl) ?_
   refine GvAll.run (by kernel_rfl) (yr_ldi _ _ _ _ _ _ _ _ _ _ (by kernel_rfl) y11) ?_
   refine GvAll.run (by kernel_rfl) (yr_neq _ _ _ _ _ _ _ _ _ n (by kernel_rfl) (by kernel_rfl)) ?_
   refine GvAll.run (by kernel_rfl) (by kernel_rfl) ?_
   refine GvAll.run (by kernel_rfl) (by kernel_rfl) ?_
   refine GvAll.run (by kernel_rfl) (by kernel_rfl) ?_
   refine GvAll.run (by kernel_rfl) (by kernel_rfl) ?_
   refine GvAll.run (by kernel_rfl) (yr_sub _ _ _ _ _ _ _ _ _ (m1:Int) 1 _ (by kernel_rfl) (by kernel_rfl) p3') ?_
   refine GvAll.run (by kernel_rfl) (yr_at _ _ _ _ _ _ _ _ _ gq m1 bc m0 (by kernel_rfl) (by kernel_rfl) p5) ?_
   refine GvAll.run (by kernel_rfl) (by kernel_rfl) ?_
   refine GvAll.run (by kernel_rfl) (yr_ldo _ _ _ _ _ _ _ _ _ _ (by kernel_rfl) q1) ?_
   refine GvAll.run (by kernel_rfl) (by kernel_rfl) ?_
   refine GvAll.run (by kernel_rfl) (yr_ldi _ _ _ _ _ _ _ _ _ _ (by kernel_rfl) y11) ?_
   refine GvAll.run (by kernel_rfl) (by kernel_rfl) ?_
   refine GvAll.run (by kernel_rfl) (yr_ldi _ _ _ _ _ _ _ _ _ _ (by kernel_rfl) t3) ?_
   refine GvAll.run (by kernel_rfl) (by kernel_rfl) ?_
   refine GvAll.run (by kernel_rfl) (yr_add _ _ _ _ _ _ _ _ _ due (x0:Int) _ (by kernel_rfl) (by kernel_rfl) p6') ?_
   refine GvAll.run (by kernel_rfl) (yr_gtr _ _ _ _ _ _ _ _ _ n (due+(x0:Int)) bl (by kernel_rfl) (by kernel_rfl) hbl) ?_
   refine GvAll.run (by kernel_rfl) (yr_nob _ _ _ _ _ _ _ _ _ bl (by kernel_rfl) (by kernel_rfl)) ?_
   refine GvAll.run (by kernel_rfl) (by kernel_rfl) ?_
   refine GvAll.run (by kernel_rfl) (by kernel_rfl) ?_
   refine GvAll.run (by kernel_rfl) (by kernel_rfl) ?_
   refine GvAll.run (by kernel_rfl) (by kernel_rfl) ?_
   refine GvAll.run (by kernel_rfl) (yr_sub _ _ _ _ _ _ _ _ _ (m1:Int) 1 _ (by kernel_rfl) (by kernel_rfl) p3') ?_
   refine GvAll.run (by kernel_rfl) (yr_at _ _ _ _ _ _ _ _ _ gq m1 bc m0 (by kernel_rfl) (by kernel_rfl) p5) ?_
   refine GvAll.run (by kernel_rfl) (by kernel_rfl) ?_
   refine GvAll.run (by kernel_rfl) (yr_ldb _ _ _ _ _ _ _ _ _ _ (by kernel_rfl) q2) ?_
   refine GvAll.run (by kernel_rfl) (by kernel_rfl) ?_
   refine GvAll.run (by kernel_rfl) (yr_ldb _ _ _ _ _ _ _ _ _ _ (by kernel_rfl) y12) ?_
   exact GvAll.nil
  ·refine GvAll.run (by kernel_rfl) (by kernel_rfl) ?_
   refine GvAll.run (by kernel_rfl) (by kernel_rfl) ?_
   exact GvAll.nil
 ·exact HCALL.out.mono (fun e w' hh=>⟨hh.1.trans (by kernel_rfl),hh.2⟩)
 ·intro L' hL' w' hw'
  simp only [List.take_succ_cons,List.take_zero,List.drop_succ_cons,List.drop_zero,List.cons_append,List.nil_append] at hL'
  subst hL'
  exact HK.out _ _ _ _ _ _ _ _ _ _ _ _ _ _ _ _ _ _ _ _ _ _ _ _ _ _ _ _ _ _ _ _ _ _ _ _ _ _ _ _ _ _ _ _ _ _ _ _ _ _ _ _ _ _ hw'
end
end Go.Proofs.YtbcfpdlhieaepaaGreatDoor
