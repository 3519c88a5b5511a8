/- SchoolFixed: two regions of its inner loops, each walked by itself. Written by mkfixedr.py. -/
import Derived.Test.YtbcfpdlhieaepaaGreatDoorR42
import Derived.Test.YtbcfpdlhieaepaaGreatDoorR45
import Derived.Test.YtbcfpdlhieaepaaGreatDoorR41
import Derived.Test.YtbcfpdlhieaepaaGreatDoorR21
import Derived.Test.YtbcfpdlhieaepaaGreatDoorR43
namespace Go.Proofs.YtbcfpdlhieaepaaGreatDoor
open Go.RowKit SeedP Go.Maps
set_option linter.unusedVariables false
noncomputable def sfR28:Code:=((Tryz.f8.body.bind (fndR 28)).getD .skip)
set_option maxRecDepth 1000000 in
set_option maxHeartbeats 8000000 in
theorem fixed28 {K:Act→World→Prop} {Q':Exit→Act→World→Prop} {c0 c1 c2 c3 c4 c5 c6 c7 c8 c10 c11 c12 c13 c16 c17 c18 c19 c20 c21 c22 c23 c24 c25 c26 c27 c28 c29 c30 c31 c32 c33 c34 c35 c36 c37 c38 c39 c40 c41 c42 c43 c44 c45 c46 c47 c48 c49 c50 c51 c52 c53 c54 c55 c56 c57 c58 c59 c60 c61 c62 c63 c64 c65 c66 c67 c68 c69 c70 c71 c72 c73 c74 c75 c76 c77 c78 c79 c80 c81 c82 c83 c84 c85 c86 c87 c88 c89 c90 c91 c92 c93 c94 c95 c96 c97 c98 c99 c100 c101 c102 c103 c104 c105 c106 c107 c108 c109 c110 c111 c112 c113 c114 c115 c116 c117 c118 c119 c120 c121 c122 c123 c124 c125 c126 c127 c128 c129 c130 c131 c132 c133 c134 c135 c136 c137 c138 c139 c140 c141 c142 c143 c144 c145 c146 c147 c148 c149 c150 c151 c152 c153 c154 c155 c156 c157 c158 c159 c160 c161 c162 c163 c164 c165 c166 c167 c168 c169 c170 c171 c172 c173 c174 c175 c176 c177 c178 c179 c180 c181 c182 c183 c184 c185 c186 c187 c188 c189 c190 c191 c192 c193 c194 c195 c196 c197 c198 c199 c200 c201 c202 c203 c204 c205 c206 c207 c208 c209 c210 c211 c212 c213 c214 c215 c216 c217 c218 c219 c220 c221 c222 c223 c224 c225 c226 c227 c228 c229 c230 c231 c232 c233 c234 c235 c236 c237 c238 c239 c240 c241 c242 c243:Value} {gt gq:Nat} {tb aq:Option Addr} {nT tc j bl tbc cq:Nat} {cls name tx:List UInt8} {frm due late tries:Int} (w:World) (hjl:j < nT) (x0:w.cell? ⟨gq,j * 7,none⟩=some (strV cls)) (x1:w.cell? ⟨gq,j * 7+1,none⟩=some (strV name)) (x2:w.cell? ⟨gq,j * 7+2,none⟩=some (.int .i64 frm)) (x3:w.cell? ⟨gq,j * 7+3,none⟩=some (.int .i64 due)) (x4:w.cell? ⟨gq,j * 7+4,none⟩=some (.int .i64 late)) (x5:w.cell? ⟨gq,j * 7+5,none⟩=some (.int .i64 tries)) (x6:w.cell? ⟨gq,j * 7+6,none⟩=some (.slice aq bl cq)) (z0:w.cell? ⟨gt,0,none⟩=some (strV cls)) (z1:w.cell? ⟨gt,1,none⟩=some (strV name)) (z2:w.cell? ⟨gt,2,none⟩=some (.int .i64 frm)) (z3:w.cell? ⟨gt,3,none⟩=some (.int .i64 due)) (z4:w.cell? ⟨gt,4,none⟩=some (.int .i64 late)) (z5:w.cell? ⟨gt,5,none⟩=some (.int .i64 tries)) (z6:w.cell? ⟨gt,6,none⟩=some (.slice tb bl tbc)) (HRQ:Hid (RdB w w.heap.size (.slice tb bl tbc) tx∧RdB w w.heap.size (.slice aq bl cq) tx))
 (HK:Hid (∀ (d125 d126 d127 d128 d129 d130 d131 d132 d133 d134 d135 d136 d137 d138 d139 d140 d141 d142 d143 d144 d145 d146 d147 d148 d149 d150 d151 d152 d153 d154 d155 d156 d157 d158 d159 d160 d161 d162 d163 d164 d165 d166 d167 d168 d169 d170 d171 d172 d173 d174 d175 d176 d177 d178 d179 d180 d181 d182 d183 d184 d185 d186 d187 d188 d189 d190 d191 d192:Value) (w':World),Below w.heap.size w w'→K ⟨#[c0,c1,c2,c3,c4,c5,c6,c7,c8,.slice (some ⟨gq,0,none⟩) nT tc,c10,c11,c12,c13,.int .i64 (j:Int),.pointer (some ⟨gt,0,none⟩),c16,c17,c18,c19,c20,c21,c22,c23,c24,c25,c26,c27,c28,c29,c30,c31,c32,c33,c34,c35,c36,c37,c38,c39,c40,c41,c42,c43,c44,c45,c46,c47,c48,c49,c50,c51,c52,c53,c54,c55,c56,c57,c58,c59,c60,c61,c62,c63,c64,c65,c66,c67,c68,c69,c70,c71,c72,c73,c74,c75,c76,c77,c78,c79,c80,c81,c82,c83,c84,c85,c86,c87,c88,c89,c90,c91,c92,c93,c94,c95,c96,c97,c98,c99,c100,c101,c102,c103,c104,c105,c106,c107,c108,c109,c110,c111,c112,c113,c114,c115,c116,c117,c118,c119,c120,c121,c122,c123,c124,d125,d126,d127,d128,d129,d130,d131,d132,d133,d134,d135,d136,d137,d138,d139,d140,d141,d142,d143,d144,d145,d146,d147,d148,d149,d150,d151,d152,d153,d154,d155,d156,d157,d158,d159,d160,d161,d162,d163,d164,d165,d166,d167,d168,d169,d170,d171,d172,d173,d174,d175,d176,d177,d178,d179,d180,d181,d182,d183,d184,d185,d186,d187,d188,d189,d190,d191,d192,.bool false,c194,c195,c196,c197,c198,c199,c200,c201,c202,c203,c204,c205,c206,c207,c208,c209,c210,c211,c212,c213,c214,c215,c216,c217,c218,c219,c220,c221,c222,c223,c224,c225,c226,c227,c228,c229,c230,c231,c232,c233,c234,c235,c236,c237,c238,c239,c240,c241,c242,c243],[]⟩ w')) :
 Code.wp Tryz.prog sfR28 (Exit.then K Q') ⟨#[c0,c1,c2,c3,c4,c5,c6,c7,c8,.slice (some ⟨gq,0,none⟩) nT tc,c10,c11,c12,c13,.int .i64 (j:Int),.pointer (some ⟨gt,0,none⟩),c16,c17,c18,c19,c20,c21,c22,c23,c24,c25,c26,c27,c28,c29,c30,c31,c32,c33,c34,c35,c36,c37,c38,c39,c40,c41,c42,c43,c44,c45,c46,c47,c48,c49,c50,c51,c52,c53,c54,c55,c56,c57,c58,c59,c60,c61,c62,c63,c64,c65,c66,c67,c68,c69,c70,c71,c72,c73,c74,c75,c76,c77,c78,c79,c80,c81,c82,c83,c84,c85,c86,c87,c88,c89,c90,c91,c92,c93,c94,c95,c96,c97,c98,c99,c100,c101,c102,c103,c104,c105,c106,c107,c108,c109,c110,c111,c112,c113,c114,c115,c116,c117,c118,c119,c120,c121,c122,c123,c124,c125,c126,c127,c128,c129,c130,c131,c132,c133,c134,c135,c136,c137,c138,c139,c140,c141,c142,c143,c144,c145,c146,c147,c148,c149,c150,c151,c152,c153,c154,c155,c156,c157,c158,c159,c160,c161,c162,c163,c164,c165,c166,c167,c168,c169,c170,c171,c172,c173,c174,c175,c176,c177,c178,c179,c180,c181,c182,c183,c184,c185,c186,c187,c188,c189,c190,c191,c192,c193,c194,c195,c196,c197,c198,c199,c200,c201,c202,c203,c204,c205,c206,c207,c208,c209,c210,c211,c212,c213,c214,c215,c216,c217,c218,c219,c220,c221,c222,c223,c224,c225,c226,c227,c228,c229,c230,c231,c232,c233,c234,c235,c236,c237,c238,c239,c240,c241,c242,c243],[]⟩ w:=by
 conv=>arg 2; whnf
 have hun:undef=Value.tuple #[]:=rfl
 have hBd:Below w.heap.size w w.drew:=bl_drew w
 have HCALL:Hid (Calls Tryz.prog 28 #[.slice tb bl tbc,.slice aq bl cq] w.drew (fun e w'=>e=.returned (.bool true)∧Below w.heap.size w w')):=Lib.hid ((sameB_c _ _ tx _ (HRQ.out.1.later hBd) (HRQ.out.2.later hBd)).mono (fun e w' hh=>⟨hh.1,hBd.trans (hh.2.mono hBd.size)⟩))
 refine wp_region_call' (by kernel_rfl) 66 125 194 ([.pointer (some ⟨gt,0,none⟩),strV cls,.slice (some ⟨gq,0,none⟩) nT tc,.int .i64 (j:Int),.pointer (some ⟨gq,j * 7,none⟩),.pointer (some ⟨gq,j * 7,none⟩),strV cls,.bool false,.bool false,.pointer (some ⟨gt,1,none⟩),strV name,.slice (some ⟨gq,0,none⟩) nT tc,.int .i64 (j:Int),.pointer (some ⟨gq,j * 7,none⟩),.pointer (some ⟨gq,j * 7+1,none⟩),strV name,.bool false,.bool false,.bool false,.pointer (some ⟨gt,2,none⟩),.int .i64 frm,.slice (some ⟨gq,0,none⟩) nT tc,.int .i64 (j:Int),.pointer (some ⟨gq,j * 7,none⟩),.pointer (some ⟨gq,j * 7+2,none⟩),.int .i64 frm,.bool false,.bool false,.bool false,.pointer (some ⟨gt,3,none⟩)] ++ [.int .i64 due,.slice (some ⟨gq,0,none⟩) nT tc,.int .i64 (j:Int),.pointer (some ⟨gq,j * 7,none⟩),.pointer (some ⟨gq,j * 7+3,none⟩),.int .i64 due,.bool false,.bool false,.bool false,.pointer (some ⟨gt,4,none⟩),.int .i64 late,.slice (some ⟨gq,0,none⟩) nT tc,.int .i64 (j:Int),.pointer (some ⟨gq,j * 7,none⟩),.pointer (some ⟨gq,j * 7+4,none⟩),.int .i64 late,.bool false,.bool false,.bool false,.pointer (some ⟨gt,5,none⟩),.int .i64 tries,.slice (some ⟨gq,0,none⟩) nT tc,.int .i64 (j:Int),.pointer (some ⟨gq,j * 7,none⟩),.pointer (some ⟨gq,j * 7+5,none⟩),.int .i64 tries,.bool false,.bool false,.bool false,.pointer (some ⟨gt,6,none⟩)] ++ [.slice tb bl tbc,.slice (some ⟨gq,0,none⟩) nT tc,.int .i64 (j:Int),.pointer (some ⟨gq,j * 7,none⟩),.pointer (some ⟨gq,j * 7+6,none⟩),.slice aq bl cq,.bool true,.bool false,.bool false]:List Value) (fun w'=>Below w.heap.size w w') (by kernel_rfl) (by kernel_rfl) rfl (by kernel_rfl) rfl rfl (Nat.le_of_ble_eq_true (by kernel_rfl)) ?_ (by kernel_rfl) 28 #[.slice tb bl tbc,.slice aq bl cq] (by kernel_rfl) ?_ ?_
 ·intro w' hw'
  have hbw:Below w.heap.size w w':=by rcases hw' with rfl | h; exact hBd; exact h
  have x0:=keep_cell hbw x0
  have x1:=keep_cell hbw x1
  have x2:=keep_cell hbw x2
  have x3:=keep_cell hbw x3
  have x4:=keep_cell hbw x4
  have x5:=keep_cell hbw x5
  have x6:=keep_cell hbw x6
  have z0:=keep_cell hbw z0
  have z1:=keep_cell hbw z1
  have z2:=keep_cell hbw z2
  have z3:=keep_cell hbw z3
  have z4:=keep_cell hbw z4
  have z5:=keep_cell hbw z5
  have z6:=keep_cell hbw z6
  constructor
  ·refine GvAll.run (by kernel_rfl) (by kernel_rfl) ?_
   refine GvAll.run (by kernel_rfl) (yr_lds _ _ _ _ _ _ _ _ _ _ (by kernel_rfl) z0) ?_
   refine GvAll.run (by kernel_rfl) (by kernel_rfl) ?_
   refine GvAll.run (by kernel_rfl) (by kernel_rfl) ?_
   refine GvAll.run (by kernel_rfl) (yr_att _ _ _ _ _ _ _ _ _ gq nT tc j (by kernel_rfl) (by kernel_rfl) hjl) ?_
   refine GvAll.run (by kernel_rfl) (by kernel_rfl) ?_
   refine GvAll.run (by kernel_rfl) (yr_lds _ _ _ _ _ _ _ _ _ _ (by kernel_rfl) x0) ?_
   refine GvAll.run (by kernel_rfl) (yr_nes _ _ _ _ _ _ _ _ _ cls (by kernel_rfl) (by kernel_rfl)) ?_
   refine GvAll.run (by kernel_rfl) (by kernel_rfl) ?_
   refine GvAll.run (by kernel_rfl) (by kernel_rfl) ?_
   refine GvAll.run (by kernel_rfl) (yr_lds _ _ _ _ _ _ _ _ _ _ (by kernel_rfl) z1) ?_
   refine GvAll.run (by kernel_rfl) (by kernel_rfl) ?_
   refine GvAll.run (by kernel_rfl) (by kernel_rfl) ?_
   refine GvAll.run (by kernel_rfl) (yr_att _ _ _ _ _ _ _ _ _ gq nT tc j (by kernel_rfl) (by kernel_rfl) hjl) ?_
   refine GvAll.run (by kernel_rfl) (by kernel_rfl) ?_
   refine GvAll.run (by kernel_rfl) (yr_lds _ _ _ _ _ _ _ _ _ _ (by kernel_rfl) x1) ?_
   refine GvAll.run (by kernel_rfl) (yr_nes _ _ _ _ _ _ _ _ _ name (by kernel_rfl) (by kernel_rfl)) ?_
   refine GvAll.run (by kernel_rfl) (by kernel_rfl) ?_
   refine GvAll.run (by kernel_rfl) (by kernel_rfl) ?_
   refine GvAll.run (by kernel_rfl) (by kernel_rfl) ?_
   refine GvAll.run (by kernel_rfl) (yr_ldi _ _ _ _ _ _ _ _ _ _ (by kernel_rfl) z2) ?_
   refine GvAll.run (by kernel_rfl) (by kernel_rfl) ?_
   refine GvAll.run (by kernel_rfl) (by kernel_rfl) ?_
   refine GvAll.run (by kernel_rfl) (yr_att _ _ _ _ _ _ _ _ _ gq nT tc j (by kernel_rfl) (by kernel_rfl) hjl) ?_
   refine GvAll.run (by kernel_rfl) (by kernel_rfl) ?_
   refine GvAll.run (by kernel_rfl) (yr_ldi _ _ _ _ _ _ _ _ _ _ (by kernel_rfl) x2) ?_
   refine GvAll.run (by kernel_rfl) (yr_neq _ _ _ _ _ _ _ _ _ frm (by kernel_rfl) (by kernel_rfl)) ?_
   refine GvAll.run (by kernel_rfl) (by kernel_rfl) ?_
   refine GvAll.run (by kernel_rfl) (by kernel_rfl) ?_
   refine GvAll.run (by kernel_rfl) (by kernel_rfl) ?_
   refine GvAll.run (by kernel_rfl) (yr_ldi _ _ _ _ _ _ _ _ _ _ (by kernel_rfl) z3) ?_
   refine GvAll.run (by kernel_rfl) (by kernel_rfl) ?_
   refine GvAll.run (by kernel_rfl) (by kernel_rfl) ?_
   refine GvAll.run (by kernel_rfl) (yr_att _ _ _ _ _ _ _ _ _ gq nT tc j (by kernel_rfl) (by kernel_rfl) hjl) ?_
   refine GvAll.run (by kernel_rfl) (by kernel_rfl) ?_
   refine GvAll.run (by kernel_rfl) (yr_ldi _ _ _ _ _ _ _ _ _ _ (by kernel_rfl) x3) ?_
   refine GvAll.run (by kernel_rfl) (yr_neq _ _ _ _ _ _ _ _ _ due (by kernel_rfl) (by kernel_rfl)) ?_
   refine GvAll.run (by kernel_rfl) (by kernel_rfl) ?_
   refine GvAll.run (by kernel_rfl) (by kernel_rfl) ?_
   refine GvAll.run (by kernel_rfl) (by kernel_rfl) ?_
   refine GvAll.run (by kernel_rfl) (yr_ldi _ _ _ _ _ _ _ _ _ _ (by kernel_rfl) z4) ?_
   refine GvAll.run (by kernel_rfl) (by kernel_rfl) ?_
   refine GvAll.run (by kernel_rfl) (by kernel_rfl) ?_
   refine GvAll.run (by kernel_rfl) (yr_att _ _ _ _ _ _ _ _ _ gq nT tc j (by kernel_rfl) (by kernel_rfl) hjl) ?_
   refine GvAll.run (by kernel_rfl) (by kernel_rfl) ?_
   refine GvAll.run (by kernel_rfl) (yr_ldi _ _ _ _ _ _ _ _ _ _ (by kernel_rfl) x4) ?_
   refine GvAll.run (by kernel_rfl) (yr_neq _ _ _ _ _ _ _ _ _ late (by kernel_rfl) (by kernel_rfl)) ?_
   refine GvAll.run (by kernel_rfl) (by kernel_rfl) ?_
   refine GvAll.run (by kernel_rfl) (by kernel_rfl) ?_
   refine GvAll.run (by kernel_rfl) (by kernel_rfl) ?_
   refine GvAll.run (by kernel_rfl) (yr_ldi _ _ _ _ _ _ _ _ _ _ (by kernel_rfl) z5) ?_
   refine GvAll.run (by kernel_rfl) (by kernel_rfl) ?_
   refine GvAll.run (by kernel_rfl) (by kernel_rfl) ?_
   refine GvAll.run (by kernel_rfl) (yr_att _ _ _ _ _ _ _ _ _ gq nT tc j (by kernel_rfl) (by kernel_rfl) hjl) ?_
   refine GvAll.run (by kernel_rfl) (by kernel_rfl) ?_
   refine GvAll.run (by kernel_rfl) (yr_ldi _ _ _ _ _ _ _ _ _ _ (by kernel_rfl) x5) ?_
   refine GvAll.run (by kernel_rfl) (yr_neq _ _ _ _ _ _ _ _ _ tries (by kernel_rfl) (by kernel_rfl)) ?_
   refine GvAll.run (by kernel_rfl) (by kernel_rfl) ?_
   refine GvAll.run (by kernel_rfl) (by kernel_rfl) ?_
   refine GvAll.run (by kernel_rfl) (by kernel_rfl) ?_
   refine GvAll.run (by kernel_rfl) (yr_ldb _ _ _ _ _ _ _ _ _ _ (by kernel_rfl) z6) ?_
   refine GvAll.run (by kernel_rfl) (by kernel_rfl) ?_
   refine GvAll.run (by kernel_rfl) (by kernel_rfl) ?_
   refine GvAll.run (by kernel_rfl) (yr_att _ _ _ _ _ _ _ _ _ gq nT tc j (by kernel_rfl) (by kernel_rfl) hjl) ?_
   refine GvAll.run (by kernel_rfl) (by kernel_rfl) ?_
   refine GvAll.run (by kernel_rfl) (yr_ldb _ _ _ _ _ _ _ _ _ _ (by kernel_rfl) x6) ?_
   exact GvAll.nil
  ·refine GvAll.run (by kernel_rfl) (by kernel_rfl) ?_
   refine GvAll.run (by kernel_rfl) (by kernel_rfl) ?_
   exact GvAll.nil
 ·exact HCALL.out.mono (fun e w' hh=>⟨hh.1.trans (by kernel_rfl),hh.2⟩)
 ·intro L' hL' w' hw'
  simp only [List.take_succ_cons,List.take_zero,List.drop_succ_cons,List.drop_zero,List.cons_append,List.nil_append] at hL'
  subst hL'
  exact HK.out _ _ _ _ _ _ _ _ _ _ _ _ _ _ _ _ _ _ _ _ _ _ _ _ _ _ _ _ _ _ _ _ _ _ _ _ _ _ _ _ _ _ _ _ _ _ _ _ _ _ _ _ _ _ _ _ _ _ _ _ _ _ _ _ _ _ _ _ _ hw'
noncomputable def sfR33:Code:=((Tryz.f8.body.bind (fndR 33)).getD .skip)
set_option maxRecDepth 1000000 in
set_option maxHeartbeats 8000000 in
theorem fixed33 {K:Act→World→Prop} {Q':Exit→Act→World→Prop} {c0 c1 c2 c3 c4 c5 c6 c7 c8 c9 c11 c13 c14 c15 c16 c18 c19 c20 c21 c22 c23 c24 c25 c26 c27 c28 c29 c30 c31 c32 c33 c34 c35 c36 c37 c38 c39 c40 c41 c42 c43 c44 c45 c46 c47 c48 c49 c50 c51 c52 c53 c54 c55 c56 c57 c58 c59 c60 c61 c62 c63 c64 c65 c66 c67 c68 c69 c70 c71 c72 c73 c74 c75 c76 c77 c78 c79 c80 c81 c82 c83 c84 c85 c86 c87 c88 c89 c90 c91 c92 c93 c94 c95 c96 c97 c98 c99 c100 c101 c102 c103 c104 c105 c106 c107 c108 c109 c110 c111 c112 c113 c114 c115 c116 c117 c118 c119 c120 c121 c122 c123 c124 c125 c126 c127 c128 c129 c130 c131 c132 c133 c134 c135 c136 c137 c138 c139 c140 c141 c142 c143 c144 c145 c146 c147 c148 c149 c150 c151 c152 c153 c154 c155 c156 c157 c158 c159 c160 c161 c162 c163 c164 c165 c166 c167 c168 c169 c170 c171 c172 c173 c174 c175 c176 c177 c178 c179 c180 c181 c182 c183 c184 c185 c186 c187 c188 c189 c190 c191 c192 c193 c194 c195 c196 c197 c198 c199 c200 c201 c202 c203 c204 c205 c206 c207 c208 c209 c210 c211 c212 c213 c214 c215 c216 c217 c218 c219 c220 c221 c222 c223 c224 c225 c226 c227 c228 c229 c230 c231 c232 c233 c234 c235 c236 c237 c238 c239 c240 c241 c242 c243:Value} {gr gq:Nat} {ar aq:Option Addr} {nA nB ac bc j bl cr cq:Nat} {tx:List UInt8} {b0:Bool} {tm:Int} (w:World) (hjl:j < nA) (hj1:j < nB) (q0:w.cell? ⟨gq,j * 3,none⟩=some (.int .i64 tm)) (q1:w.cell? ⟨gq,j * 3+1,none⟩=some (.bool b0)) (q2:w.cell? ⟨gq,j * 3+2,none⟩=some (.slice aq bl cq)) (r0:w.cell? ⟨gr,j * 3,none⟩=some (.int .i64 tm)) (r1:w.cell? ⟨gr,j * 3+1,none⟩=some (.bool b0)) (r2:w.cell? ⟨gr,j * 3+2,none⟩=some (.slice ar bl cr)) (HRQ:Hid (RdB w w.heap.size (.slice ar bl cr) tx∧RdB w w.heap.size (.slice aq bl cq) tx))
 (HK:Hid (∀ (d200 d201 d202 d203 d204 d205 d206 d207 d208 d209 d210 d211 d212 d213 d214 d215 d216 d217 d218 d219 d220 d221 d222 d223 d224 d225 d226 d227 d228 d229 d230 d231 d232 d233 d234 d235 d236 d237 d238 d239 d240 d241 d242:Value) (w':World),Below w.heap.size w w'→K ⟨#[c0,c1,c2,c3,c4,c5,c6,c7,c8,c9,.slice (some ⟨gq,0,none⟩) nA ac,c11,.slice (some ⟨gr,0,none⟩) nB bc,c13,c14,c15,c16,.int .i64 (j:Int),c18,c19,c20,c21,c22,c23,c24,c25,c26,c27,c28,c29,c30,c31,c32,c33,c34,c35,c36,c37,c38,c39,c40,c41,c42,c43,c44,c45,c46,c47,c48,c49,c50,c51,c52,c53,c54,c55,c56,c57,c58,c59,c60,c61,c62,c63,c64,c65,c66,c67,c68,c69,c70,c71,c72,c73,c74,c75,c76,c77,c78,c79,c80,c81,c82,c83,c84,c85,c86,c87,c88,c89,c90,c91,c92,c93,c94,c95,c96,c97,c98,c99,c100,c101,c102,c103,c104,c105,c106,c107,c108,c109,c110,c111,c112,c113,c114,c115,c116,c117,c118,c119,c120,c121,c122,c123,c124,c125,c126,c127,c128,c129,c130,c131,c132,c133,c134,c135,c136,c137,c138,c139,c140,c141,c142,c143,c144,c145,c146,c147,c148,c149,c150,c151,c152,c153,c154,c155,c156,c157,c158,c159,c160,c161,c162,c163,c164,c165,c166,c167,c168,c169,c170,c171,c172,c173,c174,c175,c176,c177,c178,c179,c180,c181,c182,c183,c184,c185,c186,c187,c188,c189,c190,c191,c192,c193,c194,c195,c196,c197,c198,c199,d200,d201,d202,d203,d204,d205,d206,d207,d208,d209,d210,d211,d212,d213,d214,d215,d216,d217,d218,d219,d220,d221,d222,d223,d224,d225,d226,d227,d228,d229,d230,d231,d232,d233,d234,d235,d236,d237,d238,d239,d240,d241,d242,.bool false],[]⟩ w')) :
 Code.wp Tryz.prog sfR33 (Exit.then K Q') ⟨#[c0,c1,c2,c3,c4,c5,c6,c7,c8,c9,.slice (some ⟨gq,0,none⟩) nA ac,c11,.slice (some ⟨gr,0,none⟩) nB bc,c13,c14,c15,c16,.int .i64 (j:Int),c18,c19,c20,c21,c22,c23,c24,c25,c26,c27,c28,c29,c30,c31,c32,c33,c34,c35,c36,c37,c38,c39,c40,c41,c42,c43,c44,c45,c46,c47,c48,c49,c50,c51,c52,c53,c54,c55,c56,c57,c58,c59,c60,c61,c62,c63,c64,c65,c66,c67,c68,c69,c70,c71,c72,c73,c74,c75,c76,c77,c78,c79,c80,c81,c82,c83,c84,c85,c86,c87,c88,c89,c90,c91,c92,c93,c94,c95,c96,c97,c98,c99,c100,c101,c102,c103,c104,c105,c106,c107,c108,c109,c110,c111,c112,c113,c114,c115,c116,c117,c118,c119,c120,c121,c122,c123,c124,c125,c126,c127,c128,c129,c130,c131,c132,c133,c134,c135,c136,c137,c138,c139,c140,c141,c142,c143,c144,c145,c146,c147,c148,c149,c150,c151,c152,c153,c154,c155,c156,c157,c158,c159,c160,c161,c162,c163,c164,c165,c166,c167,c168,c169,c170,c171,c172,c173,c174,c175,c176,c177,c178,c179,c180,c181,c182,c183,c184,c185,c186,c187,c188,c189,c190,c191,c192,c193,c194,c195,c196,c197,c198,c199,c200,c201,c202,c203,c204,c205,c206,c207,c208,c209,c210,c211,c212,c213,c214,c215,c216,c217,c218,c219,c220,c221,c222,c223,c224,c225,c226,c227,c228,c229,c230,c231,c232,c233,c234,c235,c236,c237,c238,c239,c240,c241,c242,c243],[]⟩ w:=by
 conv=>arg 2; whnf
 have hun:undef=Value.tuple #[]:=rfl
 have hBd:Below w.heap.size w w.drew:=bl_drew w
 have HCALL:Hid (Calls Tryz.prog 28 #[.slice ar bl cr,.slice aq bl cq] w.drew (fun e w'=>e=.returned (.bool true)∧Below w.heap.size w w')):=Lib.hid ((sameB_c _ _ tx _ (HRQ.out.1.later hBd) (HRQ.out.2.later hBd)).mono (fun e w' hh=>⟨hh.1,hBd.trans (hh.2.mono hBd.size)⟩))
 refine wp_region_call' (by kernel_rfl) 22 200 244 ([.slice (some ⟨gr,0,none⟩) nB bc,.int .i64 (j:Int),.pointer (some ⟨gr,j * 3,none⟩),.pointer (some ⟨gr,j * 3,none⟩),.int .i64 tm,.slice (some ⟨gq,0,none⟩) nA ac,.int .i64 (j:Int),.pointer (some ⟨gq,j * 3,none⟩),.pointer (some ⟨gq,j * 3,none⟩),.int .i64 tm,.bool false,.bool false,.slice (some ⟨gr,0,none⟩) nB bc,.int .i64 (j:Int),.pointer (some ⟨gr,j * 3,none⟩),.pointer (some ⟨gr,j * 3+2,none⟩),.slice ar bl cr,.slice (some ⟨gq,0,none⟩) nA ac,.int .i64 (j:Int),.pointer (some ⟨gq,j * 3,none⟩),.pointer (some ⟨gq,j * 3+2,none⟩),.slice aq bl cq,.bool true,.bool false,.bool false,.bool false,.slice (some ⟨gr,0,none⟩) nB bc,.int .i64 (j:Int),.pointer (some ⟨gr,j * 3,none⟩),.pointer (some ⟨gr,j * 3+1,none⟩)] ++ [.bool b0,.slice (some ⟨gq,0,none⟩) nA ac,.int .i64 (j:Int),.pointer (some ⟨gq,j * 3,none⟩),.pointer (some ⟨gq,j * 3+1,none⟩),.bool b0,.bool false,.bool false,undef,undef,undef,undef,.bool false,.bool false]:List Value) (fun w'=>Below w.heap.size w w') (by kernel_rfl) (by kernel_rfl) rfl (by kernel_rfl) rfl rfl (Nat.le_of_ble_eq_true (by kernel_rfl)) ?_ (by kernel_rfl) 28 #[.slice ar bl cr,.slice aq bl cq] (by kernel_rfl) ?_ ?_
 ·intro w' hw'
  have hbw:Below w.heap.size w w':=by rcases hw' with rfl | h; exact hBd; exact h
  have q0:=keep_cell hbw q0
  have q1:=keep_cell hbw q1
  have q2:=keep_cell hbw q2
  have r0:=keep_cell hbw r0
  have r1:=keep_cell hbw r1
  have r2:=keep_cell hbw r2
  constructor
  ·refine GvAll.run (by kernel_rfl) (by kernel_rfl) ?_
   refine GvAll.run (by kernel_rfl) (by kernel_rfl) ?_
   refine GvAll.run (by kernel_rfl) (yr_at _ _ _ _ _ _ _ _ _ gr nB bc j (by kernel_rfl) (by kernel_rfl) hj1) ?_
   refine GvAll.run (by kernel_rfl) (by kernel_rfl) ?_
   refine GvAll.run (by kernel_rfl) (yr_ldi _ _ _ _ _ _ _ _ _ _ (by kernel_rfl) r0) ?_
   refine GvAll.run (by kernel_rfl) (by kernel_rfl) ?_
   refine GvAll.run (by kernel_rfl) (by kernel_rfl) ?_
   refine GvAll.run (by kernel_rfl) (yr_at _ _ _ _ _ _ _ _ _ gq nA ac j (by kernel_rfl) (by kernel_rfl) hjl) ?_
   refine GvAll.run (by kernel_rfl) (by kernel_rfl) ?_
   refine GvAll.run (by kernel_rfl) (yr_ldi _ _ _ _ _ _ _ _ _ _ (by kernel_rfl) q0) ?_
   refine GvAll.run (by kernel_rfl) (yr_neq _ _ _ _ _ _ _ _ _ tm (by kernel_rfl) (by kernel_rfl)) ?_
   refine GvAll.run (by kernel_rfl) (by kernel_rfl) ?_
   refine GvAll.run (by kernel_rfl) (by kernel_rfl) ?_
   refine GvAll.run (by kernel_rfl) (by kernel_rfl) ?_
   refine GvAll.run (by kernel_rfl) (yr_at _ _ _ _ _ _ _ _ _ gr nB bc j (by kernel_rfl) (by kernel_rfl) hj1) ?_
   refine GvAll.run (by kernel_rfl) (by kernel_rfl) ?_
   refine GvAll.run (by kernel_rfl) (yr_ldb _ _ _ _ _ _ _ _ _ _ (by kernel_rfl) r2) ?_
   refine GvAll.run (by kernel_rfl) (by kernel_rfl) ?_
   refine GvAll.run (by kernel_rfl) (by kernel_rfl) ?_
   refine GvAll.run (by kernel_rfl) (yr_at _ _ _ _ _ _ _ _ _ gq nA ac j (by kernel_rfl) (by kernel_rfl) hjl) ?_
   refine GvAll.run (by kernel_rfl) (by kernel_rfl) ?_
   refine GvAll.run (by kernel_rfl) (yr_ldb _ _ _ _ _ _ _ _ _ _ (by kernel_rfl) q2) ?_
   exact GvAll.nil
  ·refine GvAll.run (by kernel_rfl) (by kernel_rfl) ?_
   refine GvAll.run (by kernel_rfl) (by kernel_rfl) ?_
   refine GvAll.run (by kernel_rfl) (by kernel_rfl) ?_
   refine GvAll.run (by kernel_rfl) (by kernel_rfl) ?_
   refine GvAll.run (by kernel_rfl) (by kernel_rfl) ?_
   refine GvAll.run (by kernel_rfl) (yr_at _ _ _ _ _ _ _ _ _ gr nB bc j (by kernel_rfl) (by kernel_rfl) hj1) ?_
   refine GvAll.run (by kernel_rfl) (by kernel_rfl) ?_
   refine GvAll.run (by kernel_rfl) (yr_ldo _ _ _ _ _ _ _ _ _ _ (by kernel_rfl) r1) ?_
   refine GvAll.run (by kernel_rfl) (by kernel_rfl) ?_
   refine GvAll.run (by kernel_rfl) (by kernel_rfl) ?_
   refine GvAll.run (by kernel_rfl) (yr_at _ _ _ _ _ _ _ _ _ gq nA ac j (by kernel_rfl) (by kernel_rfl) hjl) ?_
   refine GvAll.run (by kernel_rfl) (by kernel_rfl) ?_
   refine GvAll.run (by kernel_rfl) (yr_ldo _ _ _ _ _ _ _ _ _ _ (by kernel_rfl) q1) ?_
   refine GvAll.run (by kernel_rfl) (yr_nob _ _ _ _ _ _ _ _ _ b0 (by kernel_rfl) (by kernel_rfl)) ?_
   refine GvAll.run (by kernel_rfl) (by kernel_rfl) ?_
   refine GvAll.skip (by kernel_rfl) (by kernel_rfl) ?_
   refine GvAll.skip (by kernel_rfl) (by kernel_rfl) ?_
   refine GvAll.skip (by kernel_rfl) (by kernel_rfl) ?_
   refine GvAll.skip (by kernel_rfl) (by kernel_rfl) ?_
   refine GvAll.run (by kernel_rfl) (by kernel_rfl) ?_
   refine GvAll.run (by kernel_rfl) (by kernel_rfl) ?_
   exact GvAll.nil
 ·exact HCALL.out.mono (fun e w' hh=>⟨hh.1.trans (by kernel_rfl),hh.2⟩)
 ·intro L' hL' w' hw'
  simp only [List.take_succ_cons,List.take_zero,List.drop_succ_cons,List.drop_zero,List.cons_append,List.nil_append] at hL'
  subst hL'
  exact HK.out _ _ _ _ _ _ _ _ _ _ _ _ _ _ _ _ _ _ _ _ _ _ _ _ _ _ _ _ _ _ _ _ _ _ _ _ _ _ _ _ _ _ _ _ hw'
end Go.Proofs.YtbcfpdlhieaepaaGreatDoor
