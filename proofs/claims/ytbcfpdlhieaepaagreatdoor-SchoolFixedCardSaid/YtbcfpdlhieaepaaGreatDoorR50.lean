/- SchoolFixed: a round of its loop. Written by mkfixedw.py. -/
import Derived.Test.YtbcfpdlhieaepaaGreatDoorR49
import Derived.Test.YtbcfpdlhieaepaaGreatDoorR42
import Derived.Test.YtbcfpdlhieaepaaGreatDoorR41
import Derived.Deep.CutBlock
namespace Go.Proofs.YtbcfpdlhieaepaaGreatDoor
section
open Go.RowKit SeedP Go.Maps
set_option linter.unusedVariables false
theorem then_self (Q:Exit→Act→World→Prop):Exit.then (fun a w=>Q .normal a w) Q=Q:=by
 funext e a w
 cases e <;> rfl
theorem wp_then {P:Program} {c:Code} {Q:Exit→Act→World→Prop} {a:Act} {w:World} (h:Code.wp P c (Exit.then (fun a w=>Q .normal a w) Q) a w):Code.wp P c Q a w:=by
 rw [then_self] at h; exact h
noncomputable def sfB1:Code:=((Tryz.f8.body.bind (fndB 1)).getD .skip)
set_option maxRecDepth 1000000 in
set_option maxHeartbeats 8000000 in
theorem fixedRnd {K:Act→World→Prop} {Q':Exit→Act→World→Prop} {c1 c2 c7 c8 c9 c10 c11 c12 c13 c14 c15 c16 c17 c18 c19 c20 c21 c22 c23 c24 c25 c26 c27 c28 c29 c30 c31 c32 c33 c34 c35 c36 c37 c38 c39 c40 c41 c42 c43 c44 c45 c46 c47 c48 c49 c50 c51 c52 c53 c54 c55 c56 c57 c58 c59 c60 c61 c62 c63 c64 c65 c66 c67 c68 c69 c70 c71 c72 c73 c74 c75 c76 c77 c78 c79 c80 c81 c82 c83 c84 c85 c86 c87 c88 c89 c90 c91 c92 c93 c94 c95 c96 c97 c98 c99 c100 c101 c102 c103 c104 c105 c106 c107 c108 c109 c110 c111 c112 c113 c114 c115 c116 c117 c118 c119 c120 c121 c122 c123 c124 c125 c126 c127 c128 c129 c130 c131 c132 c133 c134 c135 c136 c137 c138 c139 c140 c141 c142 c143 c144 c145 c146 c147 c148 c149 c150 c151 c152 c153 c154 c155 c156 c157 c158 c159 c160 c161 c162 c163 c164 c165 c166 c167 c168 c169 c170 c171 c172 c173 c174 c175 c176 c177 c178 c179 c180 c181 c182 c183 c184 c185 c186 c187 c188 c189 c190 c191 c192 c193 c194 c195 c196 c197 c198 c199 c200 c201 c202 c203 c204 c205 c206 c207 c208 c209 c210 c211 c212 c213 c214 c215 c216 c217 c218 c219 c220 c221 c222 c223 c224 c225 c226 c227 c228 c229 c230 c231 c232 c233 c234 c235 c236 c237 c238 c239 c240 c241 c242 c243:Value} {n0 sb jb mb i cl:Nat} {al:Option Addr} {s:JS} {L:List SActP} (w wr:World) (HL:Hid (SActsAt w w.heap.size (.slice al L.length cl) L)) (HSM:Hid (∀ a ∈ L,a.Small)) (hn:L.length≤25) (hle:w.heap.size≤n0) (HX:Hid (SX n0 wr sb n0 jb mb s)) (HF:Hid (SFull s (2 * i))) (HB:Hid (Below w.heap.size w wr)) (hlt:i < L.length)
 (HK:Hid (∀ (d2 d7 d8 d9 d10 d11 d12 d13 d14 d15 d16 d17 d38 d39 d40 d41 d42 d43 d44 d45 d46 d47 d48 d49 d50 d51 d52 d53 d54 d55 d56 d57 d58 d59 d60 d61 d62 d63 d64 d65 d66 d67 d68 d69 d70 d71 d72 d73 d74 d75 d76 d77 d78 d79 d80 d81 d82 d83 d84 d85 d86 d87 d88 d89 d90 d91 d92 d93 d94 d95 d96 d97 d98 d99 d100 d101 d102 d103 d104 d105 d106 d107 d108 d109 d110 d111 d112 d113 d114 d115 d116 d117 d118 d119 d120 d121 d122 d123 d124 d125 d126 d127 d128 d129 d130 d131 d132 d133 d134 d135 d136 d137 d138 d139 d140 d141 d142 d143 d144 d145 d146 d147 d148 d149 d150 d151 d152 d153 d154 d155 d156 d157 d158 d159 d160 d161 d162 d163 d164 d165 d166 d167 d168 d169 d170 d171 d172 d173 d174 d175 d176 d177 d178 d179 d180 d181 d182 d183 d184 d185 d186 d187 d188 d189 d190 d191 d192 d193 d194 d195 d196 d197 d198 d199 d200 d201 d202 d203 d204 d205 d206 d207 d208 d209 d210 d211 d212 d213 d214 d215 d216 d217 d218 d219 d220 d221 d222 d223 d224 d225 d226 d227 d228 d229 d230 d231 d232 d233 d234 d235 d236 d237 d238 d239 d240 d241 d242 d243:Value) (w':World) (s1:JS) (sb1 jb1 mb1:Nat),(SX n0 w' sb1 n0 jb1 mb1 s1∧SFull s1 (2 * i+2)∧Below w.heap.size w w')→K ⟨#[.slice al L.length cl,c1,d2,.pointer (some ⟨n0,0,none⟩),sv sb1,.int .i64 0,.int .i64 (i:Int),d7,d8,d9,d10,d11,d12,d13,d14,d15,d16,d17,c18,c19,c20,c21,c22,c23,c24,c25,c26,c27,c28,c29,c30,c31,c32,c33,c34,c35,c36,c37,d38,d39,d40,d41,d42,d43,d44,d45,d46,d47,d48,d49,d50,d51,d52,d53,d54,d55,d56,d57,d58,d59,d60,d61,d62,d63,d64,d65,d66,d67,d68,d69,d70,d71,d72,d73,d74,d75,d76,d77,d78,d79,d80,d81,d82,d83,d84,d85,d86,d87,d88,d89,d90,d91,d92,d93,d94,d95,d96,d97,d98,d99,d100,d101,d102,d103,d104,d105,d106,d107,d108,d109,d110,d111,d112,d113,d114,d115,d116,d117,d118,d119,d120,d121,d122,d123,d124,d125,d126,d127,d128,d129,d130,d131,d132,d133,d134,d135,d136,d137,d138,d139,d140,d141,d142,d143,d144,d145,d146,d147,d148,d149,d150,d151,d152,d153,d154,d155,d156,d157,d158,d159,d160,d161,d162,d163,d164,d165,d166,d167,d168,d169,d170,d171,d172,d173,d174,d175,d176,d177,d178,d179,d180,d181,d182,d183,d184,d185,d186,d187,d188,d189,d190,d191,d192,d193,d194,d195,d196,d197,d198,d199,d200,d201,d202,d203,d204,d205,d206,d207,d208,d209,d210,d211,d212,d213,d214,d215,d216,d217,d218,d219,d220,d221,d222,d223,d224,d225,d226,d227,d228,d229,d230,d231,d232,d233,d234,d235,d236,d237,d238,d239,d240,d241,d242,d243],[]⟩ w')) :
 Code.wp Tryz.prog sfB1 (Exit.then K Q') ⟨#[.slice al L.length cl,c1,c2,.pointer (some ⟨n0,0,none⟩),sv sb,.int .i64 0,.int .i64 (i:Int),c7,c8,c9,c10,c11,c12,c13,c14,c15,c16,c17,c18,c19,c20,c21,c22,c23,c24,c25,c26,c27,c28,c29,c30,c31,c32,c33,c34,c35,c36,c37,c38,c39,c40,c41,c42,c43,c44,c45,c46,c47,c48,c49,c50,c51,c52,c53,c54,c55,c56,c57,c58,c59,c60,c61,c62,c63,c64,c65,c66,c67,c68,c69,c70,c71,c72,c73,c74,c75,c76,c77,c78,c79,c80,c81,c82,c83,c84,c85,c86,c87,c88,c89,c90,c91,c92,c93,c94,c95,c96,c97,c98,c99,c100,c101,c102,c103,c104,c105,c106,c107,c108,c109,c110,c111,c112,c113,c114,c115,c116,c117,c118,c119,c120,c121,c122,c123,c124,c125,c126,c127,c128,c129,c130,c131,c132,c133,c134,c135,c136,c137,c138,c139,c140,c141,c142,c143,c144,c145,c146,c147,c148,c149,c150,c151,c152,c153,c154,c155,c156,c157,c158,c159,c160,c161,c162,c163,c164,c165,c166,c167,c168,c169,c170,c171,c172,c173,c174,c175,c176,c177,c178,c179,c180,c181,c182,c183,c184,c185,c186,c187,c188,c189,c190,c191,c192,c193,c194,c195,c196,c197,c198,c199,c200,c201,c202,c203,c204,c205,c206,c207,c208,c209,c210,c211,c212,c213,c214,c215,c216,c217,c218,c219,c220,c221,c222,c223,c224,c225,c226,c227,c228,c229,c230,c231,c232,c233,c234,c235,c236,c237,c238,c239,c240,c241,c242,c243],[]⟩ wr:=by
 dsimp only
 conv=>arg 2; whnf
 have hun:undef=Value.tuple #[]:=rfl
 have b2:(i:Int) < (L.length:Int):=by omega
 obtain ⟨g,off,cap,ab,cb,ax,cx,e0,⟨c0,c1,c2,c3,c4,c5,c6,c7,c8,c9,c10,c11,c12⟩,hr1,hr2⟩:=HL.out.get HB.out hlt
 simp only [Value.slice.injEq,true_and] at e0
 obtain ⟨rfl,rfl⟩:=e0
 have HSA:=Lib.hid (HSM.out _ (List.getElem_mem hlt))
 generalize L[i]=a at *
 have HR1:=Lib.hid hr1
 have HR2:=Lib.hid hr2
 have hlt2:=Lib.hid hlt
 clear hr1 hr2 hlt
 go_upto_region 13 with (fail)
 have HY:=Lib.hid (Blk.new wr 37 (actCells a (.slice ab a.task.body.length cb) (.slice ax a.text.length cx)))
 have HBa:=Lib.hid ((Below.refl wr.heap.size wr).alloc (Nat.le_refl _) (.cells #[.int .i64 a.kind,strV a.cls,strV a.stu,strV a.task.cls,strV a.task.name,.int .i64 a.task.frm,.int .i64 a.task.due,.int .i64 a.task.late,.int .i64 a.task.tries,.slice ab a.task.body.length cb,.int .i64 a.id,.int .i64 a.n,.slice ax a.text.length cx] 37))
 change Code.wp _ _ _ _ (wr.alloc (.cells #[.int .i64 a.kind,strV a.cls,strV a.stu,strV a.task.cls,strV a.task.name,.int .i64 a.task.frm,.int .i64 a.task.due,.int .i64 a.task.late,.int .i64 a.task.tries,.slice ab a.task.body.length cb,.int .i64 a.id,.int .i64 a.n,.slice ax a.text.length cx] 37))
 have HX1:=Lib.hid (HX.out.below HBa.out)
 have HB1:=Lib.hid (HB.out.trans (HBa.out.mono HB.out.size))
 have HNJ:Hid (¬ Sj jb n0 mb wr.heap.size):=Lib.hid (fun h=>by have:=(HX.out.sj _ h).2; omega)
 change Hid (Blk (wr.alloc (.cells #[.int .i64 a.kind,strV a.cls,strV a.stu,strV a.task.cls,strV a.task.name,.int .i64 a.task.frm,.int .i64 a.task.due,.int .i64 a.task.late,.int .i64 a.task.tries,.slice ab a.task.body.length cb,.int .i64 a.id,.int .i64 a.n,.slice ax a.text.length cx] 37)) _ _ _) at HY
 generalize wr.alloc (.cells #[.int .i64 a.kind,strV a.cls,strV a.stu,strV a.task.cls,strV a.task.name,.int .i64 a.task.frm,.int .i64 a.task.due,.int .i64 a.task.late,.int .i64 a.task.tries,.slice ab a.task.body.length cb,.int .i64 a.id,.int .i64 a.n,.slice ax a.text.length cx] 37)=wa at *
 generalize wr.heap.size=ga at *
 clear HX HB HBa c0 c1 c2 c3 c4 c5 c6 c7 c8 c9 c10 c11 c12
 have HLT:Hid (2 * i+2 < 4611686018427387904):=Lib.hid (by have:=hlt2.out; have:=hn; omega)
 have HLC:=Lib.hid (classes_len HF.out.live)
 have HLS:=Lib.hid (students_len HF.out.live a.cls)
 have HLT9:=Lib.hid (all_len HF.out)
 have HLA:=Lib.hid (atts_len HF.out a.id a.stu)
 have HFO:Hid (FixL (jOpen s.d) a s.classesP s.allP (s.attsP a.id a.stu) (s.studentsP a.cls) (s.dueP a.id a.stu)):=Lib.hid (FixL.of (fixed_open HF.out HF.out.reopen.2.2.1 HF.out.reopen.2.2.2 a))
 have HFD:Hid (FixL (doP a s).1 a s.classesP s.allP (s.attsP a.id a.stu) (s.studentsP a.cls) (s.dueP a.id a.stu)):=Lib.hid (FixL.of (fixed_step HF.out HLT.out a))
 have HC17:=Lib.hid (classes_x HX1.out)
 have HC29:=Lib.hid (fun W (h:Below wa.heap.size wa W)=>all_x (HX1.out.below h) HF.out)
 have HC22:=Lib.hid (fun W (h:Below wa.heap.size wa W)=>attempts_y a.id a.stu (HX1.out.below h) HF.out.sok)
 have HC18:=Lib.hid (fun W (h:Below wa.heap.size wa W)=>students_x a.cls (HX1.out.below h))
 generalize s.classesP=C at *
 generalize s.allP=T at *
 generalize s.attsP a.id a.stu=A at *
 generalize s.studentsP a.cls=S at *
 generalize s.dueP a.id a.stu=D at *
 go_wp2_with fail
 refine HC17.out.mono ?_
 rintro e w5 ⟨⟨v,rfl,hv⟩,hb⟩
 dsimp only
 have HQC:=Lib.hid hv.lst
 obtain ⟨qa,qc,rfl⟩:=HQC.out.form
 have HW5:=Lib.hid hb
 clear hv hb HC17
 go_wp2_with fail
 refine (HC29.out _ HW5.out).mono ?_
 rintro e w6 ⟨⟨v,rfl,hv⟩,hb⟩
 dsimp only
 have HQT:=Lib.hid hv
 obtain ⟨ta,tc,rfl⟩:=HQT.out.form
 have HW6:=Lib.hid (HW5.out.trans (hb.mono HW5.out.size))
 have HQC:=Lib.hid (HQC.out.below hb)
 clear hv hb HC29 HW5
 obtain ⟨-,y1,y2, -, -, -, -, -, -, -,y10, -, -⟩:=actBlk (HY.out.below HW6.out)
 go_wp2_with fail
 refine (HC22.out _ HW6.out).mono ?_
 rintro e w7 ⟨⟨av,ac,rfl,hv⟩,hb⟩
 dsimp only
 have HQA:=Lib.hid hv
 have HW7:=Lib.hid (HW6.out.trans (hb.mono HW6.out.size))
 have HQC:=Lib.hid (HQC.out.below hb)
 have HQT:=Lib.hid (HQT.out.below hb)
 have y1:=keep_cell hb y1
 clear hv hb HC22 HW6 y2 y10
 go_wp2_with fail
 refine (HC18.out _ HW7.out).mono ?_
 rintro e w8 ⟨⟨v,rfl,hv⟩,hb⟩
 dsimp only
 obtain ⟨sa,sc,rfl⟩:=(ownS.lst hv).form
 have HQ:Hid (Listed w8 (.slice qa C.length qc) (.slice ta T.length tc) (.slice av A.length ac) (.slice sa S.length sc) D C T A S):=Lib.hid ⟨HQC.out.below hb,HQT.out.below hb,HQA.out.below hb,hv.lst⟩
 have HW8:=Lib.hid (HW7.out.trans (hb.mono HW7.out.size))
 clear hv hb HC18 HW7 y1 HQC HQT HQA
 have HX8:=Lib.hid (HX1.out.below HW8.out)
 have HY8:=Lib.hid (HY.out.below HW8.out)
 have HB8:=Lib.hid (HB1.out.trans (HW8.out.mono HB1.out.size))
 clear HX1 HY HB1 HW8
 have HP:=Lib.hid (fun W=>pick_c a.kind 10 W (by omega) (by omega))
 obtain ⟨k,hkk⟩:∃ k,a.kind % 10=k:=⟨_,rfl⟩
 rw [hkk] at HP
 obtain ⟨y0, -⟩:=actBlk HY8.out
 go_upto_region 16 with (fail)
 go_wp2_with fail
 refine (HP.out _).mono ?_
 rintro e wz ⟨rfl,hwz⟩
 dsimp only
 subst hwz
 clear y0
 go_upto_if 59 with (fail)
 go_cut [4,5] from 59 to 69 (fun v4 ev wx=>ev=.int .i64 0∧∃ (s1:JS) (sb1 jb1 mb1:Nat),v4=sv sb1∧SX n0 wx sb1 n0 jb1 mb1 s1∧SFull s1 (2 * i+2)∧FixL s1 a C T A S D∧Listed wx (.slice qa C.length qc) (.slice ta T.length tc) (.slice av A.length ac) (.slice sa S.length sc) D C T A S∧Blk wx ga 37 (actCells a (.slice ab a.task.body.length cb) (.slice ax a.text.length cx))∧Below w.heap.size w wx)
 case first=>
  by_cases h9:k=9
  ·have q9:(k == 9)=true:=by simpa using h9
   clear h9
   have HO:=Lib.hid (open_x HX8.out.dx HF.out.reopen.1 HF.out.reopen.2.1)
   go_wp2_with fail
   refine HO.out.mono ?_
   rintro e w9 ⟨⟨sb1,jb1,mb1,rfl, -, -, -,hX⟩,hb⟩
   dsimp only
   have HR:Hid (∃ (s1:JS) (sb2 jb1 mb1:Nat),sv sb1=sv sb2∧SX n0 w9 sb2 n0 jb1 mb1 s1∧SFull s1 (2 * i+2)∧FixL s1 a C T A S D∧Listed w9 (.slice qa C.length qc) (.slice ta T.length tc) (.slice av A.length ac) (.slice sa S.length sc) D C T A S∧Blk w9 ga 37 (actCells a (.slice ab a.task.body.length cb) (.slice ax a.text.length cx))∧Below w.heap.size w w9):=Lib.hid ⟨_,sb1,jb1,mb1,rfl,hX,HF.out.reopen.2.2.1.le (by omega),HFO.out,HQ.out.below hb,HY8.out.below hb,HB8.out.trans (hb.mono HB8.out.size)⟩
   clear hX hb HO
   go_wp2
   go_meet
   exact ⟨rfl,HR.out⟩
  ·have q9:(k == 9)=false:=by simpa using h9
   clear h9
   have HC:=Lib.hid (act_x a ab ax cb cx HX8.out HF.out.sok (HR1.out.later HB8.out) (HR2.out.later HB8.out) (by have:=HSA.out.body; omega) (by have:=HSA.out.text; omega))
   have HF1:=Lib.hid (((HF.out.do_ HLT.out a).1).full HF.out)
   obtain ⟨y0,y1,y2,y3,y4,y5,y6,y7,y8,y9,y10,y11,y12⟩:=actBlk HY8.out
   generalize (doP a s).1=s1 at *
   generalize (doP a s).2.1=n1 at *
   generalize (doP a s).2.2=e1 at *
   go_wp2_with fail
   refine HC.out.mono ?_
   rintro e w9 ⟨rfl,hA⟩
   dsimp only
   have HR:Hid (∃ (s1:JS) (sb2 jb1 mb1:Nat),sv sb=sv sb2∧SX n0 w9 sb2 n0 jb1 mb1 s1∧SFull s1 (2 * i+2)∧FixL s1 a C T A S D∧Listed w9 (.slice qa C.length qc) (.slice ta T.length tc) (.slice av A.length ac) (.slice sa S.length sc) D C T A S∧Blk w9 ga 37 (actCells a (.slice ab a.task.body.length cb) (.slice ax a.text.length cx))∧Below w.heap.size w w9):=Lib.hid ⟨s1,sb,jb,mb,rfl,hA.sx,HF1.out,HFD.out,HQ.out.actX HX8.out hA.gr,HY8.out.grown hA.gr HNJ.out,HB8.out.trans (hA.bl.mono hle)⟩
   clear hA HC y0 y1 y2 y3 y4 y5 y6 y7 y8 y9 y10 y11 y12
   go_wp2
   go_meet
   exact ⟨rfl,HR.out⟩
 case rest=>
  clear HX8 HQ HY8 HB8 HFO HFD HNJ
  obtain ⟨rfl,s1,sb1,jb1,mb1,rfl,hX,hF1,hL,hQ,hY,hB⟩:=hcut
  have HX9:=Lib.hid hX
  have HF1:=Lib.hid hF1
  have HFX:=Lib.hid hL
  have HQ9:=Lib.hid hQ
  have HY9:=Lib.hid hY
  have HB9:=Lib.hid hB
  clear hX hF1 hL hQ hY hB
  generalize wc=w9 at *
  have HLC1:=Lib.hid (classes_len HF1.out.live)
  have HLS1:=Lib.hid (students_len HF1.out.live a.cls)
  have HLT1:=Lib.hid (all_len HF1.out)
  have HLA1:=Lib.hid (atts_len HF1.out a.id a.stu)
  have HC22:=Lib.hid (fun W (h:Below w9.heap.size w9 W)=>attempts_y a.id a.stu (HX9.out.below h) HF1.out.sok)
  have HC18:=Lib.hid (fun W (h:Below w9.heap.size w9 W)=>students_x a.cls (HX9.out.below h))
  have HC17:=Lib.hid (fun W (h:Below w9.heap.size w9 W)=>classes_x (HX9.out.below h))
  have HC29:=Lib.hid (fun W (h:Below w9.heap.size w9 W)=>all_x (HX9.out.below h) HF1.out)
  have HC24:=Lib.hid (fun id W (h:Below w9.heap.size w9 W)=>task_x id (HX9.out.below h))
  obtain ⟨f1,f2,f3,f4,f5,f6,f7,f8⟩:=HFX.out
  have F1:=Lib.hid f1
  have F2:=Lib.hid f2
  have F3:=Lib.hid f3
  have F4:=Lib.hid f4
  have F5:=Lib.hid f5
  have F6:=Lib.hid f6
  have F7:=Lib.hid f7
  have F8:=Lib.hid f8
  clear f1 f2 f3 f4 f5 f6 f7 f8 HFX
  generalize s1.classesP=C1 at *
  generalize s1.allP=T1 at *
  generalize s1.attsP a.id a.stu=A1 at *
  generalize s1.studentsP a.cls=S1 at *
  generalize s1.dueP a.id a.stu=D1 at *
  obtain ⟨-,y1,y2, -, -, -, -, -, -, -,y10, -, -⟩:=actBlk HY9.out
  have hB:Below w9.heap.size w9 w9:=Below.refl _ _
  go_upto_region 21 with (fail)
  go_region_held3 (fun w'=>w'.cell? ⟨ga,1,none⟩=some (strV a.cls)∧w'.cell? ⟨ga,2,none⟩=some (strV a.stu)∧w'.cell? ⟨ga,10,none⟩=some (.int .i64 a.id))
   (exact ⟨y1,y2,y10⟩)
   (first
    | (go_at_call 22; refine (HC22.out _ (by first | exact hB | exact hB.drew)).mono ?_; go_must (rintro e w10 ⟨⟨bv,bc,rfl,hv⟩,hb⟩); go_must (dsimp only); go_must (have y1:=keep_cell hb y1); go_must (have y2:=keep_cell hb y2); go_must (have y10:=keep_cell hb y10); go_must (have hB:Below w9.heap.size w9 w10:=(by first | exact hB.trans (hb.mono hB.size) | exact hB.trans ((undrew hb).mono hB.size))); go_must (have HQ22:=Lib.hid hv); (try (have HQ18:=Lib.hid (by first | exact HQ18.out.below hb | exact HQ18.out.below (undrew hb)))); go_must (clear hv hb))
    | (go_at_call 18; refine (HC18.out _ (by first | exact hB | exact hB.drew)).mono ?_; go_must (rintro e w10 ⟨⟨v,rfl,hv0⟩,hb⟩); go_must (dsimp only); go_must (have hv:=ownS.lst hv0); go_must (obtain ⟨za,zc,rfl⟩:=hv.form); go_must (have y1:=keep_cell hb y1); go_must (have y2:=keep_cell hb y2); go_must (have y10:=keep_cell hb y10); go_must (have hB:Below w9.heap.size w9 w10:=(by first | exact hB.trans (hb.mono hB.size) | exact hB.trans ((undrew hb).mono hB.size))); go_must (have HQ18:=Lib.hid hv); (try (have HQ22:=Lib.hid (by first | exact HQ22.out.below hb | exact HQ22.out.below (undrew hb)))); go_must (clear hv hv0 hb)))
  have HB10:=Lib.hid hB
  have HQ10:=Lib.hid (HQ9.out.below hB)
  clear hB y1 y2 y10 HC22 HC18
  go_upto_region 22 with (fail)
  go_cut [111] from 80 to 111 (fun v wx=>v=.bool false∧Below w10.heap.size w10 wx)
  case first=>
   have HSL:=Lib.hid (LstAt.form HQ18.out)
   go_wp2_with fail
   refine (HC17.out _ HB10.out).mono ?_
   rintro e w11 ⟨⟨v,rfl,hv⟩,hb⟩
   dsimp only
   have HL1:=Lib.hid hv.lst
   have HH:=Lib.hid (holds_c _ _ C1 C w11 HL1.out (HQ10.out.below hb).c HLC1.out HLC.out F2.out F1.out)
   obtain ⟨xa,xc,rfl⟩:=HL1.out.form
   have HW11:=Lib.hid hb
   clear hv hb HL1
   go_wp2_with fail
   refine HH.out.mono ?_
   rintro e w12 ⟨rfl,hb⟩
   dsimp only
   have HW12:=Lib.hid (HW11.out.trans (hb.mono HW11.out.size))
   clear hb HH HW11
   have HB12:=Lib.hid (HB10.out.trans (HW12.out.mono HB10.out.size))
   go_wp2_with fail
   refine (HC29.out _ HB12.out).mono ?_
   rintro e w13 ⟨⟨v,rfl,hv⟩,hb⟩
   dsimp only
   obtain ⟨xa,xc,rfl⟩:=hv.form
   have HW13:=Lib.hid (HW12.out.trans (hb.mono HW12.out.size))
   have HB13:=Lib.hid (HB10.out.trans (HW13.out.mono HB10.out.size))
   have hnum:=F3.out
   have hatt:A.length≤A1.length:=by obtain ⟨q,hq⟩:=F5.out; rw [hq,List.length_append]; omega
   have p1:decide ((T1.length:Int) < (T.length:Int))=false:=decide_eq_false (by omega)
   have p1':decide (T1.length < T.length)=false:=decide_eq_false (by omega)
   have p2:decide ((A1.length:Int) < (A.length:Int))=false:=decide_eq_false (by omega)
   have p2':decide (A1.length < A.length)=false:=decide_eq_false (by omega)
   obtain ⟨y0, -⟩:=actBlk (HY9.out.below HB13.out)
   clear hv hb hnum hatt HW12 HB12
   go_wp2_with fail
   refine (HP.out _).mono ?_
   rintro e wz ⟨rfl,hwz⟩
   dsimp only
   subst hwz
   clear y0
   by_cases h2:k=2
   ·have q2:(k != 2)=false:=by simpa using h2
    clear h2
    go_wp2_with fail
    go_meet
    exact ⟨rfl,HW13.out⟩
   ·have q2:(k != 2)=true:=by simpa using h2
    have HH:=Lib.hid (holds_c _ _ S1 S _ (HQ18.out.below HW13.out) (HQ10.out.below HW13.out).s HLS1.out HLS.out F7.out (F6.out (by rw [hkk]; exact h2)))
    clear h2
    go_wp2_with fail
    refine HH.out.mono ?_
    rintro e w14 ⟨rfl,hb⟩
    dsimp only
    have HW14:=Lib.hid (HW13.out.trans (hb.mono HW13.out.size))
    clear hb HH
    go_wp2_with fail
    go_meet
    exact ⟨rfl,HW14.out⟩
  case rest=>
   obtain ⟨rfl,hbc⟩:=hcut
   generalize wc=w14 at *
   have HB14:=Lib.hid (HB10.out.trans (hbc.mono HB10.out.size))
   have HQ14:=Lib.hid (HQ10.out.below hbc)
   have HA14:=Lib.hid (HQ22.out.below hbc)
   clear hbc HQ10 HQ22 HQ18 HB10 HC17 HC29
   have HX14:=Lib.hid (HX9.out.below HB14.out)
   go_upto_block 2 with (fail)
   refine fixedLp1 w14 HX14 (Lib.hid HQ14.out.t) F4 HLT9 (Lib.hid ?_)
   intro e2 e14 e15 e16 e112 e113 e114 e115 e116 e117 e118 e119 e120 e121 e122 e123 e124 e125 e126 e127 e128 e129 e130 e131 e132 e133 e134 e135 e136 e137 e138 e139 e140 e141 e142 e143 e144 e145 e146 e147 e148 e149 e150 e151 e152 e153 e154 e155 e156 e157 e158 e159 e160 e161 e162 e163 e164 e165 e166 e167 e168 e169 e170 e171 e172 e173 e174 e175 e176 e177 e178 e179 e180 e181 e182 e183 e184 e185 e186 e187 e188 e189 e190 e191 e192 e193 w17 hbc
   dsimp only
   have HB17:=Lib.hid (HB14.out.trans (hbc.mono HB14.out.size))
   have HQ17:=Lib.hid (HQ14.out.below hbc)
   have HA17:=Lib.hid (HA14.out.below hbc)
   have HY17:=Lib.hid (HY9.out.below HB17.out)
   have HBF:=Lib.hid (HB9.out.trans (HB17.out.mono HB9.out.size))
   have HX17:=Lib.hid (HX9.out.below HB17.out)
   clear hbc HB14 HQ14 HA14 HC24
   obtain ⟨y0, -⟩:=actBlk HY17.out
   go_upto_block 4 with (fail)
   refine wp_then ?_
   refine fixedLp2 w17 y0 hkk HP (Lib.hid HQ17.out.a) HA17 F5 F8 HLA (Lib.hid ?_)
   intro g2 g17 g194 g195 g196 g197 g198 g199 g200 g201 g202 g203 g204 g205 g206 g207 g208 g209 g210 g211 g212 g213 g214 g215 g216 g217 g218 g219 g220 g221 g222 g223 g224 g225 g226 g227 g228 g229 g230 g231 g232 g233 g234 g235 g236 g237 g238 g239 g240 g241 g242 g243 w18 hbd
   dsimp only
   have HBE:=Lib.hid (HBF.out.trans (hbd.mono HBF.out.size))
   have HXE:=Lib.hid (HX17.out.below hbd)
   go_wp2
   exact HK.out _ _ _ _ _ _ _ _ _ _ _ _ _ _ _ _ _ _ _ _ _ _ _ _ _ _ _ _ _ _ _ _ _ _ _ _ _ _ _ _ _ _ _ _ _ _ _ _ _ _ _ _ _ _ _ _ _ _ _ _ _ _ _ _ _ _ _ _ _ _ _ _ _ _ _ _ _ _ _ _ _ _ _ _ _ _ _ _ _ _ _ _ _ _ _ _ _ _ _ _ _ _ _ _ _ _ _ _ _ _ _ _ _ _ _ _ _ _ _ _ _ _ _ _ _ _ _ _ _ _ _ _ _ _ _ _ _ _ _ _ _ _ _ _ _ _ _ _ _ _ _ _ _ _ _ _ _ _ _ _ _ _ _ _ _ _ _ _ _ _ _ _ _ _ _ _ _ _ _ _ _ _ _ _ _ _ _ _ _ _ _ _ _ _ _ _ _ _ _ _ _ _ _ _ _ _ _ _ _ _ _ _ _ _ _ _ _ _ _ s1 sb1 jb1 mb1 ⟨HXE.out,HF1.out,HBE.out⟩
end
section
open Go.RowKit SeedP Go.Maps
set_option maxRecDepth 100000 in
set_option maxHeartbeats 8000000 in
theorem schoolFixed_walk (vl:Value) (L:List SActP) (w:World) (hs:St w) (hL:SActsAt w w.heap.size vl L) :
 Calls Tryz.prog 8 #[vl] w fun e w'=>e=.returned (.bool true)∧Below w.heap.size w w':=by
 have hun:undef=Value.tuple #[]:=rfl
 have HA:=Lib.hid (sawake_c w hs)
 have HL:=Lib.hid hL
 have HS:=Lib.hid hs
 obtain ⟨al,cl,rfl⟩:∃ a c,vl=.slice a L.length c:=by obtain ⟨a,c,e, -⟩:=hL; exact ⟨a,c,e⟩
 clear hL hs
 go_enter Tryz.func8,Tryz.ntmps8
 go_wp2_with fail
 refine HA.out.mono ?_
 rintro e w1 ⟨rfl,hb1⟩
 have HF:=Lib.hid (sfew_c (.slice al L.length cl) L w1 ((HL.out.below hb1).raise hb1.size))
 have HB1:=Lib.hid hb1
 clear HA hb1
 go_wp2_with fail
 refine HF.out.mono ?_
 rintro e w2 ⟨⟨b,rfl,hb⟩,hb2⟩
 have HB2:=Lib.hid (HB1.out.trans (hb2.mono HB1.out.size))
 clear HF hb2 HB1
 cases b with
 | false=>
   clear hb
   go_wp2
   go_ret
   exact ⟨rfl,HB2.out⟩
 | true=>
   obtain ⟨hn,hsm⟩:=hb rfl
   have HSM:=Lib.hid hsm
   clear hb hsm
   have HS2:=Lib.hid (HS.out.below HB2.out HS.out.pos)
   have hD:=Lib.hid (DX.new w2 HS2.out (-1))
   have hB:=Lib.hid ((Below.refl w2.heap.size w2).alloc (Nat.le_refl _) (.cells #[.int .i64 (-1),.slice none 0 0,.slice none 0 0] 29))
   have HB3:=Lib.hid (HB2.out.trans (hB.out.mono HB2.out.size))
   have hle:=HB2.out.size
   go_upto_region 6 with (fail)
   obtain ⟨n0,hn0⟩:∃ n,w2.heap.size=n:=⟨_,rfl⟩
   rw [hn0] at hD hle ⊢
   generalize w2.alloc (.cells #[.int .i64 (-1),.slice none 0 0,.slice none 0 0] 29)=w3 at *
   clear hn0 hB HB2 HS2 HS
   go_wp2_with fail
   refine (open_x hD.out ok0 sch0).mono ?_
   rintro e w4 ⟨⟨sb,jb,mb,rfl, -, -, -,hX⟩,hb4⟩
   have HB4:=Lib.hid (HB3.out.trans (hb4.mono HB3.out.size))
   have HX0:=Lib.hid hX
   have HF0:=Lib.hid at0.full
   clear hX hb4 HB3 hD
   generalize jOpen ⟨-1,[],[]⟩=s0 at *
   go_wp2
   go_loopw [4,5,6] (fun sv4 ev iv wr=>∃ (i:Nat) (s:JS) (sb jb mb:Nat),i≤L.length∧iv=.int .i64 i∧sv4=sv sb∧ev=.int .i64 0∧SX n0 wr sb n0 jb mb s∧SFull s (2 * i)∧Below w.heap.size w wr) (fun _ _ i _=>L.length - (intOf i).toNat)
   case atStart=>exact ⟨0,s0,sb,jb,mb,Nat.zero_le _,rfl,rfl,rfl,HX0.out,HF0.out,HB4.out⟩
   case round=>
    clear HX0 HF0 HB4
    obtain ⟨i,s,sb,jb,mb,hi,rfl,rfl,rfl,hX,hF,hB⟩:=hrel
    have HX:=Lib.hid hX
    have HF:=Lib.hid hF
    have HB:=Lib.hid hB
    clear hX hF hB
    by_cases hlt:i < L.length
    ·have b1:decide ((i:Int) < (L.length:Int))=true:=decide_eq_true (by omega)
     have b2:(i:Int) < (L.length:Int):=by omega
     have HLTT:=Lib.hid hlt
     go_upto_block 1 with (fail)
     refine fixedRnd w wr HL HSM hn hle HX HF HB HLTT.out (Lib.hid ?_)
     intro e2 e7 e8 e9 e10 e11 e12 e13 e14 e15 e16 e17 e38 e39 e40 e41 e42 e43 e44 e45 e46 e47 e48 e49 e50 e51 e52 e53 e54 e55 e56 e57 e58 e59 e60 e61 e62 e63 e64 e65 e66 e67 e68 e69 e70 e71 e72 e73 e74 e75 e76 e77 e78 e79 e80 e81 e82 e83 e84 e85 e86 e87 e88 e89 e90 e91 e92 e93 e94 e95 e96 e97 e98 e99 e100 e101 e102 e103 e104 e105 e106 e107 e108 e109 e110 e111 e112 e113 e114 e115 e116 e117 e118 e119 e120 e121 e122 e123 e124 e125 e126 e127 e128 e129 e130 e131 e132 e133 e134 e135 e136 e137 e138 e139 e140 e141 e142 e143 e144 e145 e146 e147 e148 e149 e150 e151 e152 e153 e154 e155 e156 e157 e158 e159 e160 e161 e162 e163 e164 e165 e166 e167 e168 e169 e170 e171 e172 e173 e174 e175 e176 e177 e178 e179 e180 e181 e182 e183 e184 e185 e186 e187 e188 e189 e190 e191 e192 e193 e194 e195 e196 e197 e198 e199 e200 e201 e202 e203 e204 e205 e206 e207 e208 e209 e210 e211 e212 e213 e214 e215 e216 e217 e218 e219 e220 e221 e222 e223 e224 e225 e226 e227 e228 e229 e230 e231 e232 e233 e234 e235 e236 e237 e238 e239 e240 e241 e242 e243 w' s1 sb1 jb1 mb1 hh
     dsimp only
     obtain ⟨hX,hF,hB⟩:=hh
     have HH:=Lib.hid (And.intro hX (And.intro hF hB))
     clear hX hF hB HX HF HB
     go_wp2
     go_roundw
     case rel=>exact ⟨i+1,s1,sb1,jb1,mb1,HLTT.out,by go_num,rfl,rfl,HH.out.1,HH.out.2.1,HH.out.2.2⟩
     case measure=>have:=HLTT.out; simp [intOf]; omega
    ·obtain rfl:i=L.length:=by omega
     have b1:decide ((L.length:Int) < (L.length:Int))=false:=by simp
     go_wp2
     go_ret
     exact ⟨rfl,HB.out⟩
end
end Go.Proofs.YtbcfpdlhieaepaaGreatDoor
