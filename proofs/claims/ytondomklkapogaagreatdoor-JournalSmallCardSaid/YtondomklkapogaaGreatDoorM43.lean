/- The law's does: a commit's parts, each walked by itself. -/
import Derived.Test.YtondomklkapogaaGreatDoorM42
import Derived.Deep.CutBlock
namespace Go.Proofs.YtondomklkapogaaGreatDoor
open Go.RowKit SeedP Go.Maps
set_option linter.unusedVariables false
def findR (n:Nat):Code→Option Code
 | .region id ops d=>if id=n then some (.region id ops d) else none
 | .seq a b=>match findR n a with
   | some c=>some c
   | none=>findR n b
 | .cond _ a b=>match findR n a with
   | some c=>some c
   | none=>findR n b
 | .block _ c=>findR n c
 | .loop c=>findR n c
 | .scope c=>findR n c
 | _=>none
def findB (n:Nat):Code→Option Code
 | .seq a b=>match findB n a with
   | some c=>some c
   | none=>findB n b
 | .cond _ a b=>match findB n a with
   | some c=>some c
   | none=>findB n b
 | .block id c=>if id=n then some (.block id c) else findB n c
 | .loop c=>findB n c
 | .scope c=>findB n c
 | _=>none
noncomputable def cdR31:Code:=((Tryz.f7.body.bind (findR 31)).getD .skip)
noncomputable def cdB3:Code:=((Tryz.f7.body.bind (findB 3)).getD .skip)
noncomputable def cdB5:Code:=((Tryz.f7.body.bind (findB 5)).getD .skip)
noncomputable def cdR46:Code:=((Tryz.f7.body.bind (findR 46)).getD .skip)
noncomputable def cdB6:Code:=((Tryz.f7.body.bind (findB 6)).getD .skip)
set_option maxRecDepth 1000000 in
set_option maxHeartbeats 16000000 in
theorem does31 {K:Act→World→Prop} {Q':Exit→Act→World→Prop} {w0:World} {B:Nat} {p5:Nat→Prop} {db jb5 mb5 rb ab:Nat} {s5:JS} {av2:Option Addr} {cap2:Nat} {cs2:List Chg} {kind apw k:Int} {ac av:Option Addr} {cs:List Chg} {cc cv:Nat} {key val:List UInt8} {s0 s1 se:Option Addr} {d0 d1 de:Nat} {c0 c1 c2 c3 c4 c6 c8 c10 c11 c13 c14 c17 c18 c19 c20 c21 c22 c23 c24 c25 c26 c27 c28 c29 c30 c31 c32 c33 c34 c35 c36 c37 c38 c39 c40 c41 c42 c43 c44 c45 c46 c47 c48 c49 c50 c51 c52 c53 c54 c55 c56 c57 c58 c59 c60 c61 c62 c63 c64 c65 c66 c67 c68 c69 c70 c71 c72 c73 c74 c75 c76 c77 c78 c79 c80 c81 c82 c83 c84 c85 c86 c87 c88 c89 c90 c91 c92 c93 c94 c95 c96 c97 c98 c99 c100 c101 c102 c103 c104 c105 c106 c107 c108 c109 c110 c111 c112 c113 c114 c115 c116 c117 c118 c119 c120 c121 c122 c123 c124 c125 c126 c127 c128 c129 c130 c131 c132 c133 c134 c135 c136 c137 c138 c139 c140 c141 c142 c143 c144 c145 c146 c147 c148 c149 c150 c151 c152 c153 c154 c155 c156 c157 c158 c159 c160 c161 c162 c163 c164 c165 c166 c167 c168 c169 c170 c171 c172 c173 c174 c175 c176 c177 c178 c179 c180 c181 c182 c183 c184 c185 c186 c187 c188 c189 c190 c191 c192 c193 c194 c195 c196 c197 c198 c199 c200 c201 c202 c203 c204 c205 c206 c207 c208 c209 c210 c211 c212 c213 c214 c215 c216 c217 c218 c219 c220 c221 c222 c223 c224 c225 c226 c227 c228 c229 c230 c231 c232 c233 c234 c235 c236 c237 c238 c239 c240 c241 c242 c243 c244 c245 c246 c247 c248 c249 c250 c251 c252 c253 c254 c255 c256 c257 c258 c259 c260 c261 c262 c263 c264 c265 c266 c267 c268 c269:Value} (wb:World)
 (HIB:Hid (DoI w0 wb B p5 db jb5 mb5 rb s5 s5 (.slice s0 s5.d.f0.length d0) (.slice s1 s5.d.f1.length d1) (.slice se s5.c.ents.length de))) (HU:Hid (Up s5)) (HABB:Hid (Blk wb ab 41 [.int .i64 kind,.int .i64 apw,.slice ac cs.length cc,strV key,.slice av val.length cv])) (HCS:Hid (ChgsAt wb wb.heap.size (.slice av2 cs2.length cap2) cs2)) (HCB:Hid (∀ c ∈ cs2,c.key.length≤1000000∧c.val.length≤1000000)) (hcn:cs2.length≤1000)
 (HK:Hid (∀ (d140 d141 d142 d143 d144 d145 d146:Value) (wm:World),(∃ t0 f0 t1 f1 te fe,DoI w0 wm B p5 db jb5 mb5 rb s5 (jCommit cs2 s5).1 (.slice t0 (jCommit cs2 s5).1.d.f0.length f0) (.slice t1 (jCommit cs2 s5).1.d.f1.length f1) (.slice te (jCommit cs2 s5).1.c.ents.length fe)∧Blk wm ab 41 [.int .i64 kind,.int .i64 apw,.slice ac cs.length cc,strV key,.slice av val.length cv]∧ChgsAt wm wm.heap.size (.slice av2 cs2.length cap2) cs2)→K ⟨#[c0,c1,c2,c3,c4,.pointer (some ⟨db,0,none⟩),c6,.pointer (some ⟨jb5,0,none⟩),c8,.pointer (some ⟨rb,0,none⟩),c10,c11,.pointer (some ⟨ab,0,none⟩),c13,.int .i64 (jCommit cs2 s5).2,.int .i64 k,.slice av2 cs2.length cap2,c17,c18,c19,c20,c21,c22,c23,c24,c25,c26,c27,c28,c29,c30,c31,c32,c33,c34,c35,c36,c37,c38,c39,c40,c41,c42,c43,c44,c45,c46,c47,c48,c49,c50,c51,c52,c53,c54,c55,c56,c57,c58,c59,c60,c61,c62,c63,c64,c65,c66,c67,c68,c69,c70,c71,c72,c73,c74,c75,c76,c77,c78,c79,c80,c81,c82,c83,c84,c85,c86,c87,c88,c89,c90,c91,c92,c93,c94,c95,c96,c97,c98,c99,c100,c101,c102,c103,c104,c105,c106,c107,c108,c109,c110,c111,c112,c113,c114,c115,c116,c117,c118,c119,c120,c121,c122,c123,c124,c125,c126,c127,c128,c129,c130,c131,c132,c133,c134,c135,c136,c137,c138,c139,d140,d141,d142,d143,d144,d145,d146,c147,c148,c149,c150,c151,c152,c153,c154,c155,c156,c157,c158,c159,c160,c161,c162,c163,c164,c165,c166,c167,c168,c169,c170,c171,c172,c173,c174,c175,c176,c177,c178,c179,c180,c181,c182,c183,c184,c185,c186,c187,c188,c189,c190,c191,c192,c193,c194,c195,c196,c197,c198,c199,c200,c201,c202,c203,c204,c205,c206,c207,c208,c209,c210,c211,c212,c213,c214,c215,c216,c217,c218,c219,c220,c221,c222,c223,c224,c225,c226,c227,c228,c229,c230,c231,c232,c233,c234,c235,c236,c237,c238,c239,c240,c241,c242,c243,c244,c245,c246,c247,c248,c249,c250,c251,c252,c253,c254,c255,c256,c257,c258,c259,c260,c261,c262,c263,c264,c265,c266,c267,c268,c269],[]⟩ wm)) :
 Code.wp Tryz.prog cdR31 (Exit.then K Q') ⟨#[c0,c1,c2,c3,c4,.pointer (some ⟨db,0,none⟩),c6,.pointer (some ⟨jb5,0,none⟩),c8,.pointer (some ⟨rb,0,none⟩),c10,c11,.pointer (some ⟨ab,0,none⟩),c13,c14,.int .i64 k,.slice av2 cs2.length cap2,c17,c18,c19,c20,c21,c22,c23,c24,c25,c26,c27,c28,c29,c30,c31,c32,c33,c34,c35,c36,c37,c38,c39,c40,c41,c42,c43,c44,c45,c46,c47,c48,c49,c50,c51,c52,c53,c54,c55,c56,c57,c58,c59,c60,c61,c62,c63,c64,c65,c66,c67,c68,c69,c70,c71,c72,c73,c74,c75,c76,c77,c78,c79,c80,c81,c82,c83,c84,c85,c86,c87,c88,c89,c90,c91,c92,c93,c94,c95,c96,c97,c98,c99,c100,c101,c102,c103,c104,c105,c106,c107,c108,c109,c110,c111,c112,c113,c114,c115,c116,c117,c118,c119,c120,c121,c122,c123,c124,c125,c126,c127,c128,c129,c130,c131,c132,c133,c134,c135,c136,c137,c138,c139,c140,c141,c142,c143,c144,c145,c146,c147,c148,c149,c150,c151,c152,c153,c154,c155,c156,c157,c158,c159,c160,c161,c162,c163,c164,c165,c166,c167,c168,c169,c170,c171,c172,c173,c174,c175,c176,c177,c178,c179,c180,c181,c182,c183,c184,c185,c186,c187,c188,c189,c190,c191,c192,c193,c194,c195,c196,c197,c198,c199,c200,c201,c202,c203,c204,c205,c206,c207,c208,c209,c210,c211,c212,c213,c214,c215,c216,c217,c218,c219,c220,c221,c222,c223,c224,c225,c226,c227,c228,c229,c230,c231,c232,c233,c234,c235,c236,c237,c238,c239,c240,c241,c242,c243,c244,c245,c246,c247,c248,c249,c250,c251,c252,c253,c254,c255,c256,c257,c258,c259,c260,c261,c262,c263,c264,c265,c266,c267,c268,c269],[]⟩ wb:=by
 conv=>arg 2; whnf
 refine wp_region_mix (by kernel_rfl) (by kernel_rfl) (by kernel_rfl) [some (rjV s5.d.pw (.slice s0 s5.d.f0.length d0) (.slice s1 s5.d.f1.length d1) (.slice se s5.c.ents.length de) s5.c.gen (rFl s5) s5.c.ed s5.c.sum s5.down),some (.slice av2 cs2.length cap2),none,none,none,none,none,none,none] [2,3,4,5,6,7,8] (by kernel_rfl) (by kernel_rfl) (CmG wb rb cs2 s5) ⟨fun _=>bl_drew wb,(fun h=>by cases h),(fun h=>by cases h),(fun h=>by cases h),(fun h=>by cases h),(fun h=>by cases h),(fun h=>by cases h),(fun h=>by cases h),(fun h=>by cases h)⟩ ?_ ?_
 ·refine EachI.cons (MixOk.look (by kernel_rfl) (fun _=>by kernel_rfl) (fun dn ws wx hG hdep hcl hni=>xs_load9 _ _ _ _ _ _ _ rb _ _ _ _ _ _ _ _ _ wx (by kernel_rfl) (rb_of (HIB.out.rbk.below (hG.gb (not_done (hcl 7 0 (by kernel_rfl)) hni)))))) ?_
  refine EachI.cons (MixOk.pure (by kernel_rfl) (fun _=>by kernel_rfl) (fun _ _=>by kernel_rfl)) ?_
  refine EachI.cons (MixOk.turn (by kernel_rfl) (fun dn ws wx hG hdep hcl hni=>?_)) ?_
  ·have h7:=not_done (hcl 7 2 (by kernel_rfl)) hni
   have h3:=not_done (hcl 3 2 (by kernel_rfl)) hni
   have hb:=hG.gb h7
   refine turn_call (by kernel_rfl) 23 #[.slice av2 cs2.length cap2] (by kernel_rfl) ((given_c (.slice av2 cs2.length cap2) cs2 wx ((HCS.out.below hb).raise hb.size) (by omega) HCB.out).mono ?_)
   rintro e w' ⟨⟨v',rfl,hch⟩,hbl⟩
   exact ⟨v',rfl,fun h=>(hG.gb h).trans (hbl.mono (hG.gb h).size),fun _ _=>hch,(fun h=>by have h:dn 3=true:=h; rw [h3] at h; cases h),hG.g2,hG.g3,hG.g4,(fun h=>by have h:dn 7=true:=h; rw [h7] at h; cases h),hG.g6,(fun h=>by have h:dn 3=true:=h; rw [h3] at h; cases h)⟩
  refine EachI.cons (MixOk.turn (by kernel_rfl) (fun dn ws wx hG hdep hcl hni=>?_)) ?_
  ·have h7:=not_done (hcl 7 3 (by kernel_rfl)) hni
   have h4:=not_done (hcl 4 3 (by kernel_rfl)) hni
   have h5:=not_done (hcl 5 4 (by kernel_rfl)) h4
   have h6:=not_done (hcl 6 4 (by kernel_rfl)) h4
   have hb:=hG.gb h7
   have hch:ChgsAt wx wx.heap.size (ws 2) cs2:=hG.g0 (hdep 2 (by kernel_rfl)) hni
   refine turn_call (by kernel_rfl) 22 #[rjV s5.d.pw (.slice s0 s5.d.f0.length d0) (.slice s1 s5.d.f1.length d1) (.slice se s5.c.ents.length de) s5.c.gen (rFl s5) s5.c.ed s5.c.sum s5.down,ws 2] (by kernel_rfl) ((rcommit_c s5 cs2 _ _ _ (ws 2) wx (HIB.out.rd.below hb) ((HIB.out.en.below hb).mono hb.size) hch HIB.out.jz.jw.ok hcn HCB.out HU.out).mono ?_)
   rintro e w' ⟨⟨t0,f0,t1,f1,te,fe,rfl,hr,he⟩,hbl⟩
   exact ⟨_,rfl,fun h=>(hG.gb h).trans (hbl.mono (hG.gb h).size),(fun _ h=>by cases h),fun _ _=>⟨_,_,_,_,_,_,rfl,hr,he⟩,(fun h=>by have h:dn 4=true:=h; rw [h4] at h; cases h),(fun h=>by have h:dn 5=true:=h; rw [h5] at h; cases h),(fun h=>by have h:dn 6=true:=h; rw [h6] at h; cases h),(fun h=>by have h:dn 7=true:=h; rw [h7] at h; cases h),hG.g6,fun _=>⟨_,_,rfl⟩⟩
  refine EachI.cons (MixOk.turn (by kernel_rfl) (fun dn ws wx hG hdep hcl hni=>?_)) ?_
  ·exact turn_run (by kernel_rfl) (ws 3) wx (by kernel_rfl) ⟨hG.gb,hG.g0,hG.g1,fun _=>rfl,hG.g3,hG.g4,hG.g5,hG.g6,hG.g7⟩
  refine EachI.cons (MixOk.turn (by kernel_rfl) (fun dn ws wx hG hdep hcl hni=>?_)) ?_
  ·have h7:=not_done (hcl 7 5 (by kernel_rfl)) hni
   have d4:=hdep 4 (by kernel_rfl)
   have d3:=hcl 4 3 (by kernel_rfl) d4
   have e4:ws 4=ws 3:=hG.g2 d4
   obtain ⟨t0,f0,t1,f1,te,fe,e3,hr,he⟩:=hG.g1 d3 h7
   have e3:ws 3=_:=Ending.returned.inj e3
   exact turn_run (by kernel_rfl) _ wx (xk_ext0 _ _ _ wx (Eq.trans (b:=ws 4) (by kernel_rfl) (e4.trans e3))) ⟨hG.gb,hG.g0,hG.g1,hG.g2,fun _=>⟨_,e3⟩,hG.g4,hG.g5,hG.g6,hG.g7⟩
  refine EachI.cons (MixOk.turn (by kernel_rfl) (fun dn ws wx hG hdep hcl hni=>?_)) ?_
  ·have d4:=hdep 4 (by kernel_rfl)
   have d3:=hcl 4 3 (by kernel_rfl) d4
   have e4:ws 4=ws 3:=hG.g2 d4
   obtain ⟨x,y,e3⟩:=hG.g7 d3
   have e3:ws 3=.tuple #[x,y]:=e3
   have h8:=not_done (hcl 8 6 (by kernel_rfl)) hni
   exact turn_run (by kernel_rfl) _ wx (xk_ext1 _ _ _ wx (Eq.trans (b:=ws 4) (by kernel_rfl) (e4.trans e3))) ⟨hG.gb,hG.g0,hG.g1,hG.g2,hG.g3,fun _=>⟨_,e3⟩,hG.g5,(fun h=>by have h:dn 8=true:=h; rw [h8] at h; cases h),hG.g7⟩
  refine EachI.cons (MixOk.turn (by kernel_rfl) (fun dn ws wx hG hdep hcl hni=>?_)) ?_
  ·have d5:=hdep 5 (by kernel_rfl)
   have d4:=hcl 5 4 (by kernel_rfl) d5
   have d3:=hcl 4 3 (by kernel_rfl) d4
   obtain ⟨t0,f0,t1,f1,te,fe,e3,hr,he⟩:=hG.g1 d3 hni
   have e3:ws 3=_:=Ending.returned.inj e3
   obtain ⟨x,e5⟩:=hG.g3 d5
   have e5:ws 3=.tuple #[ws 5,x]:=e5
   rw [e3] at e5
   simp only [Value.tuple.injEq,Array.mk.injEq,List.cons.injEq,and_true] at e5
   have e5:=e5.1
   exact turn_void (by kernel_rfl) _ (xs_store9 _ _ _ _ _ _ _ _ rb _ _ _ _ _ _ _ _ _ _ _ _ _ _ _ _ _ _ _ _ _ _ _ _ wx (by kernel_rfl) (Eq.trans (b:=ws 5) (by kernel_rfl) e5.symm) (rb_of (HIB.out.rbk.below (hG.gb hni)))) ⟨(fun h=>by cases h),(fun _ h=>by have h:dn 3=false:=h; rw [d3] at h; cases h),(fun _ h=>by cases h),hG.g2,hG.g3,hG.g4,fun _=>⟨wx,_,_,_,_,_,_,hG.gb hni,e3,hr,he,rfl⟩,hG.g6,hG.g7⟩
  refine EachI.cons (MixOk.turn (by kernel_rfl) (fun dn ws wx hG hdep hcl hni=>?_)) ?_
  ·exact turn_run (by kernel_rfl) (ws 6) wx (by kernel_rfl) ⟨hG.gb,hG.g0,hG.g1,hG.g2,hG.g3,hG.g4,hG.g5,fun _=>rfl,hG.g7⟩
  exact EachI.nil
 intro ws L' hL' wm hG7
 obtain ⟨w2',t0,f0,t1,f1,te,fe,hbl,e3,hr,he,hw⟩:=hG7.g5 rfl
 obtain ⟨x,e4⟩:=hG7.g4 rfl
 have e3:ws 3=_:=e3
 have e4:ws 3=.tuple #[x,ws 6]:=e4
 have e86:ws 8=ws 6:=hG7.g6 rfl
 rw [e3] at e4
 simp only [Value.tuple.injEq,Array.mk.injEq,List.cons.injEq,and_true] at e4
 have e8:ws 8=.int .i64 (jCommit cs2 s5).2:=e86.trans e4.2.symm
 have hI31:=(HIB.out.below hbl).store (r':=(jCommit cs2 s5).1) hr he
 have hA31:=(HABB.out.below hbl).grown (set9_grown w2' rb (.int .i64 (jCommit cs2 s5).1.d.pw) (.slice t0 (jCommit cs2 s5).1.d.f0.length f0) (.slice t1 (jCommit cs2 s5).1.d.f1.length f1) (.slice te (jCommit cs2 s5).1.c.ents.length fe) (.int .i64 (jCommit cs2 s5).1.c.gen) (.int .i64 (rFl (jCommit cs2 s5).1)) (.int .i64 (jCommit cs2 s5).1.c.ed) (.int .u64 (jCommit cs2 s5).1.c.sum) (.bool (jCommit cs2 s5).1.down)) (fun e=>by subst e; exact absurd (HABB.out.type HIB.out.rbk) (by decide))
 have hC31:=(HCS.out.below hbl).away (HIB.out.rbk.below hbl) (rjC_nobyte _ _ _ _ _ _ _ _ _ _ _ _ _ _ _) (rjC_nostr _ _ _ _ _ _ _ _ _ _ _ _ _ _ _) (set9_grown w2' rb (.int .i64 (jCommit cs2 s5).1.d.pw) (.slice t0 (jCommit cs2 s5).1.d.f0.length f0) (.slice t1 (jCommit cs2 s5).1.d.f1.length f1) (.slice te (jCommit cs2 s5).1.c.ents.length fe) (.int .i64 (jCommit cs2 s5).1.c.gen) (.int .i64 (rFl (jCommit cs2 s5).1)) (.int .i64 (jCommit cs2 s5).1.c.ed) (.int .u64 (jCommit cs2 s5).1.c.sum) (.bool (jCommit cs2 s5).1.down))
 have hsz31:wb.heap.size≤wm.heap.size:=by rw [hw]; exact Nat.le_trans hbl.size (set9_grown w2' rb _ _ _ _ _ _ _ _ _).size
 rw [← hw] at hI31 hA31 hC31
 simp only [List.set_cons_succ,List.set_cons_zero,setAll,mix,List.getElem?_cons_succ,List.getElem?_cons_zero,Option.join_some,Option.getD_some,Option.getD_none,Nat.reduceAdd,e8] at hL'
 subst hL'
 exact HK.out _ _ _ _ _ _ _ wm ⟨_,_,_,_,_,_,hI31,hA31,hC31.raise hsz31⟩
set_option maxRecDepth 1000000 in
set_option maxHeartbeats 16000000 in
theorem doesB3 {K:Act→World→Prop} {Q':Exit→Act→World→Prop} {w0:World} {B:Nat} {p5:Nat→Prop} {db jb5 mb5 rb ab:Nat} {s5:JS} {av2:Option Addr} {cap2:Nat} {cs2:List Chg} {kind apw k:Int} {ac av:Option Addr} {cs:List Chg} {cc cv:Nat} {key val:List UInt8} {c0 c1 c2 c3 c4 c6 c8 c10 c11 c13 c19 c20 c21 c22 c23 c24 c25 c26 c27 c28 c29 c30 c31 c32 c33 c34 c35 c36 c37 c38 c39 c40 c41 c42 c43 c44 c45 c46 c47 c48 c49 c50 c51 c52 c53 c54 c55 c56 c57 c58 c59 c60 c61 c62 c63 c64 c65 c66 c67 c68 c69 c70 c71 c72 c73 c74 c75 c76 c77 c78 c79 c80 c81 c82 c83 c84 c85 c86 c87 c88 c89 c90 c91 c92 c93 c94 c95 c96 c97 c98 c99 c100 c101 c102 c103 c104 c105 c106 c107 c108 c109 c110 c111 c112 c113 c114 c115 c116 c117 c118 c119 c120 c121 c122 c123 c124 c125 c126 c127 c128 c129 c130 c131 c132 c133 c134 c135 c136 c137 c138 c139 c140 c141 c142 c143 c144 c145 c146 c147 c148 c149 c150 c151 c152 c153 c154 c155 c156 c157 c158 c159 c160 c161 c162 c163 c164 c165 c166 c167 c168 c169 c170 c171 c172 c173 c174 c175 c176 c177 c178 c179 c180 c181 c182 c183 c184 c185 c186 c187 c188 c189 c190 c191 c192 c193 c194 c195 c196 c197 c198 c199 c200 c201 c202 c203 c204 c205 c206 c207 c208 c209 c210 c211 c212 c213 c214 c215 c216 c217 c218 c219 c220 c221 c222 c223 c224 c225 c226 c227 c228 c229 c230 c231 c232 c233 c234 c235 c236 c237 c238 c239 c240 c241 c242 c243 c244 c245 c246 c247 c248 c249 c250 c251 c252 c253 c254 c255 c256 c257 c258 c259 c260 c261 c262 c263 c264 c265 c266 c267 c268 c269:Value} (wm:World)
 (HC31:Hid (ChgsAt wm wm.heap.size (.slice av2 cs2.length cap2) cs2)) (HCB:Hid (∀ c ∈ cs2,c.key.length≤1000000∧c.val.length≤1000000)) (hcn:cs2.length≤1000)
 (HK:Hid (∀ (iv d18 d147 d148 d149 d150 d151 d152 d153 d154 d155 d156 d157 d158 d159 d160 d161 d162 d163 d164 d165 d166 d167 d168 d169 d170 d171 d172:Value) (wr2:World) (xs:List (Chg × Nat)),xs.map (·.1)=cs2→InRow wr2 wm.heap.size iv xs→Below wm.heap.size wm wr2→K ⟨#[c0,c1,c2,c3,c4,.pointer (some ⟨db,0,none⟩),c6,.pointer (some ⟨jb5,0,none⟩),c8,.pointer (some ⟨rb,0,none⟩),c10,c11,.pointer (some ⟨ab,0,none⟩),c13,.int .i64 (jCommit cs2 s5).2,.int .i64 k,.slice av2 cs2.length cap2,iv,d18,c19,c20,c21,c22,c23,c24,c25,c26,c27,c28,c29,c30,c31,c32,c33,c34,c35,c36,c37,c38,c39,c40,c41,c42,c43,c44,c45,c46,c47,c48,c49,c50,c51,c52,c53,c54,c55,c56,c57,c58,c59,c60,c61,c62,c63,c64,c65,c66,c67,c68,c69,c70,c71,c72,c73,c74,c75,c76,c77,c78,c79,c80,c81,c82,c83,c84,c85,c86,c87,c88,c89,c90,c91,c92,c93,c94,c95,c96,c97,c98,c99,c100,c101,c102,c103,c104,c105,c106,c107,c108,c109,c110,c111,c112,c113,c114,c115,c116,c117,c118,c119,c120,c121,c122,c123,c124,c125,c126,c127,c128,c129,c130,c131,c132,c133,c134,c135,c136,c137,c138,c139,c140,c141,c142,c143,c144,c145,c146,d147,d148,d149,d150,d151,d152,d153,d154,d155,d156,d157,d158,d159,d160,d161,d162,d163,d164,d165,d166,d167,d168,d169,d170,d171,d172,c173,c174,c175,c176,c177,c178,c179,c180,c181,c182,c183,c184,c185,c186,c187,c188,c189,c190,c191,c192,c193,c194,c195,c196,c197,c198,c199,c200,c201,c202,c203,c204,c205,c206,c207,c208,c209,c210,c211,c212,c213,c214,c215,c216,c217,c218,c219,c220,c221,c222,c223,c224,c225,c226,c227,c228,c229,c230,c231,c232,c233,c234,c235,c236,c237,c238,c239,c240,c241,c242,c243,c244,c245,c246,c247,c248,c249,c250,c251,c252,c253,c254,c255,c256,c257,c258,c259,c260,c261,c262,c263,c264,c265,c266,c267,c268,c269],[]⟩ wr2)) :
 Code.wp Tryz.prog cdB3 (Exit.then K Q') ⟨#[c0,c1,c2,c3,c4,.pointer (some ⟨db,0,none⟩),c6,.pointer (some ⟨jb5,0,none⟩),c8,.pointer (some ⟨rb,0,none⟩),c10,c11,.pointer (some ⟨ab,0,none⟩),c13,.int .i64 (jCommit cs2 s5).2,.int .i64 k,.slice av2 cs2.length cap2,.slice none 0 0,.int .i64 0,c19,c20,c21,c22,c23,c24,c25,c26,c27,c28,c29,c30,c31,c32,c33,c34,c35,c36,c37,c38,c39,c40,c41,c42,c43,c44,c45,c46,c47,c48,c49,c50,c51,c52,c53,c54,c55,c56,c57,c58,c59,c60,c61,c62,c63,c64,c65,c66,c67,c68,c69,c70,c71,c72,c73,c74,c75,c76,c77,c78,c79,c80,c81,c82,c83,c84,c85,c86,c87,c88,c89,c90,c91,c92,c93,c94,c95,c96,c97,c98,c99,c100,c101,c102,c103,c104,c105,c106,c107,c108,c109,c110,c111,c112,c113,c114,c115,c116,c117,c118,c119,c120,c121,c122,c123,c124,c125,c126,c127,c128,c129,c130,c131,c132,c133,c134,c135,c136,c137,c138,c139,c140,c141,c142,c143,c144,c145,c146,c147,c148,c149,c150,c151,c152,c153,c154,c155,c156,c157,c158,c159,c160,c161,c162,c163,c164,c165,c166,c167,c168,c169,c170,c171,c172,c173,c174,c175,c176,c177,c178,c179,c180,c181,c182,c183,c184,c185,c186,c187,c188,c189,c190,c191,c192,c193,c194,c195,c196,c197,c198,c199,c200,c201,c202,c203,c204,c205,c206,c207,c208,c209,c210,c211,c212,c213,c214,c215,c216,c217,c218,c219,c220,c221,c222,c223,c224,c225,c226,c227,c228,c229,c230,c231,c232,c233,c234,c235,c236,c237,c238,c239,c240,c241,c242,c243,c244,c245,c246,c247,c248,c249,c250,c251,c252,c253,c254,c255,c256,c257,c258,c259,c260,c261,c262,c263,c264,c265,c266,c267,c268,c269],[]⟩ wm:=by
 conv=>arg 2; whnf
 have WM:=Below.refl wm.heap.size wm
 go_wp2
 go_loopw [17,18] (fun iv qv wx=>∃ (q:Nat) (xs:List (Chg × Nat)),q≤cs2.length∧qv=.int .i64 q∧xs.map (·.1)=cs2.take q∧InRow wx wm.heap.size iv xs∧Below wm.heap.size wm wx) (fun _ i _=>cs2.length - (intOf i).toNat)
 case atStart=>exact ⟨0,[],Nat.zero_le _,rfl,rfl,InRow.nil _ _,WM⟩
 case round=>
  obtain ⟨q,xs,hqn,rfl,hxs,hr2,hbw⟩:=hrel
  generalize wr=wr2 at *
  have HXS:=Lib.hid hxs
  have HR2:=Lib.hid hr2
  have HBW:=Lib.hid hbw
  have hxl:xs.length=q:=by have h:=congrArg List.length hxs; rw [List.length_map,List.length_take] at h; omega
  have hxl:xs.length≤1000000:=by omega
  have HXL:Hid (∀ p ∈ xs,p.2 < wr2.heap.size):=Lib.hid (fun p hp=>Blk.lt (hr2.lent p hp).2)
  clear hxs hr2 hbw WM
  by_cases hq:q < cs2.length
  ·have t1:decide ((q:Int) < (cs2.length:Int))=true:=decide_eq_true (by omega)
   obtain ⟨a',c',e',_,_,hcc⟩:=HC31.out
   simp only [Value.slice.injEq] at e'
   obtain ⟨rfl,_,rfl⟩:=e'
   rcases hcc with hcc | ⟨g2,off2,rfl,hg2,hcell⟩
   ·rw [hcc] at hq; simp at hq
   have hbd:=HCB.out cs2[q] (List.getElem_mem hq)
   have HNX:Hid (cs2.take (q+1)=cs2.take q ++ [cs2[q]]):=Lib.hid (List.take_succ_eq_append_getElem hq)
   obtain ⟨vv2,u0,u1,u2,dv⟩:=hcell q hq
   have HALL:Hid (∀ wx,Below wm.heap.size wr2 wx→wx.cell? ⟨g2,off2+q * 3,none⟩=some (strV cs2[q].key)∧wx.cell? ⟨g2,off2+q * 3+1,none⟩=some vv2∧wx.cell? ⟨g2,off2+q * 3+2,none⟩=some (.bool cs2[q].drop)∧RdB wx wm.heap.size vv2 cs2[q].val):=Lib.hid (fun wx hbx=>
    ⟨((HBW.out.trans hbx).cell (p:=⟨g2,off2+q * 3,none⟩) hg2).trans u0,((HBW.out.trans hbx).cell (p:=⟨g2,off2+q * 3+1,none⟩) hg2).trans u1,((HBW.out.trans hbx).cell (p:=⟨g2,off2+q * 3+2,none⟩) hg2).trans u2,dv.below (HBW.out.trans hbx)⟩)
   clear hcell u0 u1 u2 dv
   generalize cs2[q]=c2 at *
   obtain ⟨ckey,cval,cdrop⟩:=c2
   simp only at hbd
   obtain ⟨hb1,hb2⟩:=hbd
   go_upto_region 36 with (fail)
   refine wp_region_mixL (by kernel_rfl) 20 17 _ rfl rfl (by kernel_rfl) (by kernel_rfl) (Nat.le_of_ble_eq_true (by kernel_rfl)) [some u17,some (.slice (some ⟨g2,off2,none⟩) cs2.length cap2),some (.int .i64 (q:Int)),some (.pointer (some ⟨g2,off2+q * 3,none⟩)),some (.pointer (some ⟨g2,off2+q * 3,none⟩)),some (strV ckey),some (.slice (some ⟨g2,off2,none⟩) cs2.length cap2),some (.int .i64 (q:Int)),some (.pointer (some ⟨g2,off2+q * 3,none⟩)),some (.pointer (some ⟨g2,off2+q * 3+1,none⟩)),some vv2,none,some (.slice (some ⟨g2,off2,none⟩) cs2.length cap2),some (.int .i64 (q:Int)),some (.pointer (some ⟨g2,off2+q * 3,none⟩)),some (.pointer (some ⟨g2,off2+q * 3+2,none⟩)),some (.bool cdrop),none,none,none,none] [11,17,18,19,20] (by kernel_rfl) (by kernel_rfl) (by kernel_rfl) (SeqG (LnS wr2 wm.heap.size ⟨ckey,cval,cdrop⟩ u17 xs) [11,17,18,19,20].length) (SeqG.start ⟨bl_drew wr2,HR2.out.below (bl_drew wr2)⟩) ?_ ?_
   ·refine EachI.cons (MixOkL.pure (by kernel_rfl) (fun _=>by kernel_rfl) (fun _ _=>by kernel_rfl)) ?_
    refine EachI.cons (MixOkL.pure (by kernel_rfl) (fun _=>by kernel_rfl) (fun _ _=>by kernel_rfl)) ?_
    refine EachI.cons (MixOkL.pure (by kernel_rfl) (fun _=>by kernel_rfl) (fun _ _=>by kernel_rfl)) ?_
    refine EachI.cons (MixOkL.pure (by kernel_rfl) (fun _=>by kernel_rfl) (fun _ wx=>xg_atJ _ _ g2 off2 cs2.length cap2 q wx (by kernel_rfl) (by kernel_rfl) hq)) ?_
    refine EachI.cons (MixOkL.pure (by kernel_rfl) (fun _=>by kernel_rfl) (fun _ _=>by kernel_rfl)) ?_
    refine EachI.cons (MixOkL.read (by kernel_rfl) (fun _=>by kernel_rfl) (Below wm.heap.size wr2) (LnS.inv HBW.out.size) (fun ws wx hI=>xr_str _ _ _ _ _ _ _ ⟨g2,off2+q * 3,none⟩ _ wx (by kernel_rfl) (HALL.out wx hI).1)) ?_
    refine EachI.cons (MixOkL.pure (by kernel_rfl) (fun _=>by kernel_rfl) (fun _ _=>by kernel_rfl)) ?_
    refine EachI.cons (MixOkL.pure (by kernel_rfl) (fun _=>by kernel_rfl) (fun _ _=>by kernel_rfl)) ?_
    refine EachI.cons (MixOkL.pure (by kernel_rfl) (fun _=>by kernel_rfl) (fun _ wx=>xg_atJ _ _ g2 off2 cs2.length cap2 q wx (by kernel_rfl) (by kernel_rfl) hq)) ?_
    refine EachI.cons (MixOkL.pure (by kernel_rfl) (fun _=>by kernel_rfl) (fun _ _=>by kernel_rfl)) ?_
    refine EachI.cons (MixOkL.read (by kernel_rfl) (fun _=>by kernel_rfl) (Below wm.heap.size wr2) (LnS.inv HBW.out.size) (fun ws wx hI=>xr_bytes _ _ _ _ _ _ _ ⟨g2,off2+q * 3+1,none⟩ _ wx (by kernel_rfl) (HALL.out wx hI).2.1)) ?_
    refine EachI.cons (MixOkL.chain (by kernel_rfl) 0 rfl (by kernel_rfl) (by decide) (fun ws wx hS=>?_)) ?_
    ·refine turn_call (by kernel_rfl) 24 #[vv2] (by kernel_rfl) ((lent_c vv2 cval wm.heap.size wx (HALL.out wx (hS.1.mono HBW.out.size)).2.2.2 (by omega)).mono ?_)
     rintro e w' ⟨⟨gl,rfl,hgl,hll⟩,hbl⟩
     exact ⟨_,rfl,hS.call hgl hll hbl⟩
    refine EachI.cons (MixOkL.pure (by kernel_rfl) (fun _=>by kernel_rfl) (fun _ _=>by kernel_rfl)) ?_
    refine EachI.cons (MixOkL.pure (by kernel_rfl) (fun _=>by kernel_rfl) (fun _ _=>by kernel_rfl)) ?_
    refine EachI.cons (MixOkL.pure (by kernel_rfl) (fun _=>by kernel_rfl) (fun _ wx=>xg_atJ _ _ g2 off2 cs2.length cap2 q wx (by kernel_rfl) (by kernel_rfl) hq)) ?_
    refine EachI.cons (MixOkL.pure (by kernel_rfl) (fun _=>by kernel_rfl) (fun _ _=>by kernel_rfl)) ?_
    refine EachI.cons (MixOkL.read (by kernel_rfl) (fun _=>by kernel_rfl) (Below wm.heap.size wr2) (LnS.inv HBW.out.size) (fun ws wx hI=>xg_bool _ ⟨g2,off2+q * 3+2,none⟩ _ wx (by kernel_rfl) (HALL.out wx hI).2.2.1)) ?_
    refine EachI.cons (MixOkL.chain (by kernel_rfl) 1 rfl (by kernel_rfl) (by decide) (fun ws wx hS=>?_)) ?_
    ·obtain ⟨gl,ea,hgl,hll⟩:=hS.2.2
     have ea:ws 11=.slice (some ⟨gl,0,none⟩) cval.length (cval.length+12):=ea
     exact turn_run (by kernel_rfl) _ wx (xg_buildJ _ _ _ ⟨ckey.toArray⟩ _ _ _ cdrop wx (by kernel_rfl) (Eq.trans (b:=ws 11) (by kernel_rfl) ea) (by kernel_rfl)) ⟨hS.1,hS.2.1,⟨gl,ea,hgl,hll⟩,by show Value.agg _=Value.agg #[strV ckey,ws 11,.bool cdrop]; rw [ea]⟩
    refine EachI.cons (MixOkL.chain (by kernel_rfl) 2 rfl (by kernel_rfl) (by decide) (fun ws wx hS=>?_)) ?_
    ·obtain ⟨hb,hr,⟨gl,ea,hgl,hll⟩,e17⟩:=hS
     have ea:ws 11=.slice (some ⟨gl,0,none⟩) cval.length (cval.length+12):=ea
     have e17:ws 17=.agg #[strV ckey,ws 11,.bool cdrop]:=e17
     rw [ea] at e17
     exact turn_run (by kernel_rfl) (.slice (some ⟨wx.heap.size,0,none⟩) 1 1) (wx.alloc (.cells #[.string ⟨ckey.toArray⟩,.slice (some ⟨gl,0,none⟩) cval.length (cval.length+12),.bool cdrop] 60)) (xg_bsJ _ ⟨ckey.toArray⟩ _ _ _ cdrop wx (Eq.trans (b:=ws 17) (by kernel_rfl) e17)) (LnS.make hb hr ea hgl hll)
    refine EachI.cons (MixOkL.chain (by kernel_rfl) 3 rfl (by kernel_rfl) (by decide) (fun ws wx hS=>?_)) ?_
    ·obtain ⟨hb,hr,gl,qb,ea,hgl,hll,eq,hqb⟩:=hS
     have eq:ws 18=.slice (some ⟨qb,0,none⟩) 1 1:=eq
     exact turn_app3 39 60 infoJC Tryz.underlying39 _ _ _ _ _ _ _ (by kernel_rfl) wm.heap.size u17 (xs.map lentV) (by kernel_rfl) (by rw [List.length_map]; exact hr.row) qb (lentV (⟨ckey,cval,cdrop⟩,gl)) (Eq.trans (b:=ws 18) (by kernel_rfl) eq) rfl hqb (by rw [List.length_map]; omega) (Nat.le_trans HBW.out.size hb.size) (fun v' w' hown hgr=>LnS.app HBW.out.size hb hr hgl HXL.out hll hown hgr)
    refine EachI.cons (MixOkL.chain (by kernel_rfl) 4 rfl (by kernel_rfl) (by decide) (fun ws wx hS=>?_)) ?_
    ·exact turn_run (by kernel_rfl) (ws 19) wx (by kernel_rfl) hS
    exact EachI.nil
   intro ws2 L2 hL' w8 hG8
   have hF:=SeqG.fin hG8
   have hF:Below wm.heap.size wr2 w8∧∃ g,wr2.heap.size≤g∧InRow w8 wm.heap.size (ws2 20) (xs ++ [(⟨ckey,cval,cdrop⟩,g)]):=hF
   obtain ⟨hF1,gl,_,hF2⟩:=hF
   have HF:=Lib.hid (And.intro hF2 (HBW.out.trans hF1))
   simp only [List.set_cons_succ,List.set_cons_zero,setAll,mix,List.getElem?_cons_succ,List.getElem?_cons_zero,Option.join_some,Option.getD_some,Option.getD_none,Nat.reduceAdd] at hL'
   subst hL'
   clear hG8 hF1 hF2
   have HM:Hid ((xs ++ [((⟨ckey,cval,cdrop⟩:Chg),gl)]).map (·.1)=cs2.take (q+1)):=Lib.hid (by rw [List.map_append,HXS.out,HNX.out]; rfl)
   generalize xs ++ [((⟨ckey,cval,cdrop⟩:Chg),gl)]=ys at *
   go_wp2
   go_roundw
   case rel=>exact ⟨q+1,ys,by omega,by go_num,HM.out,HF.out.1,HF.out.2⟩
   case measure=>simp [intOf]; omega
  ·obtain rfl:q=cs2.length:=by omega
   have t1:decide ((cs2.length:Int) < (cs2.length:Int))=false:=by simp
   go_wp2_with fail
   exact HK.out _ _ _ _ _ _ _ _ _ _ _ _ _ _ _ _ _ _ _ _ _ _ _ _ _ _ _ _ _ xs (by rw [HXS.out,List.take_length]) HR2.out HBW.out
set_option maxRecDepth 1000000 in
set_option maxHeartbeats 16000000 in
theorem doesB5 {K:Act→World→Prop} {Q':Exit→Act→World→Prop} {w0:World} {B:Nat} {p5:Nat→Prop} {db jb5 mb5 rb ab:Nat} {s5:JS} {av2:Option Addr} {cap2:Nat} {cs2:List Chg} {kind apw k:Int} {ac av:Option Addr} {cs:List Chg} {cc cv:Nat} {key val:List UInt8} {ai:Option Addr} {ci:Nat} {xs:List (Chg × Nat)} {c0 c1 c2 c3 c4 c6 c8 c10 c11 c13 c18 c19 c20 c21 c22 c23 c24 c25 c26 c27 c28 c29 c30 c31 c32 c33 c34 c35 c36 c37 c38 c39 c40 c41 c42 c43 c44 c45 c46 c47 c48 c49 c50 c51 c52 c53 c54 c55 c56 c57 c58 c59 c60 c61 c62 c63 c64 c65 c66 c67 c68 c69 c70 c71 c72 c73 c74 c75 c76 c77 c78 c79 c80 c81 c82 c83 c84 c85 c86 c87 c88 c89 c90 c91 c92 c93 c94 c95 c96 c97 c98 c99 c100 c101 c102 c103 c104 c105 c106 c107 c108 c109 c110 c111 c112 c113 c114 c115 c116 c117 c118 c119 c120 c121 c122 c123 c124 c125 c126 c127 c128 c129 c130 c131 c132 c133 c134 c135 c136 c137 c138 c139 c140 c141 c142 c143 c144 c145 c146 c147 c148 c149 c150 c151 c152 c153 c154 c155 c156 c157 c158 c159 c160 c161 c162 c163 c164 c165 c166 c167 c168 c169 c170 c171 c172 c174 c175 c176 c177 c178 c179 c180 c181 c182 c183 c184 c185 c186 c187 c188 c189 c190 c191 c192 c193 c194 c195 c196 c197 c198 c199 c200 c201 c202 c203 c204 c205 c206 c207 c208 c209 c210 c211 c212 c213 c214 c215 c216 c217 c218 c219 c220 c221 c222 c223 c224 c225 c226 c227 c228 c229 c230 c231 c232 c233 c234 c235 c236 c237 c238 c239 c240 c241 c242 c243 c244 c245 c246 c247 c248 c249 c250 c251 c252 c253 c254 c255 c256 c257 c258 c259 c260 c261 c262 c263 c264 c265 c266 c267 c268 c269:Value} (w9:World) (hk0:0≤k) (hk5:k≤5)
 (HKK:Hid (k≤3∧cs2=cs∨k=4∧cs2=[⟨key,val,false⟩]∨k=5∧cs2=[⟨key,[],true⟩])) (HKL:Hid (key.length≤1000000∧val.length≤1000000)) (HABB:Hid (Blk w9 ab 41 [.int .i64 kind,.int .i64 apw,.slice ac cs.length cc,strV key,.slice av val.length cv]))
 {sr:JS} {y0 y1 ye:Value} (HI9:Hid (DoI w0 w9 B p5 db jb5 mb5 rb s5 sr y0 y1 ye)) {C:Nat} (HR2:Hid (InRow w9 C (.slice ai xs.length ci) xs)) (HXM:Hid (xs.map (·.1)=cs2)) (HCB:Hid (∀ c ∈ cs2,c.key.length≤1000000∧c.val.length≤1000000)) (hcn:cs2.length≤1000)
 (HK:Hid (∀ (d174 d175 d176 d177 d178 d179 d180 d181 d182 d183 d184 d185 d186 d187 d188 d189 d190 d191 d192:Value) (w':World),ActR B p5 w9 db jb5 mb5 (jCommit cs2 s5).1 w'→K ⟨#[c0,c1,c2,c3,c4,.pointer (some ⟨db,0,none⟩),c6,.pointer (some ⟨jb5,0,none⟩),c8,.pointer (some ⟨rb,0,none⟩),c10,c11,.pointer (some ⟨ab,0,none⟩),.int .i64 (jCommit cs2 s5).2,.int .i64 (jCommit cs2 s5).2,.int .i64 k,.slice av2 cs2.length cap2,.slice ai xs.length ci,c18,c19,c20,c21,c22,c23,c24,c25,c26,c27,c28,c29,c30,c31,c32,c33,c34,c35,c36,c37,c38,c39,c40,c41,c42,c43,c44,c45,c46,c47,c48,c49,c50,c51,c52,c53,c54,c55,c56,c57,c58,c59,c60,c61,c62,c63,c64,c65,c66,c67,c68,c69,c70,c71,c72,c73,c74,c75,c76,c77,c78,c79,c80,c81,c82,c83,c84,c85,c86,c87,c88,c89,c90,c91,c92,c93,c94,c95,c96,c97,c98,c99,c100,c101,c102,c103,c104,c105,c106,c107,c108,c109,c110,c111,c112,c113,c114,c115,c116,c117,c118,c119,c120,c121,c122,c123,c124,c125,c126,c127,c128,c129,c130,c131,c132,c133,c134,c135,c136,c137,c138,c139,c140,c141,c142,c143,c144,c145,c146,c147,c148,c149,c150,c151,c152,c153,c154,c155,c156,c157,c158,c159,c160,c161,c162,c163,c164,c165,c166,c167,c168,c169,c170,c171,c172,.int .i64 k,d174,d175,d176,d177,d178,d179,d180,d181,d182,d183,d184,d185,d186,d187,d188,d189,d190,d191,d192,c193,c194,c195,c196,c197,c198,c199,c200,c201,c202,c203,c204,c205,c206,c207,c208,c209,c210,c211,c212,c213,c214,c215,c216,c217,c218,c219,c220,c221,c222,c223,c224,c225,c226,c227,c228,c229,c230,c231,c232,c233,c234,c235,c236,c237,c238,c239,c240,c241,c242,c243,c244,c245,c246,c247,c248,c249,c250,c251,c252,c253,c254,c255,c256,c257,c258,c259,c260,c261,c262,c263,c264,c265,c266,c267,c268,c269],[]⟩ w')) :
 Code.wp Tryz.prog cdB5 (Exit.then K Q') ⟨#[c0,c1,c2,c3,c4,.pointer (some ⟨db,0,none⟩),c6,.pointer (some ⟨jb5,0,none⟩),c8,.pointer (some ⟨rb,0,none⟩),c10,c11,.pointer (some ⟨ab,0,none⟩),c13,.int .i64 (jCommit cs2 s5).2,.int .i64 k,.slice av2 cs2.length cap2,.slice ai xs.length ci,c18,c19,c20,c21,c22,c23,c24,c25,c26,c27,c28,c29,c30,c31,c32,c33,c34,c35,c36,c37,c38,c39,c40,c41,c42,c43,c44,c45,c46,c47,c48,c49,c50,c51,c52,c53,c54,c55,c56,c57,c58,c59,c60,c61,c62,c63,c64,c65,c66,c67,c68,c69,c70,c71,c72,c73,c74,c75,c76,c77,c78,c79,c80,c81,c82,c83,c84,c85,c86,c87,c88,c89,c90,c91,c92,c93,c94,c95,c96,c97,c98,c99,c100,c101,c102,c103,c104,c105,c106,c107,c108,c109,c110,c111,c112,c113,c114,c115,c116,c117,c118,c119,c120,c121,c122,c123,c124,c125,c126,c127,c128,c129,c130,c131,c132,c133,c134,c135,c136,c137,c138,c139,c140,c141,c142,c143,c144,c145,c146,c147,c148,c149,c150,c151,c152,c153,c154,c155,c156,c157,c158,c159,c160,c161,c162,c163,c164,c165,c166,c167,c168,c169,c170,c171,c172,.int .i64 k,c174,c175,c176,c177,c178,c179,c180,c181,c182,c183,c184,c185,c186,c187,c188,c189,c190,c191,c192,c193,c194,c195,c196,c197,c198,c199,c200,c201,c202,c203,c204,c205,c206,c207,c208,c209,c210,c211,c212,c213,c214,c215,c216,c217,c218,c219,c220,c221,c222,c223,c224,c225,c226,c227,c228,c229,c230,c231,c232,c233,c234,c235,c236,c237,c238,c239,c240,c241,c242,c243,c244,c245,c246,c247,c248,c249,c250,c251,c252,c253,c254,c255,c256,c257,c258,c259,c260,c261,c262,c263,c264,c265,c266,c267,c268,c269],[]⟩ w9:=by
 conv=>arg 2; whnf
 have HXN:Hid (xs.length=cs2.length):=Lib.hid (by rw [← HXM.out,List.length_map])
 have HBX:Hid (∀ x ∈ xs,x.1.key.length≤1000000∧x.1.val.length≤1000000):=Lib.hid (fun x hx=>HCB.out _ (by rw [← HXM.out]; exact List.mem_map.2 ⟨x,hx,rfl⟩))
 have HOUT:Hid (∀ wx,Below w9.heap.size w9 wx→∀ g,(∃ (t:TypeId) (cs:List Value),Blk wx g t cs∧t ≠ 81∧t ≠ 28)→g ≠ jb5∧g ≠ db∧g ≠ mb5):=Lib.hid (fun wx hb g ⟨t,cs,h1,h2,h3⟩=>(HI9.out.jz.below hb).jw.other h1 h2 h3)
 rcases (show k≤3∨k=4∨k=5 by omega) with h3 | rfl | rfl
 ·have n4:(k == 4)=false:=by simp; omega
  have n5:(k == 5)=false:=by simp; omega
  have HCOM:Hid (Calls Tryz.prog 13 #[.pointer (some ⟨jb5,0,none⟩),.slice ai xs.length ci] w9 fun e w'=>e=.returned (.int .i64 (jCommit cs2 s5).2)∧ActR B p5 w9 db jb5 mb5 (jCommit cs2 s5).1 w'):=Lib.hid (by
   have hc:=(HR2.out.toP (fun p hp=>(HBX.out p hp).2)).mono' (HOUT.out w9 (Below.refl _ _))
   rw [HXM.out] at hc
   refine (commit_z HI9.out.jz _ cs2 hc (by omega) (fun c hc=>by have:=HCB.out c hc; omega)).mono ?_
   rintro e w' ⟨rfl,hj,hg⟩
   exact ⟨rfl,ActR.of (Below.refl _ _) hj hg⟩)
  go_wp2_with fail
  refine HCOM.out.mono ?_
  rintro e w' ⟨rfl,hres⟩
  have HR:=Lib.hid hres
  clear hres
  go_wp2_with fail
  exact HK.out _ _ _ _ _ _ _ _ _ _ _ _ _ _ _ _ _ _ _ _ HR.out
 ·have HC1:Hid (cs2=[⟨key,val,false⟩]):=Lib.hid (by
   rcases HKK.out with ⟨h,_⟩ | ⟨_,h⟩ | ⟨h,_⟩
   ·omega
   ·exact h
   ·omega)
  have hx0:0 < xs.length:=by rw [HXN.out,HC1.out]; simp
  have HX0:Hid (xs[0].1=⟨key,val,false⟩):=Lib.hid (by
   have h1:(xs.map (·.1))[0]?=some xs[0].1:=by rw [List.getElem?_map,List.getElem?_eq_getElem hx0]; rfl
   rw [HXM.out,HC1.out] at h1
   exact (Option.some.inj h1).symm)
  obtain ⟨a',c',e',hic⟩:=HR2.out.cells
  simp only [Value.slice.injEq,true_and] at e'
  obtain ⟨rfl,rfl⟩:=e'
  rcases hic with hic | ⟨gi,rfl,_,hgi,hcell⟩
  ·rw [hic] at hx0; simp at hx0
  have hlt:=HR2.out.lent xs[0] (List.getElem_mem hx0)
  have hc1:=(hcell 0 hx0).2.1
  unfold lentV at hc1
  rw [HX0.out] at hc1 hlt
  obtain ⟨gl,hgl⟩:∃ gl,xs[0].2=gl:=⟨_,rfl⟩
  rw [hgl] at hc1 hlt
  have HI1:Hid (∀ wx,Below w9.heap.size w9 wx→wx.cell? ⟨gi,1,none⟩=some (.slice (some ⟨gl,0,none⟩) val.length (val.length+12))):=Lib.hid (fun wx hb=>(hb.cell (p:=⟨gi,1,none⟩) hgi).trans hc1)
  have HA3:Hid (∀ wx,Below w9.heap.size w9 wx→wx.cell? ⟨ab,3,none⟩=some (strV key)):=Lib.hid (fun wx hb=>by
   have h:=(HABB.out.below hb).cell 3 (by simp)
   exact h)
  have HSET:Hid (∀ wx,Below w9.heap.size w9 wx→Calls Tryz.prog 25 #[.pointer (some ⟨jb5,0,none⟩),strV key,.slice (some ⟨gl,0,none⟩) val.length (val.length+12)] wx fun e w'=>e=.returned (.int .i64 (jCommit cs2 s5).2)∧ActR B p5 w9 db jb5 mb5 (jCommit cs2 s5).1 w'):=Lib.hid (fun wx hb=>by
   rw [HC1.out]
   have hkl:=HKL.out
   have hll:LentB wx gl val:=Blk.below hlt.2 hb
   refine (set_z (HI9.out.jz.below hb) key val _ (lent_rdp hll hkl.2 (HOUT.out wx hb gl ⟨_,_,hll,by decide,by decide⟩)) (by omega) (by omega)).mono ?_
   rintro e w' ⟨rfl,hj,hg⟩
   exact ⟨rfl,ActR.of hb hj hg⟩)
  clear hcell hc1 hlt hgl
  go_upto_region 40 with (fail)
  refine wp_region_mix (by kernel_rfl) (by kernel_rfl) (by kernel_rfl) [some (.pointer (some ⟨jb5,0,none⟩)),some (.pointer (some ⟨ab,3,none⟩)),some (strV key),some (.slice (some ⟨gi,0,none⟩) xs.length ci),some (.pointer (some ⟨gi,0,none⟩)),some (.pointer (some ⟨gi,1,none⟩)),some (.slice (some ⟨gl,0,none⟩) val.length (val.length+12)),none,none] [7,8] (by kernel_rfl) (by kernel_rfl) (OneG w9 (fun v w'=>v=.int .i64 (jCommit cs2 s5).2∧ActR B p5 w9 db jb5 mb5 (jCommit cs2 s5).1 w')) ⟨fun _=>bl_drew w9,(fun h=>by cases h),(fun h=>by cases h)⟩ ?_ ?_
  ·refine EachI.cons (MixOk.pure (by kernel_rfl) (fun _=>by kernel_rfl) (fun _ _=>by kernel_rfl)) ?_
   refine EachI.cons (MixOk.pure (by kernel_rfl) (fun _=>by kernel_rfl) (fun _ _=>by kernel_rfl)) ?_
   refine EachI.cons (MixOk.look (by kernel_rfl) (fun _=>by kernel_rfl) (fun dn ws wx hG hdep hcl hni=>xr_str _ _ _ _ _ _ _ ⟨ab,3,none⟩ _ wx (by kernel_rfl) (HA3.out wx (hG.gb (not_done (hcl 7 2 (by kernel_rfl)) hni))))) ?_
   refine EachI.cons (MixOk.pure (by kernel_rfl) (fun _=>by kernel_rfl) (fun _ _=>by kernel_rfl)) ?_
   refine EachI.cons (MixOk.pure (by kernel_rfl) (fun _=>by kernel_rfl) (fun _ wx=>xk_at0 _ gi xs.length ci wx (by kernel_rfl) rfl hx0)) ?_
   refine EachI.cons (MixOk.pure (by kernel_rfl) (fun _=>by kernel_rfl) (fun _ _=>by kernel_rfl)) ?_
   refine EachI.cons (MixOk.look (by kernel_rfl) (fun _=>by kernel_rfl) (fun dn ws wx hG hdep hcl hni=>xr_bytes _ _ _ _ _ _ _ ⟨gi,1,none⟩ _ wx (by kernel_rfl) (HI1.out wx (hG.gb (not_done (hcl 7 6 (by kernel_rfl)) hni))))) ?_
   refine EachI.cons (MixOk.turn (by kernel_rfl) (fun dn ws wx hG hdep hcl hni=>?_)) ?_
   ·have h8:=not_done (hcl 8 7 (by kernel_rfl)) hni
    refine turn_call (by kernel_rfl) 25 #[.pointer (some ⟨jb5,0,none⟩),strV key,.slice (some ⟨gl,0,none⟩) val.length (val.length+12)] (by kernel_rfl) ((HSET.out wx (hG.gb hni)).mono ?_)
    rintro e w' ⟨rfl,hres⟩
    exact ⟨_,rfl,(fun h=>by cases h),fun _=>⟨rfl,hres⟩,(fun h=>by have h:dn 8=true:=h; rw [h8] at h; cases h)⟩
   refine EachI.cons (MixOk.turn (by kernel_rfl) (fun dn ws wx hG hdep hcl hni=>?_)) ?_
   ·exact turn_run (by kernel_rfl) (ws 7) wx (by kernel_rfl) ⟨hG.gb,hG.g0,fun _=>rfl⟩
   exact EachI.nil
  intro ws L' hL' w' hG7
  obtain ⟨e7,hres⟩:=hG7.g0 rfl
  have e7:ws 7=.int .i64 (jCommit cs2 s5).2:=e7
  have e87:ws 8=ws 7:=hG7.g1 rfl
  have e13:=e87.trans e7
  have HR:=Lib.hid hres
  simp only [List.set_cons_succ,List.set_cons_zero,setAll,mix,List.getElem?_cons_succ,List.getElem?_cons_zero,Option.join_some,Option.getD_some,Option.getD_none,Nat.reduceAdd,e13] at hL'
  subst hL'
  clear hG7 hres e7 e87 e13
  go_wp2_with fail
  exact HK.out _ _ _ _ _ _ _ _ _ _ _ _ _ _ _ _ _ _ _ _ HR.out
 ·have HDRO:Hid (Calls Tryz.prog 26 #[.pointer (some ⟨jb5,0,none⟩),strV key] w9 fun e w'=>e=.returned (.int .i64 (jCommit cs2 s5).2)∧ActR B p5 w9 db jb5 mb5 (jCommit cs2 s5).1 w'):=Lib.hid (by
   have hc2:cs2=[⟨key,[],true⟩]:=by
    rcases HKK.out with ⟨h,_⟩ | ⟨h,_⟩ | ⟨_,h⟩
    ·omega
    ·omega
    ·exact h
   rw [hc2]
   have hkl:=HKL.out
   refine (drop_z HI9.out.jz key (by omega)).mono ?_
   rintro e w' ⟨rfl,hj,hg⟩
   exact ⟨rfl,ActR.of (Below.refl _ _) hj hg⟩)
  have a3:=HABB.out.cell 3 (by simp)
  simp only [List.getD_cons_zero,List.getD_cons_succ] at a3
  go_wp2_with fail
  refine HDRO.out.mono ?_
  rintro e w' ⟨rfl,hres⟩
  have HR:=Lib.hid hres
  clear hres
  go_wp2_with fail
  exact HK.out _ _ _ _ _ _ _ _ _ _ _ _ _ _ _ _ _ _ _ _ HR.out
set_option maxRecDepth 1000000 in
set_option maxHeartbeats 16000000 in
theorem does46 {K:Act→World→Prop} {Q':Exit→Act→World→Prop} {gc offc cap2 gi ci m gl C:Nat} {cs2:List Chg} {xs:List (Chg × Nat)} {xkey xval:List UInt8} {xdrop:Bool} {vv3:Value} {c0 c1 c2 c3 c4 c5 c6 c7 c8 c9 c10 c11 c12 c13 c14 c15 c18 c20 c21 c22 c23 c24 c25 c26 c27 c28 c29 c30 c31 c32 c33 c34 c35 c36 c37 c38 c39 c40 c41 c42 c43 c44 c45 c46 c47 c48 c49 c50 c51 c52 c53 c54 c55 c56 c57 c58 c59 c60 c61 c62 c63 c64 c65 c66 c67 c68 c69 c70 c71 c72 c73 c74 c75 c76 c77 c78 c79 c80 c81 c82 c83 c84 c85 c86 c87 c88 c89 c90 c91 c92 c93 c94 c95 c96 c97 c98 c99 c100 c101 c102 c103 c104 c105 c106 c107 c108 c109 c110 c111 c112 c113 c114 c115 c116 c117 c118 c119 c120 c121 c122 c123 c124 c125 c126 c127 c128 c129 c130 c131 c132 c133 c134 c135 c136 c137 c138 c139 c140 c141 c142 c143 c144 c145 c146 c147 c148 c149 c150 c151 c152 c153 c154 c155 c156 c157 c158 c159 c160 c161 c162 c163 c164 c165 c166 c167 c168 c169 c170 c171 c172 c173 c174 c175 c176 c177 c178 c179 c180 c181 c182 c183 c184 c185 c186 c187 c188 c189 c190 c191 c192 c193 c194 c195 c196 c197 c198 c199 c200 c201 c202 c203 c204 c205 c206 c207 c208 c209 c210 c211 c212 c213 c214 c215 c216 c217 c218 c219 c220 c221 c222 c223 c224 c225 c226 c227 c228 c229 c230 c231 c232 c233 c234 c235 c236 c237 c238 c239 c240 c241 c242 c243 c244 c245 c246 c247 c248 c249 c250 c251 c252 c253 c254 c255 c256 c257 c258 c259 c260 c261 c262 c263 c264 c265 c266 c267 c268 c269:Value} (wr3:World) (hmx:m < xs.length) (hmc:m < cs2.length) (hb2:xval.length≤1000000)
 (HALI:Hid (∀ {wx:World},Below wr3.heap.size wr3 wx→wx.cell? ⟨gi,0+m * 3,none⟩=some (strV xkey)∧wx.cell? ⟨gi,0+m * 3+1,none⟩=some (.slice (some ⟨gl,0,none⟩) xval.length (xval.length+12))∧wx.cell? ⟨gi,0+m * 3+2,none⟩=some (.bool xdrop)))
 (HALC:Hid (∀ {wx:World},Below wr3.heap.size wr3 wx→wx.cell? ⟨gc,offc+m * 3,none⟩=some (strV xkey)∧wx.cell? ⟨gc,offc+m * 3+1,none⟩=some vv3∧wx.cell? ⟨gc,offc+m * 3+2,none⟩=some (.bool xdrop)∧RdB wx C vv3 xval))
 (HLE:Hid (∀ {wx:World},Below wr3.heap.size wr3 wx→LentB wx gl xval))
 (HK:Hid (∀ (d199 d200 d201 d202 d203 d204 d205 d206 d207 d208 d209 d210 d211 d212 d213 d214 d215 d216 d217 d218 d219 d220 d221 d222 d223 d224 d225 d226 d227 d228 d229 d230 d231 d232 d233 d234 d235:Value) (w':World),Below wr3.heap.size wr3 w'→K ⟨#[c0,c1,c2,c3,c4,c5,c6,c7,c8,c9,c10,c11,c12,c13,c14,c15,.slice (some ⟨gc,offc,none⟩) cs2.length cap2,.slice (some ⟨gi,0,none⟩) xs.length ci,c18,.int .i64 (m:Int),c20,c21,c22,c23,c24,c25,c26,c27,c28,c29,c30,c31,c32,c33,c34,c35,c36,c37,c38,c39,c40,c41,c42,c43,c44,c45,c46,c47,c48,c49,c50,c51,c52,c53,c54,c55,c56,c57,c58,c59,c60,c61,c62,c63,c64,c65,c66,c67,c68,c69,c70,c71,c72,c73,c74,c75,c76,c77,c78,c79,c80,c81,c82,c83,c84,c85,c86,c87,c88,c89,c90,c91,c92,c93,c94,c95,c96,c97,c98,c99,c100,c101,c102,c103,c104,c105,c106,c107,c108,c109,c110,c111,c112,c113,c114,c115,c116,c117,c118,c119,c120,c121,c122,c123,c124,c125,c126,c127,c128,c129,c130,c131,c132,c133,c134,c135,c136,c137,c138,c139,c140,c141,c142,c143,c144,c145,c146,c147,c148,c149,c150,c151,c152,c153,c154,c155,c156,c157,c158,c159,c160,c161,c162,c163,c164,c165,c166,c167,c168,c169,c170,c171,c172,c173,c174,c175,c176,c177,c178,c179,c180,c181,c182,c183,c184,c185,c186,c187,c188,c189,c190,c191,c192,c193,c194,c195,c196,c197,c198,d199,d200,d201,d202,d203,d204,d205,d206,d207,d208,d209,d210,d211,d212,d213,d214,d215,d216,d217,d218,d219,d220,d221,d222,d223,d224,d225,d226,d227,d228,d229,d230,d231,d232,d233,d234,d235,.bool false,c237,c238,c239,c240,c241,c242,c243,c244,c245,c246,c247,c248,c249,c250,c251,c252,c253,c254,c255,c256,c257,c258,c259,c260,c261,c262,c263,c264,c265,c266,c267,c268,c269],[]⟩ w')) :
 Code.wp Tryz.prog cdR46 (Exit.then K Q') ⟨#[c0,c1,c2,c3,c4,c5,c6,c7,c8,c9,c10,c11,c12,c13,c14,c15,.slice (some ⟨gc,offc,none⟩) cs2.length cap2,.slice (some ⟨gi,0,none⟩) xs.length ci,c18,.int .i64 (m:Int),c20,c21,c22,c23,c24,c25,c26,c27,c28,c29,c30,c31,c32,c33,c34,c35,c36,c37,c38,c39,c40,c41,c42,c43,c44,c45,c46,c47,c48,c49,c50,c51,c52,c53,c54,c55,c56,c57,c58,c59,c60,c61,c62,c63,c64,c65,c66,c67,c68,c69,c70,c71,c72,c73,c74,c75,c76,c77,c78,c79,c80,c81,c82,c83,c84,c85,c86,c87,c88,c89,c90,c91,c92,c93,c94,c95,c96,c97,c98,c99,c100,c101,c102,c103,c104,c105,c106,c107,c108,c109,c110,c111,c112,c113,c114,c115,c116,c117,c118,c119,c120,c121,c122,c123,c124,c125,c126,c127,c128,c129,c130,c131,c132,c133,c134,c135,c136,c137,c138,c139,c140,c141,c142,c143,c144,c145,c146,c147,c148,c149,c150,c151,c152,c153,c154,c155,c156,c157,c158,c159,c160,c161,c162,c163,c164,c165,c166,c167,c168,c169,c170,c171,c172,c173,c174,c175,c176,c177,c178,c179,c180,c181,c182,c183,c184,c185,c186,c187,c188,c189,c190,c191,c192,c193,c194,c195,c196,c197,c198,c199,c200,c201,c202,c203,c204,c205,c206,c207,c208,c209,c210,c211,c212,c213,c214,c215,c216,c217,c218,c219,c220,c221,c222,c223,c224,c225,c226,c227,c228,c229,c230,c231,c232,c233,c234,c235,c236,c237,c238,c239,c240,c241,c242,c243,c244,c245,c246,c247,c248,c249,c250,c251,c252,c253,c254,c255,c256,c257,c258,c259,c260,c261,c262,c263,c264,c265,c266,c267,c268,c269],[]⟩ wr3:=by
 conv=>arg 2; whnf
 refine wp_region_mix (by as_aux_lemma=>kernel_rfl) (by as_aux_lemma=>kernel_rfl) (by as_aux_lemma=>kernel_rfl) [some (.slice (some ⟨gi,0,none⟩) xs.length ci),some (.int .i64 (m:Int)),some (.pointer (some ⟨gi,0+m * 3,none⟩)),some (.pointer (some ⟨gi,0+m * 3,none⟩)),some (strV xkey),some (.slice (some ⟨gc,offc,none⟩) cs2.length cap2),some (.int .i64 (m:Int)),some (.pointer (some ⟨gc,offc+m * 3,none⟩)),some (.pointer (some ⟨gc,offc+m * 3,none⟩)),some (strV xkey),some (.bool false),some (.bool false),some (.slice (some ⟨gi,0,none⟩) xs.length ci),some (.int .i64 (m:Int)),some (.pointer (some ⟨gi,0+m * 3,none⟩)),some (.pointer (some ⟨gi,0+m * 3+2,none⟩)),some (.bool xdrop),some (.slice (some ⟨gc,offc,none⟩) cs2.length cap2),some (.int .i64 (m:Int)),some (.pointer (some ⟨gc,offc+m * 3,none⟩)),some (.pointer (some ⟨gc,offc+m * 3+2,none⟩)),some (.bool xdrop),some (.bool false),some (.bool false),some (.bool false),some (.slice (some ⟨gi,0,none⟩) xs.length ci),some (.int .i64 (m:Int)),some (.pointer (some ⟨gi,0+m * 3,none⟩)),some (.pointer (some ⟨gi,0+m * 3+1,none⟩)),some (.slice (some ⟨gl,0,none⟩) xval.length (xval.length+12)),some (.slice (some ⟨gc,offc,none⟩) cs2.length cap2),some (.int .i64 (m:Int)),some (.pointer (some ⟨gc,offc+m * 3,none⟩)),some (.pointer (some ⟨gc,offc+m * 3+1,none⟩)),some (vv3),none,some (.bool false),some (.bool false)] [35] (by as_aux_lemma=>kernel_rfl) (by as_aux_lemma=>kernel_rfl) (KpG wr3) ⟨bl_drew wr3,(fun h=>by cases h)⟩ ?_ ?_
 ·refine EachI.cons (MixOk.pure (by as_aux_lemma=>kernel_rfl) (fun _=>by kernel_rfl) (fun _ _=>by kernel_rfl)) ?_
  refine EachI.cons (MixOk.pure (by as_aux_lemma=>kernel_rfl) (fun _=>by kernel_rfl) (fun _ _=>by kernel_rfl)) ?_
  refine EachI.cons (MixOk.pure (by as_aux_lemma=>kernel_rfl) (fun _=>by kernel_rfl) (fun _ wx=>xg_atJ _ _ gi 0 xs.length ci m wx (by as_aux_lemma=>kernel_rfl) (by as_aux_lemma=>kernel_rfl) hmx)) ?_
  refine EachI.cons (MixOk.pure (by as_aux_lemma=>kernel_rfl) (fun _=>by kernel_rfl) (fun _ _=>by kernel_rfl)) ?_
  refine EachI.cons (MixOk.look (by as_aux_lemma=>kernel_rfl) (fun _=>by kernel_rfl) (fun dn ws wx hG hdep hcl hni=>xr_str _ _ _ _ _ _ _ ⟨gi,0+m * 3,none⟩ _ wx (by as_aux_lemma=>kernel_rfl) (HALI.out hG.gb).1)) ?_
  refine EachI.cons (MixOk.pure (by as_aux_lemma=>kernel_rfl) (fun _=>by kernel_rfl) (fun _ _=>by kernel_rfl)) ?_
  refine EachI.cons (MixOk.pure (by as_aux_lemma=>kernel_rfl) (fun _=>by kernel_rfl) (fun _ _=>by kernel_rfl)) ?_
  refine EachI.cons (MixOk.pure (by as_aux_lemma=>kernel_rfl) (fun _=>by kernel_rfl) (fun _ wx=>xg_atJ _ _ gc offc cs2.length cap2 m wx (by as_aux_lemma=>kernel_rfl) (by as_aux_lemma=>kernel_rfl) hmc)) ?_
  refine EachI.cons (MixOk.pure (by as_aux_lemma=>kernel_rfl) (fun _=>by kernel_rfl) (fun _ _=>by kernel_rfl)) ?_
  refine EachI.cons (MixOk.look (by as_aux_lemma=>kernel_rfl) (fun _=>by kernel_rfl) (fun dn ws wx hG hdep hcl hni=>xr_str _ _ _ _ _ _ _ ⟨gc,offc+m * 3,none⟩ _ wx (by as_aux_lemma=>kernel_rfl) (HALC.out hG.gb).1)) ?_
  refine EachI.cons (MixOk.pure (by as_aux_lemma=>kernel_rfl) (fun _=>by kernel_rfl) (fun _ wx=>xk_neqS _ _ ⟨xkey.toArray⟩ wx (by as_aux_lemma=>kernel_rfl) (by as_aux_lemma=>kernel_rfl))) ?_
  refine EachI.cons (MixOk.pure (by as_aux_lemma=>kernel_rfl) (fun _=>by kernel_rfl) (fun _ _=>by kernel_rfl)) ?_
  refine EachI.cons (MixOk.pure (by as_aux_lemma=>kernel_rfl) (fun _=>by kernel_rfl) (fun _ _=>by kernel_rfl)) ?_
  refine EachI.cons (MixOk.pure (by as_aux_lemma=>kernel_rfl) (fun _=>by kernel_rfl) (fun _ _=>by kernel_rfl)) ?_
  refine EachI.cons (MixOk.pure (by as_aux_lemma=>kernel_rfl) (fun _=>by kernel_rfl) (fun _ wx=>xg_atJ _ _ gi 0 xs.length ci m wx (by as_aux_lemma=>kernel_rfl) (by as_aux_lemma=>kernel_rfl) hmx)) ?_
  refine EachI.cons (MixOk.pure (by as_aux_lemma=>kernel_rfl) (fun _=>by kernel_rfl) (fun _ _=>by kernel_rfl)) ?_
  refine EachI.cons (MixOk.look (by as_aux_lemma=>kernel_rfl) (fun _=>by kernel_rfl) (fun dn ws wx hG hdep hcl hni=>xg_bool _ ⟨gi,0+m * 3+2,none⟩ _ wx (by as_aux_lemma=>kernel_rfl) (HALI.out hG.gb).2.2)) ?_
  refine EachI.cons (MixOk.pure (by as_aux_lemma=>kernel_rfl) (fun _=>by kernel_rfl) (fun _ _=>by kernel_rfl)) ?_
  refine EachI.cons (MixOk.pure (by as_aux_lemma=>kernel_rfl) (fun _=>by kernel_rfl) (fun _ _=>by kernel_rfl)) ?_
  refine EachI.cons (MixOk.pure (by as_aux_lemma=>kernel_rfl) (fun _=>by kernel_rfl) (fun _ wx=>xg_atJ _ _ gc offc cs2.length cap2 m wx (by as_aux_lemma=>kernel_rfl) (by as_aux_lemma=>kernel_rfl) hmc)) ?_
  refine EachI.cons (MixOk.pure (by as_aux_lemma=>kernel_rfl) (fun _=>by kernel_rfl) (fun _ _=>by kernel_rfl)) ?_
  refine EachI.cons (MixOk.look (by as_aux_lemma=>kernel_rfl) (fun _=>by kernel_rfl) (fun dn ws wx hG hdep hcl hni=>xg_bool _ ⟨gc,offc+m * 3+2,none⟩ _ wx (by as_aux_lemma=>kernel_rfl) (HALC.out hG.gb).2.2.1)) ?_
  refine EachI.cons (MixOk.pure (by as_aux_lemma=>kernel_rfl) (fun _=>by kernel_rfl) (fun _ wx=>xk_neqB _ _ xdrop wx (by as_aux_lemma=>kernel_rfl) (by as_aux_lemma=>kernel_rfl))) ?_
  refine EachI.cons (MixOk.pure (by as_aux_lemma=>kernel_rfl) (fun _=>by kernel_rfl) (fun _ _=>by kernel_rfl)) ?_
  refine EachI.cons (MixOk.pure (by as_aux_lemma=>kernel_rfl) (fun _=>by kernel_rfl) (fun _ _=>by kernel_rfl)) ?_
  refine EachI.cons (MixOk.pure (by as_aux_lemma=>kernel_rfl) (fun _=>by kernel_rfl) (fun _ _=>by kernel_rfl)) ?_
  refine EachI.cons (MixOk.pure (by as_aux_lemma=>kernel_rfl) (fun _=>by kernel_rfl) (fun _ _=>by kernel_rfl)) ?_
  refine EachI.cons (MixOk.pure (by as_aux_lemma=>kernel_rfl) (fun _=>by kernel_rfl) (fun _ wx=>xg_atJ _ _ gi 0 xs.length ci m wx (by as_aux_lemma=>kernel_rfl) (by as_aux_lemma=>kernel_rfl) hmx)) ?_
  refine EachI.cons (MixOk.pure (by as_aux_lemma=>kernel_rfl) (fun _=>by kernel_rfl) (fun _ _=>by kernel_rfl)) ?_
  refine EachI.cons (MixOk.look (by as_aux_lemma=>kernel_rfl) (fun _=>by kernel_rfl) (fun dn ws wx hG hdep hcl hni=>xr_bytes _ _ _ _ _ _ _ ⟨gi,0+m * 3+1,none⟩ _ wx (by as_aux_lemma=>kernel_rfl) (HALI.out hG.gb).2.1)) ?_
  refine EachI.cons (MixOk.pure (by as_aux_lemma=>kernel_rfl) (fun _=>by kernel_rfl) (fun _ _=>by kernel_rfl)) ?_
  refine EachI.cons (MixOk.pure (by as_aux_lemma=>kernel_rfl) (fun _=>by kernel_rfl) (fun _ _=>by kernel_rfl)) ?_
  refine EachI.cons (MixOk.pure (by as_aux_lemma=>kernel_rfl) (fun _=>by kernel_rfl) (fun _ wx=>xg_atJ _ _ gc offc cs2.length cap2 m wx (by as_aux_lemma=>kernel_rfl) (by as_aux_lemma=>kernel_rfl) hmc)) ?_
  refine EachI.cons (MixOk.pure (by as_aux_lemma=>kernel_rfl) (fun _=>by kernel_rfl) (fun _ _=>by kernel_rfl)) ?_
  refine EachI.cons (MixOk.look (by as_aux_lemma=>kernel_rfl) (fun _=>by kernel_rfl) (fun dn ws wx hG hdep hcl hni=>xr_bytes _ _ _ _ _ _ _ ⟨gc,offc+m * 3+1,none⟩ _ wx (by as_aux_lemma=>kernel_rfl) (HALC.out hG.gb).2.1)) ?_
  refine EachI.cons (MixOk.turn (by as_aux_lemma=>kernel_rfl) (fun dn ws wx hG hdep hcl hni=>?_)) ?_
  ·refine turn_call (by as_aux_lemma=>kernel_rfl) 27 #[.slice (some ⟨gl,0,none⟩) xval.length (xval.length+12),vv3] (by as_aux_lemma=>kernel_rfl) ((kept_c gl vv3 xval C wx (HLE.out hG.gb) (HALC.out hG.gb).2.2.2 (by omega)).mono ?_)
   rintro e w' ⟨rfl,hbl⟩
   exact ⟨_,rfl,hG.gb.trans (hbl.mono hG.gb.size),fun _=>rfl⟩
  refine EachI.cons (MixOk.look (by as_aux_lemma=>kernel_rfl) (fun _=>by kernel_rfl) (fun dn ws wx hG hdep hcl hni=>xk_not _ wx (Eq.trans (b:=ws 35) (by as_aux_lemma=>kernel_rfl) (hG.g0 (hdep 35 (by as_aux_lemma=>kernel_rfl)))))) ?_
  refine EachI.cons (MixOk.pure (by as_aux_lemma=>kernel_rfl) (fun _=>by kernel_rfl) (fun _ _=>by kernel_rfl)) ?_
  exact EachI.nil
 intro ws L' hL' w11 hG7
 have hb:=hG7.gb
 simp only [List.set_cons_succ,List.set_cons_zero,setAll,mix,List.getElem?_cons_succ,List.getElem?_cons_zero,Option.join_some,Option.getD_some,Option.getD_none,Nat.reduceAdd] at hL'
 subst hL'
 exact HK.out _ _ _ _ _ _ _ _ _ _ _ _ _ _ _ _ _ _ _ _ _ _ _ _ _ _ _ _ _ _ _ _ _ _ _ _ _ _ hb
set_option maxRecDepth 1000000 in
set_option maxHeartbeats 16000000 in
theorem doesB6 {K:Act→World→Prop} {Q':Exit→Act→World→Prop} {w0:World} {B:Nat} {p5:Nat→Prop} {db jb5 mb5 rb ab:Nat} {s5:JS} {av2:Option Addr} {cap2:Nat} {cs2:List Chg} {kind apw k:Int} {ac av:Option Addr} {cs:List Chg} {cc cv:Nat} {key val:List UInt8} {ai:Option Addr} {ci:Nat} {xs:List (Chg × Nat)} {c0 c1 c2 c3 c4 c6 c8 c10 c11 c18 c20 c21 c22 c23 c24 c25 c26 c27 c28 c29 c30 c31 c32 c33 c34 c35 c36 c37 c38 c39 c40 c41 c42 c43 c44 c45 c46 c47 c48 c49 c50 c51 c52 c53 c54 c55 c56 c57 c58 c59 c60 c61 c62 c63 c64 c65 c66 c67 c68 c69 c70 c71 c72 c73 c74 c75 c76 c77 c78 c79 c80 c81 c82 c83 c84 c85 c86 c87 c88 c89 c90 c91 c92 c93 c94 c95 c96 c97 c98 c99 c100 c101 c102 c103 c104 c105 c106 c107 c108 c109 c110 c111 c112 c113 c114 c115 c116 c117 c118 c119 c120 c121 c122 c123 c124 c125 c126 c127 c128 c129 c130 c131 c132 c133 c134 c135 c136 c137 c138 c139 c140 c141 c142 c143 c144 c145 c146 c147 c148 c149 c150 c151 c152 c153 c154 c155 c156 c157 c158 c159 c160 c161 c162 c163 c164 c165 c166 c167 c168 c169 c170 c171 c172 c173 c174 c175 c176 c177 c178 c179 c180 c181 c182 c183 c184 c185 c186 c187 c188 c189 c190 c191 c192 c193 c194 c195 c196 c197 c198 c199 c200 c201 c202 c203 c204 c205 c206 c207 c208 c209 c210 c211 c212 c213 c214 c215 c216 c217 c218 c219 c220 c221 c222 c223 c224 c225 c226 c227 c228 c229 c230 c231 c232 c233 c234 c235 c236 c237 c238 c239 c240 c241 c242 c243 c244 c245 c246 c247 c248 c249 c250 c251 c252 c253 c254 c255 c256 c257 c258 c259 c260 c261 c262 c263 c264 c265 c266 c267 c268 c269:Value} (wm3:World) {C:Nat} {p8:Nat→Prop} {s6:JS} {y0 y1 ye:Value}
 (HI:Hid (DoI w0 wm3 B p8 db jb5 mb5 rb s6 s6 y0 y1 ye)) (HD:Hid (DoC wm3 C s6 y0 y1 ye)) (HT:Hid (InT wm3 C (.slice ai xs.length ci) xs 0)) (HC:Hid (ChgsAt wm3 C (.slice av2 cs2.length cap2) cs2)) (HXM:Hid (xs.map (·.1)=cs2)) (HCB:Hid (∀ c ∈ cs2,c.key.length≤1000000∧c.val.length≤1000000)) (hcn:cs2.length≤1000) (HBC:Hid (B≤C)) (HNP:Hid (∀ x ∈ xs,¬ p8 x.2)) (HAB:Hid (Blk wm3 ab 41 [.int .i64 kind,.int .i64 apw,.slice ac cs.length cc,strV key,.slice av val.length cv]))
 (HK:Hid (∀ (d4 d19 d193 d194 d195 d196 d197 d198 d199 d200 d201 d202 d203 d204 d205 d206 d207 d208 d209 d210 d211 d212 d213 d214 d215 d216 d217 d218 d219 d220 d221 d222 d223 d224 d225 d226 d227 d228 d229 d230 d231 d232 d233 d234 d235 d236 d237 d238 d239 d240 d241 d242:Value) (w':World),DoI w0 w' B p8 db jb5 mb5 rb s6 s6 y0 y1 ye→Blk w' ab 41 [.int .i64 kind,.int .i64 apw,.slice ac cs.length cc,strV key,.slice av val.length cv]→K ⟨#[c0,c1,c2,c3,d4,.pointer (some ⟨db,0,none⟩),c6,.pointer (some ⟨jb5,0,none⟩),c8,.pointer (some ⟨rb,0,none⟩),c10,c11,.pointer (some ⟨ab,0,none⟩),.int .i64 (jCommit cs2 s5).2,.int .i64 (jCommit cs2 s5).2,.int .i64 k,.slice av2 cs2.length cap2,.slice ai xs.length ci,c18,d19,c20,c21,c22,c23,c24,c25,c26,c27,c28,c29,c30,c31,c32,c33,c34,c35,c36,c37,c38,c39,c40,c41,c42,c43,c44,c45,c46,c47,c48,c49,c50,c51,c52,c53,c54,c55,c56,c57,c58,c59,c60,c61,c62,c63,c64,c65,c66,c67,c68,c69,c70,c71,c72,c73,c74,c75,c76,c77,c78,c79,c80,c81,c82,c83,c84,c85,c86,c87,c88,c89,c90,c91,c92,c93,c94,c95,c96,c97,c98,c99,c100,c101,c102,c103,c104,c105,c106,c107,c108,c109,c110,c111,c112,c113,c114,c115,c116,c117,c118,c119,c120,c121,c122,c123,c124,c125,c126,c127,c128,c129,c130,c131,c132,c133,c134,c135,c136,c137,c138,c139,c140,c141,c142,c143,c144,c145,c146,c147,c148,c149,c150,c151,c152,c153,c154,c155,c156,c157,c158,c159,c160,c161,c162,c163,c164,c165,c166,c167,c168,c169,c170,c171,c172,c173,c174,c175,c176,c177,c178,c179,c180,c181,c182,c183,c184,c185,c186,c187,c188,c189,c190,c191,c192,d193,d194,d195,d196,d197,d198,d199,d200,d201,d202,d203,d204,d205,d206,d207,d208,d209,d210,d211,d212,d213,d214,d215,d216,d217,d218,d219,d220,d221,d222,d223,d224,d225,d226,d227,d228,d229,d230,d231,d232,d233,d234,d235,d236,d237,d238,d239,d240,d241,d242,c243,c244,c245,c246,c247,c248,c249,c250,c251,c252,c253,c254,c255,c256,c257,c258,c259,c260,c261,c262,c263,c264,c265,c266,c267,c268,c269],[]⟩ w')) :
 Code.wp Tryz.prog cdB6 (Exit.then K Q') ⟨#[c0,c1,c2,c3,c4,.pointer (some ⟨db,0,none⟩),c6,.pointer (some ⟨jb5,0,none⟩),c8,.pointer (some ⟨rb,0,none⟩),c10,c11,.pointer (some ⟨ab,0,none⟩),.int .i64 (jCommit cs2 s5).2,.int .i64 (jCommit cs2 s5).2,.int .i64 k,.slice av2 cs2.length cap2,.slice ai xs.length ci,c18,.int .i64 0,c20,c21,c22,c23,c24,c25,c26,c27,c28,c29,c30,c31,c32,c33,c34,c35,c36,c37,c38,c39,c40,c41,c42,c43,c44,c45,c46,c47,c48,c49,c50,c51,c52,c53,c54,c55,c56,c57,c58,c59,c60,c61,c62,c63,c64,c65,c66,c67,c68,c69,c70,c71,c72,c73,c74,c75,c76,c77,c78,c79,c80,c81,c82,c83,c84,c85,c86,c87,c88,c89,c90,c91,c92,c93,c94,c95,c96,c97,c98,c99,c100,c101,c102,c103,c104,c105,c106,c107,c108,c109,c110,c111,c112,c113,c114,c115,c116,c117,c118,c119,c120,c121,c122,c123,c124,c125,c126,c127,c128,c129,c130,c131,c132,c133,c134,c135,c136,c137,c138,c139,c140,c141,c142,c143,c144,c145,c146,c147,c148,c149,c150,c151,c152,c153,c154,c155,c156,c157,c158,c159,c160,c161,c162,c163,c164,c165,c166,c167,c168,c169,c170,c171,c172,c173,c174,c175,c176,c177,c178,c179,c180,c181,c182,c183,c184,c185,c186,c187,c188,c189,c190,c191,c192,c193,c194,c195,c196,c197,c198,c199,c200,c201,c202,c203,c204,c205,c206,c207,c208,c209,c210,c211,c212,c213,c214,c215,c216,c217,c218,c219,c220,c221,c222,c223,c224,c225,c226,c227,c228,c229,c230,c231,c232,c233,c234,c235,c236,c237,c238,c239,c240,c241,c242,c243,c244,c245,c246,c247,c248,c249,c250,c251,c252,c253,c254,c255,c256,c257,c258,c259,c260,c261,c262,c263,c264,c265,c266,c267,c268,c269],[]⟩ wm3:=by
 conv=>arg 2; whnf
 have HXN:Hid (xs.length=cs2.length):=Lib.hid (by rw [← HXM.out,List.length_map])
 go_wp2
 go_loopw [19] (fun mv wx=>∃ m:Nat,m≤xs.length∧mv=.int .i64 m∧DoI w0 wx B p8 db jb5 mb5 rb s6 s6 y0 y1 ye∧DoC wx C s6 y0 y1 ye∧InT wx C (.slice ai xs.length ci) xs m∧ChgsAt wx C (.slice av2 cs2.length cap2) cs2∧Blk wx ab 41 [.int .i64 kind,.int .i64 apw,.slice ac cs.length cc,strV key,.slice av val.length cv]) (fun i _=>xs.length - (intOf i).toNat)
 case atStart=>exact ⟨0,Nat.zero_le _,rfl,HI.out,HD.out,HT.out,HC.out,HAB.out⟩
 case round=>
  obtain ⟨m,hmn,rfl,hI,hD,hT,hC,hA⟩:=hrel
  generalize wr=wr3 at *
  clear HI HD HT HC HAB
  have HI:=Lib.hid hI
  have HD:=Lib.hid hD
  have HT:=Lib.hid hT
  have HC:=Lib.hid hC
  have HA:=Lib.hid hA
  have hxn1:=Nat.le_of_eq HXN.out
  have hxn2:=Nat.le_of_eq HXN.out.symm
  clear hI hD hT hC hA
  by_cases hmx:m < xs.length
  ·have t1:decide ((m:Int) < (xs.length:Int))=true:=decide_eq_true (by omega)
   have hmc:m < cs2.length:=by omega
   have HXI:Hid (cs2[m]=xs[m].1):=Lib.hid (by
    have h1:(xs.map (·.1))[m]?=some xs[m].1:=by rw [List.getElem?_map,List.getElem?_eq_getElem hmx]; rfl
    rw [HXM.out,List.getElem?_eq_getElem hmc] at h1
    exact Option.some.inj h1)
   have hbd:=HCB.out cs2[m] (List.getElem_mem hmc)
   have hle:=HT.out.lent m hmx (Nat.le_refl _)
   have HNPm:=Lib.hid (HNP.out xs[m] (List.getElem_mem hmx))
   obtain ⟨a',c',e',hic⟩:=HT.out.cells
   simp only [Value.slice.injEq,true_and] at e'
   obtain ⟨rfl,rfl⟩:=e'
   rcases hic with hic | ⟨gi,rfl,hgC,hgi,hcell⟩
   ·rw [hic] at hmx; simp at hmx
   obtain ⟨k0,k1,k2⟩:=hcell m hmx
   obtain ⟨a2',c2',e2',_,_,hcc⟩:=HC.out
   simp only [Value.slice.injEq] at e2'
   obtain ⟨rfl,_,rfl⟩:=e2'
   rcases hcc with hcc | ⟨gc,offc,rfl,hgc,hcell2⟩
   ·rw [hcc] at hmc; simp at hmc
   obtain ⟨vv3,q0,q1,q2,q3⟩:=hcell2 m hmc
   have hCle:=HD.out.le
   have HNEXT:Hid (∀ {w':World},Grown (fun k=>k=xs[m].2) wr3 w'→InT w' C (.slice (some ⟨gi,0,none⟩) xs.length ci) xs (m+1)):=Lib.hid (fun hg=>HT.out.next hmx hg)
   rw [HXI.out] at q0 q2 q3 hbd
   unfold lentV at k1
   generalize hxm:xs[m]=xm at *
   obtain ⟨⟨xkey,xval,xdrop⟩,gl⟩:=xm
   simp only at k0 k1 k2 q0 q2 q3 hle hbd
   obtain ⟨hb1,hb2⟩:=hbd
   have HALI:Hid (∀ {wx:World},Below wr3.heap.size wr3 wx→wx.cell? ⟨gi,0+m * 3,none⟩=some (strV xkey)∧wx.cell? ⟨gi,0+m * 3+1,none⟩=some (.slice (some ⟨gl,0,none⟩) xval.length (xval.length+12))∧wx.cell? ⟨gi,0+m * 3+2,none⟩=some (.bool xdrop)):=Lib.hid (fun hb=>by
    rw [Nat.zero_add]
    exact ⟨(hb.cell (p:=⟨gi,m * 3,none⟩) hgi).trans k0,(hb.cell (p:=⟨gi,m * 3+1,none⟩) hgi).trans k1,(hb.cell (p:=⟨gi,m * 3+2,none⟩) hgi).trans k2⟩)
   have HALC:Hid (∀ {wx:World},Below wr3.heap.size wr3 wx→wx.cell? ⟨gc,offc+m * 3,none⟩=some (strV xkey)∧wx.cell? ⟨gc,offc+m * 3+1,none⟩=some vv3∧wx.cell? ⟨gc,offc+m * 3+2,none⟩=some (.bool xdrop)∧RdB wx C vv3 xval):=Lib.hid (fun hb=>by
    have hb2:=hb.mono hCle
    exact ⟨(hb2.cell (p:=⟨gc,offc+m * 3,none⟩) hgc).trans q0,(hb2.cell (p:=⟨gc,offc+m * 3+1,none⟩) hgc).trans q1,(hb2.cell (p:=⟨gc,offc+m * 3+2,none⟩) hgc).trans q2,q3.below hb2⟩)
   have HLE:Hid (∀ {wx:World},Below wr3.heap.size wr3 wx→LentB wx gl xval):=Lib.hid (fun hb=>Blk.below hle.2 hb)
   have HGC:Hid (C≤gl):=Lib.hid hle.1
   clear hcell hcell2 k0 k1 k2 q0 q1 q2 q3 hle hxm
   go_upto_region 46 with (fail)
   refine does46 wr3 hmx hmc hb2 HALI HALC HLE (Lib.hid ?_)
   intro d199 d200 d201 d202 d203 d204 d205 d206 d207 d208 d209 d210 d211 d212 d213 d214 d215 d216 d217 d218 d219 d220 d221 d222 d223 d224 d225 d226 d227 d228 d229 d230 d231 d232 d233 d234 d235 w11 hb11
   have HB11:=Lib.hid hb11
   clear hb11
   have HOV:Hid (Calls Tryz.prog 28 #[.slice (some ⟨gl,0,none⟩) xval.length (xval.length+12)] w11 fun e w'=>e=.returned (.tuple #[])∧Grown (fun k=>k=gl) w11 w'):=Lib.hid (over_c gl xval.length (xval.length+12) _ w11 (HLE.out HB11.out) (by rw [byts_length,List.length_append,bmarks_length]) (by omega) (by unfold maxLen; omega) (by omega))
   have i1:=(HALI.out HB11.out).2.1
   rw [Nat.zero_add] at i1
   go_wp2_with fail
   refine HOV.out.mono ?_
   rintro e w12 ⟨rfl,hg12⟩
   have HI12:=Lib.hid ((HI.out.below HB11.out).over (HD.out.below (HB11.out.mono HD.out.le)) (HLE.out HB11.out) hg12 HGC.out HBC.out HNPm.out)
   have hb12:Below C w11 w12:=hg12.below (fun k e=>by have:=HGC.out; omega) (Nat.le_trans HD.out.le HB11.out.size)
   have hbC:=(HB11.out.mono HD.out.le).trans hb12
   have HD12:=Lib.hid (HD.out.below hbC)
   have HC12:=Lib.hid (HC.out.below hbC)
   have HT12:=Lib.hid (HNEXT.out ((Grown.of_below HB11.out).trans hg12))
   have HA12:=Lib.hid ((HA.out.below HB11.out).grown hg12 (fun e=>by subst e; exact absurd ((HA.out.below HB11.out).type (HLE.out HB11.out)) (by decide)))
   clear hg12 hb12 hbC HI HD HC HT HA HNEXT i1
   go_wp2
   go_roundw
   case rel=>exact ⟨m+1,by omega,by go_num,HI12.out,HD12.out,HT12.out,HC12.out,HA12.out⟩
   case measure=>simp [intOf]; omega
  ·obtain rfl:m=xs.length:=by omega
   have t1:decide ((xs.length:Int) < (xs.length:Int))=false:=by simp
   go_wp2_with fail
   exact HK.out _ _ _ _ _ _ _ _ _ _ _ _ _ _ _ _ _ _ _ _ _ _ _ _ _ _ _ _ _ _ _ _ _ _ _ _ _ _ _ _ _ _ _ _ _ _ _ _ _ _ _ _ _ HI.out HA.out
end Go.Proofs.YtondomklkapogaaGreatDoor
