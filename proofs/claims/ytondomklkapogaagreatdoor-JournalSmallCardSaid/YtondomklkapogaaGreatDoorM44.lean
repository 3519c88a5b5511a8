/- The law's does: an act that commits. -/
import Derived.Test.YtondomklkapogaaGreatDoorM43
import Derived.Deep.CutBlock
namespace Go.Proofs.YtondomklkapogaaGreatDoor
section
open Go.RowKit SeedP Go.Maps
set_option linter.unusedVariables false
theorem then_self (Q:Exit→Act→World→Prop):Exit.then (fun a w=>Q .normal a w) Q=Q:=by
 funext e a w
 cases e <;> rfl
theorem wp_then {P:Program} {c:Code} {Q:Exit→Act→World→Prop} {a:Act} {w:World} (h:Code.wp P c (Exit.then (fun a w=>Q .normal a w) Q) a w):Code.wp P c Q a w:=by
 rw [then_self] at h; exact h
noncomputable def cdB2:Code:=((Tryz.f7.body.bind (findB 2)).getD .skip)
set_option maxRecDepth 1000000 in
set_option maxHeartbeats 16000000 in
theorem doesB2k {K:Act→World→Prop} {Q':Exit→Act→World→Prop} {w0:World} {B:Nat} {p5:Nat→Prop} {db jb5 mb5 rb ab:Nat} {s5:JS} {v5 v6 v7:Value} {kind apw:Int} {ac av:Option Addr} {cs:List Chg} {cc cv:Nat} {key val:List UInt8} {k:Int} {c0 c1 c2 c3 c4 c6 c8 c10 c11 c13 c14 c16 c17 c18 c19 c20 c21 c22 c23 c24 c25 c26 c27 c28 c29 c30 c31 c32 c33 c34 c35 c36 c37 c38 c39 c40 c41 c42 c43 c44 c45 c46 c47 c48 c49 c50 c51 c52 c53 c54 c55 c56 c57 c58 c59 c60 c61 c62 c63 c64 c65 c66 c67 c68 c69 c70 c71 c72 c73 c74 c75 c76 c77 c78 c79 c80 c81 c82 c83 c84 c85 c86 c87 c88 c89 c90 c91 c92 c94 c95 c96 c97 c98 c99 c100 c101 c102 c103 c104 c105 c106 c107 c108 c109 c110 c111 c112 c113 c114 c115 c116 c117 c118 c119 c120 c121 c122 c123 c124 c125 c126 c127 c128 c129 c130 c131 c132 c133 c134 c135 c136 c137 c138 c139 c140 c141 c142 c143 c144 c145 c146 c147 c148 c149 c150 c151 c152 c153 c154 c155 c156 c157 c158 c159 c160 c161 c162 c163 c164 c165 c166 c167 c168 c169 c170 c171 c172 c173 c174 c175 c176 c177 c178 c179 c180 c181 c182 c183 c184 c185 c186 c187 c188 c189 c190 c191 c192 c193 c194 c195 c196 c197 c198 c199 c200 c201 c202 c203 c204 c205 c206 c207 c208 c209 c210 c211 c212 c213 c214 c215 c216 c217 c218 c219 c220 c221 c222 c223 c224 c225 c226 c227 c228 c229 c230 c231 c232 c233 c234 c235 c236 c237 c238 c239 c240 c241 c242 c243 c244 c245 c246 c247 c248 c249 c250 c251 c252 c253 c254 c255 c256 c257 c258 c259 c260 c261 c262 c263 c264 c265 c266 c267 c268 c269:Value} (wa:World) (hk0:0≤k) (hk:k≤5)
 (HIA:Hid (DoI w0 wa B p5 db jb5 mb5 rb s5 s5 v5 v6 v7)) (HU:Hid (Up s5)) (HAB:Hid (Blk wa ab 41 [.int .i64 kind,.int .i64 apw,.slice ac cs.length cc,strV key,.slice av val.length cv])) (HCA:Hid (ChgsAt wa w0.heap.size (.slice ac cs.length cc) cs∧RdB wa w0.heap.size (.slice av val.length cv) val)) (HA:Hid (ActP.Ok ⟨kind,apw,cs,key,val⟩))
 (HK:Hid (∀ (d4 d16 d17 d18 d19 d94 d95 d96 d97 d98 d99 d100 d101 d102 d103 d104 d105 d106 d107 d108 d109 d110 d111 d112 d113 d114 d115 d116 d117 d118 d119 d120 d121 d122 d123 d124 d125 d126 d127 d128 d129 d130 d131 d132 d133 d134 d135 d136 d137 d138 d139 d140 d141 d142 d143 d144 d145 d146 d147 d148 d149 d150 d151 d152 d153 d154 d155 d156 d157 d158 d159 d160 d161 d162 d163 d164 d165 d166 d167 d168 d169 d170 d171 d172 d173 d174 d175 d176 d177 d178 d179 d180 d181 d182 d183 d184 d185 d186 d187 d188 d189 d190 d191 d192 d193 d194 d195 d196 d197 d198 d199 d200 d201 d202 d203 d204 d205 d206 d207 d208 d209 d210 d211 d212 d213 d214 d215 d216 d217 d218 d219 d220 d221 d222 d223 d224 d225 d226 d227 d228 d229 d230 d231 d232 d233 d234 d235 d236 d237 d238 d239 d240 d241 d242 d243 d244 d245 d246 d247 d248 d249 d250 d251 d252 d253 d254 d255 d256 d257 d258 d259 d260 d261 d262 d263 d264 d265 d266 d267 d268 d269:Value) (w':World) (p6:Nat→Prop) (jb6 mb6:Nat) (s6:JS) (u5 u6 u7:Value) (e6:Int),DoI w0 w' B p6 db jb6 mb6 rb s6 s6 u5 u6 u7→Up s6→Blk w' ab 41 [.int .i64 kind,.int .i64 apw,.slice ac cs.length cc,strV key,.slice av val.length cv]→K ⟨#[c0,c1,c2,c3,d4,.pointer (some ⟨db,0,none⟩),c6,.pointer (some ⟨jb6,0,none⟩),c8,.pointer (some ⟨rb,0,none⟩),c10,c11,.pointer (some ⟨ab,0,none⟩),.int .i64 e6,.int .i64 e6,.int .i64 k,d16,d17,d18,d19,c20,c21,c22,c23,c24,c25,c26,c27,c28,c29,c30,c31,c32,c33,c34,c35,c36,c37,c38,c39,c40,c41,c42,c43,c44,c45,c46,c47,c48,c49,c50,c51,c52,c53,c54,c55,c56,c57,c58,c59,c60,c61,c62,c63,c64,c65,c66,c67,c68,c69,c70,c71,c72,c73,c74,c75,c76,c77,c78,c79,c80,c81,c82,c83,c84,c85,c86,c87,c88,c89,c90,c91,c92,.int .i64 k,d94,d95,d96,d97,d98,d99,d100,d101,d102,d103,d104,d105,d106,d107,d108,d109,d110,d111,d112,d113,d114,d115,d116,d117,d118,d119,d120,d121,d122,d123,d124,d125,d126,d127,d128,d129,d130,d131,d132,d133,d134,d135,d136,d137,d138,d139,d140,d141,d142,d143,d144,d145,d146,d147,d148,d149,d150,d151,d152,d153,d154,d155,d156,d157,d158,d159,d160,d161,d162,d163,d164,d165,d166,d167,d168,d169,d170,d171,d172,d173,d174,d175,d176,d177,d178,d179,d180,d181,d182,d183,d184,d185,d186,d187,d188,d189,d190,d191,d192,d193,d194,d195,d196,d197,d198,d199,d200,d201,d202,d203,d204,d205,d206,d207,d208,d209,d210,d211,d212,d213,d214,d215,d216,d217,d218,d219,d220,d221,d222,d223,d224,d225,d226,d227,d228,d229,d230,d231,d232,d233,d234,d235,d236,d237,d238,d239,d240,d241,d242,d243,d244,d245,d246,d247,d248,d249,d250,d251,d252,d253,d254,d255,d256,d257,d258,d259,d260,d261,d262,d263,d264,d265,d266,d267,d268,d269],[]⟩ w')) :
 Code.wp Tryz.prog cdB2 (Exit.then K Q') ⟨#[c0,c1,c2,c3,c4,.pointer (some ⟨db,0,none⟩),c6,.pointer (some ⟨jb5,0,none⟩),c8,.pointer (some ⟨rb,0,none⟩),c10,c11,.pointer (some ⟨ab,0,none⟩),c13,c14,.int .i64 k,c16,c17,c18,c19,c20,c21,c22,c23,c24,c25,c26,c27,c28,c29,c30,c31,c32,c33,c34,c35,c36,c37,c38,c39,c40,c41,c42,c43,c44,c45,c46,c47,c48,c49,c50,c51,c52,c53,c54,c55,c56,c57,c58,c59,c60,c61,c62,c63,c64,c65,c66,c67,c68,c69,c70,c71,c72,c73,c74,c75,c76,c77,c78,c79,c80,c81,c82,c83,c84,c85,c86,c87,c88,c89,c90,c91,c92,.int .i64 k,c94,c95,c96,c97,c98,c99,c100,c101,c102,c103,c104,c105,c106,c107,c108,c109,c110,c111,c112,c113,c114,c115,c116,c117,c118,c119,c120,c121,c122,c123,c124,c125,c126,c127,c128,c129,c130,c131,c132,c133,c134,c135,c136,c137,c138,c139,c140,c141,c142,c143,c144,c145,c146,c147,c148,c149,c150,c151,c152,c153,c154,c155,c156,c157,c158,c159,c160,c161,c162,c163,c164,c165,c166,c167,c168,c169,c170,c171,c172,c173,c174,c175,c176,c177,c178,c179,c180,c181,c182,c183,c184,c185,c186,c187,c188,c189,c190,c191,c192,c193,c194,c195,c196,c197,c198,c199,c200,c201,c202,c203,c204,c205,c206,c207,c208,c209,c210,c211,c212,c213,c214,c215,c216,c217,c218,c219,c220,c221,c222,c223,c224,c225,c226,c227,c228,c229,c230,c231,c232,c233,c234,c235,c236,c237,c238,c239,c240,c241,c242,c243,c244,c245,c246,c247,c248,c249,c250,c251,c252,c253,c254,c255,c256,c257,c258,c259,c260,c261,c262,c263,c264,c265,c266,c267,c268,c269],[]⟩ wa:=by
 conv=>arg 2; whnf
 obtain ⟨s0,d0,s1,d1,se,de,rfl,rfl,rfl⟩:=HIA.out.forms
 go_upto_if 117 with (fail)
 go_cut [117] from 117 to 269 (fun t wx=>t=.bool true∧wx=wa)
 case first=>
  rcases (show k=0∨k=1∨k=2∨k=3∨k=4∨k=5 by omega) with rfl | rfl | rfl | rfl | rfl | rfl
  all_goals
   go_wp2_with fail
   go_meet
   exact ⟨rfl,rfl⟩
 case rest=>
  obtain ⟨rfl,hw⟩:=hcut
  rw [← hw] at HIA HAB HCA
  clear hw
  generalize wc=wb0 at *
  have a2:=HAB.out.cell 2 (by simp)
  have a3:=HAB.out.cell 3 (by simp)
  have a4:=HAB.out.cell 4 (by simp)
  simp only [List.getD_cons_zero,List.getD_cons_succ] at a2 a3 a4
  have hsz0:=HIA.out.be.size
  go_upto_if 127 with (fail)
  go_cut [16] from 117 to 269 (fun cv wx=>∃ cs2:List Chg,(k ≠ 4∧cs2=cs∨k=4∧cs2=[⟨key,val,false⟩])∧ChgsAt wx wx.heap.size cv cs2∧Below wb0.heap.size wb0 wx)
  case first=>
   by_cases h4:k=4
   ·subst h4
    have HCH:=Lib.hid (chgs_oneAt wb0 key val (.slice av val.length cv) false (HCA.out.2.mono hsz0))
    have HAL:=Lib.hid ((Below.refl wb0.heap.size wb0).alloc (Nat.le_refl _) (.cells #[strV key,.slice av val.length cv,.bool false] 60))
    go_wp2_with fail
    go_meet
    exact ⟨_,Or.inr ⟨by first | rfl | trivial,rfl⟩,by have h:=HCH.out; exact h.raise (by simp),HAL.out⟩
   ·have h4b:(k == 4)=false:=by simp [h4]
    go_wp2_with fail
    go_meet
    exact ⟨cs,Or.inl ⟨h4,rfl⟩,HCA.out.1.raise hsz0,Below.refl _ _⟩
  case rest=>
   obtain ⟨csa,hka,hcha,hbla⟩:=hcut
   obtain ⟨ava,capa,rfl, -⟩:=id hcha
   have HIB0:=Lib.hid (HIA.out.below hbla)
   have HABB0:=Lib.hid (HAB.out.below hbla)
   have HCHA:=Lib.hid hcha
   have HKA:=Lib.hid hka
   clear a2 a3 a4 hcha hbla hka HIA HAB HCA hsz0
   generalize wc=wb1 at *
   have a3:=HABB0.out.cell 3 (by simp)
   simp only [List.getD_cons_zero,List.getD_cons_succ] at a3
   go_upto_if 135 with (fail)
   go_cut [16] from 117 to 269 (fun cv wx=>∃ cs2:List Chg,(k≤3∧cs2=cs∨k=4∧cs2=[⟨key,val,false⟩]∨k=5∧cs2=[⟨key,[],true⟩])∧ChgsAt wx wx.heap.size cv cs2∧Below wb1.heap.size wb1 wx)
   case first=>
    by_cases h5:k=5
    ·subst h5
     have HCH:=Lib.hid (chgs_oneAt wb1 key [] (.slice none 0 0) true (RdB.nil _ _))
     have HAL:=Lib.hid ((Below.refl wb1.heap.size wb1).alloc (Nat.le_refl _) (.cells #[strV key,.slice none 0 0,.bool true] 60))
     go_wp2_with fail
     go_meet
     exact ⟨_,Or.inr (Or.inr ⟨by first | rfl | trivial,rfl⟩),by have h:=HCH.out; exact h.raise (by simp),HAL.out⟩
    ·have h5b:(k == 5)=false:=by simp [h5]
     have HKB:Hid (k≤3∧csa=cs∨k=4∧csa=[⟨key,val,false⟩]∨k=5∧csa=[⟨key,[],true⟩]):=Lib.hid (by
      rcases HKA.out with ⟨h1,h2⟩ | ⟨h1,h2⟩
      ·exact Or.inl ⟨by omega,h2⟩
      ·exact Or.inr (Or.inl ⟨h1,h2⟩))
     go_wp2_with fail
     go_meet
     exact ⟨_,HKB.out,HCHA.out,Below.refl _ _⟩
   case rest=>
    obtain ⟨cs2,hkk,hch2,hbl2⟩:=hcut
    obtain ⟨av2,cap2,rfl, -⟩:=id hch2
    have HIB:=Lib.hid (HIB0.out.below hbl2)
    have HABB:=Lib.hid (HABB0.out.below hbl2)
    have HCS:=Lib.hid hch2
    have HKK:=Lib.hid hkk
    have HCB:Hid (∀ c ∈ cs2,c.key.length≤1000000∧c.val.length≤1000000):=Lib.hid (by
     rcases hkk with ⟨_,rfl⟩ | ⟨_,rfl⟩ | ⟨_,rfl⟩
     ·exact HA.out.cs
     ·intro c hc
      obtain rfl:c=⟨key,val,false⟩:=by simpa using hc
      exact ⟨HA.out.key,HA.out.val⟩
     ·intro c hc
      obtain rfl:c=⟨key,[],true⟩:=by simpa using hc
      exact ⟨HA.out.key,Nat.zero_le _⟩)
    have hcn:cs2.length≤1000:=by
     rcases hkk with ⟨_,rfl⟩ | ⟨_,rfl⟩ | ⟨_,rfl⟩
     ·exact HA.out.n
     ·simp
     ·simp
    clear a3 hch2 hbl2 hkk HIB0 HABB0 HCHA HKA
    generalize wc=wb at *
    go_upto_region 31 with (fail)
    refine does31 wb HIB HU HABB HCS HCB hcn (Lib.hid ?_)
    rintro d140 d141 d142 d143 d144 d145 d146 wm ⟨t0,f0,t1,f1,te,fe,hI31,hA31,hC31⟩
    have HI31:=Lib.hid hI31
    have HA31:=Lib.hid hA31
    have HC31:=Lib.hid hC31
    have HDC:=Lib.hid hI31.doC
    have HPB:Hid (∀ g,p5 g→g < wm.heap.size):=Lib.hid (fun g hg=>(hI31.jz.lie g hg).2)
    have HKL:Hid (key.length≤1000000∧val.length≤1000000):=Lib.hid ⟨HA.out.key,HA.out.val⟩
    clear hI31 hA31 hC31 HIB HABB HCS
    go_upto_block 3 with (fail)
    refine doesB3 (w0:=w0) (B:=B) (p5:=p5) (mb5:=mb5) (kind:=kind) (apw:=apw) (ac:=ac) (av:=av) (cs:=cs) (cc:=cc) (cv:=cv) (key:=key) (val:=val) wm HC31 HCB hcn (Lib.hid ?_)
    intro iv d18 d147 d148 d149 d150 d151 d152 d153 d154 d155 d156 d157 d158 d159 d160 d161 d162 d163 d164 d165 d166 d167 d168 d169 d170 d171 d172 wr2 xs hxs hr2 hbw
    obtain ⟨ai,ci,rfl, -⟩:=hr2.cells
    have HXM:=Lib.hid hxs
    have HR2:=Lib.hid hr2
    have HI9:=Lib.hid (HI31.out.below hbw)
    have HD9:=Lib.hid (HDC.out.below hbw)
    have HA9:=Lib.hid (HA31.out.below hbw)
    have HC9:=Lib.hid (HC31.out.below hbw)
    have HBC:Hid (B≤wm.heap.size):=Lib.hid (Nat.le_of_lt HI31.out.jz.size)
    clear hxs hr2 hbw HI31 HDC HA31 HC31
    go_upto_block 5 with (fail)
    refine doesB5 wr2 hk0 hk HKK HKL HA9 HI9 HR2 HXM HCB hcn (Lib.hid ?_)
    intro d174 d175 d176 d177 d178 d179 d180 d181 d182 d183 d184 d185 d186 d187 d188 d189 d190 d191 d192 wm3 hact
    obtain ⟨⟨p8,hp8,hj8⟩,hg8⟩:=hact
    have HI10:=Lib.hid (HI9.out.act hj8 hp8 hg8)
    have HD10:=Lib.hid (HD9.out.act HI9.out.jz hg8)
    have HT10:=Lib.hid (HR2.out.act HI9.out.jz hg8).t
    have HC10:=Lib.hid (HC9.out.act HI9.out.jz hg8)
    have HA10:=Lib.hid (HI9.out.other HA9.out (by decide) (by decide) hg8)
    have HNP:Hid (∀ x ∈ xs,¬ p8 x.2):=Lib.hid (fun x hx hp=>by
     have h1:=HR2.out.lent x hx
     have h2:=Blk.lt h1.2
     rcases hp8 _ hp with h3 | h3
     ·have:=HPB.out _ h3; have:=h1.1; omega
     ·omega)
    clear hj8 hg8 hp8 HI9 HD9 HR2 HC9 HA9 HPB
    go_upto_block 6 with (fail)
    refine wp_then (doesB6 (p5:=p5) wm3 HI10 HD10 HT10 HC10 HXM HCB hcn HBC HNP HA10 (Lib.hid ?_))
    intro d4 d19 d193 d194 d195 d196 d197 d198 d199 d200 d201 d202 d203 d204 d205 d206 d207 d208 d209 d210 d211 d212 d213 d214 d215 d216 d217 d218 d219 d220 d221 d222 d223 d224 d225 d226 d227 d228 d229 d230 d231 d232 d233 d234 d235 d236 d237 d238 d239 d240 d241 d242 wm4 hI hA2
    have HF:=Lib.hid (And.intro hI hA2)
    clear hI hA2
    go_wp2_with fail
    exact HK.out _ _ _ _ _ _ _ _ _ _ _ _ _ _ _ _ _ _ _ _ _ _ _ _ _ _ _ _ _ _ _ _ _ _ _ _ _ _ _ _ _ _ _ _ _ _ _ _ _ _ _ _ _ _ _ _ _ _ _ _ _ _ _ _ _ _ _ _ _ _ _ _ _ _ _ _ _ _ _ _ _ _ _ _ _ _ _ _ _ _ _ _ _ _ _ _ _ _ _ _ _ _ _ _ _ _ _ _ _ _ _ _ _ _ _ _ _ _ _ _ _ _ _ _ _ _ _ _ _ _ _ _ _ _ _ _ _ _ _ _ _ _ _ _ _ _ _ _ _ _ _ _ _ _ _ _ _ _ _ _ _ _ _ _ _ _ _ _ _ _ _ _ _ _ _ _ _ _ _ _ _ _ _ _ _ _ _ _ _ _ HF.out.1 (HU.out.commit cs2) HF.out.2
end
section
open Go.RowKit SeedP Go.Maps
set_option linter.unusedVariables false
theorem jCompactOp_ents (s:JS):(jCompactOp s).1.c.ents=s.c.ents:=by
 unfold jCompactOp
 split
 ·rfl
 split
 ·rfl
 unfold jPowered
 split
 ·exact jCompact_ents s
 ·exact jCompact_ents s
set_option maxRecDepth 1000000 in
set_option maxHeartbeats 16000000 in
theorem doesB2c {K:Act→World→Prop} {Q':Exit→Act→World→Prop} {w0:World} {B:Nat} {p5:Nat→Prop} {db jb5 mb5 rb ab:Nat} {s5:JS} {v5 v6 v7:Value} {kind apw:Int} {ac av:Option Addr} {cs:List Chg} {cc cv:Nat} {key val:List UInt8} {c0 c1 c2 c3 c4 c6 c8 c10 c11 c13 c14 c16 c17 c18 c19 c20 c21 c22 c23 c24 c25 c26 c27 c28 c29 c30 c31 c32 c33 c34 c35 c36 c37 c38 c39 c40 c41 c42 c43 c44 c45 c46 c47 c48 c49 c50 c51 c52 c53 c54 c55 c56 c57 c58 c59 c60 c61 c62 c63 c64 c65 c66 c67 c68 c69 c70 c71 c72 c73 c74 c75 c76 c77 c78 c79 c80 c81 c82 c83 c84 c85 c86 c87 c88 c89 c90 c91 c92 c94 c95 c96 c97 c98 c99 c100 c101 c102 c103 c104 c105 c106 c107 c108 c109 c110 c111 c112 c113 c114 c115 c116 c117 c118 c119 c120 c121 c122 c123 c124 c125 c126 c127 c128 c129 c130 c131 c132 c133 c134 c135 c136 c137 c138 c139 c140 c141 c142 c143 c144 c145 c146 c147 c148 c149 c150 c151 c152 c153 c154 c155 c156 c157 c158 c159 c160 c161 c162 c163 c164 c165 c166 c167 c168 c169 c170 c171 c172 c173 c174 c175 c176 c177 c178 c179 c180 c181 c182 c183 c184 c185 c186 c187 c188 c189 c190 c191 c192 c193 c194 c195 c196 c197 c198 c199 c200 c201 c202 c203 c204 c205 c206 c207 c208 c209 c210 c211 c212 c213 c214 c215 c216 c217 c218 c219 c220 c221 c222 c223 c224 c225 c226 c227 c228 c229 c230 c231 c232 c233 c234 c235 c236 c237 c238 c239 c240 c241 c242 c243 c244 c245 c246 c247 c248 c249 c250 c251 c252 c253 c254 c255 c256 c257 c258 c259 c260 c261 c262 c263 c264 c265 c266 c267 c268 c269:Value} (wa:World)
 (HIA:Hid (DoI w0 wa B p5 db jb5 mb5 rb s5 s5 v5 v6 v7)) (HU:Hid (Up s5)) (HAB:Hid (Blk wa ab 41 [.int .i64 kind,.int .i64 apw,.slice ac cs.length cc,strV key,.slice av val.length cv])) (HCA:Hid (ChgsAt wa w0.heap.size (.slice ac cs.length cc) cs∧RdB wa w0.heap.size (.slice av val.length cv) val)) (HA:Hid (ActP.Ok ⟨kind,apw,cs,key,val⟩))
 (HK:Hid (∀ (d4 d16 d17 d18 d19 d94 d95 d96 d97 d98 d99 d100 d101 d102 d103 d104 d105 d106 d107 d108 d109 d110 d111 d112 d113 d114 d115 d116 d117 d118 d119 d120 d121 d122 d123 d124 d125 d126 d127 d128 d129 d130 d131 d132 d133 d134 d135 d136 d137 d138 d139 d140 d141 d142 d143 d144 d145 d146 d147 d148 d149 d150 d151 d152 d153 d154 d155 d156 d157 d158 d159 d160 d161 d162 d163 d164 d165 d166 d167 d168 d169 d170 d171 d172 d173 d174 d175 d176 d177 d178 d179 d180 d181 d182 d183 d184 d185 d186 d187 d188 d189 d190 d191 d192 d193 d194 d195 d196 d197 d198 d199 d200 d201 d202 d203 d204 d205 d206 d207 d208 d209 d210 d211 d212 d213 d214 d215 d216 d217 d218 d219 d220 d221 d222 d223 d224 d225 d226 d227 d228 d229 d230 d231 d232 d233 d234 d235 d236 d237 d238 d239 d240 d241 d242 d243 d244 d245 d246 d247 d248 d249 d250 d251 d252 d253 d254 d255 d256 d257 d258 d259 d260 d261 d262 d263 d264 d265 d266 d267 d268 d269:Value) (w':World) (p6:Nat→Prop) (jb6 mb6:Nat) (s6:JS) (u5 u6 u7:Value) (e6:Int),DoI w0 w' B p6 db jb6 mb6 rb s6 s6 u5 u6 u7→Up s6→Blk w' ab 41 [.int .i64 kind,.int .i64 apw,.slice ac cs.length cc,strV key,.slice av val.length cv]→K ⟨#[c0,c1,c2,c3,d4,.pointer (some ⟨db,0,none⟩),c6,.pointer (some ⟨jb6,0,none⟩),c8,.pointer (some ⟨rb,0,none⟩),c10,c11,.pointer (some ⟨ab,0,none⟩),.int .i64 e6,.int .i64 e6,.int .i64 6,d16,d17,d18,d19,c20,c21,c22,c23,c24,c25,c26,c27,c28,c29,c30,c31,c32,c33,c34,c35,c36,c37,c38,c39,c40,c41,c42,c43,c44,c45,c46,c47,c48,c49,c50,c51,c52,c53,c54,c55,c56,c57,c58,c59,c60,c61,c62,c63,c64,c65,c66,c67,c68,c69,c70,c71,c72,c73,c74,c75,c76,c77,c78,c79,c80,c81,c82,c83,c84,c85,c86,c87,c88,c89,c90,c91,c92,.int .i64 6,d94,d95,d96,d97,d98,d99,d100,d101,d102,d103,d104,d105,d106,d107,d108,d109,d110,d111,d112,d113,d114,d115,d116,d117,d118,d119,d120,d121,d122,d123,d124,d125,d126,d127,d128,d129,d130,d131,d132,d133,d134,d135,d136,d137,d138,d139,d140,d141,d142,d143,d144,d145,d146,d147,d148,d149,d150,d151,d152,d153,d154,d155,d156,d157,d158,d159,d160,d161,d162,d163,d164,d165,d166,d167,d168,d169,d170,d171,d172,d173,d174,d175,d176,d177,d178,d179,d180,d181,d182,d183,d184,d185,d186,d187,d188,d189,d190,d191,d192,d193,d194,d195,d196,d197,d198,d199,d200,d201,d202,d203,d204,d205,d206,d207,d208,d209,d210,d211,d212,d213,d214,d215,d216,d217,d218,d219,d220,d221,d222,d223,d224,d225,d226,d227,d228,d229,d230,d231,d232,d233,d234,d235,d236,d237,d238,d239,d240,d241,d242,d243,d244,d245,d246,d247,d248,d249,d250,d251,d252,d253,d254,d255,d256,d257,d258,d259,d260,d261,d262,d263,d264,d265,d266,d267,d268,d269],[]⟩ w')) :
 Code.wp Tryz.prog cdB2 (Exit.then K Q') ⟨#[c0,c1,c2,c3,c4,.pointer (some ⟨db,0,none⟩),c6,.pointer (some ⟨jb5,0,none⟩),c8,.pointer (some ⟨rb,0,none⟩),c10,c11,.pointer (some ⟨ab,0,none⟩),c13,c14,.int .i64 6,c16,c17,c18,c19,c20,c21,c22,c23,c24,c25,c26,c27,c28,c29,c30,c31,c32,c33,c34,c35,c36,c37,c38,c39,c40,c41,c42,c43,c44,c45,c46,c47,c48,c49,c50,c51,c52,c53,c54,c55,c56,c57,c58,c59,c60,c61,c62,c63,c64,c65,c66,c67,c68,c69,c70,c71,c72,c73,c74,c75,c76,c77,c78,c79,c80,c81,c82,c83,c84,c85,c86,c87,c88,c89,c90,c91,c92,.int .i64 6,c94,c95,c96,c97,c98,c99,c100,c101,c102,c103,c104,c105,c106,c107,c108,c109,c110,c111,c112,c113,c114,c115,c116,c117,c118,c119,c120,c121,c122,c123,c124,c125,c126,c127,c128,c129,c130,c131,c132,c133,c134,c135,c136,c137,c138,c139,c140,c141,c142,c143,c144,c145,c146,c147,c148,c149,c150,c151,c152,c153,c154,c155,c156,c157,c158,c159,c160,c161,c162,c163,c164,c165,c166,c167,c168,c169,c170,c171,c172,c173,c174,c175,c176,c177,c178,c179,c180,c181,c182,c183,c184,c185,c186,c187,c188,c189,c190,c191,c192,c193,c194,c195,c196,c197,c198,c199,c200,c201,c202,c203,c204,c205,c206,c207,c208,c209,c210,c211,c212,c213,c214,c215,c216,c217,c218,c219,c220,c221,c222,c223,c224,c225,c226,c227,c228,c229,c230,c231,c232,c233,c234,c235,c236,c237,c238,c239,c240,c241,c242,c243,c244,c245,c246,c247,c248,c249,c250,c251,c252,c253,c254,c255,c256,c257,c258,c259,c260,c261,c262,c263,c264,c265,c266,c267,c268,c269],[]⟩ wa:=by
 conv=>arg 2; whnf
 obtain ⟨s0,d0,s1,d1,se,de,rfl,rfl,rfl⟩:=HIA.out.forms
 have HCO:=Lib.hid (compact_z HIA.out.jz)
 go_wp2_with fail
 refine HCO.out.mono ?_
 rintro e w8 ⟨rfl,hj8,hg8⟩
 have HI8:=Lib.hid (HIA.out.act hj8 (fun g hg=>hg.1) hg8)
 have HAB8:=Lib.hid (HIA.out.other HAB.out (by decide) (by decide) hg8)
 have HRC:=Lib.hid (rcompact_c s5 _ _ _ w8 HI8.out.rd HI8.out.en HIA.out.jz.jw.ok)
 obtain ⟨k0,k1,k2,k3,k4,k5,k6,k7,k8,kf⟩:=rb_of HI8.out.rbk
 clear hj8 hg8 HCO
 go_wp2_with fail
 refine HRC.out.mono ?_
 rintro e w9 ⟨⟨y0,y1,rfl,hrd9⟩,hb9⟩
 obtain ⟨t0,f0,t1,f1,rfl,rfl⟩:=hrd9.slices
 have HI9:=Lib.hid (HI8.out.below hb9)
 have HAB9:=Lib.hid (HAB8.out.below hb9)
 have hec:(jCompactOp s5).1.c.ents=s5.c.ents:=jCompactOp_ents s5
 have hecl:=congrArg List.length hec
 have HST:=Lib.hid (HI9.out.store (r':=(jCompactOp s5).1) (ae:=se) (n:=s5.c.ents.length) (ce:=de) hrd9 (by rw [hec]; exact HI9.out.en))
 have HAB10:=Lib.hid (HAB9.out.grown (set9_grown w9 rb (.int .i64 (jCompactOp s5).1.d.pw) (.slice t0 (jCompactOp s5).1.d.f0.length f0) (.slice t1 (jCompactOp s5).1.d.f1.length f1) (.slice se s5.c.ents.length de) (.int .i64 (jCompactOp s5).1.c.gen) (.int .i64 (rFl (jCompactOp s5).1)) (.int .i64 (jCompactOp s5).1.c.ed) (.int .u64 (jCompactOp s5).1.c.sum) (.bool (jCompactOp s5).1.down)) (fun e=>by subst e; exact absurd (HAB9.out.type HI9.out.rbk) (by decide)))
 have HU2:=Lib.hid HU.out.compact
 obtain ⟨k0,k1,k2,k3,k4,k5,k6,k7,k8,kf⟩:=rb_of HI9.out.rbk
 have kf0:=kf 0
 have kf1:=kf 1
 have kf2:=kf 2
 have kf3:=kf 3
 have kf4:=kf 4
 have kf5:=kf 5
 have kf6:=kf 6
 have kf7:=kf 7
 have kf8:=kf 8
 clear hrd9 hb9 HRC hec hecl kf HI8 HAB8 HAB9 HI9
 generalize jCompactOp s5=s6 at *
 go_wp2_with fail
 exact HK.out _ _ _ _ _ _ _ _ _ _ _ _ _ _ _ _ _ _ _ _ _ _ _ _ _ _ _ _ _ _ _ _ _ _ _ _ _ _ _ _ _ _ _ _ _ _ _ _ _ _ _ _ _ _ _ _ _ _ _ _ _ _ _ _ _ _ _ _ _ _ _ _ _ _ _ _ _ _ _ _ _ _ _ _ _ _ _ _ _ _ _ _ _ _ _ _ _ _ _ _ _ _ _ _ _ _ _ _ _ _ _ _ _ _ _ _ _ _ _ _ _ _ _ _ _ _ _ _ _ _ _ _ _ _ _ _ _ _ _ _ _ _ _ _ _ _ _ _ _ _ _ _ _ _ _ _ _ _ _ _ _ _ _ _ _ _ _ _ _ _ _ _ _ _ _ _ _ _ _ _ _ (set9 w9 rb (.int .i64 s6.1.d.pw) (.slice t0 s6.1.d.f0.length f0) (.slice t1 s6.1.d.f1.length f1) (.slice se s5.c.ents.length de) (.int .i64 s6.1.c.gen) (.int .i64 (rFl s6.1)) (.int .i64 s6.1.c.ed) (.int .u64 s6.1.c.sum) (.bool s6.1.down)) _ _ _ _ _ _ _ _ HST.out HU2.out HAB10.out
set_option maxRecDepth 1000000 in
set_option maxHeartbeats 16000000 in
theorem doesB2o {K:Act→World→Prop} {Q':Exit→Act→World→Prop} {w0:World} {B:Nat} {p5:Nat→Prop} {db jb5 mb5 rb ab:Nat} {s5:JS} {v5 v6 v7:Value} {kind apw:Int} {ac av:Option Addr} {cs:List Chg} {cc cv:Nat} {key val:List UInt8} {c0 c1 c2 c3 c4 c6 c8 c10 c11 c13 c14 c16 c17 c18 c19 c20 c21 c22 c23 c24 c25 c26 c27 c28 c29 c30 c31 c32 c33 c34 c35 c36 c37 c38 c39 c40 c41 c42 c43 c44 c45 c46 c47 c48 c49 c50 c51 c52 c53 c54 c55 c56 c57 c58 c59 c60 c61 c62 c63 c64 c65 c66 c67 c68 c69 c70 c71 c72 c73 c74 c75 c76 c77 c78 c79 c80 c81 c82 c83 c84 c85 c86 c87 c88 c89 c90 c91 c92 c94 c95 c96 c97 c98 c99 c100 c101 c102 c103 c104 c105 c106 c107 c108 c109 c110 c111 c112 c113 c114 c115 c116 c117 c118 c119 c120 c121 c122 c123 c124 c125 c126 c127 c128 c129 c130 c131 c132 c133 c134 c135 c136 c137 c138 c139 c140 c141 c142 c143 c144 c145 c146 c147 c148 c149 c150 c151 c152 c153 c154 c155 c156 c157 c158 c159 c160 c161 c162 c163 c164 c165 c166 c167 c168 c169 c170 c171 c172 c173 c174 c175 c176 c177 c178 c179 c180 c181 c182 c183 c184 c185 c186 c187 c188 c189 c190 c191 c192 c193 c194 c195 c196 c197 c198 c199 c200 c201 c202 c203 c204 c205 c206 c207 c208 c209 c210 c211 c212 c213 c214 c215 c216 c217 c218 c219 c220 c221 c222 c223 c224 c225 c226 c227 c228 c229 c230 c231 c232 c233 c234 c235 c236 c237 c238 c239 c240 c241 c242 c243 c244 c245 c246 c247 c248 c249 c250 c251 c252 c253 c254 c255 c256 c257 c258 c259 c260 c261 c262 c263 c264 c265 c266 c267 c268 c269:Value} (wa:World)
 (HIA:Hid (DoI w0 wa B p5 db jb5 mb5 rb s5 s5 v5 v6 v7)) (HU:Hid (Up s5)) (HAB:Hid (Blk wa ab 41 [.int .i64 kind,.int .i64 apw,.slice ac cs.length cc,strV key,.slice av val.length cv])) (HCA:Hid (ChgsAt wa w0.heap.size (.slice ac cs.length cc) cs∧RdB wa w0.heap.size (.slice av val.length cv) val)) (HA:Hid (ActP.Ok ⟨kind,apw,cs,key,val⟩))
 (HK:Hid (∀ (d4 d16 d17 d18 d19 d94 d95 d96 d97 d98 d99 d100 d101 d102 d103 d104 d105 d106 d107 d108 d109 d110 d111 d112 d113 d114 d115 d116 d117 d118 d119 d120 d121 d122 d123 d124 d125 d126 d127 d128 d129 d130 d131 d132 d133 d134 d135 d136 d137 d138 d139 d140 d141 d142 d143 d144 d145 d146 d147 d148 d149 d150 d151 d152 d153 d154 d155 d156 d157 d158 d159 d160 d161 d162 d163 d164 d165 d166 d167 d168 d169 d170 d171 d172 d173 d174 d175 d176 d177 d178 d179 d180 d181 d182 d183 d184 d185 d186 d187 d188 d189 d190 d191 d192 d193 d194 d195 d196 d197 d198 d199 d200 d201 d202 d203 d204 d205 d206 d207 d208 d209 d210 d211 d212 d213 d214 d215 d216 d217 d218 d219 d220 d221 d222 d223 d224 d225 d226 d227 d228 d229 d230 d231 d232 d233 d234 d235 d236 d237 d238 d239 d240 d241 d242 d243 d244 d245 d246 d247 d248 d249 d250 d251 d252 d253 d254 d255 d256 d257 d258 d259 d260 d261 d262 d263 d264 d265 d266 d267 d268 d269:Value) (w':World) (p6:Nat→Prop) (jb6 mb6:Nat) (s6:JS) (u5 u6 u7:Value) (e6:Int),DoI w0 w' B p6 db jb6 mb6 rb s6 s6 u5 u6 u7→Up s6→Blk w' ab 41 [.int .i64 kind,.int .i64 apw,.slice ac cs.length cc,strV key,.slice av val.length cv]→K ⟨#[c0,c1,c2,c3,d4,.pointer (some ⟨db,0,none⟩),c6,.pointer (some ⟨jb6,0,none⟩),c8,.pointer (some ⟨rb,0,none⟩),c10,c11,.pointer (some ⟨ab,0,none⟩),.int .i64 e6,.int .i64 e6,.int .i64 7,d16,d17,d18,d19,c20,c21,c22,c23,c24,c25,c26,c27,c28,c29,c30,c31,c32,c33,c34,c35,c36,c37,c38,c39,c40,c41,c42,c43,c44,c45,c46,c47,c48,c49,c50,c51,c52,c53,c54,c55,c56,c57,c58,c59,c60,c61,c62,c63,c64,c65,c66,c67,c68,c69,c70,c71,c72,c73,c74,c75,c76,c77,c78,c79,c80,c81,c82,c83,c84,c85,c86,c87,c88,c89,c90,c91,c92,.int .i64 7,d94,d95,d96,d97,d98,d99,d100,d101,d102,d103,d104,d105,d106,d107,d108,d109,d110,d111,d112,d113,d114,d115,d116,d117,d118,d119,d120,d121,d122,d123,d124,d125,d126,d127,d128,d129,d130,d131,d132,d133,d134,d135,d136,d137,d138,d139,d140,d141,d142,d143,d144,d145,d146,d147,d148,d149,d150,d151,d152,d153,d154,d155,d156,d157,d158,d159,d160,d161,d162,d163,d164,d165,d166,d167,d168,d169,d170,d171,d172,d173,d174,d175,d176,d177,d178,d179,d180,d181,d182,d183,d184,d185,d186,d187,d188,d189,d190,d191,d192,d193,d194,d195,d196,d197,d198,d199,d200,d201,d202,d203,d204,d205,d206,d207,d208,d209,d210,d211,d212,d213,d214,d215,d216,d217,d218,d219,d220,d221,d222,d223,d224,d225,d226,d227,d228,d229,d230,d231,d232,d233,d234,d235,d236,d237,d238,d239,d240,d241,d242,d243,d244,d245,d246,d247,d248,d249,d250,d251,d252,d253,d254,d255,d256,d257,d258,d259,d260,d261,d262,d263,d264,d265,d266,d267,d268,d269],[]⟩ w')) :
 Code.wp Tryz.prog cdB2 (Exit.then K Q') ⟨#[c0,c1,c2,c3,c4,.pointer (some ⟨db,0,none⟩),c6,.pointer (some ⟨jb5,0,none⟩),c8,.pointer (some ⟨rb,0,none⟩),c10,c11,.pointer (some ⟨ab,0,none⟩),c13,c14,.int .i64 7,c16,c17,c18,c19,c20,c21,c22,c23,c24,c25,c26,c27,c28,c29,c30,c31,c32,c33,c34,c35,c36,c37,c38,c39,c40,c41,c42,c43,c44,c45,c46,c47,c48,c49,c50,c51,c52,c53,c54,c55,c56,c57,c58,c59,c60,c61,c62,c63,c64,c65,c66,c67,c68,c69,c70,c71,c72,c73,c74,c75,c76,c77,c78,c79,c80,c81,c82,c83,c84,c85,c86,c87,c88,c89,c90,c91,c92,.int .i64 7,c94,c95,c96,c97,c98,c99,c100,c101,c102,c103,c104,c105,c106,c107,c108,c109,c110,c111,c112,c113,c114,c115,c116,c117,c118,c119,c120,c121,c122,c123,c124,c125,c126,c127,c128,c129,c130,c131,c132,c133,c134,c135,c136,c137,c138,c139,c140,c141,c142,c143,c144,c145,c146,c147,c148,c149,c150,c151,c152,c153,c154,c155,c156,c157,c158,c159,c160,c161,c162,c163,c164,c165,c166,c167,c168,c169,c170,c171,c172,c173,c174,c175,c176,c177,c178,c179,c180,c181,c182,c183,c184,c185,c186,c187,c188,c189,c190,c191,c192,c193,c194,c195,c196,c197,c198,c199,c200,c201,c202,c203,c204,c205,c206,c207,c208,c209,c210,c211,c212,c213,c214,c215,c216,c217,c218,c219,c220,c221,c222,c223,c224,c225,c226,c227,c228,c229,c230,c231,c232,c233,c234,c235,c236,c237,c238,c239,c240,c241,c242,c243,c244,c245,c246,c247,c248,c249,c250,c251,c252,c253,c254,c255,c256,c257,c258,c259,c260,c261,c262,c263,c264,c265,c266,c267,c268,c269],[]⟩ wa:=by
 conv=>arg 2; whnf
 obtain ⟨z,hzd,hz0,hz1⟩:∃ z:Int,max (-1) apw=z∧ -1≤z∧z≤9223372036854775807:=⟨_,rfl,by omega,by have h:apw≤9223372036854775807:=HA.out.pw1; omega⟩
 obtain ⟨s0,d0,s1,d1,se,de,rfl,rfl,rfl⟩:=HIA.out.forms
 have HDP:=Lib.hid (HIA.out.power z)
 have HABP:Hid (Blk (wa.setCell ⟨db,0,none⟩ (.int .i64 z)) ab 41 [.int .i64 kind,.int .i64 apw,.slice ac cs.length cc,strV key,.slice av val.length cv]):=Lib.hid (HAB.out.grown (Grown.setCell (S:=fun k=>k=db) (Grown.refl _ _) (a:=⟨db,0,none⟩) rfl _) (fun e=>by have h:=HIA.out.jz.jw.other HAB.out (by decide) (by decide); exact h.2.1 e))
 obtain ⟨_,_,_,_,j0,_,_,_,_,jf⟩:=HIA.out.jz.dz.cells
 have jf0:=jf 0
 have a1:=HAB.out.cell 1 (by simp)
 have HFS:Hid (DS.Ok ⟨z,s5.d.f0,s5.d.f1⟩):=Lib.hid ⟨hz0,hz1,HIA.out.jz.jw.ok.f0,HIA.out.jz.jw.ok.f1⟩
 simp only [List.getD_cons_zero,List.getD_cons_succ] at a1
 clear jf
 go_upto_region 17 with (fail)
 change Code.wp _ _ _ _ (wa.setCell ⟨db,0,none⟩ (.int .i64 z))
 clear HIA j0 jf0 a1 hzd hz0 hz1
 generalize wa.setCell ⟨db,0,none⟩ (.int .i64 z)=w8 at *
 obtain ⟨_,_,_,_,j0,_,_,_,_,_⟩:=HDP.out.dz.cells
 obtain ⟨k0,k1,k2,k3,k4,k5,k6,k7,k8,kf⟩:=rb_of HDP.out.rbk
 have kf0:=kf 0
 have HDR:=Lib.hid (HDP.out.rpower z)
 have HABR:Hid (Blk (w8.setCell ⟨rb,0,none⟩ (.int .i64 z)) ab 41 [.int .i64 kind,.int .i64 apw,.slice ac cs.length cc,strV key,.slice av val.length cv]):=Lib.hid (HABP.out.grown (Grown.setCell (S:=fun k=>k=rb) (Grown.refl _ _) (a:=⟨rb,0,none⟩) rfl _) (fun e=>by subst e; exact absurd (HABP.out.type HDP.out.rbk) (by decide)))
 clear kf HDP HABP
 go_upto_region 18 with (fail)
 change Code.wp _ _ _ _ (w8.setCell ⟨rb,0,none⟩ (.int .i64 z))
 generalize w8.setCell ⟨rb,0,none⟩ (.int .i64 z)=w9 at *
 clear j0 k0 k1 k2 k3 k4 k5 k6 k7 k8 kf0
 have HUO:=Lib.hid (Up.open HFS.out)
 have HOP:=Lib.hid (open_z HDR.out.dz HFS.out)
 go_wp2_with fail
 refine HOP.out.mono ?_
 rintro e w10 ⟨jb2,mb2,rfl, -, -,⟨p7,hp7,hj7⟩,hb10⟩
 have HI10:=Lib.hid (HDR.out.opened hp7 hj7 hb10)
 have HAB10:=Lib.hid (HABR.out.below hb10)
 obtain ⟨k0,k1,k2,k3,k4,k5,k6,k7,k8,kf⟩:=rb_of HI10.out.rbk
 have HRO:=Lib.hid (ropen_c ⟨z,s5.d.f0,s5.d.f1⟩ _ _ w10 HI10.out.rd HFS.out)
 clear hp7 hj7 hb10 HOP HDR HABR kf
 go_wp2_with fail
 refine HRO.out.mono ?_
 rintro e w11 ⟨⟨ae2,ce2,rfl,hen⟩,hb11⟩
 have HI11:=Lib.hid (HI10.out.below hb11)
 have HAB11:=Lib.hid (HAB10.out.below hb11)
 have HRD11:=Lib.hid (HI10.out.rd.below hb11)
 have HST:=Lib.hid (HI11.out.store (r':=jOpen ⟨z,s5.d.f0,s5.d.f1⟩) HRD11.out hen)
 have HAB12:=Lib.hid (HAB11.out.grown (set9_grown w11 rb (.int .i64 z) (.slice s0 s5.d.f0.length d0) (.slice s1 s5.d.f1.length d1) (.slice ae2 (jOpen ⟨z,s5.d.f0,s5.d.f1⟩).c.ents.length ce2) (.int .i64 (jOpen ⟨z,s5.d.f0,s5.d.f1⟩).c.gen) (.int .i64 (rFl (jOpen ⟨z,s5.d.f0,s5.d.f1⟩))) (.int .i64 (jOpen ⟨z,s5.d.f0,s5.d.f1⟩).c.ed) (.int .u64 (jOpen ⟨z,s5.d.f0,s5.d.f1⟩).c.sum) (.bool false)) (fun e=>by subst e; exact absurd (HAB11.out.type HI11.out.rbk) (by decide)))
 obtain ⟨k0,k1,k2,k3,k4,k5,k6,k7,k8,kf⟩:=rb_of HI11.out.rbk
 have kf0:=kf 0
 have kf1:=kf 1
 have kf2:=kf 2
 have kf3:=kf 3
 have kf4:=kf 4
 have kf5:=kf 5
 have kf6:=kf 6
 have kf7:=kf 7
 have kf8:=kf 8
 have HSD:Hid ((jOpen ⟨z,s5.d.f0,s5.d.f1⟩).d=⟨z,s5.d.f0,s5.d.f1⟩∧(jOpen ⟨z,s5.d.f0,s5.d.f1⟩).down=false):=Lib.hid ⟨rfl,rfl⟩
 rw [HSD.out.1,HSD.out.2] at HST
 clear hen hb11 HRO kf HI10 HAB10 HAB11 HI11 HRD11 HSD
 generalize jOpen ⟨z,s5.d.f0,s5.d.f1⟩=s6 at *
 go_wp2_with fail
 exact HK.out _ _ _ _ _ _ _ _ _ _ _ _ _ _ _ _ _ _ _ _ _ _ _ _ _ _ _ _ _ _ _ _ _ _ _ _ _ _ _ _ _ _ _ _ _ _ _ _ _ _ _ _ _ _ _ _ _ _ _ _ _ _ _ _ _ _ _ _ _ _ _ _ _ _ _ _ _ _ _ _ _ _ _ _ _ _ _ _ _ _ _ _ _ _ _ _ _ _ _ _ _ _ _ _ _ _ _ _ _ _ _ _ _ _ _ _ _ _ _ _ _ _ _ _ _ _ _ _ _ _ _ _ _ _ _ _ _ _ _ _ _ _ _ _ _ _ _ _ _ _ _ _ _ _ _ _ _ _ _ _ _ _ _ _ _ _ _ _ _ _ _ _ _ _ _ _ _ _ _ _ _ (set9 w11 rb (.int .i64 z) (.slice s0 s5.d.f0.length d0) (.slice s1 s5.d.f1.length d1) (.slice ae2 s6.c.ents.length ce2) (.int .i64 s6.c.gen) (.int .i64 (rFl s6)) (.int .i64 s6.c.ed) (.int .u64 s6.c.sum) (.bool false)) _ _ _ _ _ _ _ _ HST.out HUO.out HAB12.out
end
end Go.Proofs.YtondomklkapogaaGreatDoor
