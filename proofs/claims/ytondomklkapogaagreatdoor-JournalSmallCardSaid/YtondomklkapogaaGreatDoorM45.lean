/- The law's does: the loop. -/
import Derived.Test.YtondomklkapogaaGreatDoorM44
import Derived.Deep.CutBlock
import Derived.Test.YtondomklkapogaaGreatDoorM17
import Derived.Test.YtondomklkapogaaGreatDoorM41
import Derived.BigQuiet
namespace Go.Proofs.YtondomklkapogaaGreatDoor
section
open Go.RowKit SeedP Go.Maps
set_option linter.unusedVariables false
noncomputable def cdB0:Code:=((Tryz.f7.body.bind (findB 0)).getD .skip)
set_option maxRecDepth 1000000 in
set_option maxHeartbeats 16000000 in
theorem doesB0 {K:Act→World→Prop} {Q':Exit→Act→World→Prop} {w0:World} {B:Nat} {p3:Nat→Prop} {db jb mb rb:Nat} {s:JS} {v0 v1 ve:Value} {al:Option Addr} {cl:Nat} {L:List ActP} {c0 c2 c3 c4 c6 c8 c10 c12 c13 c14 c15 c16 c17 c18 c19 c20 c21 c22 c23 c24 c25 c26 c27 c28 c29 c30 c31 c32 c33 c34 c35 c36 c37 c38 c39 c40 c41 c42 c43 c44 c45 c46 c47 c48 c49 c50 c51 c52 c53 c54 c55 c56 c57 c58 c59 c60 c61 c62 c63 c64 c65 c66 c67 c68 c69 c70 c71 c72 c73 c74 c75 c76 c77 c78 c79 c80 c81 c82 c83 c84 c85 c86 c87 c88 c89 c90 c91 c92 c93 c94 c95 c96 c97 c98 c99 c100 c101 c102 c103 c104 c105 c106 c107 c108 c109 c110 c111 c112 c113 c114 c115 c116 c117 c118 c119 c120 c121 c122 c123 c124 c125 c126 c127 c128 c129 c130 c131 c132 c133 c134 c135 c136 c137 c138 c139 c140 c141 c142 c143 c144 c145 c146 c147 c148 c149 c150 c151 c152 c153 c154 c155 c156 c157 c158 c159 c160 c161 c162 c163 c164 c165 c166 c167 c168 c169 c170 c171 c172 c173 c174 c175 c176 c177 c178 c179 c180 c181 c182 c183 c184 c185 c186 c187 c188 c189 c190 c191 c192 c193 c194 c195 c196 c197 c198 c199 c200 c201 c202 c203 c204 c205 c206 c207 c208 c209 c210 c211 c212 c213 c214 c215 c216 c217 c218 c219 c220 c221 c222 c223 c224 c225 c226 c227 c228 c229 c230 c231 c232 c233 c234 c235 c236 c237 c238 c239 c240 c241 c242 c243 c244 c245 c246 c247 c248 c249 c250 c251 c252 c253 c254 c255 c256 c257 c258 c259 c260 c261 c262 c263 c264 c265 c266 c267 c268 c269:Value} (w7:World)
 (HI7:Hid (DoI w0 w7 B p3 db jb mb rb s s v0 v1 ve)) (HUP:Hid (Up s)) (HL:Hid (ActsAt w0 w0.heap.size (.slice al L.length cl) L)) (HOK:Hid (∀ a ∈ L,a.Ok)) (hn:L.length≤1000000)
 (HK:Hid (∀ (d4 d7 d11 d12 d13 d14 d15 d16 d17 d18 d19 d80 d81 d82 d83 d84 d85 d86 d87 d88 d89 d90 d91 d92 d93 d94 d95 d96 d97 d98 d99 d100 d101 d102 d103 d104 d105 d106 d107 d108 d109 d110 d111 d112 d113 d114 d115 d116 d117 d118 d119 d120 d121 d122 d123 d124 d125 d126 d127 d128 d129 d130 d131 d132 d133 d134 d135 d136 d137 d138 d139 d140 d141 d142 d143 d144 d145 d146 d147 d148 d149 d150 d151 d152 d153 d154 d155 d156 d157 d158 d159 d160 d161 d162 d163 d164 d165 d166 d167 d168 d169 d170 d171 d172 d173 d174 d175 d176 d177 d178 d179 d180 d181 d182 d183 d184 d185 d186 d187 d188 d189 d190 d191 d192 d193 d194 d195 d196 d197 d198 d199 d200 d201 d202 d203 d204 d205 d206 d207 d208 d209 d210 d211 d212 d213 d214 d215 d216 d217 d218 d219 d220 d221 d222 d223 d224 d225 d226 d227 d228 d229 d230 d231 d232 d233 d234 d235 d236 d237 d238 d239 d240 d241 d242 d243 d244 d245 d246 d247 d248 d249 d250 d251 d252 d253 d254 d255 d256 d257 d258 d259 d260 d261 d262 d263 d264 d265 d266 d267 d268 d269:Value) (w':World),Below w0.heap.size w0 w'→K ⟨#[c0,.slice al L.length cl,c2,c3,d4,.pointer (some ⟨db,0,none⟩),c6,d7,c8,.pointer (some ⟨rb,0,none⟩),c10,d11,d12,d13,d14,d15,d16,d17,d18,d19,c20,c21,c22,c23,c24,c25,c26,c27,c28,c29,c30,c31,c32,c33,c34,c35,c36,c37,c38,c39,c40,c41,c42,c43,c44,c45,c46,c47,c48,c49,c50,c51,c52,c53,c54,c55,c56,c57,c58,c59,c60,c61,c62,c63,c64,c65,c66,c67,c68,c69,c70,c71,c72,c73,c74,c75,c76,c77,c78,c79,d80,d81,d82,d83,d84,d85,d86,d87,d88,d89,d90,d91,d92,d93,d94,d95,d96,d97,d98,d99,d100,d101,d102,d103,d104,d105,d106,d107,d108,d109,d110,d111,d112,d113,d114,d115,d116,d117,d118,d119,d120,d121,d122,d123,d124,d125,d126,d127,d128,d129,d130,d131,d132,d133,d134,d135,d136,d137,d138,d139,d140,d141,d142,d143,d144,d145,d146,d147,d148,d149,d150,d151,d152,d153,d154,d155,d156,d157,d158,d159,d160,d161,d162,d163,d164,d165,d166,d167,d168,d169,d170,d171,d172,d173,d174,d175,d176,d177,d178,d179,d180,d181,d182,d183,d184,d185,d186,d187,d188,d189,d190,d191,d192,d193,d194,d195,d196,d197,d198,d199,d200,d201,d202,d203,d204,d205,d206,d207,d208,d209,d210,d211,d212,d213,d214,d215,d216,d217,d218,d219,d220,d221,d222,d223,d224,d225,d226,d227,d228,d229,d230,d231,d232,d233,d234,d235,d236,d237,d238,d239,d240,d241,d242,d243,d244,d245,d246,d247,d248,d249,d250,d251,d252,d253,d254,d255,d256,d257,d258,d259,d260,d261,d262,d263,d264,d265,d266,d267,d268,d269],[]⟩ w')) :
 Code.wp Tryz.prog cdB0 (Exit.then K Q') ⟨#[c0,.slice al L.length cl,c2,c3,c4,.pointer (some ⟨db,0,none⟩),c6,.pointer (some ⟨jb,0,none⟩),c8,.pointer (some ⟨rb,0,none⟩),c10,.int .i64 0,c12,c13,c14,c15,c16,c17,c18,c19,c20,c21,c22,c23,c24,c25,c26,c27,c28,c29,c30,c31,c32,c33,c34,c35,c36,c37,c38,c39,c40,c41,c42,c43,c44,c45,c46,c47,c48,c49,c50,c51,c52,c53,c54,c55,c56,c57,c58,c59,c60,c61,c62,c63,c64,c65,c66,c67,c68,c69,c70,c71,c72,c73,c74,c75,c76,c77,c78,c79,c80,c81,c82,c83,c84,c85,c86,c87,c88,c89,c90,c91,c92,c93,c94,c95,c96,c97,c98,c99,c100,c101,c102,c103,c104,c105,c106,c107,c108,c109,c110,c111,c112,c113,c114,c115,c116,c117,c118,c119,c120,c121,c122,c123,c124,c125,c126,c127,c128,c129,c130,c131,c132,c133,c134,c135,c136,c137,c138,c139,c140,c141,c142,c143,c144,c145,c146,c147,c148,c149,c150,c151,c152,c153,c154,c155,c156,c157,c158,c159,c160,c161,c162,c163,c164,c165,c166,c167,c168,c169,c170,c171,c172,c173,c174,c175,c176,c177,c178,c179,c180,c181,c182,c183,c184,c185,c186,c187,c188,c189,c190,c191,c192,c193,c194,c195,c196,c197,c198,c199,c200,c201,c202,c203,c204,c205,c206,c207,c208,c209,c210,c211,c212,c213,c214,c215,c216,c217,c218,c219,c220,c221,c222,c223,c224,c225,c226,c227,c228,c229,c230,c231,c232,c233,c234,c235,c236,c237,c238,c239,c240,c241,c242,c243,c244,c245,c246,c247,c248,c249,c250,c251,c252,c253,c254,c255,c256,c257,c258,c259,c260,c261,c262,c263,c264,c265,c266,c267,c268,c269],[]⟩ w7:=by
 conv=>arg 2; whnf
 go_wp2
 go_loopw [7,11] (fun jv iv wr=>∃ (i:Nat) (p:Nat→Prop) (jb mb:Nat) (s:JS) (v0 v1 ve:Value),i≤L.length∧iv=.int .i64 i∧jv=.pointer (some ⟨jb,0,none⟩)∧DoI w0 wr B p db jb mb rb s s v0 v1 ve∧Up s) (fun _ i _=>L.length - (intOf i).toNat)
 case atStart=>exact ⟨0,_,_,_,_,_,_,_,Nat.zero_le _,rfl,rfl,HI7.out,HUP.out⟩
 case round=>
  obtain ⟨i,p5,jb5,mb5,s5,v5,v6,v7,hi,rfl,rfl,hI,hU⟩:=hrel
  clear HI7 HUP
  have HI:=Lib.hid hI
  have HU:=Lib.hid hU
  clear hI hU
  by_cases hlt:i < L.length
  ·have b1:decide ((i:Int) < (L.length:Int))=true:=decide_eq_true (by omega)
   have b2:(i:Int) < (L.length:Int):=by omega
   obtain ⟨a',cap',e',hx1,hx2,hc⟩:=HL.out.below HI.out.be
   simp only [Value.slice.injEq] at e'
   obtain ⟨rfl,_,rfl⟩:=e'
   rcases hc with hc | ⟨g,off,rfl,hg,hcell⟩
   ·rw [hc] at hlt; simp at hlt
   obtain ⟨vc,vv,q0,q1,q2,q3,q4,q5,q6⟩:=hcell i hlt
   have HA:=Lib.hid (HOK.out _ (List.getElem_mem hlt))
   obtain ⟨ac,cc,rfl, -⟩:=id q5
   obtain ⟨av,cv,rfl, -⟩:=q6.open_
   have HC:=Lib.hid (And.intro q5 q6)
   clear hcell hx1 hx2 q5 q6
   generalize L[i]=a at *
   obtain ⟨kind,apw,cs,key,val⟩:=a
   simp only at q0 q1 q2 q3 q4 HC
   have hba:=(Below.refl wr.heap.size wr).alloc (Nat.le_refl _) (.cells #[.int .i64 kind,.int .i64 apw,.slice ac cs.length cc,strV key,.slice av val.length cv] 41)
   have HAB:Hid (Blk (wr.alloc (.cells #[.int .i64 kind,.int .i64 apw,.slice ac cs.length cc,strV key,.slice av val.length cv] 41)) wr.heap.size 41 [.int .i64 kind,.int .i64 apw,.slice ac cs.length cc,strV key,.slice av val.length cv]):=Lib.hid (Blk.new wr _ [.int .i64 kind,.int .i64 apw,.slice ac cs.length cc,strV key,.slice av val.length cv])
   have HIA:=Lib.hid (HI.out.below hba)
   have HSA:Hid (w0.heap.size≤wr.heap.size):=Lib.hid HI.out.be.size
   have HCA:=Lib.hid (And.intro (HC.out.1.below (hba.mono HSA.out)) (HC.out.2.below (hba.mono HSA.out)))
   clear hba HI HC
   go_upto_region 12 with (fail)
   change Code.wp _ _ _ _ (wr.alloc (.cells #[.int .i64 kind,.int .i64 apw,.slice ac cs.length cc,strV key,.slice av val.length cv] 41))
   generalize wr.alloc (.cells #[.int .i64 kind,.int .i64 apw,.slice ac cs.length cc,strV key,.slice av val.length cv] 41)=wa at *
   generalize wr.heap.size=ab at *
   have a0:=HAB.out.cell 0 (by simp)
   simp only [List.getD_cons_zero] at a0
   clear q0 q1 q2 q3 q4
   go_wp2_with fail
   refine (pick_c kind 8 wa (by omega) (by omega)).mono ?_
   rintro e wp ⟨rfl,rfl⟩
   have hk0:=Int.emod_nonneg kind (show (8:Int) ≠ 0 by omega)
   have hk1:=Int.emod_lt_of_pos kind (show (0:Int) < 8 by omega)
   clear a0
   generalize kind % 8=k at *
   go_upto_block 2 with (fail)
   go_cut [4,7,13,14,16,17,18,19] from 86 to 269 (fun _ jv gv wv _ _ _ _ wx=>∃ (p:Nat→Prop) (jb mb:Nat) (s:JS) (v0 v1 ve:Value) (e:Int),jv=.pointer (some ⟨jb,0,none⟩)∧gv=.int .i64 e∧wv=.int .i64 e∧DoI w0 wx B p db jb mb rb s s v0 v1 ve∧Up s∧Blk wx ab 41 [.int .i64 kind,.int .i64 apw,.slice ac cs.length cc,strV key,.slice av val.length cv])
   case first=>
    by_cases hk:k≤5
    ·refine doesB2k wa hk0 hk HIA HU HAB HCA HA (Lib.hid ?_)
     intro d4 d16 d17 d18 d19 d94 d95 d96 d97 d98 d99 d100 d101 d102 d103 d104 d105 d106 d107 d108 d109 d110 d111 d112 d113 d114 d115 d116 d117 d118 d119 d120 d121 d122 d123 d124 d125 d126 d127 d128 d129 d130 d131 d132 d133 d134 d135 d136 d137 d138 d139 d140 d141 d142 d143 d144 d145 d146 d147 d148 d149 d150 d151 d152 d153 d154 d155 d156 d157 d158 d159 d160 d161 d162 d163 d164 d165 d166 d167 d168 d169 d170 d171 d172 d173 d174 d175 d176 d177 d178 d179 d180 d181 d182 d183 d184 d185 d186 d187 d188 d189 d190 d191 d192 d193 d194 d195 d196 d197 d198 d199 d200 d201 d202 d203 d204 d205 d206 d207 d208 d209 d210 d211 d212 d213 d214 d215 d216 d217 d218 d219 d220 d221 d222 d223 d224 d225 d226 d227 d228 d229 d230 d231 d232 d233 d234 d235 d236 d237 d238 d239 d240 d241 d242 d243 d244 d245 d246 d247 d248 d249 d250 d251 d252 d253 d254 d255 d256 d257 d258 d259 d260 d261 d262 d263 d264 d265 d266 d267 d268 d269 w' p6 jb6 mb6 s6 u5 u6 u7 e6 h1 h2 h3
     go_wp2_with fail
     go_meet
     exact ⟨_,_,_,_,_,_,_,_,rfl,rfl,rfl,h1,h2,h3⟩
    by_cases hk6:k=6
    ·subst hk6
     refine doesB2c wa HIA HU HAB HCA HA (Lib.hid ?_)
     intro d4 d16 d17 d18 d19 d94 d95 d96 d97 d98 d99 d100 d101 d102 d103 d104 d105 d106 d107 d108 d109 d110 d111 d112 d113 d114 d115 d116 d117 d118 d119 d120 d121 d122 d123 d124 d125 d126 d127 d128 d129 d130 d131 d132 d133 d134 d135 d136 d137 d138 d139 d140 d141 d142 d143 d144 d145 d146 d147 d148 d149 d150 d151 d152 d153 d154 d155 d156 d157 d158 d159 d160 d161 d162 d163 d164 d165 d166 d167 d168 d169 d170 d171 d172 d173 d174 d175 d176 d177 d178 d179 d180 d181 d182 d183 d184 d185 d186 d187 d188 d189 d190 d191 d192 d193 d194 d195 d196 d197 d198 d199 d200 d201 d202 d203 d204 d205 d206 d207 d208 d209 d210 d211 d212 d213 d214 d215 d216 d217 d218 d219 d220 d221 d222 d223 d224 d225 d226 d227 d228 d229 d230 d231 d232 d233 d234 d235 d236 d237 d238 d239 d240 d241 d242 d243 d244 d245 d246 d247 d248 d249 d250 d251 d252 d253 d254 d255 d256 d257 d258 d259 d260 d261 d262 d263 d264 d265 d266 d267 d268 d269 w' p6 jb6 mb6 s6 u5 u6 u7 e6 h1 h2 h3
     go_wp2_with fail
     go_meet
     exact ⟨_,_,_,_,_,_,_,_,rfl,rfl,rfl,h1,h2,h3⟩
    ·obtain rfl:k=7:=by omega
     refine doesB2o wa HIA HU HAB HCA HA (Lib.hid ?_)
     intro d4 d16 d17 d18 d19 d94 d95 d96 d97 d98 d99 d100 d101 d102 d103 d104 d105 d106 d107 d108 d109 d110 d111 d112 d113 d114 d115 d116 d117 d118 d119 d120 d121 d122 d123 d124 d125 d126 d127 d128 d129 d130 d131 d132 d133 d134 d135 d136 d137 d138 d139 d140 d141 d142 d143 d144 d145 d146 d147 d148 d149 d150 d151 d152 d153 d154 d155 d156 d157 d158 d159 d160 d161 d162 d163 d164 d165 d166 d167 d168 d169 d170 d171 d172 d173 d174 d175 d176 d177 d178 d179 d180 d181 d182 d183 d184 d185 d186 d187 d188 d189 d190 d191 d192 d193 d194 d195 d196 d197 d198 d199 d200 d201 d202 d203 d204 d205 d206 d207 d208 d209 d210 d211 d212 d213 d214 d215 d216 d217 d218 d219 d220 d221 d222 d223 d224 d225 d226 d227 d228 d229 d230 d231 d232 d233 d234 d235 d236 d237 d238 d239 d240 d241 d242 d243 d244 d245 d246 d247 d248 d249 d250 d251 d252 d253 d254 d255 d256 d257 d258 d259 d260 d261 d262 d263 d264 d265 d266 d267 d268 d269 w' p6 jb6 mb6 s6 u5 u6 u7 e6 h1 h2 h3
     go_wp2_with fail
     go_meet
     exact ⟨_,_,_,_,_,_,_,_,rfl,rfl,rfl,h1,h2,h3⟩
   case rest=>
    obtain ⟨p6,jb6,mb6,s6,u0,u1,u2,e,rfl,rfl,rfl,hI,hU,hab⟩:=hcut
    clear HIA HU HAB
    have HI:=Lib.hid hI
    have HU:=Lib.hid hU
    have HAB:=Lib.hid hab
    obtain ⟨s0,d0,s1,d1,se,de,rfl,rfl,rfl⟩:=HI.out.forms
    have HLK:=Lib.hid (like_c HI.out.jz _ _ _ HI.out.rd HI.out.en (rFl s6) s6.c.ed s6.c.sum)
    obtain ⟨k0,k1,k2,k3,k4,k5,k6,k7,k8, -⟩:=rb_of HI.out.rbk
    clear hI hU hab hk0 hk1
    generalize wc=w8 at *
    go_wp2_with fail
    refine HLK.out.mono ?_
    rintro e w9 ⟨rfl,⟨p7,hj9,hp9⟩,hg9⟩
    have HI9:=Lib.hid (HI.out.act hj9 hp9 hg9)
    have HAB9:=Lib.hid (HI.out.other HAB.out (by decide) (by decide) hg9)
    have HPF:=Lib.hid (prefixed_c HI9.out.jz _ _ _ HI9.out.rd HI9.out.en s6.d.pw s6.c.gen (rFl s6) s6.c.ed s6.c.sum key (by have h:key.length≤1000000:=HA.out.key; omega))
    obtain ⟨k0,k1,k2,k3,k4,k5,k6,k7,k8, -⟩:=rb_of HI9.out.rbk
    have a3:=HAB9.out.cell 3 (by simp)
    simp only [List.getD_cons_zero,List.getD_cons_succ] at a3
    clear hj9 hp9 hg9 HI HLK HAB
    go_wp2_with fail
    refine HPF.out.mono ?_
    rintro e w10 ⟨rfl,hb10⟩
    have HI10:=Lib.hid (HI9.out.below hb10)
    clear hb10 HI9 HPF a3 k0 k1 k2 k3 k4 k5 k6 k7 k8
    go_wp2
    go_roundw
    case rel=>exact ⟨i+1,_,_,_,_,_,_,_,by omega,by go_num,rfl,HI10.out,HU.out⟩
    case measure=>simp [intOf]; omega
  ·obtain rfl:i=L.length:=by omega
   have b1:decide ((L.length:Int) < (L.length:Int))=false:=by simp
   have hbe:=HI.out.be
   go_wp2_with fail
   exact HK.out _ _ _ _ _ _ _ _ _ _ _ _ _ _ _ _ _ _ _ _ _ _ _ _ _ _ _ _ _ _ _ _ _ _ _ _ _ _ _ _ _ _ _ _ _ _ _ _ _ _ _ _ _ _ _ _ _ _ _ _ _ _ _ _ _ _ _ _ _ _ _ _ _ _ _ _ _ _ _ _ _ _ _ _ _ _ _ _ _ _ _ _ _ _ _ _ _ _ _ _ _ _ _ _ _ _ _ _ _ _ _ _ _ _ _ _ _ _ _ _ _ _ _ _ _ _ _ _ _ _ _ _ _ _ _ _ _ _ _ _ _ _ _ _ _ _ _ _ _ _ _ _ _ _ _ _ _ _ _ _ _ _ _ _ _ _ _ _ _ _ _ _ _ _ _ _ _ _ _ _ _ _ _ _ _ _ _ _ _ _ _ _ _ _ _ _ _ _ _ _ _ _ hbe
end
section
open Go.RowKit SeedP Go.Maps
set_option maxRecDepth 100000 in
set_option maxHeartbeats 8000000 in
/-- does, of a disk that may be -/
theorem does_ok (d:DS) (v0 v1 vl:Value) (L:List ActP) (w0:World) (hs:St w0) (hr0:RdB w0 w0.heap.size v0 d.f0) (hr1:RdB w0 w0.heap.size v1 d.f1) (hd:d.Ok) (hL:ActsAt w0 w0.heap.size vl L) (hok:∀ a ∈ L,a.Ok) (hn:L.length≤1000000) :
 Calls Tryz.prog 7 #[.agg #[.int .i64 d.pw,v0,v1],vl] w0 fun e w'=>e=.returned (.bool true)∧Below w0.heap.size w0 w':=by
 obtain ⟨a0,c0,rfl, -, -, -⟩:=hr0.open_
 obtain ⟨a1,c1,rfl, -, -, -⟩:=hr1.open_
 obtain ⟨al,cl,rfl, -, -, -⟩:=id hL
 have hf0:=hd.f0
 have hf1:=hd.f1
 have HB1:=Lib.hid ((Below.refl w0.heap.size w0).alloc (Nat.le_refl _) (.cells #[.int .i64 d.pw,.slice a0 d.f0.length c0,.slice a1 d.f1.length c1] 28))
 have HK1:=Lib.hid (Blk.new w0 28 [.int .i64 d.pw,.slice a0 d.f0.length c0,.slice a1 d.f1.length c1])
 have HS:=Lib.hid hs
 have HSZ0:=Lib.hid (HB1.out.size)
 have HR:=Lib.hid (And.intro hr0 hr1)
 have HL:=Lib.hid hL
 have HOK:=Lib.hid hok
 have HD:=Lib.hid hd
 clear hs hr0 hr1 hL hok hd
 go_enter Tryz.func7,Tryz.ntmps7
 go_upto_region 1 with (fail)
 change Code.wp _ _ _ _ (w0.alloc (.cells #[.int .i64 d.pw,.slice a0 d.f0.length c0,.slice a1 d.f1.length c1] 28))
 have HK1':Hid (Blk (w0.alloc (.cells #[.int .i64 d.pw,.slice a0 d.f0.length c0,.slice a1 d.f1.length c1] 28)) w0.heap.size 28 [.int .i64 d.pw,.slice a0 d.f0.length c0,.slice a1 d.f1.length c1]):=HK1
 clear HK1
 generalize w0.alloc (.cells #[.int .i64 d.pw,.slice a0 d.f0.length c0,.slice a1 d.f1.length c1] 28)=w1 at *
 have x0:=HK1'.out.cell 0 (by simp)
 have x1:=HK1'.out.cell 1 (by simp)
 have x2:=HK1'.out.cell 2 (by simp)
 simp only [List.getD_cons_zero,List.getD_cons_succ] at x0 x1 x2
 have HDC:=Lib.hid (disk_c d (.slice a0 d.f0.length c0) (.slice a1 d.f1.length c1) w1 (HS.out.below HB1.out HS.out.pos) ((HR.out.1.below HB1.out).mono HB1.out.size) ((HR.out.2.below HB1.out).mono HB1.out.size) (by omega) (by omega))
 go_wp2_with fail
 refine HDC.out.mono ?_
 rintro e w2 ⟨⟨db,y0,y1,rfl,⟨p,hdz⟩,hrd⟩,hb2⟩
 obtain ⟨b0,e0,b1,e1,rfl,rfl⟩:=hrd.slices
 have HB2:=Lib.hid (HB1.out.trans (hb2.mono HB1.out.size))
 have HDZ:=Lib.hid hdz
 have HRD:=Lib.hid hrd
 have HBB:Hid (Blk (w2.alloc (.cells #[.int .i64 d.pw,.slice b0 d.f0.length e0,.slice b1 d.f1.length e1] 47)) w2.heap.size 47 [.int .i64 d.pw,.slice b0 d.f0.length e0,.slice b1 d.f1.length e1]):=Lib.hid (Blk.new w2 _ [.int .i64 d.pw,.slice b0 d.f0.length e0,.slice b1 d.f1.length e1])
 have hba:=(Below.refl w2.heap.size w2).alloc (Nat.le_refl _) (.cells #[.int .i64 d.pw,.slice b0 d.f0.length e0,.slice b1 d.f1.length e1] 47)
 have HDZ3:=Lib.hid (HDZ.out.grown (Grown.of_below hba (S:=fun _=>False)) (fun _ h=>h.elim))
 have HRD3:=Lib.hid (HRD.out.below hba)
 have HB3:=Lib.hid (HB2.out.trans (hba.mono HB2.out.size))
 have HSZ1:=Lib.hid hb2.size
 clear hba hdz hrd hb2 HDC x0 x1 x2 HK1' HB1 HDZ HRD HB2 HS HR
 go_upto_region 2 with (fail)
 change Code.wp _ _ _ _ (w2.alloc (.cells #[.int .i64 d.pw,.slice b0 d.f0.length e0,.slice b1 d.f1.length e1] 47))
 have HSZ2:Hid (w1.heap.size≤(w2.alloc (.cells #[.int .i64 d.pw,.slice b0 d.f0.length e0,.slice b1 d.f1.length e1] 47)).heap.size):=Lib.hid (by have:=HSZ1.out; simp; omega)
 generalize w2.alloc (.cells #[.int .i64 d.pw,.slice b0 d.f0.length e0,.slice b1 d.f1.length e1] 47)=w3 at *
 clear HSZ1
 have HOP:=Lib.hid (open_z HDZ3.out HD.out)
 go_wp2_with fail
 refine HOP.out.mono ?_
 rintro e w4 ⟨jb,mb,rfl, -, -,⟨p2,hp2,hjz⟩,hb4⟩
 have HJZ:=Lib.hid hjz
 have HB4:=Lib.hid (HB3.out.trans (hb4.mono HB3.out.size))
 have HRD4:=Lib.hid (HRD3.out.below hb4)
 have HSZ4:=Lib.hid (Nat.le_trans HSZ2.out hb4.size)
 have HBB4:=Lib.hid (HBB.out.below hb4)
 have x0:=HBB4.out.cell 0 (by simp)
 have x1:=HBB4.out.cell 1 (by simp)
 have x2:=HBB4.out.cell 2 (by simp)
 simp only [List.getD_cons_zero,List.getD_cons_succ] at x0 x1 x2
 clear hp2 hjz hb4 HOP HDZ3 HRD3 HB3 HSZ2 HBB
 have HRO:=Lib.hid (ropen_c d (.slice b0 d.f0.length e0) (.slice b1 d.f1.length e1) w4 HRD4.out HD.out)
 go_wp2_with fail
 refine HRO.out.mono ?_
 rintro e w5 ⟨⟨ae,ce,rfl,hen⟩,hb5⟩
 have hba:=(Below.refl w5.heap.size w5).alloc (Nat.le_refl _) (.cells #[.int .i64 d.pw,.slice b0 d.f0.length e0,.slice b1 d.f1.length e1,.slice ae (jOpen d).c.ents.length ce,.int .i64 (jOpen d).c.gen,.int .i64 (rFl (jOpen d)),.int .i64 (jOpen d).c.ed,.int .u64 (jOpen d).c.sum,.bool false] 52)
 have HDI:Hid (∃ p,DoI w0 (w5.alloc (.cells #[.int .i64 d.pw,.slice b0 d.f0.length e0,.slice b1 d.f1.length e1,.slice ae (jOpen d).c.ents.length ce,.int .i64 (jOpen d).c.gen,.int .i64 (rFl (jOpen d)),.int .i64 (jOpen d).c.ed,.int .u64 (jOpen d).c.sum,.bool false] 52)) w1.heap.size p db jb mb w5.heap.size (jOpen d) (jOpen d) (.slice b0 d.f0.length e0) (.slice b1 d.f1.length e1) (.slice ae (jOpen d).c.ents.length ce)):=Lib.hid (by
  refine ⟨p2,(HJZ.out.below hb5).below hba,(HRD4.out.below hb5).below hba,(hen.below hba).mono hba.size,Blk.new w5 _ [.int .i64 d.pw,.slice b0 d.f0.length e0,.slice b1 d.f1.length e1,.slice ae (jOpen d).c.ents.length ce,.int .i64 (jOpen d).c.gen,.int .i64 (rFl (jOpen d)),.int .i64 (jOpen d).c.ed,.int .u64 (jOpen d).c.sum,.bool false],?_,fun hp=>?_,(HB4.out.trans (hb5.mono HB4.out.size)).trans (hba.mono ?_),HSZ0.out⟩
  ·have:=HSZ4.out; have:=hb5.size; omega
  ·have:=(HJZ.out.lie _ hp).2; have:=hb5.size; omega
  ·have:=HB4.out.size; have:=hb5.size; omega)
 have HUP:Hid (Up (jOpen d)):=Lib.hid (Up.open HD.out)
 have HSD:Hid ((jOpen d).d=d∧(jOpen d).down=false):=Lib.hid ⟨rfl,rfl⟩
 clear hba hen hb5 HRO x0 x1 x2 HBB4 HRD4 HB4 HJZ
 go_upto_region 4 with (fail)
 change Code.wp _ _ _ _ (w5.alloc (.cells #[.int .i64 d.pw,.slice b0 d.f0.length e0,.slice b1 d.f1.length e1,.slice ae (jOpen d).c.ents.length ce,.int .i64 (jOpen d).c.gen,.int .i64 (rFl (jOpen d)),.int .i64 (jOpen d).c.ed,.int .u64 (jOpen d).c.sum,.bool false] 52))
 generalize w5.alloc (.cells #[.int .i64 d.pw,.slice b0 d.f0.length e0,.slice b1 d.f1.length e1,.slice ae (jOpen d).c.ents.length ce,.int .i64 (jOpen d).c.gen,.int .i64 (rFl (jOpen d)),.int .i64 (jOpen d).c.ed,.int .u64 (jOpen d).c.sum,.bool false] 52)=w6 at *
 generalize w5.heap.size=rb at *
 obtain ⟨p3,hdi⟩:=HDI.out
 have HI:=Lib.hid hdi
 clear HDI hdi
 have HLK:=Lib.hid (like_c HI.out.jz _ _ _ HI.out.rd HI.out.en (rFl (jOpen d)) (jOpen d).c.ed (jOpen d).c.sum)
 rw [HSD.out.1,HSD.out.2] at HLK
 obtain ⟨k0,k1,k2,k3,k4,k5,k6,k7,k8, -⟩:=rb_of HI.out.rbk
 rw [HSD.out.1] at k0
 rw [HSD.out.2] at k8
 clear HSD
 generalize jOpen d=s at *
 go_wp2_with fail
 refine HLK.out.mono ?_
 rintro e w7 ⟨rfl,⟨p4,hj4,hp4⟩,hg4⟩
 have HI7:=Lib.hid (HI.out.act hj4 hp4 hg4)
 clear hj4 hp4 hg4 HI HLK k0 k1 k2 k3 k4 k5 k6 k7 k8
 go_upto_block 0 with (fail)
 refine doesB0 w7 HI7 HUP HL HOK hn (Lib.hid ?_)
 intro d4 d7 d11 d12 d13 d14 d15 d16 d17 d18 d19 d80 d81 d82 d83 d84 d85 d86 d87 d88 d89 d90 d91 d92 d93 d94 d95 d96 d97 d98 d99 d100 d101 d102 d103 d104 d105 d106 d107 d108 d109 d110 d111 d112 d113 d114 d115 d116 d117 d118 d119 d120 d121 d122 d123 d124 d125 d126 d127 d128 d129 d130 d131 d132 d133 d134 d135 d136 d137 d138 d139 d140 d141 d142 d143 d144 d145 d146 d147 d148 d149 d150 d151 d152 d153 d154 d155 d156 d157 d158 d159 d160 d161 d162 d163 d164 d165 d166 d167 d168 d169 d170 d171 d172 d173 d174 d175 d176 d177 d178 d179 d180 d181 d182 d183 d184 d185 d186 d187 d188 d189 d190 d191 d192 d193 d194 d195 d196 d197 d198 d199 d200 d201 d202 d203 d204 d205 d206 d207 d208 d209 d210 d211 d212 d213 d214 d215 d216 d217 d218 d219 d220 d221 d222 d223 d224 d225 d226 d227 d228 d229 d230 d231 d232 d233 d234 d235 d236 d237 d238 d239 d240 d241 d242 d243 d244 d245 d246 d247 d248 d249 d250 d251 d252 d253 d254 d255 d256 d257 d258 d259 d260 d261 d262 d263 d264 d265 d266 d267 d268 d269 w' hb
 have HB:=Lib.hid hb
 clear hb
 go_wp2
 go_ret
 exact ⟨rfl,HB.out⟩
end
section
open Go.RowKit SeedP Go.Maps
/-- no journal: nil, or the zero value -/
def NoJ (w:World) (v:Value):Prop:=v=.pointer none∨∃ jb,v=.pointer (some ⟨jb,0,none⟩)∧Blk w jb 81 [.pointer none,.bool false,.int .i64 0,.int .i64 0,.map none,.int .i64 0,.int .u64 0,.int .i64 0]
theorem NoJ.below {w w':World} {v:Value} (h:NoJ w v) (hb:Below w.heap.size w w'):NoJ w' v:=by
 rcases h with h | ⟨jb,h,hB⟩
 ·exact Or.inl h
 ·exact Or.inr ⟨jb,h,hB.below hb⟩
/-! ### Open of what is no disk -/
set_option maxRecDepth 100000 in
theorem open_weak (db:Nat) (pw:Int) (v0 v1:Value) (w:World) (h:Blk w db 28 [.int .i64 pw,v0,v1]) (hp:pw < -1):Calls Tryz.prog 10 #[.pointer (some ⟨db,0,none⟩)] w fun e w'=>e=.returned (.tuple #[.pointer none,.int .i64 2])∧w=w':=by
 have k0:=h.cell 0 (by simp)
 simp only [List.getD_cons_zero] at k0
 have hb:(decide (pw < -1))=true:=decide_eq_true hp
 clear h
 go_enter Tryz.func10,Tryz.ntmps10
 go_wp2
 go_ret2
 exact ⟨rfl,rfl⟩
set_option maxRecDepth 100000 in
theorem open_long (db:Nat) (pw:Int) (a0 a1:Option Addr) (n0 c0 n1 c1:Nat) (w:World) (h:Blk w db 28 [.int .i64 pw,.slice a0 n0 c0,.slice a1 n1 c1]) (hp: -1≤pw) (hl:262144 < n0∨262144 < n1):Calls Tryz.prog 10 #[.pointer (some ⟨db,0,none⟩)] w fun e w'=>e=.returned (.tuple #[.pointer none,.int .i64 2])∧w=w':=by
 have d0:=h.cell 0 (by simp)
 have d1:=h.cell 1 (by simp)
 have d2:=h.cell 2 (by simp)
 simp only [List.getD_cons_zero,List.getD_cons_succ] at d0 d1 d2
 have hb:(decide (pw < -1))=false:=decide_eq_false (by omega)
 have hix0:=index0
 have hix1:=index1
 clear h hp
 go_enter Tryz.func10,Tryz.ntmps10
 go_wp2
 go_loopw [24] (fun i wr=>∃ j:Int,(j=0∨(j=1∧n0≤262144))∧i=.int .i64 j∧w=wr) (fun i _=>2 - (intOf i).toNat)
 case atStart=>exact ⟨0,Or.inl rfl,rfl,rfl⟩
 case round=>
  obtain ⟨j,hj,rfl,rfl⟩:=hrel
  rcases hj with rfl | ⟨rfl,hj⟩
  ·by_cases h0:262144 < n0
   ·have hx:(262144:Int) < (n0:Int):=by omega
    go_wp2
    go_ret2
    exact ⟨rfl,rfl⟩
   ·have hx:¬ (262144:Int) < (n0:Int):=by omega
    go_wp2
    go_roundw
    case rel=>exact ⟨1,Or.inr ⟨rfl,by omega⟩,by first | trivial | rfl,by first | trivial | rfl⟩
    case measure=>simp [intOf]
  ·have hx:(262144:Int) < (n1:Int):=by omega
   go_wp2
   go_ret2
   exact ⟨rfl,rfl⟩
end
section
open Go.RowKit SeedP Go.Maps
set_option maxRecDepth 100000 in
/-- Open, of a disk that may not be -/
theorem ropen_badV (d:DS) (v0 v1:Value) (w:World) (hrd:RD w v0 v1 d) (hno:d.pw < -1∨262144 < d.f0.length∨262144 < d.f1.length) :
 Calls Tryz.prog 16 #[.agg #[.int .i64 d.pw,v0,v1]] w fun e w'=>e=.returned (.tuple #[rjV 0 (.slice none 0 0) (.slice none 0 0) (.slice none 0 0) 0 0 0 0 false,.int .i64 2])∧Below w.heap.size w w':=by
 obtain ⟨a0,c0,a1,c1,rfl,rfl⟩:=hrd.slices
 have HB:=Lib.hid ((OpM.start w d.pw a0 a1 d.f0.length d.f1.length c0 c1).be)
 clear hrd
 by_cases h1:d.pw < -1
 ·have t1:decide (d.pw < -1)=true:=decide_eq_true h1
  clear hno h1
  go_enter Tryz.func16,Tryz.ntmps16
  go_wp2
  exact bodyPost_ret (v:=.tuple #[rjV 0 (.slice none 0 0) (.slice none 0 0) (.slice none 0 0) 0 0 0 0 false,.int .i64 2]) (by simp [results,Tryz.results16,go_sem]) rfl ⟨rfl,HB.out⟩
 have t1:decide (d.pw < -1)=false:=decide_eq_false h1
 by_cases h2:262144 < d.f0.length
 ·have t2:decide ((262144:Int) < (d.f0.length:Int))=true:=decide_eq_true (by omega)
  clear hno h1 h2
  go_enter Tryz.func16,Tryz.ntmps16
  go_wp2
  exact bodyPost_ret (v:=.tuple #[rjV 0 (.slice none 0 0) (.slice none 0 0) (.slice none 0 0) 0 0 0 0 false,.int .i64 2]) (by simp [results,Tryz.results16,go_sem]) rfl ⟨rfl,HB.out⟩
 have t2:decide ((262144:Int) < (d.f0.length:Int))=false:=decide_eq_false (by omega)
 have t3:decide ((262144:Int) < (d.f1.length:Int))=true:=decide_eq_true (by omega)
 clear hno h1 h2
 go_enter Tryz.func16,Tryz.ntmps16
 go_wp2
 exact bodyPost_ret (v:=.tuple #[rjV 0 (.slice none 0 0) (.slice none 0 0) (.slice none 0 0) 0 0 0 0 false,.int .i64 2]) (by simp [results,Tryz.results16,go_sem]) rfl ⟨rfl,HB.out⟩
set_option maxRecDepth 100000 in
/-- Open, of a disk that may not be -/
theorem open_bad {B:Nat} {p:Nat→Prop} {w:World} {db:Nat} {d:DS} (h:DZ B p w db d) (hno:d.pw < -1∨262144 < d.f0.length∨262144 < d.f1.length) :
 Calls Tryz.prog 10 #[.pointer (some ⟨db,0,none⟩)] w fun e w'=>e=.returned (.tuple #[.pointer none,.int .i64 2])∧w=w':=by
 obtain ⟨v0,v1,q0,q1,hb,hr0,hr1,_⟩:=h.dw
 obtain ⟨a0,c0,rfl,_⟩:=hr0.toB.open_
 obtain ⟨a1,c1,rfl,_⟩:=hr1.toB.open_
 by_cases hp:d.pw < -1
 ·exact open_weak db d.pw _ _ w hb hp
 ·exact open_long db d.pw a0 a1 _ c0 _ c1 w hb (by omega) (by omega)
set_option maxRecDepth 100000 in
set_option maxHeartbeats 8000000 in
/-- does, of a disk that may not be -/
theorem does_bad (d:DS) (v0 v1 vl:Value) (w0:World) (hs:St w0) (hr0:RdB w0 w0.heap.size v0 d.f0) (hr1:RdB w0 w0.heap.size v1 d.f1) (h0:d.f0.length≤1073741824) (h1:d.f1.length≤1073741824) (hno:d.pw < -1∨262144 < d.f0.length∨262144 < d.f1.length) :
 Calls Tryz.prog 7 #[.agg #[.int .i64 d.pw,v0,v1],vl] w0 fun e w'=>e=.returned (.bool true)∧Below w0.heap.size w0 w':=by
 obtain ⟨a0,c0,rfl, -, -, -⟩:=hr0.open_
 obtain ⟨a1,c1,rfl, -, -, -⟩:=hr1.open_
 have HB1:=Lib.hid ((Below.refl w0.heap.size w0).alloc (Nat.le_refl _) (.cells #[.int .i64 d.pw,.slice a0 d.f0.length c0,.slice a1 d.f1.length c1] 28))
 have HK1:=Lib.hid (Blk.new w0 28 [.int .i64 d.pw,.slice a0 d.f0.length c0,.slice a1 d.f1.length c1])
 have HS:=Lib.hid hs
 have HSZ0:Hid (w0.heap.size < (w0.alloc (.cells #[.int .i64 d.pw,.slice a0 d.f0.length c0,.slice a1 d.f1.length c1] 28)).heap.size):=Lib.hid (by simp)
 have HR:=Lib.hid (And.intro hr0 hr1)
 have HNO:=Lib.hid hno
 clear hs hr0 hr1 hno
 go_enter Tryz.func7,Tryz.ntmps7
 go_upto_region 1 with (fail)
 change Code.wp _ _ _ _ (w0.alloc (.cells #[.int .i64 d.pw,.slice a0 d.f0.length c0,.slice a1 d.f1.length c1] 28))
 have HK1':Hid (Blk (w0.alloc (.cells #[.int .i64 d.pw,.slice a0 d.f0.length c0,.slice a1 d.f1.length c1] 28)) w0.heap.size 28 [.int .i64 d.pw,.slice a0 d.f0.length c0,.slice a1 d.f1.length c1]):=HK1
 clear HK1
 generalize w0.alloc (.cells #[.int .i64 d.pw,.slice a0 d.f0.length c0,.slice a1 d.f1.length c1] 28)=w1 at *
 have x0:=HK1'.out.cell 0 (by simp)
 have x1:=HK1'.out.cell 1 (by simp)
 have x2:=HK1'.out.cell 2 (by simp)
 simp only [List.getD_cons_zero,List.getD_cons_succ] at x0 x1 x2
 have HDC:=Lib.hid (disk_c d (.slice a0 d.f0.length c0) (.slice a1 d.f1.length c1) w1 (HS.out.below HB1.out HS.out.pos) ((HR.out.1.below HB1.out).mono HB1.out.size) ((HR.out.2.below HB1.out).mono HB1.out.size) (by omega) (by omega))
 go_wp2_with fail
 refine HDC.out.mono ?_
 rintro e w2 ⟨⟨db,y0,y1,rfl,⟨p,hdz⟩,hrd⟩,hb2⟩
 obtain ⟨b0,e0,b1,e1,rfl,rfl⟩:=hrd.slices
 have HB2:=Lib.hid (HB1.out.trans (hb2.mono HB1.out.size))
 have HKS:=Lib.hid (HK1'.out.below hb2)
 have HRS:=Lib.hid (And.intro (HR.out.1.below (HB1.out.trans (hb2.mono HB1.out.size))) (HR.out.2.below (HB1.out.trans (hb2.mono HB1.out.size))))
 have HDZ:=Lib.hid hdz
 have HRD:=Lib.hid hrd
 have HBB:Hid (Blk (w2.alloc (.cells #[.int .i64 d.pw,.slice b0 d.f0.length e0,.slice b1 d.f1.length e1] 47)) w2.heap.size 47 [.int .i64 d.pw,.slice b0 d.f0.length e0,.slice b1 d.f1.length e1]):=Lib.hid (Blk.new w2 _ [.int .i64 d.pw,.slice b0 d.f0.length e0,.slice b1 d.f1.length e1])
 have hba:=(Below.refl w2.heap.size w2).alloc (Nat.le_refl _) (.cells #[.int .i64 d.pw,.slice b0 d.f0.length e0,.slice b1 d.f1.length e1] 47)
 have HDZ3:=Lib.hid (HDZ.out.grown (Grown.of_below hba (S:=fun _=>False)) (fun _ h=>h.elim))
 have HRD3:=Lib.hid (HRD.out.below hba)
 have HB3:=Lib.hid (HB2.out.trans (hba.mono HB2.out.size))
 have HKS3:=Lib.hid (HKS.out.below hba)
 have HRS3:=Lib.hid (And.intro (HRS.out.1.below (hba.mono HB2.out.size)) (HRS.out.2.below (hba.mono HB2.out.size)))
 clear hba hdz hrd hb2 HDC x0 x1 x2 HK1' HB1 HDZ HRD HB2 HS HR HKS HRS
 go_upto_region 2 with (fail)
 change Code.wp _ _ _ _ (w2.alloc (.cells #[.int .i64 d.pw,.slice b0 d.f0.length e0,.slice b1 d.f1.length e1] 47))
 generalize w2.alloc (.cells #[.int .i64 d.pw,.slice b0 d.f0.length e0,.slice b1 d.f1.length e1] 47)=w3 at *
 have HOP:=Lib.hid (open_bad HDZ3.out HNO.out)
 have x0:=HBB.out.cell 0 (by simp)
 have x1:=HBB.out.cell 1 (by simp)
 have x2:=HBB.out.cell 2 (by simp)
 simp only [List.getD_cons_zero,List.getD_cons_succ] at x0 x1 x2
 go_wp2_with fail
 refine HOP.out.mono ?_
 rintro e w4 ⟨rfl,rfl⟩
 have HRO:=Lib.hid (ropen_badV d (.slice b0 d.f0.length e0) (.slice b1 d.f1.length e1) w3 HRD3.out HNO.out)
 go_wp2_with fail
 refine HRO.out.mono ?_
 rintro e w5 ⟨rfl,hb5⟩
 have hba:=(Below.refl w5.heap.size w5).alloc (Nat.le_refl _) (.cells #[.int .i64 0,.slice none 0 0,.slice none 0 0,.slice none 0 0,.int .i64 0,.int .i64 0,.int .i64 0,.int .u64 0,.bool false] 52)
 have HDZ6:=Lib.hid (HDZ3.out.grown (Grown.of_below (hb5.trans (hba.mono hb5.size)) (S:=fun _=>False)) (fun _ h=>h.elim))
 have HKS6:=Lib.hid ((HKS3.out.below hb5).below hba)
 have HRS6:=Lib.hid (And.intro ((HRS3.out.1.below (hb5.mono HB3.out.size)).below (hba.mono (Nat.le_trans HB3.out.size hb5.size))) ((HRS3.out.2.below (hb5.mono HB3.out.size)).below (hba.mono (Nat.le_trans HB3.out.size hb5.size))))
 have HB6:=Lib.hid ((HB3.out.trans (hb5.mono HB3.out.size)).trans (hba.mono (Nat.le_trans HB3.out.size hb5.size)))
 clear hba hb5 HRO HOP HDZ3 HRD3 HB3 HKS3 HRS3 HBB x0 x1 x2
 go_upto_region 4 with (fail)
 change Code.wp _ _ _ _ (w5.alloc (.cells #[.int .i64 0,.slice none 0 0,.slice none 0 0,.slice none 0 0,.int .i64 0,.int .i64 0,.int .i64 0,.int .u64 0,.bool false] 52))
 generalize w5.alloc (.cells #[.int .i64 0,.slice none 0 0,.slice none 0 0,.slice none 0 0,.int .i64 0,.int .i64 0,.int .i64 0,.int .u64 0,.bool false] 52)=w6 at *
 obtain ⟨m0,f0,m1,f1,y0,y1,y2,hy1,hy2, -⟩:=HDZ6.out.cells
 have z1:=HKS6.out.cell 1 (by simp)
 have z2:=HKS6.out.cell 2 (by simp)
 simp only [List.getD_cons_zero,List.getD_cons_succ] at z1 z2
 have hsz:=HB6.out.size
 have hcx0:∀ n,(convert 25 9 (.slice m0 d.f0.length f0)).run Tryz.prog (w6.drewN n)=.ok (.string ⟨(d.f0).toArray⟩) (w6.drewN n):=fun n=>conv_c (w:=w6.drewN n) (hy1.mono (Nat.le_refl _))
 have hcx1:∀ n,(convert 25 9 (.slice m1 d.f1.length f1)).run Tryz.prog (w6.drewN n)=.ok (.string ⟨(d.f1).toArray⟩) (w6.drewN n):=fun n=>conv_c (w:=w6.drewN n) (hy2.mono (Nat.le_refl _))
 have hca0:∀ n,(convert 25 9 (.slice a0 d.f0.length c0)).run Tryz.prog (w6.drewN n)=.ok (.string ⟨(d.f0).toArray⟩) (w6.drewN n):=fun n=>conv_c (w:=w6.drewN n) ((HRS6.out.1).mono hsz)
 have hca1:∀ n,(convert 25 9 (.slice a1 d.f1.length c1)).run Tryz.prog (w6.drewN n)=.ok (.string ⟨(d.f1).toArray⟩) (w6.drewN n):=fun n=>conv_c (w:=w6.drewN n) ((HRS6.out.2).mono hsz)
 clear hy1 hy2 hsz
 go_upto_region 5 with (fail)
 go_quiet (fail)
 have HB7:Hid (Below w0.heap.size w0 (w6.drewN nq)):=Lib.hid (below_drewN HB6.out nq)
 clear hcx0 hcx1 hca0 hca1 y0 y1 y2 z1 z2
 generalize w6.drewN nq=w7 at *
 go_wp2
 go_ret
 exact ⟨rfl,HB7.out⟩
end
section
open Go.RowKit SeedP Go.Maps
/-- an act that is examined -/
def SmallAct (a:ActP):Prop:=a.cs.length≤70∧a.key.length≤60∧a.val.length≤4106∧∀ c ∈ a.cs,c.key.length≤60∧c.val.length≤4106
theorem SmallAct.ok {a:ActP} (h:SmallAct a) (h0: -9223372036854775808≤a.pw) (h1:a.pw≤9223372036854775807):a.Ok:=
 ⟨h0,h1,by have:=h.1; omega,fun c hc=>by have:=h.2.2.2 c hc; omega,by have:=h.2.1; omega,by have:=h.2.2.1; omega⟩
/-- what Few hands back -/
def FewPost (L:List ActP) (e:Ending):Prop:=∃ b,e=.returned (.bool b)∧(b=true→L.length≤20∧∀ a ∈ L,SmallAct a)
theorem FewPost.no (L:List ActP):FewPost L (.returned (.bool false)):=⟨false,rfl,fun h=>by cases h⟩
end
end Go.Proofs.YtondomklkapogaaGreatDoor
