/- SchoolRules: a round of its loop. Written by mkrulesw.py. -/
import Derived.Test.YtbcfpdlhieaepaaGreatDoorR41
import Derived.Test.YtbcfpdlhieaepaaGreatDoorR42
import Derived.Test.YtbcfpdlhieaepaaGreatDoorR43
import Derived.Deep.CutBlock
namespace Go.Proofs.YtbcfpdlhieaepaaGreatDoor
section
open Go.RowKit SeedP Go.Maps
theorem task_z {n0:Nat} {w:World} {sb db jb mb:Nat} {s:JS} (id:Int) (h:SX n0 w sb db jb mb s):Calls Tryz.prog 24 #[sv sb,.int .i64 id] w fun e w'=>(∃ a c,e=.returned (.tuple #[taskV (s.taskZ id) (.slice a (s.taskZ id).body.length c),.bool (s.taskP id).isSome])∧RdB w' w'.heap.size (.slice a (s.taskZ id).body.length c) (s.taskZ id).body)∧Below w.heap.size w w':=by
 refine (task_x id h).mono ?_
 rintro e w' ⟨hp,hb⟩
 refine ⟨?_,hb⟩
 unfold JS.taskZ
 cases ht:s.taskP id with
 | none=>rw [ht] at hp; exact ⟨none,0,hp,RdB.nil _ _⟩
 | some t=>rw [ht] at hp; exact hp
theorem task_lim {s:JS} {g:Nat} (h:SFull s g) (id:Int) (st:List UInt8):0≤(s.taskZ id).due∧(s.taskZ id).due≤2147483647∧0≤(s.taskZ id).late∧(s.taskZ id).late≤2147483647∧(s.attsP id st).length≤99:=by
 unfold JS.taskZ JS.attsP
 cases ht:s.taskP id with
 | none=>exact ⟨by decide,by decide,by decide,by decide,by simp⟩
 | some t=>
   obtain ⟨_,_,hf,_⟩:=JS.taskP_some h.ok ht
   have h0:=hf.f0; have h1:=hf.f1; have h2:=hf.f2; have h3:=hf.f3; have h4:=hf.t0; have h5:=hf.t1
   refine ⟨by show 0≤t.due; omega,by show t.due≤_; omega,by show 0≤t.late; omega,by show t.late≤_; omega,?_⟩
   simp only
   split
   ·simp
   ·have:=attsFrom_le s.c.ents id.toNat st t.tries.toNat 1
    omega
/-- what a submission answers, against the question put ahead of it -/
theorem rules_law {s:JS} {g:Nat} (h:SFull s g) (hg:g+2 < 4611686018427387904) (id:Int) (st:List UInt8) (now:Int) (tx:List UInt8) {f:Bool}
 (hf:f=fitB (inB (s.taskP id).isSome (s.studentsP (s.taskZ id).cls) st (s.studentsP (s.taskZ id).cls).length) now tx.length (earlyB now (s.taskZ id).frm (s.attsP id st)) (s.taskZ id).late (s.extP id st) (s.attsP id st).length (s.taskZ id).tries) :
 ((submitP id st now tx s).2.2 ≠ 0→(submitP id st now tx s).2.1=0∧(f=true→(submitP id st now tx s).2.2=4)∧(submitP id st now tx s).1.attsP id st=s.attsP id st) ∧
 ((submitP id st now tx s).2.2=0→f=true∧(submitP id st now tx s).2.1=(s.attsP id st).length+1∧(submitP id st now tx s).1.attsP id st=s.attsP id st ++ [(now.toNat,tx)]∧(submitP id st now tx s).1.dueP id st=(s.taskZ id).due+s.extP id st∧0≤now):=by
 have hr:=rules_step h hg id st now tx
 generalize submitP id st now tx s=r at *
 refine ⟨fun he=>?_,fun he=>?_⟩
 ·obtain ⟨h1,h2,h3⟩:=hr.bad he
  exact ⟨h1,fun hft=>h2 (fitB_iff.1 (hf.symm.trans hft)),by rw [h3]⟩
 ·obtain ⟨⟨t,ht⟩,h2,h3,h4,h5⟩:=hr.good he
  refine ⟨hf.trans (fitB_iff.2 ⟨t,ht⟩),h2,h3,?_,ht.n0⟩
  rw [due_z,h5]
  unfold JS.taskZ
  rw [h4]
noncomputable def srB1:Code:=((Tryz.f7.body.bind (fndB 1)).getD .skip)
set_option maxRecDepth 1000000 in
set_option maxHeartbeats 8000000 in
theorem rulesRnd {K:Act→World→Prop} {Q':Exit→Act→World→Prop} {c1 c2 c4 c6 c7 c8 c9 c10 c11 c12 c13 c14 c15 c16 c17 c18 c19 c20 c21 c22 c23 c24 c25 c26 c27 c28 c29 c30 c31 c32 c33 c34 c35 c36 c37 c38 c39 c40 c41 c42 c43 c44 c45 c46 c47 c48 c49 c50 c51 c52 c53 c54 c55 c56 c57 c58 c59 c60 c61 c62 c63 c64 c65 c66 c67 c68 c69 c70 c71 c72 c73 c74 c75 c76 c77 c78 c79 c80 c81 c82 c83 c84 c85 c86 c87 c88 c89 c90 c91 c92 c93 c94 c95 c96 c97 c98 c99 c100 c101 c102 c103 c104 c105 c106 c107 c108 c109 c110 c111 c112 c113 c114 c115 c116 c117 c118 c119 c120 c121 c122 c123 c124 c125 c126 c127 c128 c129 c130 c131 c132 c133 c134 c135 c136 c137 c138 c139 c140 c141 c142 c143 c144 c145 c146 c147 c148 c149 c150 c151 c152 c153 c154 c155 c156 c157 c158 c159 c160 c161 c162 c163 c164 c165 c166 c167 c168 c169 c170 c171 c172 c173 c174 c175 c176 c177 c178 c179 c180 c181 c182 c183 c184 c185 c186 c187 c188 c189 c190 c191 c192 c193 c194 c195 c196 c197 c198 c199 c200 c201 c202 c203 c204 c205 c206 c207 c208 c209 c210 c211 c212 c213 c214 c215 c216 c217 c218 c219 c220 c221 c222 c223 c224 c225 c226 c227 c228 c229 c230 c231 c232 c233 c234 c235 c236 c237 c238 c239 c240 c241 c242 c243 c244 c245 c246:Value} {n0 sb jb mb i cl:Nat} {al:Option Addr} {s:JS} {L:List SActP} (w wr:World) (HL:Hid (SActsAt w w.heap.size (.slice al L.length cl) L)) (HSM:Hid (∀ a ∈ L,a.Small)) (hn:L.length≤25) (hle:w.heap.size≤n0) (HX:Hid (SX n0 wr sb n0 jb mb s)) (HF:Hid (SFull s (2 * i))) (HB:Hid (Below w.heap.size w wr)) (hlt:i < L.length)
 (HK:Hid (∀ (d6 d7 d8 d9 d10 d11 d12 d13 d14 d15 d16 d17 d18 d19 d39 d40 d41 d42 d43 d44 d45 d46 d47 d48 d49 d50 d51 d52 d53 d54 d55 d56 d57 d58 d59 d60 d61 d62 d63 d64 d65 d66 d67 d68 d69 d70 d71 d72 d73 d74 d75 d76 d77 d78 d79 d80 d81 d82 d83 d84 d85 d86 d87 d88 d89 d90 d91 d92 d93 d94 d95 d96 d97 d98 d99 d100 d101 d102 d103 d104 d105 d106 d107 d108 d109 d110 d111 d112 d113 d114 d115 d116 d117 d118 d119 d120 d121 d122 d123 d124 d125 d126 d127 d128 d129 d130 d131 d132 d133 d134 d135 d136 d137 d138 d139 d140 d141 d142 d143 d144 d145 d146 d147 d148 d149 d150 d151 d152 d153 d154 d155 d156 d157 d158 d159 d160 d161 d162 d163 d164 d165 d166 d167 d168 d169 d170 d171 d172 d173 d174 d175 d176 d177 d178 d179 d180 d181 d182 d183 d184 d185 d186 d187 d188 d189 d190 d191 d192 d193 d194 d195 d196 d197 d198 d199 d200 d201 d202 d203 d204 d205 d206 d207 d208 d209 d210 d211 d212 d213 d214 d215 d216 d217 d218 d219 d220 d221 d222 d223 d224 d225 d226 d227 d228 d229 d230 d231 d232 d233 d234 d235 d236 d237 d238 d239 d240 d241 d242 d243 d244 d245 d246:Value) (w':World) (s1:JS),(SX n0 w' sb n0 jb mb s1∧SFull s1 (2 * i+2)∧Below w.heap.size w w')→K ⟨#[.slice al L.length cl,c1,c2,sv sb,c4,.int .i64 (i:Int),d6,d7,d8,d9,d10,d11,d12,d13,d14,d15,d16,d17,d18,d19,c20,c21,c22,c23,c24,c25,c26,c27,c28,c29,c30,c31,c32,c33,c34,c35,c36,c37,c38,d39,d40,d41,d42,d43,d44,d45,d46,d47,d48,d49,d50,d51,d52,d53,d54,d55,d56,d57,d58,d59,d60,d61,d62,d63,d64,d65,d66,d67,d68,d69,d70,d71,d72,d73,d74,d75,d76,d77,d78,d79,d80,d81,d82,d83,d84,d85,d86,d87,d88,d89,d90,d91,d92,d93,d94,d95,d96,d97,d98,d99,d100,d101,d102,d103,d104,d105,d106,d107,d108,d109,d110,d111,d112,d113,d114,d115,d116,d117,d118,d119,d120,d121,d122,d123,d124,d125,d126,d127,d128,d129,d130,d131,d132,d133,d134,d135,d136,d137,d138,d139,d140,d141,d142,d143,d144,d145,d146,d147,d148,d149,d150,d151,d152,d153,d154,d155,d156,d157,d158,d159,d160,d161,d162,d163,d164,d165,d166,d167,d168,d169,d170,d171,d172,d173,d174,d175,d176,d177,d178,d179,d180,d181,d182,d183,d184,d185,d186,d187,d188,d189,d190,d191,d192,d193,d194,d195,d196,d197,d198,d199,d200,d201,d202,d203,d204,d205,d206,d207,d208,d209,d210,d211,d212,d213,d214,d215,d216,d217,d218,d219,d220,d221,d222,d223,d224,d225,d226,d227,d228,d229,d230,d231,d232,d233,d234,d235,d236,d237,d238,d239,d240,d241,d242,d243,d244,d245,d246],[]⟩ w')) :
 Code.wp Tryz.prog srB1 (Exit.then K Q') ⟨#[.slice al L.length cl,c1,c2,sv sb,c4,.int .i64 (i:Int),c6,c7,c8,c9,c10,c11,c12,c13,c14,c15,c16,c17,c18,c19,c20,c21,c22,c23,c24,c25,c26,c27,c28,c29,c30,c31,c32,c33,c34,c35,c36,c37,c38,c39,c40,c41,c42,c43,c44,c45,c46,c47,c48,c49,c50,c51,c52,c53,c54,c55,c56,c57,c58,c59,c60,c61,c62,c63,c64,c65,c66,c67,c68,c69,c70,c71,c72,c73,c74,c75,c76,c77,c78,c79,c80,c81,c82,c83,c84,c85,c86,c87,c88,c89,c90,c91,c92,c93,c94,c95,c96,c97,c98,c99,c100,c101,c102,c103,c104,c105,c106,c107,c108,c109,c110,c111,c112,c113,c114,c115,c116,c117,c118,c119,c120,c121,c122,c123,c124,c125,c126,c127,c128,c129,c130,c131,c132,c133,c134,c135,c136,c137,c138,c139,c140,c141,c142,c143,c144,c145,c146,c147,c148,c149,c150,c151,c152,c153,c154,c155,c156,c157,c158,c159,c160,c161,c162,c163,c164,c165,c166,c167,c168,c169,c170,c171,c172,c173,c174,c175,c176,c177,c178,c179,c180,c181,c182,c183,c184,c185,c186,c187,c188,c189,c190,c191,c192,c193,c194,c195,c196,c197,c198,c199,c200,c201,c202,c203,c204,c205,c206,c207,c208,c209,c210,c211,c212,c213,c214,c215,c216,c217,c218,c219,c220,c221,c222,c223,c224,c225,c226,c227,c228,c229,c230,c231,c232,c233,c234,c235,c236,c237,c238,c239,c240,c241,c242,c243,c244,c245,c246],[]⟩ wr:=by
 dsimp only
 conv=>arg 2; whnf
 have hun:undef=Value.tuple #[]:=rfl
 have b2:(i:Int) < (L.length:Int):=by omega
 obtain ⟨g,off,cap,ab,cb,ax,cx,e0,⟨c0,c1,c2,c3,c4,c5,c6,c7,c8,c9,c10,c11,c12⟩,hr1,hr2⟩:=HL.out.get HB.out hlt
 simp only [Value.slice.injEq,true_and] at e0
 obtain ⟨rfl,rfl⟩:=e0
 have HSA:=Lib.hid (HSM.out _ (List.getElem_mem hlt))
 generalize L[i]=a at *
 have HR1:=Lib.hid hr1
 have HR2:=Lib.hid hr2
 have hlt2:=Lib.hid hlt
 clear hr1 hr2 hlt
 go_upto_region 12 with (fail)
 have HY:=Lib.hid (Blk.new wr 37 (actCells a (.slice ab a.task.body.length cb) (.slice ax a.text.length cx)))
 have HBa:=Lib.hid ((Below.refl wr.heap.size wr).alloc (Nat.le_refl _) (.cells #[.int .i64 a.kind,strV a.cls,strV a.stu,strV a.task.cls,strV a.task.name,.int .i64 a.task.frm,.int .i64 a.task.due,.int .i64 a.task.late,.int .i64 a.task.tries,.slice ab a.task.body.length cb,.int .i64 a.id,.int .i64 a.n,.slice ax a.text.length cx] 37))
 change Code.wp _ _ _ _ (wr.alloc (.cells #[.int .i64 a.kind,strV a.cls,strV a.stu,strV a.task.cls,strV a.task.name,.int .i64 a.task.frm,.int .i64 a.task.due,.int .i64 a.task.late,.int .i64 a.task.tries,.slice ab a.task.body.length cb,.int .i64 a.id,.int .i64 a.n,.slice ax a.text.length cx] 37))
 have HX1:=Lib.hid (HX.out.below HBa.out)
 have HB1:=Lib.hid (HB.out.trans (HBa.out.mono HB.out.size))
 have HNJ:Hid (¬ Sj jb n0 mb wr.heap.size):=Lib.hid (fun h=>by have:=(HX.out.sj _ h).2; omega)
 change Hid (Blk (wr.alloc (.cells #[.int .i64 a.kind,strV a.cls,strV a.stu,strV a.task.cls,strV a.task.name,.int .i64 a.task.frm,.int .i64 a.task.due,.int .i64 a.task.late,.int .i64 a.task.tries,.slice ab a.task.body.length cb,.int .i64 a.id,.int .i64 a.n,.slice ax a.text.length cx] 37)) _ _ _) at HY
 generalize wr.alloc (.cells #[.int .i64 a.kind,strV a.cls,strV a.stu,strV a.task.cls,strV a.task.name,.int .i64 a.task.frm,.int .i64 a.task.due,.int .i64 a.task.late,.int .i64 a.task.tries,.slice ab a.task.body.length cb,.int .i64 a.id,.int .i64 a.n,.slice ax a.text.length cx] 37)=wa at *
 generalize wr.heap.size=ga at *
 clear HX HB HBa c0 c1 c2 c3 c4 c5 c6 c7 c8 c9 c10 c11 c12
 obtain ⟨y0,y1,y2,y3,y4,y5,y6,y7,y8,y9,y10,y11,y12⟩:=actBlk HY.out
 have HP:=Lib.hid (fun W=>pick_c a.kind 10 W (by omega) (by omega))
 generalize hkk:a.kind % 10=k at *
 go_wp2_with fail
 refine (HP.out _).mono ?_
 rintro e wz ⟨rfl,rfl⟩
 dsimp only
 clear HP
 by_cases hk:k < 5∨8 < k
 ·have HC:=Lib.hid (act_x a ab ax cb cx HX1.out HF.out.sok (HR1.out.later HB1.out) (HR2.out.later HB1.out) (by have:=HSA.out.body; omega) (by have:=HSA.out.text; omega))
  have HF1:=Lib.hid (((HF.out.do_ (by have:=hlt2.out; have:=hn; omega) a).1).full HF.out)
  generalize (doP a s).1=s1 at *
  generalize (doP a s).2.1=n1 at *
  generalize (doP a s).2.2=e1 at *
  by_cases hk1:k < 5
  ·have t1:decide (k < 5)=true:=decide_eq_true hk1
   clear hk hk1 hkk
   go_wp2_with fail
   refine HC.out.mono ?_
   rintro e w5 ⟨rfl,hA⟩
   dsimp only
   have HR:=Lib.hid (And.intro hA.sx (HB1.out.trans (hA.bl.mono hle)))
   clear hA HC y0 y1 y2 y3 y4 y5 y6 y7 y8 y9 y10 y11 y12
   go_wp2
   exact HK.out _ _ _ _ _ _ _ _ _ _ _ _ _ _ _ _ _ _ _ _ _ _ _ _ _ _ _ _ _ _ _ _ _ _ _ _ _ _ _ _ _ _ _ _ _ _ _ _ _ _ _ _ _ _ _ _ _ _ _ _ _ _ _ _ _ _ _ _ _ _ _ _ _ _ _ _ _ _ _ _ _ _ _ _ _ _ _ _ _ _ _ _ _ _ _ _ _ _ _ _ _ _ _ _ _ _ _ _ _ _ _ _ _ _ _ _ _ _ _ _ _ _ _ _ _ _ _ _ _ _ _ _ _ _ _ _ _ _ _ _ _ _ _ _ _ _ _ _ _ _ _ _ _ _ _ _ _ _ _ _ _ _ _ _ _ _ _ _ _ _ _ _ _ _ _ _ _ _ _ _ _ _ _ _ _ _ _ _ _ _ _ _ _ _ _ _ _ _ _ _ _ _ _ _ _ _ _ _ _ _ _ _ _ _ _ _ _ _ _ _ _ _ _ s1 ⟨HR.out.1,HF1.out,HR.out.2⟩
  ·have t1:decide (k < 5)=false:=decide_eq_false hk1
   have t2:decide (8 < k)=true:=decide_eq_true (by omega)
   clear hk hk1 hkk
   go_wp2_with fail
   refine HC.out.mono ?_
   rintro e w5 ⟨rfl,hA⟩
   dsimp only
   have HR:=Lib.hid (And.intro hA.sx (HB1.out.trans (hA.bl.mono hle)))
   clear hA HC y0 y1 y2 y3 y4 y5 y6 y7 y8 y9 y10 y11 y12
   go_wp2
   exact HK.out _ _ _ _ _ _ _ _ _ _ _ _ _ _ _ _ _ _ _ _ _ _ _ _ _ _ _ _ _ _ _ _ _ _ _ _ _ _ _ _ _ _ _ _ _ _ _ _ _ _ _ _ _ _ _ _ _ _ _ _ _ _ _ _ _ _ _ _ _ _ _ _ _ _ _ _ _ _ _ _ _ _ _ _ _ _ _ _ _ _ _ _ _ _ _ _ _ _ _ _ _ _ _ _ _ _ _ _ _ _ _ _ _ _ _ _ _ _ _ _ _ _ _ _ _ _ _ _ _ _ _ _ _ _ _ _ _ _ _ _ _ _ _ _ _ _ _ _ _ _ _ _ _ _ _ _ _ _ _ _ _ _ _ _ _ _ _ _ _ _ _ _ _ _ _ _ _ _ _ _ _ _ _ _ _ _ _ _ _ _ _ _ _ _ _ _ _ _ _ _ _ _ _ _ _ _ _ _ _ _ _ _ _ _ _ _ _ _ _ _ _ _ _ s1 ⟨HR.out.1,HF1.out,HR.out.2⟩
 ·have t1:decide (k < 5)=false:=decide_eq_false (by omega)
  have t2:decide (8 < k)=false:=decide_eq_false (by omega)
  clear hk hkk y0 y1 y2 y3 y4 y5 y6 y7 y8 y9 y10 y11 y12
  have HTZ:=Lib.hid (task_z a.id HX1.out)
  have HDZ:=Lib.hid (due_z s a.id a.stu)
  have HRL:=Lib.hid (fun f hf=>rules_law HF.out (by have:=hlt2.out; have:=hn; omega) a.id a.stu a.n a.text (f:=f) hf)
  have HLM:=Lib.hid (task_lim HF.out a.id a.stu)
  have HXL:=Lib.hid (extP_lt s a.id a.stu)
  have HFN:=Lib.hid ((((HF.out.submit (by have:=hlt2.out; have:=hn; omega) a.id a.stu a.n a.text).1).full HF.out))
  have HSL:=Lib.hid (students_len HF.out.live (s.taskZ a.id).cls)
  obtain ⟨y0,y1,y2,y3,y4,y5,y6,y7,y8,y9,y10,y11,y12⟩:=actBlk HY.out
  clear y0 y1 y3 y4 y5 y6 y7 y8 y9 y11 y12
  generalize (s.taskP a.id).isSome=ok at *
  generalize hTZ:s.taskZ a.id=T at *
  clear hTZ
  go_wp2_with fail
  refine HTZ.out.mono ?_
  rintro e w5 ⟨⟨tb,tc,rfl, -⟩,hb⟩
  dsimp only
  have HB5:=Lib.hid hb
  have y2:=keep_cell hb y2
  have y10:=keep_cell hb y10
  clear hb HTZ
  go_upto_region 16 with (fail)
  have hB56:Below w5.heap.size w5 (w5.alloc (.cells #[strV T.cls,strV T.name,.int .i64 T.frm,.int .i64 T.due,.int .i64 T.late,.int .i64 T.tries,.slice tb T.body.length tc] 35)):=(Below.refl _ _).alloc (Nat.le_refl _) _
  have HYT:=Lib.hid (Blk.new w5 35 [strV T.cls,strV T.name,.int .i64 T.frm,.int .i64 T.due,.int .i64 T.late,.int .i64 T.tries,.slice tb T.body.length tc])
  have HB6:=Lib.hid (HB5.out.trans (hB56.mono HB5.out.size))
  have y2:=keep_cell hB56 y2
  have y10:=keep_cell hB56 y10
  have HNT:Hid (¬ Sj jb n0 mb w5.heap.size):=Lib.hid (fun h=>by have:=(HX1.out.sj _ h).2; have:=HB5.out.size; omega)
  clear hB56 HB5
  change Code.wp _ _ _ _ (w5.alloc (.cells #[strV T.cls,strV T.name,.int .i64 T.frm,.int .i64 T.due,.int .i64 T.late,.int .i64 T.tries,.slice tb T.body.length tc] 35))
  change Hid (Blk (w5.alloc (.cells #[strV T.cls,strV T.name,.int .i64 T.frm,.int .i64 T.due,.int .i64 T.late,.int .i64 T.tries,.slice tb T.body.length tc] 35)) _ _ _) at HYT
  generalize w5.alloc (.cells #[strV T.cls,strV T.name,.int .i64 T.frm,.int .i64 T.due,.int .i64 T.late,.int .i64 T.tries,.slice tb T.body.length tc] 35)=w6 at *
  generalize w5.heap.size=gt at *
  have HX6:=Lib.hid (HX1.out.below HB6.out)
  have HC22:=Lib.hid (fun W (h:Below w6.heap.size w6 W)=>attempts_y a.id a.stu (HX6.out.below h) HF.out.sok)
  have HC21:=Lib.hid (fun W (h:Below w6.heap.size w6 W)=>extension_x a.id a.stu (HX6.out.below h) HF.out.sok)
  have HC18:=Lib.hid (fun W (h:Below w6.heap.size w6 W)=>students_x T.cls (HX6.out.below h))
  have HCS:=Lib.hid (fun W (h:Below w6.heap.size w6 W) hv hl=>submit_x a.id a.stu a.n a.text ax cx (HX6.out.below h) HF.out.sok hv hl)
  generalize s.extP a.id a.stu=x0 at *
  generalize s.attsP a.id a.stu=A0 at *
  generalize s.studentsP T.cls=S at *
  generalize s.dueP a.id a.stu=D0 at *
  generalize hrr:submitP a.id a.stu a.n a.text s=r at *
  clear hrr
  have hB:Below w6.heap.size w6 w6:=Below.refl _ _
  go_region_held3 (fun w'=>w'.cell? ⟨ga,2,none⟩=some (strV a.stu)∧w'.cell? ⟨ga,10,none⟩=some (.int .i64 a.id))
   (exact ⟨y2,y10⟩)
   (first
    | (go_at_call 22; refine (HC22.out _ (by first | exact hB | exact hB.drew)).mono ?_; go_must (rintro e w8 ⟨⟨av,ac,rfl,hv⟩,hb⟩); go_must (dsimp only); go_must (have y2:=keep_cell hb y2); go_must (have y10:=keep_cell hb y10); go_must (have hB:Below w6.heap.size w6 w8:=(by first | exact hB.trans (hb.mono hB.size) | exact hB.trans ((undrew hb).mono hB.size))); go_must (have HQ22:=Lib.hid hv); go_must (clear hv hb))
    | (go_at_call 21; refine (HC21.out _ (by first | exact hB | exact hB.drew)).mono ?_; go_must (rintro e w8 ⟨rfl,hb⟩); go_must (dsimp only); go_must (have y2:=keep_cell hb y2); go_must (have y10:=keep_cell hb y10); go_must (have hB:Below w6.heap.size w6 w8:=(by first | exact hB.trans (hb.mono hB.size) | exact hB.trans ((undrew hb).mono hB.size))); (try (have HQ22:=Lib.hid (by first | exact HQ22.out.below hb | exact HQ22.out.below (undrew hb)))); go_must (clear hb)))
  have HYT8:=Lib.hid (HYT.out.below hB)
  have t0:=HYT8.out.cell 0 (by simp)
  simp only [List.getD_cons_zero] at t0
  have HB8:=Lib.hid hB
  clear HC22 HC21 HYT hB
  go_wp2_with fail
  refine (HC18.out _ HB8.out).mono ?_
  rintro e w9 ⟨⟨v,rfl,hv⟩,hb⟩
  dsimp only
  have HLS:=Lib.hid hv.lst
  obtain ⟨sa,sc,rfl⟩:=HLS.out.form
  have HB9:=Lib.hid (HB8.out.trans (hb.mono HB8.out.size))
  have HQ9:=Lib.hid (HQ22.out.below hb)
  have HYT9:=Lib.hid (HYT8.out.below hb)
  have y2:=keep_cell hb y2
  have HY2:=Lib.hid y2
  clear hv hb HC18 HYT8 HQ22 HB8 t0 y10 y2
  go_upto_block 2 with (fail)
  go_cut [12,14] from 78 to 96 (fun nv kv wx=>kv=kv∧nv=.bool (inB ok S a.stu S.length)∧Below w9.heap.size w9 wx)
  case first=>
   go_wp2
   go_loopw [12,14] (fun nv kv wr=>∃ k:Nat,k≤S.length∧kv=.int .i64 k∧nv=.bool (inB ok S a.stu k)∧Below w9.heap.size w9 wr) (fun _ kv _=>S.length - (intOf kv).toNat)
   case atStart=>exact ⟨0,Nat.zero_le _,rfl,by rw [inB_zero],Below.refl _ _⟩
   case round=>
    obtain ⟨k,hkl,rfl,rfl,hbk⟩:=hrel
    have HBK:=Lib.hid hbk
    have hsl:=HSL.out
    by_cases hlt:k < S.length
    ·have b1:decide ((k:Int) < (S.length:Int))=true:=decide_eq_true (by omega)
     have b2:(k:Int) < (S.length:Int):=by omega
     obtain ⟨gs,qs,es,hgs,hcs⟩:∃ g cap,Value.slice sa S.length sc=.slice (some ⟨g,0,none⟩) S.length cap∧g < w9.heap.size∧∀ j (hj:j < S.length),w9.cell? ⟨g,j,none⟩=some (strV S[j]):=by
      rcases HLS.out.at_ with h | h
      ·rw [h] at hlt; simp at hlt
      ·exact h
     simp only [Value.slice.injEq,true_and] at es
     obtain ⟨rfl,rfl⟩:=es
     have c1:=keep_cell hbk (hcs k hlt)
     have y2k:=keep_cell hbk HY2.out
     have HSU:=Lib.hid (inB_succ ok a.stu hlt)
     have hlt3:=Lib.hid hlt
     clear hcs hgs hbk
     generalize S[k]=x at *
     clear hlt
     generalize hbi:inB ok S a.stu k=bi at *
     clear hbi
     cases bi with
     | true=>
       go_upto_region 21 with (fail)
       go_quiet (fail)
       all_goals
        go_wp2
        go_roundw
        case rel=>exact ⟨k+1,hlt3.out,by go_num,by rw [HSU.out]; rfl,below_drewN HBK.out _⟩
        case measure=>have:=hlt3.out; simp [intOf]; omega
     | false=>
       cases ok with
       | false=>
         go_upto_region 21 with (fail)
         go_quiet (fail)
         all_goals
          go_wp2
          go_roundw
          case rel=>exact ⟨k+1,hlt3.out,by go_num,by rw [HSU.out]; rfl,below_drewN HBK.out _⟩
          case measure=>have:=hlt3.out; simp [intOf]; omega
       | true=>
         generalize hbx:(x == a.stu)=bx at *
         go_upto_region 21 with (fail)
         go_quiet (fail)
         all_goals
          go_wp2
          go_roundw
          case rel=>exact ⟨k+1,hlt3.out,by go_num,by rw [HSU.out]; cases bx <;> rfl,below_drewN HBK.out _⟩
          case measure=>have:=hlt3.out; simp [intOf]; omega
    ·obtain rfl:k=S.length:=by omega
     have b1:decide ((S.length:Int) < (S.length:Int))=false:=by simp
     go_wp2
     go_meet
     exact ⟨(by first | rfl | trivial),rfl,HBK.out⟩
  case rest=>
   obtain ⟨-,rfl,hbk⟩:=hcut
   generalize hbi:inB ok S a.stu S.length=bin at *
   clear HY2 HLS hbi
   generalize wc=wr at *
   go_upto_region 22 with (fail)
   have HB10:=Lib.hid hbk
   have HQ10:=Lib.hid (HQ9.out.below hbk)
   have HYT10:=Lib.hid (HYT9.out.below hbk)
   have HY10:=Lib.hid (HY.out.below ((HB6.out.trans (HB9.out.mono HB6.out.size)).trans (hbk.mono (HB6.out.trans (HB9.out.mono HB6.out.size)).size)))
   clear hbk HQ9 HYT9
   have HBA:=Lib.hid ((HB6.out.trans (HB9.out.mono HB6.out.size)).trans (HB10.out.mono (HB6.out.trans (HB9.out.mono HB6.out.size)).size))
   have HB610:=Lib.hid (HB9.out.trans (HB10.out.mono HB9.out.size))
   clear HB10 HB9
   generalize wr=wq at *
   generalize hm0:A0.length=m0 at *
   obtain ⟨-, -, -, -, -, -, -, -, -, -, -,y11, -⟩:=actBlk HY10.out
   obtain ⟨t0,t1',t2',t3,t4,t5,t6, -⟩:=t7_of HYT10.out
   refine rules22 (A0:=A0) wq y11 t2' HQ10 hm0 HLM.out.2.2.2.2 (Lib.hid ?_)
   intro e97 e98 e99 e100 e101 e102 e103 e104 e105 e106 e107 e108 e109 e110 e111 e112 e113 e114 e115 e116 e117 e118 wz hbc
   dsimp only
   clear y11 t0 t1' t2' t3 t4 t5 t6
   have HB610':=Lib.hid (HB610.out.trans (hbc.mono HB610.out.size))
   have HBA':=Lib.hid (HBA.out.trans (hbc.mono HBA.out.size))
   have HQ11:=Lib.hid (HQ10.out.below hbc)
   have HYT11:=Lib.hid (HYT10.out.below hbc)
   have HY11:=Lib.hid (HY10.out.below hbc)
   clear hbc HB610 HBA HQ10 HYT10 HY10
   generalize wz=w11 at *
   obtain ⟨-, -, -, -, -, -, -, -, -, -, -,y11,y12⟩:=actBlk HY11.out
   obtain ⟨-, -, -, -,t4,t5, -, -⟩:=t7_of HYT11.out
   have hx0:=HXL.out
   have hlm:=HLM.out
   have p7:wrap64 (T.late+(x0:Int))=T.late+(x0:Int):=wr64 (by omega) (by omega)
   clear hx0 hlm
   generalize earlyB a.n T.frm A0=ea at *
   go_upto_region 23 with (fail)
   refine rules23 w11 y11 y12 t4 t5 p7 (Lib.hid ?_)
   intro e119 e120 e121 e122 e123 e124 e125 e126 e127 e128 e129 e130 e131 e132 e133 e134 e135 e136 e137 e138 e139 e140 e141 e142 e143 e144 e145 e146 e147 e148 e149 e150 e151 e152 e153 e154 e155 wz hwz
   subst hwz
   dsimp only
   clear y11 y12 t4 t5 p7
   have HQL:=Lib.hid (HRL.out _ rfl)
   generalize fitB bin a.n a.text.length ea T.late x0 m0 T.tries=f at *
   clear HRL
   have HCS2:=Lib.hid (HCS.out _ HB610'.out (HR2.out.later (HB1.out.trans (HBA'.out.mono HB1.out.size))) (by have:=HSA.out.text; omega))
   obtain ⟨s1,n1,e1⟩:=r
   simp only at HQL HFN HCS2
   obtain ⟨-, -,y2, -, -, -, -, -, -, -,y10,y11,y12⟩:=actBlk HY11.out
   go_wp2_with fail
   refine HCS2.out.mono ?_
   rintro e w12 ⟨rfl,hA⟩
   dsimp only
   have HX12:=Lib.hid hA.sx
   have HY12:=Lib.hid (HY11.out.grown hA.gr HNJ.out)
   have HYT12:=Lib.hid (HYT11.out.grown hA.gr HNT.out)
   have HB12:=Lib.hid ((HB1.out.trans (HBA'.out.mono HB1.out.size)).trans (hA.bl.mono hle))
   clear hA HCS HCS2 y2 y10 y11 y12 HY11 HYT11 HQ11 HBA' HB610'
   have HC2:=Lib.hid (attempts_y a.id a.stu HX12.out HFN.out.sok)
   generalize s1.attsP a.id a.stu=A1 at *
   generalize s1.dueP a.id a.stu=D1 at *
   obtain ⟨-, -,y2, -, -, -, -, -, -, -,y10, -, -⟩:=actBlk HY12.out
   go_wp2_with fail
   refine HC2.out.mono ?_
   rintro e w13 ⟨⟨bv,bc,rfl,hv⟩,hb⟩
   dsimp only
   have HQ13:=Lib.hid hv
   have HX13:=Lib.hid (HX12.out.below hb)
   have HY13:=Lib.hid (HY12.out.below hb)
   have HYT13:=Lib.hid (HYT12.out.below hb)
   have HB13:=Lib.hid (HB12.out.trans (hb.mono HB12.out.size))
   clear hv hb HC2 y2 y10 HX12 HY12 HYT12 HB12
   generalize hm1:A1.length=m1 at *
   by_cases he:e1=0
   ·obtain ⟨hft,hn1,hA1,hD1,hnn⟩:=HQL.out.2 he
    subst he hft
    have hl:m1=m0+1:=by rw [← hm1,hA1,List.length_append,hm0]; rfl
    obtain rfl:m1=n1:=by rw [hl,hn1]
    have hjl:m0 < A1.length:=by omega
    have hget:A1[m0]=(a.n.toNat,a.text):=by subst hA1; simp [← hm0]
    have hq:=HQ13.out
    rw [hD1] at hq
    obtain ⟨gq,aq,cq,rfl,hgq,q0,q1,q2,hrd⟩:=hq.at_ hjl hget
    simp only at q0 q1 q2 hrd
    rw [Int.toNat_of_nonneg hnn] at q0 q1
    have hx0:=HXL.out
    have hlm:=HLM.out
    have p2:((m1:Int) != (m1:Int))=false:=by simp
    have p4:(m0:Int) < (m1:Int):=by omega
    have p5:m0 < m1:=by omega
    have p7:(a.n != a.n)=false:=by simp
    have o1: -9223372036854775808≤(m0:Int)+1:=by omega
    have o2:(m0:Int)+1≤9223372036854775807:=by omega
    have o3:(m0:Int)+1=(m1:Int):=by omega
    have o4: -9223372036854775808≤(m1:Int) - 1:=by omega
    have o5:(m1:Int) - 1≤9223372036854775807:=by omega
    have o6:(m1:Int) - 1=(m0:Int):=by omega
    have o7: -9223372036854775808≤T.due+(x0:Int):=by omega
    have o8:T.due+(x0:Int)≤9223372036854775807:=by omega
    clear hx0 hlm
    have p1:wrap64 ((m0:Int)+1)=(m1:Int):=(wr64 o1 o2).trans o3
    have p1':IntKind.i64.wrap ((m0:Int)+1)=(m1:Int):=(iwr64 o1 o2).trans o3
    have p3:wrap64 ((m1:Int) - 1)=(m0:Int):=(wr64 o4 o5).trans o6
    have p3':IntKind.i64.wrap ((m1:Int) - 1)=(m0:Int):=(iwr64 o4 o5).trans o6
    have p6:wrap64 (T.due+(x0:Int))=T.due+(x0:Int):=wr64 o7 o8
    have p6':IntKind.i64.wrap (T.due+(x0:Int))=T.due+(x0:Int):=iwr64 o7 o8
    clear o1 o2 o3 o4 o5 o6 o7 o8
    have HRQ:=Lib.hid (And.intro hrd (HR2.out.later HB13.out))
    generalize hbl:decide (T.due+(x0:Int) < a.n)=bl at *
    obtain ⟨-, -, -, -, -, -, -, -, -, -, -,y11,y12⟩:=actBlk HY13.out
    obtain ⟨-, -, -,t3, -, -, -, -⟩:=t7_of HYT13.out
    clear hq hrd hget hA1 hD1 hnn hl hn1 hjl
    have hB:Below w13.heap.size w13 w13:=Below.refl _ _
    go_upto_region 29 with (fail)
    refine rules29 (tx:=a.text) w13 rfl q0 q1 q2 y11 y12 t3 hbl p1' p3' p5 p6' (Lib.hid ⟨HRQ.out.1,HRQ.out.2⟩) (Lib.hid ?_)
    intro e193 e194 e195 e196 e197 e198 e199 e200 e201 e202 e203 e204 e205 e206 e207 e208 e209 e210 e211 e212 e213 e214 e215 e216 e217 e218 e219 e220 e221 e222 e223 e224 e225 e226 e227 e228 e229 e230 e231 e232 e233 e234 e235 e236 e237 e238 e239 e240 e241 e242 e243 e244 e245 w' hw'
    dsimp only
    have HBN:=Lib.hid (HB13.out.trans (hw'.mono HB13.out.size))
    have HXN:=Lib.hid (HX13.out.below hw')
    clear hw' q0 q1 q2 y11 y12 t3 hB HRQ
    go_wp2
    exact HK.out _ _ _ _ _ _ _ _ _ _ _ _ _ _ _ _ _ _ _ _ _ _ _ _ _ _ _ _ _ _ _ _ _ _ _ _ _ _ _ _ _ _ _ _ _ _ _ _ _ _ _ _ _ _ _ _ _ _ _ _ _ _ _ _ _ _ _ _ _ _ _ _ _ _ _ _ _ _ _ _ _ _ _ _ _ _ _ _ _ _ _ _ _ _ _ _ _ _ _ _ _ _ _ _ _ _ _ _ _ _ _ _ _ _ _ _ _ _ _ _ _ _ _ _ _ _ _ _ _ _ _ _ _ _ _ _ _ _ _ _ _ _ _ _ _ _ _ _ _ _ _ _ _ _ _ _ _ _ _ _ _ _ _ _ _ _ _ _ _ _ _ _ _ _ _ _ _ _ _ _ _ _ _ _ _ _ _ _ _ _ _ _ _ _ _ _ _ _ _ _ _ _ _ _ _ _ _ _ _ _ _ _ _ _ _ _ _ _ _ _ _ _ _ s1 ⟨HXN.out,HFN.out,HBN.out⟩
   ·have q1:(e1 != 0)=true:=by simpa using he
    obtain ⟨hn1,hfe,hA1⟩:=HQL.out.1 he
    subst hn1
    obtain rfl:m1=m0:=by rw [← hm1,hA1,hm0]
    have p1:((m1:Int) != (m1:Int))=false:=by simp
    cases f with
    | false=>
      clear hfe he hA1
      go_wp2
      exact HK.out _ _ _ _ _ _ _ _ _ _ _ _ _ _ _ _ _ _ _ _ _ _ _ _ _ _ _ _ _ _ _ _ _ _ _ _ _ _ _ _ _ _ _ _ _ _ _ _ _ _ _ _ _ _ _ _ _ _ _ _ _ _ _ _ _ _ _ _ _ _ _ _ _ _ _ _ _ _ _ _ _ _ _ _ _ _ _ _ _ _ _ _ _ _ _ _ _ _ _ _ _ _ _ _ _ _ _ _ _ _ _ _ _ _ _ _ _ _ _ _ _ _ _ _ _ _ _ _ _ _ _ _ _ _ _ _ _ _ _ _ _ _ _ _ _ _ _ _ _ _ _ _ _ _ _ _ _ _ _ _ _ _ _ _ _ _ _ _ _ _ _ _ _ _ _ _ _ _ _ _ _ _ _ _ _ _ _ _ _ _ _ _ _ _ _ _ _ _ _ _ _ _ _ _ _ _ _ _ _ _ _ _ _ _ _ _ _ _ _ _ _ _ _ s1 ⟨HX13.out,HFN.out,HB13.out⟩
    | true=>
      obtain rfl:=hfe rfl
      clear hfe he hA1
      go_wp2
      exact HK.out _ _ _ _ _ _ _ _ _ _ _ _ _ _ _ _ _ _ _ _ _ _ _ _ _ _ _ _ _ _ _ _ _ _ _ _ _ _ _ _ _ _ _ _ _ _ _ _ _ _ _ _ _ _ _ _ _ _ _ _ _ _ _ _ _ _ _ _ _ _ _ _ _ _ _ _ _ _ _ _ _ _ _ _ _ _ _ _ _ _ _ _ _ _ _ _ _ _ _ _ _ _ _ _ _ _ _ _ _ _ _ _ _ _ _ _ _ _ _ _ _ _ _ _ _ _ _ _ _ _ _ _ _ _ _ _ _ _ _ _ _ _ _ _ _ _ _ _ _ _ _ _ _ _ _ _ _ _ _ _ _ _ _ _ _ _ _ _ _ _ _ _ _ _ _ _ _ _ _ _ _ _ _ _ _ _ _ _ _ _ _ _ _ _ _ _ _ _ _ _ _ _ _ _ _ _ _ _ _ _ _ _ _ _ _ _ _ _ _ _ _ _ _ s1 ⟨HX13.out,HFN.out,HB13.out⟩
end
section
open Go.RowKit SeedP Go.Maps
set_option maxRecDepth 100000 in
set_option maxHeartbeats 8000000 in
theorem schoolRules_walk (vl:Value) (L:List SActP) (w:World) (hs:St w) (hL:SActsAt w w.heap.size vl L) :
 Calls Tryz.prog 7 #[vl] w fun e w'=>e=.returned (.bool true)∧Below w.heap.size w w':=by
 have hun:undef=Value.tuple #[]:=rfl
 have HA:=Lib.hid (sawake_c w hs)
 have HL:=Lib.hid hL
 have HS:=Lib.hid hs
 obtain ⟨al,cl,rfl⟩:∃ a c,vl=.slice a L.length c:=by obtain ⟨a,c,e, -⟩:=hL; exact ⟨a,c,e⟩
 clear hL hs
 go_enter Tryz.func7,Tryz.ntmps7
 go_wp2_with fail
 refine HA.out.mono ?_
 rintro e w1 ⟨rfl,hb1⟩
 have HF:=Lib.hid (sfew_c (.slice al L.length cl) L w1 ((HL.out.below hb1).raise hb1.size))
 have HB1:=Lib.hid hb1
 clear HA hb1
 go_wp2_with fail
 refine HF.out.mono ?_
 rintro e w2 ⟨⟨b,rfl,hb⟩,hb2⟩
 have HB2:=Lib.hid (HB1.out.trans (hb2.mono HB1.out.size))
 clear HF hb2 HB1
 cases b with
 | false=>
   clear hb
   go_wp2
   go_ret
   exact ⟨rfl,HB2.out⟩
 | true=>
   obtain ⟨hn,hsm⟩:=hb rfl
   have HSM:=Lib.hid hsm
   clear hb hsm
   have HS2:=Lib.hid (HS.out.below HB2.out HS.out.pos)
   have hD:=Lib.hid (DX.new w2 HS2.out (-1))
   have hB:=Lib.hid ((Below.refl w2.heap.size w2).alloc (Nat.le_refl _) (.cells #[.int .i64 (-1),.slice none 0 0,.slice none 0 0] 29))
   have HB3:=Lib.hid (HB2.out.trans (hB.out.mono HB2.out.size))
   have hle:=HB2.out.size
   obtain ⟨n0,hn0⟩:∃ n,w2.heap.size=n:=⟨_,rfl⟩
   go_wp2_with fail
   rw [hn0] at hD hle
   generalize w2.alloc (.cells #[.int .i64 (-1),.slice none 0 0,.slice none 0 0] 29)=w3 at *
   clear hn0 hB HB2 HS2 HS
   refine (open_x hD.out ok0 sch0).mono ?_
   rintro e w4 ⟨⟨sb,jb,mb,rfl, -, -, -,hX⟩,hb4⟩
   have HB4:=Lib.hid (HB3.out.trans (hb4.mono HB3.out.size))
   have HX0:=Lib.hid hX
   have HF0:=Lib.hid at0.full
   clear hX hb4 HB3 hD
   generalize jOpen ⟨-1,[],[]⟩=s0 at *
   go_wp2
   go_loopw [5] (fun iv wr=>∃ (i:Nat) (s:JS),i≤L.length∧iv=.int .i64 i∧SX n0 wr sb n0 jb mb s∧SFull s (2 * i)∧Below w.heap.size w wr) (fun i _=>L.length - (intOf i).toNat)
   case atStart=>exact ⟨0,s0,Nat.zero_le _,rfl,HX0.out,HF0.out,HB4.out⟩
   case round=>
    obtain ⟨i,s,hi,rfl,hX,hF,hB⟩:=hrel
    clear HX0 HF0 HB4
    have HX:=Lib.hid hX
    have HF:=Lib.hid hF
    have HB:=Lib.hid hB
    clear hX hF hB
    by_cases hlt:i < L.length
    ·have b1:decide ((i:Int) < (L.length:Int))=true:=decide_eq_true (by omega)
     have b2:(i:Int) < (L.length:Int):=by omega
     have HLTT:=Lib.hid hlt
     go_upto_block 1 with (fail)
     refine rulesRnd w wr HL HSM hn hle HX HF HB HLTT.out (Lib.hid ?_)
     intro e6 e7 e8 e9 e10 e11 e12 e13 e14 e15 e16 e17 e18 e19 e39 e40 e41 e42 e43 e44 e45 e46 e47 e48 e49 e50 e51 e52 e53 e54 e55 e56 e57 e58 e59 e60 e61 e62 e63 e64 e65 e66 e67 e68 e69 e70 e71 e72 e73 e74 e75 e76 e77 e78 e79 e80 e81 e82 e83 e84 e85 e86 e87 e88 e89 e90 e91 e92 e93 e94 e95 e96 e97 e98 e99 e100 e101 e102 e103 e104 e105 e106 e107 e108 e109 e110 e111 e112 e113 e114 e115 e116 e117 e118 e119 e120 e121 e122 e123 e124 e125 e126 e127 e128 e129 e130 e131 e132 e133 e134 e135 e136 e137 e138 e139 e140 e141 e142 e143 e144 e145 e146 e147 e148 e149 e150 e151 e152 e153 e154 e155 e156 e157 e158 e159 e160 e161 e162 e163 e164 e165 e166 e167 e168 e169 e170 e171 e172 e173 e174 e175 e176 e177 e178 e179 e180 e181 e182 e183 e184 e185 e186 e187 e188 e189 e190 e191 e192 e193 e194 e195 e196 e197 e198 e199 e200 e201 e202 e203 e204 e205 e206 e207 e208 e209 e210 e211 e212 e213 e214 e215 e216 e217 e218 e219 e220 e221 e222 e223 e224 e225 e226 e227 e228 e229 e230 e231 e232 e233 e234 e235 e236 e237 e238 e239 e240 e241 e242 e243 e244 e245 e246 w' s1 hh
     dsimp only
     obtain ⟨hX,hF,hB⟩:=hh
     have HH:=Lib.hid (And.intro hX (And.intro hF hB))
     clear hX hF hB HX HF HB
     go_wp2
     go_roundw
     case rel=>exact ⟨i+1,s1,HLTT.out,by go_num,HH.out.1,HH.out.2.1,HH.out.2.2⟩
     case measure=>have:=HLTT.out; simp [intOf]; omega
    ·obtain rfl:i=L.length:=by omega
     have b1:decide ((L.length:Int) < (L.length:Int))=false:=by simp
     go_wp2
     go_ret
     exact ⟨rfl,HB.out⟩
end
end Go.Proofs.YtbcfpdlhieaepaaGreatDoor
