/- JournalOpens: two regions of the law, each walked by itself. -/
import Derived.Test.YtondomklkapogaaGreatDoorL42
import Derived.Test.YtondomklkapogaaGreatDoorL44
import Derived.Deep.DeepMust
namespace Go.Proofs.YtondomklkapogaaGreatDoor
open Go.RowKit SeedP Go.Maps
set_option linter.unusedVariables false
/-- while a block is added to a file -/
structure ApG (W:World) (db fo:Nat) (lf lb:List UInt8) (ds:List Bool) (vs:List Value) (w:World):Prop where
 gb:ds.getD 3 false=false→Below W.heap.size W w
 g0:ds.getD 0 false=true→ds.getD 2 false=false→w.ownsRow W.heap.size 5 1 (vs.getD 0 undef) lf.length (byts lf)
 g1:ds.getD 1 false=true→ds.getD 2 false=false→RdB w w.heap.size (vs.getD 1 undef) lb
 g2:ds.getD 2 false=true→ds.getD 3 false=false→w.ownsRow W.heap.size 5 1 (vs.getD 2 undef) (lf.length+lb.length) (byts (lf ++ lb))
 g3:ds.getD 3 false=true→∃ w2 a c,Below W.heap.size W w2∧RdB w2 w2.heap.size (.slice a (lf ++ lb).length c) (lf ++ lb)∧w=w2.setCell ⟨db,fo,none⟩ (.slice a (lf ++ lb).length c)
/-- while a byte is put in -/
structure InG (W:World) (l1 l2:List UInt8) (by_:UInt8) (ds:List Bool) (vs:List Value) (w:World):Prop where
 gb:Below W.heap.size W w
 g0:ds.getD 0 false=true→ds.getD 2 false=false→w.ownsRow W.heap.size 5 1 (vs.getD 0 undef) l1.length (byts l1)
 g1:ds.getD 1 false=true→ds.getD 2 false=false→RdB w w.heap.size (vs.getD 1 undef) [by_]
 g2:ds.getD 2 false=true→ds.getD 3 false=false→w.ownsRow W.heap.size 5 1 (vs.getD 2 undef) (l1.length+1) (byts (l1 ++ [by_]))
 g3:ds.getD 3 false=true→w.ownsRow W.heap.size 5 1 (vs.getD 3 undef) (l1.length+1+l2.length) (byts (l1 ++ [by_] ++ l2))
 g4:ds.getD 4 false=true→vs.getD 4 undef=vs.getD 3 undef
noncomputable def coR22:Code:=((Tryz.f4.body.bind (findR 22)).getD .skip)
noncomputable def coR28:Code:=((Tryz.f4.body.bind (findR 28)).getD .skip)
set_option maxRecDepth 1000000 in
set_option maxHeartbeats 8000000 in
theorem opens22_0 {Q:Exit→Act→World→Prop} {db rb:Nat} {d0:DS} {ao:Option Addr} {co:Nat} {l2:List UInt8} {sm:Int} {W:World} {c0 c1 c3 c4 c5 c6 c7 c8 c9 c10 c11 c12 c13 c14 c16 c17 c18 c19 c20 c21 c23 c24 c25 c26 c27 c28 c29 c30 c31 c32 c33 c34 c35 c36 c37 c38 c39 c40 c41 c42 c43 c44 c45 c46 c47 c48 c49 c50 c51 c52 c53 c54 c55 c56 c57 c58 c59 c60 c61 c62 c63 c64 c65 c66 c67 c68 c69 c70 c71 c72 c73 c74 c75 c76 c77 c78 c79 c80 c81 c82 c83 c84 c85 c86 c87 c88 c89 c90 c91 c92 c93 c94 c95 c96 c97 c98 c99 c100 c101 c102 c103 c104 c105 c106 c107 c108 c109 c110 c111 c112 c113 c114 c115 c116 c117 c118 c119 c120 c121 c122 c123 c124 c125 c126 c127 c128 c129 c130 c131 c132 c133 c134 c135 c136 c137 c138 c139 c140 c141 c142 c143 c144 c145 c146 c147 c148 c149 c150 c151 c152 c153 c154 c155 c156 c157 c158 c159 c160 c161 c162 c163 c164 c165 c166 c167 c168 c169 c170 c171 c172 c173 c174 c175 c176 c177 c178 c179 c180 c181 c182 c183 c184 c185 c186 c187:Value} (w6:World) (ho:l2.length≤2000) (af:Option Addr) (cf:Nat) (lf:List UInt8) (hlf:lf.length≤262144)
 (HDK6:Hid (DkF W.heap.size w6 db d0)) (HB6:Hid (Below W.heap.size W w6))
 (HALL:Hid (∀ wx,Below w6.heap.size w6 wx→wx.cell? ⟨rb,5,none⟩=some (.int .i64 0)∧wx.cell? ⟨rb,7,none⟩=some (.int .u64 sm)∧wx.cell? ⟨db,1,none⟩=some (.slice af lf.length cf)∧RdB wx w6.heap.size (.slice af lf.length cf) lf∧RdB wx w6.heap.size (.slice ao l2.length co) l2∧wx.frozen? ⟨db,1,none⟩=false)) (HBLK:(blockB (subI sm l2) l2).length≤2012)
 (HK:Hid (∀ (d112 d113 d114 d115 d116 d117 d118 d119 d120 d121 d122 d123 d124 d125 d126 d127 d128 d129 d130:Value) (w':World),(∃ d',DkF W.heap.size w' db d')→Below W.heap.size W w'→Q .normal ⟨#[c0,c1,.slice ao l2.length co,c3,c4,c5,c6,c7,c8,c9,c10,c11,c12,c13,c14,.pointer (some ⟨db,0,none⟩),c16,c17,c18,c19,c20,c21,.pointer (some ⟨rb,0,none⟩),c23,c24,c25,c26,c27,c28,c29,c30,c31,c32,c33,c34,c35,c36,c37,c38,c39,c40,c41,c42,c43,c44,c45,c46,c47,c48,c49,c50,c51,c52,c53,c54,c55,c56,c57,c58,c59,c60,c61,c62,c63,c64,c65,c66,c67,c68,c69,c70,c71,c72,c73,c74,c75,c76,c77,c78,c79,c80,c81,c82,c83,c84,c85,c86,c87,c88,c89,c90,c91,c92,c93,c94,c95,c96,c97,c98,c99,c100,c101,c102,c103,c104,c105,c106,c107,c108,c109,c110,c111,d112,d113,d114,d115,d116,d117,d118,d119,d120,d121,d122,d123,d124,d125,d126,d127,d128,d129,d130,c131,c132,c133,c134,c135,c136,c137,c138,c139,c140,c141,c142,c143,c144,c145,c146,c147,c148,c149,c150,c151,c152,c153,c154,c155,c156,c157,c158,c159,c160,c161,c162,c163,c164,c165,c166,c167,c168,c169,c170,c171,c172,c173,c174,c175,c176,c177,c178,c179,c180,c181,c182,c183,c184,c185,c186,c187],[]⟩ w')) :
 Code.wp Tryz.prog coR22 Q ⟨#[c0,c1,.slice ao l2.length co,c3,c4,c5,c6,c7,c8,c9,c10,c11,c12,c13,c14,.pointer (some ⟨db,0,none⟩),c16,c17,c18,c19,c20,c21,.pointer (some ⟨rb,0,none⟩),c23,c24,c25,c26,c27,c28,c29,c30,c31,c32,c33,c34,c35,c36,c37,c38,c39,c40,c41,c42,c43,c44,c45,c46,c47,c48,c49,c50,c51,c52,c53,c54,c55,c56,c57,c58,c59,c60,c61,c62,c63,c64,c65,c66,c67,c68,c69,c70,c71,c72,c73,c74,c75,c76,c77,c78,c79,c80,c81,c82,c83,c84,c85,c86,c87,c88,c89,c90,c91,c92,c93,c94,c95,c96,c97,c98,c99,c100,c101,c102,c103,c104,c105,c106,c107,c108,c109,c110,c111,c112,c113,c114,c115,c116,c117,c118,c119,c120,c121,c122,c123,c124,c125,c126,c127,c128,c129,c130,c131,c132,c133,c134,c135,c136,c137,c138,c139,c140,c141,c142,c143,c144,c145,c146,c147,c148,c149,c150,c151,c152,c153,c154,c155,c156,c157,c158,c159,c160,c161,c162,c163,c164,c165,c166,c167,c168,c169,c170,c171,c172,c173,c174,c175,c176,c177,c178,c179,c180,c181,c182,c183,c184,c185,c186,c187],[]⟩ w6:=by
 conv=>arg 2; whnf
 refine wp_region_mix (by kernel_rfl) (by kernel_rfl) (by kernel_rfl) [some (.pointer (some ⟨db,0,none⟩)),some (.pointer (some ⟨rb,5,none⟩)),some (.int .i64 0),some (.pointer (some ⟨db,0,none⟩)),some (.pointer (some ⟨rb,5,none⟩)),some (.int .i64 0),some (.pointer (some ⟨db,0,none⟩)),some (.pointer (some ⟨db,1,none⟩)),some (.pointer (some ⟨db,1,none⟩)),some (.slice af lf.length cf),none,some (.pointer (some ⟨rb,7,none⟩)),some (.int .u64 sm),some (.slice ao l2.length co),none,none,some (.pointer (some ⟨db,0,none⟩)),some (.pointer (some ⟨db,1,none⟩)),some (.pointer (some ⟨db,1,none⟩)),none] [10,14,15,19] (by kernel_rfl) (by kernel_rfl) (ApG w6 db 1 lf (blockB (subI sm l2) l2)) ⟨fun _=>bl_drew w6,(fun h=>by cases h),(fun h=>by cases h),(fun h=>by cases h),(fun h=>by cases h)⟩ ?_ ?_
 ·refine EachI.cons (MixOk.pure (by kernel_rfl) (fun _=>by kernel_rfl) (fun _ _=>by kernel_rfl)) ?_
  refine EachI.cons (MixOk.pure (by kernel_rfl) (fun _=>by kernel_rfl) (fun _ _=>by kernel_rfl)) ?_
  refine EachI.cons (MixOk.look (by kernel_rfl) (fun _=>by kernel_rfl) (fun dn ws wx hG hdep hcl hni=>xr_int _ _ _ _ _ _ _ ⟨rb,5,none⟩ _ wx (by kernel_rfl) (HALL.out wx (hG.gb (not_done (hcl 19 2 (by kernel_rfl)) hni))).1)) ?_
  refine EachI.cons (MixOk.pure (by kernel_rfl) (fun _=>by kernel_rfl) (fun _ _=>by kernel_rfl)) ?_
  refine EachI.cons (MixOk.pure (by kernel_rfl) (fun _=>by kernel_rfl) (fun _ _=>by kernel_rfl)) ?_
  refine EachI.cons (MixOk.look (by kernel_rfl) (fun _=>by kernel_rfl) (fun dn ws wx hG hdep hcl hni=>xr_int _ _ _ _ _ _ _ ⟨rb,5,none⟩ _ wx (by kernel_rfl) (HALL.out wx (hG.gb (not_done (hcl 19 5 (by kernel_rfl)) hni))).1)) ?_
  refine EachI.cons (MixOk.pure (by kernel_rfl) (fun _=>by kernel_rfl) (fun _ _=>by kernel_rfl)) ?_
  refine EachI.cons (MixOk.pure (by kernel_rfl) (fun _=>by kernel_rfl) (fun _ _=>by kernel_rfl)) ?_
  refine EachI.cons (MixOk.pure (by kernel_rfl) (fun _=>by kernel_rfl) (fun _ _=>by kernel_rfl)) ?_
  refine EachI.cons (MixOk.look (by kernel_rfl) (fun _=>by kernel_rfl) (fun dn ws wx hG hdep hcl hni=>xr_bytes _ _ _ _ _ _ _ ⟨db,1,none⟩ _ wx (by kernel_rfl) (HALL.out wx (hG.gb (not_done (hcl 19 9 (by kernel_rfl)) hni))).2.2.1)) ?_
  refine EachI.cons (MixOk.turn (by kernel_rfl) (fun dn ws wx hG hdep hcl hni=>?_)) ?_
  ·have h15:=not_done (hcl 15 10 (by kernel_rfl)) hni
   have h19:=not_done (hcl 19 10 (by kernel_rfl)) hni
   have hb:=hG.gb h19
   refine turn_call (by kernel_rfl) 17 #[.slice af lf.length cf] (by kernel_rfl) ((copyBytes_c _ lf w6.heap.size wx (HALL.out wx hb).2.2.2.1 (by omega)).mono ?_)
   rintro e w' ⟨⟨v',rfl,hown⟩,hbl⟩
   exact ⟨v',rfl,fun h=>(hG.gb h).trans (hbl.mono (hG.gb h).size),fun _ _=>own_up hown hb.size,fun h1 h2=>((hG.g1 h1 h2).below hbl).mono hbl.size,(fun h _=>by have h:dn 15=true:=h; rw [h15] at h; cases h),(fun h=>by have h:dn 19=true:=h; rw [h19] at h; cases h)⟩
  refine EachI.cons (MixOk.pure (by kernel_rfl) (fun _=>by kernel_rfl) (fun _ _=>by kernel_rfl)) ?_
  refine EachI.cons (MixOk.look (by kernel_rfl) (fun _=>by kernel_rfl) (fun dn ws wx hG hdep hcl hni=>xg_u64 _ ⟨rb,7,none⟩ _ wx (by kernel_rfl) (HALL.out wx (hG.gb (not_done (hcl 19 12 (by kernel_rfl)) hni))).2.1)) ?_
  refine EachI.cons (MixOk.pure (by kernel_rfl) (fun _=>by kernel_rfl) (fun _ _=>by kernel_rfl)) ?_
  refine EachI.cons (MixOk.turn (by kernel_rfl) (fun dn ws wx hG hdep hcl hni=>?_)) ?_
  ·have h15:=not_done (hcl 15 14 (by kernel_rfl)) hni
   have h19:=not_done (hcl 19 14 (by kernel_rfl)) hni
   have hb:=hG.gb h19
   refine turn_call (by kernel_rfl) 14 #[.int .u64 sm,.slice ao l2.length co] (by kernel_rfl) ((rblock_c sm _ l2 w6.heap.size wx (HALL.out wx hb).2.2.2.2.1 hb.size (by omega)).mono ?_)
   rintro e w' ⟨⟨v',rfl,hown⟩,hbl⟩
   exact ⟨v',rfl,fun h=>(hG.gb h).trans (hbl.mono (hG.gb h).size),fun h1 h2=>own_grown (hG.g0 h1 h2) (Grown.of_below hbl (S:=fun _=>False)) (fun _ _ _ h=>h),fun _ _=>RdB.of_own hown,(fun h _=>by have h:dn 15=true:=h; rw [h15] at h; cases h),(fun h=>by have h:dn 19=true:=h; rw [h19] at h; cases h)⟩
  refine EachI.cons (MixOk.turn (by kernel_rfl) (fun dn ws wx hG hdep hcl hni=>?_)) ?_
  ·have h19:=not_done (hcl 19 15 (by kernel_rfl)) hni
   have hb:=hG.gb h19
   have own0:=hG.g0 (hdep 10 (by kernel_rfl)) hni
   have rd1:=hG.g1 (hdep 14 (by kernel_rfl)) hni
   exact turn_app _ _ _ _ _ _ _ (by kernel_rfl) w6.heap.size (ws 10) lf.length lf (by kernel_rfl) own0 (ws 14) (blockB (subI sm l2) l2) (by kernel_rfl) rd1 (by omega) hb.size (fun v' w' hown hgr=>⟨fun h=>(hG.gb h).trans (below_own own0 hgr hb.size),(fun _ h=>by cases h),(fun _ h=>by cases h),fun _ _=>hown,(fun h=>by have h:dn 19=true:=h; rw [h19] at h; cases h)⟩)
  refine EachI.cons (MixOk.pure (by kernel_rfl) (fun _=>by kernel_rfl) (fun _ _=>by kernel_rfl)) ?_
  refine EachI.cons (MixOk.pure (by kernel_rfl) (fun _=>by kernel_rfl) (fun _ _=>by kernel_rfl)) ?_
  refine EachI.cons (MixOk.pure (by kernel_rfl) (fun _=>by kernel_rfl) (fun _ _=>by kernel_rfl)) ?_
  refine EachI.cons (MixOk.turn (by kernel_rfl) (fun dn ws wx hG hdep hcl hni=>?_)) ?_
  ·have d15:=hdep 15 (by kernel_rfl)
   have rd:=RdB.of_own (hG.g2 d15 hni)
   have hb:=hG.gb hni
   obtain ⟨a9,c9,e9, -, -, -⟩:=rd.open_
   have e9:ws 15=.slice a9 (lf ++ blockB (subI sm l2) l2).length c9:=e9
   have rd:RdB wx wx.heap.size (ws 15) (lf ++ blockB (subI sm l2) l2):=rd
   rw [e9] at rd
   exact turn_store _ _ _ _ _ _ _ (by kernel_rfl) ⟨db,1,none⟩ _ a9 (lf ++ blockB (subI sm l2) l2).length c9 (by kernel_rfl) (Eq.trans (b:=ws 15) (by kernel_rfl) e9) (HALL.out wx hb).2.2.1 (HALL.out wx hb).2.2.2.2.2 ⟨(fun h=>by cases h),(fun _ h=>by have h:dn 15=false:=h; rw [d15] at h; cases h),(fun _ h=>by have h:dn 15=false:=h; rw [d15] at h; cases h),(fun _ h=>by cases h),fun _=>⟨wx,a9,c9,hb,rd,rfl⟩⟩
  exact EachI.nil
 intro ws L' hL' w8 hG8
 obtain ⟨w2',a9,c9,hb2',hrd',hw⟩:=hG8.g3 rfl
 have hput:=(HDK6.out.below hb2').put (fo:=1) (by omega) hrd' (by rw [List.length_append,blockB_len]; omega)
 rw [← hw] at hput
 obtain ⟨⟨d',hd'⟩,hbd⟩:=hput
 have HD:=Lib.hid hd'
 have HBD:=Lib.hid ((HB6.out.trans (hb2'.mono HB6.out.size)).trans hbd)
 simp only [List.set_cons_succ,List.set_cons_zero,setAll,mix,List.getElem?_cons_succ,List.getElem?_cons_zero,Option.join_some,Option.getD_some,Option.getD_none,Nat.reduceAdd] at hL'
 subst hL'
 clear hG8 hd' hbd hw hrd' hb2'
 exact HK.out _ _ _ _ _ _ _ _ _ _ _ _ _ _ _ _ _ _ _ w8 ⟨d',HD.out⟩ HBD.out
set_option maxRecDepth 1000000 in
set_option maxHeartbeats 8000000 in
theorem opens22_1 {Q:Exit→Act→World→Prop} {db rb:Nat} {d0:DS} {ao:Option Addr} {co:Nat} {l2:List UInt8} {sm:Int} {W:World} {c0 c1 c3 c4 c5 c6 c7 c8 c9 c10 c11 c12 c13 c14 c16 c17 c18 c19 c20 c21 c23 c24 c25 c26 c27 c28 c29 c30 c31 c32 c33 c34 c35 c36 c37 c38 c39 c40 c41 c42 c43 c44 c45 c46 c47 c48 c49 c50 c51 c52 c53 c54 c55 c56 c57 c58 c59 c60 c61 c62 c63 c64 c65 c66 c67 c68 c69 c70 c71 c72 c73 c74 c75 c76 c77 c78 c79 c80 c81 c82 c83 c84 c85 c86 c87 c88 c89 c90 c91 c92 c93 c94 c95 c96 c97 c98 c99 c100 c101 c102 c103 c104 c105 c106 c107 c108 c109 c110 c111 c112 c113 c114 c115 c116 c117 c118 c119 c120 c121 c122 c123 c124 c125 c126 c127 c128 c129 c130 c131 c132 c133 c134 c135 c136 c137 c138 c139 c140 c141 c142 c143 c144 c145 c146 c147 c148 c149 c150 c151 c152 c153 c154 c155 c156 c157 c158 c159 c160 c161 c162 c163 c164 c165 c166 c167 c168 c169 c170 c171 c172 c173 c174 c175 c176 c177 c178 c179 c180 c181 c182 c183 c184 c185 c186 c187:Value} (w6:World) (ho:l2.length≤2000) (af:Option Addr) (cf:Nat) (lf:List UInt8) (hlf:lf.length≤262144)
 (HDK6:Hid (DkF W.heap.size w6 db d0)) (HB6:Hid (Below W.heap.size W w6))
 (HALL:Hid (∀ wx,Below w6.heap.size w6 wx→wx.cell? ⟨rb,5,none⟩=some (.int .i64 1)∧wx.cell? ⟨rb,7,none⟩=some (.int .u64 sm)∧wx.cell? ⟨db,2,none⟩=some (.slice af lf.length cf)∧RdB wx w6.heap.size (.slice af lf.length cf) lf∧RdB wx w6.heap.size (.slice ao l2.length co) l2∧wx.frozen? ⟨db,2,none⟩=false)) (HBLK:(blockB (subI sm l2) l2).length≤2012)
 (HK:Hid (∀ (d112 d113 d114 d115 d116 d117 d118 d119 d120 d121 d122 d123 d124 d125 d126 d127 d128 d129 d130:Value) (w':World),(∃ d',DkF W.heap.size w' db d')→Below W.heap.size W w'→Q .normal ⟨#[c0,c1,.slice ao l2.length co,c3,c4,c5,c6,c7,c8,c9,c10,c11,c12,c13,c14,.pointer (some ⟨db,0,none⟩),c16,c17,c18,c19,c20,c21,.pointer (some ⟨rb,0,none⟩),c23,c24,c25,c26,c27,c28,c29,c30,c31,c32,c33,c34,c35,c36,c37,c38,c39,c40,c41,c42,c43,c44,c45,c46,c47,c48,c49,c50,c51,c52,c53,c54,c55,c56,c57,c58,c59,c60,c61,c62,c63,c64,c65,c66,c67,c68,c69,c70,c71,c72,c73,c74,c75,c76,c77,c78,c79,c80,c81,c82,c83,c84,c85,c86,c87,c88,c89,c90,c91,c92,c93,c94,c95,c96,c97,c98,c99,c100,c101,c102,c103,c104,c105,c106,c107,c108,c109,c110,c111,d112,d113,d114,d115,d116,d117,d118,d119,d120,d121,d122,d123,d124,d125,d126,d127,d128,d129,d130,c131,c132,c133,c134,c135,c136,c137,c138,c139,c140,c141,c142,c143,c144,c145,c146,c147,c148,c149,c150,c151,c152,c153,c154,c155,c156,c157,c158,c159,c160,c161,c162,c163,c164,c165,c166,c167,c168,c169,c170,c171,c172,c173,c174,c175,c176,c177,c178,c179,c180,c181,c182,c183,c184,c185,c186,c187],[]⟩ w')) :
 Code.wp Tryz.prog coR22 Q ⟨#[c0,c1,.slice ao l2.length co,c3,c4,c5,c6,c7,c8,c9,c10,c11,c12,c13,c14,.pointer (some ⟨db,0,none⟩),c16,c17,c18,c19,c20,c21,.pointer (some ⟨rb,0,none⟩),c23,c24,c25,c26,c27,c28,c29,c30,c31,c32,c33,c34,c35,c36,c37,c38,c39,c40,c41,c42,c43,c44,c45,c46,c47,c48,c49,c50,c51,c52,c53,c54,c55,c56,c57,c58,c59,c60,c61,c62,c63,c64,c65,c66,c67,c68,c69,c70,c71,c72,c73,c74,c75,c76,c77,c78,c79,c80,c81,c82,c83,c84,c85,c86,c87,c88,c89,c90,c91,c92,c93,c94,c95,c96,c97,c98,c99,c100,c101,c102,c103,c104,c105,c106,c107,c108,c109,c110,c111,c112,c113,c114,c115,c116,c117,c118,c119,c120,c121,c122,c123,c124,c125,c126,c127,c128,c129,c130,c131,c132,c133,c134,c135,c136,c137,c138,c139,c140,c141,c142,c143,c144,c145,c146,c147,c148,c149,c150,c151,c152,c153,c154,c155,c156,c157,c158,c159,c160,c161,c162,c163,c164,c165,c166,c167,c168,c169,c170,c171,c172,c173,c174,c175,c176,c177,c178,c179,c180,c181,c182,c183,c184,c185,c186,c187],[]⟩ w6:=by
 conv=>arg 2; whnf
 refine wp_region_mix (by kernel_rfl) (by kernel_rfl) (by kernel_rfl) [some (.pointer (some ⟨db,0,none⟩)),some (.pointer (some ⟨rb,5,none⟩)),some (.int .i64 1),some (.pointer (some ⟨db,0,none⟩)),some (.pointer (some ⟨rb,5,none⟩)),some (.int .i64 1),some (.pointer (some ⟨db,0,none⟩)),some (.pointer (some ⟨db,1,none⟩)),some (.pointer (some ⟨db,2,none⟩)),some (.slice af lf.length cf),none,some (.pointer (some ⟨rb,7,none⟩)),some (.int .u64 sm),some (.slice ao l2.length co),none,none,some (.pointer (some ⟨db,0,none⟩)),some (.pointer (some ⟨db,1,none⟩)),some (.pointer (some ⟨db,2,none⟩)),none] [10,14,15,19] (by kernel_rfl) (by kernel_rfl) (ApG w6 db 2 lf (blockB (subI sm l2) l2)) ⟨fun _=>bl_drew w6,(fun h=>by cases h),(fun h=>by cases h),(fun h=>by cases h),(fun h=>by cases h)⟩ ?_ ?_
 ·refine EachI.cons (MixOk.pure (by kernel_rfl) (fun _=>by kernel_rfl) (fun _ _=>by kernel_rfl)) ?_
  refine EachI.cons (MixOk.pure (by kernel_rfl) (fun _=>by kernel_rfl) (fun _ _=>by kernel_rfl)) ?_
  refine EachI.cons (MixOk.look (by kernel_rfl) (fun _=>by kernel_rfl) (fun dn ws wx hG hdep hcl hni=>xr_int _ _ _ _ _ _ _ ⟨rb,5,none⟩ _ wx (by kernel_rfl) (HALL.out wx (hG.gb (not_done (hcl 19 2 (by kernel_rfl)) hni))).1)) ?_
  refine EachI.cons (MixOk.pure (by kernel_rfl) (fun _=>by kernel_rfl) (fun _ _=>by kernel_rfl)) ?_
  refine EachI.cons (MixOk.pure (by kernel_rfl) (fun _=>by kernel_rfl) (fun _ _=>by kernel_rfl)) ?_
  refine EachI.cons (MixOk.look (by kernel_rfl) (fun _=>by kernel_rfl) (fun dn ws wx hG hdep hcl hni=>xr_int _ _ _ _ _ _ _ ⟨rb,5,none⟩ _ wx (by kernel_rfl) (HALL.out wx (hG.gb (not_done (hcl 19 5 (by kernel_rfl)) hni))).1)) ?_
  refine EachI.cons (MixOk.pure (by kernel_rfl) (fun _=>by kernel_rfl) (fun _ _=>by kernel_rfl)) ?_
  refine EachI.cons (MixOk.pure (by kernel_rfl) (fun _=>by kernel_rfl) (fun _ _=>by kernel_rfl)) ?_
  refine EachI.cons (MixOk.pure (by kernel_rfl) (fun _=>by kernel_rfl) (fun _ _=>by kernel_rfl)) ?_
  refine EachI.cons (MixOk.look (by kernel_rfl) (fun _=>by kernel_rfl) (fun dn ws wx hG hdep hcl hni=>xr_bytes _ _ _ _ _ _ _ ⟨db,2,none⟩ _ wx (by kernel_rfl) (HALL.out wx (hG.gb (not_done (hcl 19 9 (by kernel_rfl)) hni))).2.2.1)) ?_
  refine EachI.cons (MixOk.turn (by kernel_rfl) (fun dn ws wx hG hdep hcl hni=>?_)) ?_
  ·have h15:=not_done (hcl 15 10 (by kernel_rfl)) hni
   have h19:=not_done (hcl 19 10 (by kernel_rfl)) hni
   have hb:=hG.gb h19
   refine turn_call (by kernel_rfl) 17 #[.slice af lf.length cf] (by kernel_rfl) ((copyBytes_c _ lf w6.heap.size wx (HALL.out wx hb).2.2.2.1 (by omega)).mono ?_)
   rintro e w' ⟨⟨v',rfl,hown⟩,hbl⟩
   exact ⟨v',rfl,fun h=>(hG.gb h).trans (hbl.mono (hG.gb h).size),fun _ _=>own_up hown hb.size,fun h1 h2=>((hG.g1 h1 h2).below hbl).mono hbl.size,(fun h _=>by have h:dn 15=true:=h; rw [h15] at h; cases h),(fun h=>by have h:dn 19=true:=h; rw [h19] at h; cases h)⟩
  refine EachI.cons (MixOk.pure (by kernel_rfl) (fun _=>by kernel_rfl) (fun _ _=>by kernel_rfl)) ?_
  refine EachI.cons (MixOk.look (by kernel_rfl) (fun _=>by kernel_rfl) (fun dn ws wx hG hdep hcl hni=>xg_u64 _ ⟨rb,7,none⟩ _ wx (by kernel_rfl) (HALL.out wx (hG.gb (not_done (hcl 19 12 (by kernel_rfl)) hni))).2.1)) ?_
  refine EachI.cons (MixOk.pure (by kernel_rfl) (fun _=>by kernel_rfl) (fun _ _=>by kernel_rfl)) ?_
  refine EachI.cons (MixOk.turn (by kernel_rfl) (fun dn ws wx hG hdep hcl hni=>?_)) ?_
  ·have h15:=not_done (hcl 15 14 (by kernel_rfl)) hni
   have h19:=not_done (hcl 19 14 (by kernel_rfl)) hni
   have hb:=hG.gb h19
   refine turn_call (by kernel_rfl) 14 #[.int .u64 sm,.slice ao l2.length co] (by kernel_rfl) ((rblock_c sm _ l2 w6.heap.size wx (HALL.out wx hb).2.2.2.2.1 hb.size (by omega)).mono ?_)
   rintro e w' ⟨⟨v',rfl,hown⟩,hbl⟩
   exact ⟨v',rfl,fun h=>(hG.gb h).trans (hbl.mono (hG.gb h).size),fun h1 h2=>own_grown (hG.g0 h1 h2) (Grown.of_below hbl (S:=fun _=>False)) (fun _ _ _ h=>h),fun _ _=>RdB.of_own hown,(fun h _=>by have h:dn 15=true:=h; rw [h15] at h; cases h),(fun h=>by have h:dn 19=true:=h; rw [h19] at h; cases h)⟩
  refine EachI.cons (MixOk.turn (by kernel_rfl) (fun dn ws wx hG hdep hcl hni=>?_)) ?_
  ·have h19:=not_done (hcl 19 15 (by kernel_rfl)) hni
   have hb:=hG.gb h19
   have own0:=hG.g0 (hdep 10 (by kernel_rfl)) hni
   have rd1:=hG.g1 (hdep 14 (by kernel_rfl)) hni
   exact turn_app _ _ _ _ _ _ _ (by kernel_rfl) w6.heap.size (ws 10) lf.length lf (by kernel_rfl) own0 (ws 14) (blockB (subI sm l2) l2) (by kernel_rfl) rd1 (by omega) hb.size (fun v' w' hown hgr=>⟨fun h=>(hG.gb h).trans (below_own own0 hgr hb.size),(fun _ h=>by cases h),(fun _ h=>by cases h),fun _ _=>hown,(fun h=>by have h:dn 19=true:=h; rw [h19] at h; cases h)⟩)
  refine EachI.cons (MixOk.pure (by kernel_rfl) (fun _=>by kernel_rfl) (fun _ _=>by kernel_rfl)) ?_
  refine EachI.cons (MixOk.pure (by kernel_rfl) (fun _=>by kernel_rfl) (fun _ _=>by kernel_rfl)) ?_
  refine EachI.cons (MixOk.pure (by kernel_rfl) (fun _=>by kernel_rfl) (fun _ _=>by kernel_rfl)) ?_
  refine EachI.cons (MixOk.turn (by kernel_rfl) (fun dn ws wx hG hdep hcl hni=>?_)) ?_
  ·have d15:=hdep 15 (by kernel_rfl)
   have rd:=RdB.of_own (hG.g2 d15 hni)
   have hb:=hG.gb hni
   obtain ⟨a9,c9,e9, -, -, -⟩:=rd.open_
   have e9:ws 15=.slice a9 (lf ++ blockB (subI sm l2) l2).length c9:=e9
   have rd:RdB wx wx.heap.size (ws 15) (lf ++ blockB (subI sm l2) l2):=rd
   rw [e9] at rd
   exact turn_store _ _ _ _ _ _ _ (by kernel_rfl) ⟨db,2,none⟩ _ a9 (lf ++ blockB (subI sm l2) l2).length c9 (by kernel_rfl) (Eq.trans (b:=ws 15) (by kernel_rfl) e9) (HALL.out wx hb).2.2.1 (HALL.out wx hb).2.2.2.2.2 ⟨(fun h=>by cases h),(fun _ h=>by have h:dn 15=false:=h; rw [d15] at h; cases h),(fun _ h=>by have h:dn 15=false:=h; rw [d15] at h; cases h),(fun _ h=>by cases h),fun _=>⟨wx,a9,c9,hb,rd,rfl⟩⟩
  exact EachI.nil
 intro ws L' hL' w8 hG8
 obtain ⟨w2',a9,c9,hb2',hrd',hw⟩:=hG8.g3 rfl
 have hput:=(HDK6.out.below hb2').put (fo:=2) (by omega) hrd' (by rw [List.length_append,blockB_len]; omega)
 rw [← hw] at hput
 obtain ⟨⟨d',hd'⟩,hbd⟩:=hput
 have HD:=Lib.hid hd'
 have HBD:=Lib.hid ((HB6.out.trans (hb2'.mono HB6.out.size)).trans hbd)
 simp only [List.set_cons_succ,List.set_cons_zero,setAll,mix,List.getElem?_cons_succ,List.getElem?_cons_zero,Option.join_some,Option.getD_some,Option.getD_none,Nat.reduceAdd] at hL'
 subst hL'
 clear hG8 hd' hbd hw hrd' hb2'
 exact HK.out _ _ _ _ _ _ _ _ _ _ _ _ _ _ _ _ _ _ _ w8 ⟨d',HD.out⟩ HBD.out
set_option maxRecDepth 1000000 in
set_option maxHeartbeats 8000000 in
theorem opens28 {Q:Exit→Act→World→Prop} {w3:World} {gy cy kk:Nat} {lx:List UInt8} {by6:UInt8} {c0 c1 c2 c3 c4 c5 c7 c8 c9 c10 c11 c12 c13 c14 c15 c16 c17 c18 c19 c20 c21 c22 c23 c24 c27 c28 c29 c30 c31 c32 c33 c34 c35 c36 c37 c38 c39 c40 c41 c42 c43 c44 c45 c46 c47 c48 c49 c50 c51 c52 c53 c54 c55 c56 c57 c58 c59 c60 c61 c62 c63 c64 c65 c66 c67 c68 c69 c70 c71 c72 c73 c74 c75 c76 c77 c78 c79 c80 c81 c82 c83 c84 c85 c86 c87 c88 c89 c90 c91 c92 c93 c94 c95 c96 c97 c98 c99 c100 c101 c102 c103 c104 c105 c106 c107 c108 c109 c110 c111 c112 c113 c114 c115 c116 c117 c118 c119 c120 c121 c122 c123 c124 c125 c126 c127 c128 c129 c130 c131 c132 c133 c134 c135 c136 c137 c138 c139 c140 c141 c142 c143 c144 c145 c146 c147 c148 c149 c150 c151 c152 c153 c154 c155 c156 c157 c158 c159 c160 c161 c162 c163 c164 c165 c166 c167 c168 c169 c170 c171 c172 c173 c174 c175 c176 c177 c178 c179 c180 c181 c182 c183 c184 c185 c186 c187:Value} (w4:World) (hkl:kk < lx.length) (hcy:lx.length≤cy) (hlx:lx.length≤262144) (HB4:Hid (Below w3.heap.size w3 w4))
 (HTK:Hid (RdB w4 w4.heap.size (.slice (some ⟨gy,0,none⟩) kk cy) (lx.take kk)∧RdB w4 w4.heap.size (.slice (some ⟨gy,0+kk,none⟩) (lx.length - kk) (cy - kk)) (lx.drop kk)))
 (HK:Hid (∀ (d147 d148 d149 d150 d151 d152 d153 d154 d155 d156 d157:Value) (w':World) (a8:Option Addr) (k8:Nat),RdB w' w'.heap.size (.slice a8 (lx.take kk ++ [by6] ++ lx.drop kk).length k8) (lx.take kk ++ [by6] ++ lx.drop kk)→Below w3.heap.size w3 w'→Q .normal ⟨#[c0,c1,c2,c3,c4,c5,.int .u8 by6.toNat,c7,c8,c9,c10,c11,c12,c13,c14,c15,c16,c17,c18,c19,c20,c21,c22,c23,c24,.int .i64 (kk:Int),.slice a8 (lx.take kk ++ [by6] ++ lx.drop kk).length k8,c27,c28,c29,c30,c31,c32,c33,c34,c35,c36,c37,c38,c39,c40,c41,c42,c43,c44,c45,c46,c47,c48,c49,c50,c51,c52,c53,c54,c55,c56,c57,c58,c59,c60,c61,c62,c63,c64,c65,c66,c67,c68,c69,c70,c71,c72,c73,c74,c75,c76,c77,c78,c79,c80,c81,c82,c83,c84,c85,c86,c87,c88,c89,c90,c91,c92,c93,c94,c95,c96,c97,c98,c99,c100,c101,c102,c103,c104,c105,c106,c107,c108,c109,c110,c111,c112,c113,c114,c115,c116,c117,c118,c119,c120,c121,c122,c123,c124,c125,c126,c127,c128,c129,c130,c131,c132,c133,c134,c135,c136,c137,c138,c139,c140,c141,c142,c143,c144,c145,c146,d147,d148,d149,d150,d151,d152,d153,d154,d155,d156,d157,c158,c159,c160,c161,c162,c163,c164,c165,c166,c167,c168,c169,c170,c171,c172,c173,c174,c175,c176,c177,c178,c179,c180,c181,c182,c183,c184,c185,c186,c187],[]⟩ w')) :
 Code.wp Tryz.prog coR28 Q ⟨#[c0,c1,c2,c3,c4,c5,.int .u8 by6.toNat,c7,c8,c9,c10,c11,c12,c13,c14,c15,c16,c17,c18,c19,c20,c21,c22,c23,c24,.int .i64 (kk:Int),.slice (some ⟨gy,0,none⟩) lx.length cy,c27,c28,c29,c30,c31,c32,c33,c34,c35,c36,c37,c38,c39,c40,c41,c42,c43,c44,c45,c46,c47,c48,c49,c50,c51,c52,c53,c54,c55,c56,c57,c58,c59,c60,c61,c62,c63,c64,c65,c66,c67,c68,c69,c70,c71,c72,c73,c74,c75,c76,c77,c78,c79,c80,c81,c82,c83,c84,c85,c86,c87,c88,c89,c90,c91,c92,c93,c94,c95,c96,c97,c98,c99,c100,c101,c102,c103,c104,c105,c106,c107,c108,c109,c110,c111,c112,c113,c114,c115,c116,c117,c118,c119,c120,c121,c122,c123,c124,c125,c126,c127,c128,c129,c130,c131,c132,c133,c134,c135,c136,c137,c138,c139,c140,c141,c142,c143,c144,c145,c146,c147,c148,c149,c150,c151,c152,c153,c154,c155,c156,c157,c158,c159,c160,c161,c162,c163,c164,c165,c166,c167,c168,c169,c170,c171,c172,c173,c174,c175,c176,c177,c178,c179,c180,c181,c182,c183,c184,c185,c186,c187],[]⟩ w4:=by
 conv=>arg 2; whnf
 have htl:(lx.take kk).length=kk:=by rw [List.length_take]; omega
 have hdl:(lx.drop kk).length=lx.length - kk:=by rw [List.length_drop]
 refine wp_region_mixL (by kernel_rfl) 11 26 _ rfl rfl (by kernel_rfl) (by kernel_rfl) (Nat.le_of_ble_eq_true (by kernel_rfl)) [some (.slice (some ⟨gy,0,none⟩) lx.length cy),some (.int .i64 (kk:Int)),some (.slice (some ⟨gy,0,none⟩) kk cy),none,some (.int .u8 by6.toNat),none,none,some (.slice (some ⟨gy,0,none⟩) lx.length cy),some (.int .i64 (kk:Int)),some (.slice (some ⟨gy,0+kk,none⟩) (lx.length - kk) (cy - kk)),none,none] [3,5,6,10,11] (by kernel_rfl) (by kernel_rfl) (by kernel_rfl) (InG w4 (lx.take kk) (lx.drop kk) by6) ⟨bl_drew w4,(fun h=>by cases h),(fun h=>by cases h),(fun h=>by cases h),(fun h=>by cases h),(fun h=>by cases h)⟩ ?_ ?_
 ·refine EachI.cons (MixOkL.pure (by kernel_rfl) (fun _=>by kernel_rfl) (fun _ _=>by kernel_rfl)) ?_
  refine EachI.cons (MixOkL.pure (by kernel_rfl) (fun _=>by kernel_rfl) (fun _ _=>by kernel_rfl)) ?_
  refine EachI.cons (MixOkL.pure (by kernel_rfl) (fun _=>by kernel_rfl) (fun _ wx=>xs_upto _ _ _ _ _ _ _ _ _ lx.length cy kk wx (by kernel_rfl) (by kernel_rfl) (by omega))) ?_
  refine EachI.cons (MixOkL.turn (by kernel_rfl) (fun dn ws wx hG hdep hcl hni=>?_)) ?_
  ·have h6:=not_done (hcl 6 3 (by kernel_rfl)) hni
   have h10:=not_done (hcl 10 6 (by kernel_rfl)) h6
   have h11:=not_done (hcl 11 10 (by kernel_rfl)) h10
   have hb:=hG.gb
   refine turn_call (by kernel_rfl) 17 #[.slice (some ⟨gy,0,none⟩) kk cy] (by kernel_rfl) ((copyBytes_c _ (lx.take kk) w4.heap.size wx (HTK.out.1.below hb) (by omega)).mono ?_)
   rintro e w' ⟨⟨v',rfl,hown⟩,hbl⟩
   exact ⟨v',rfl,hb.trans (hbl.mono hb.size),fun _ _=>own_up hown hb.size,fun h1 h2=>((hG.g1 h1 h2).below hbl).mono hbl.size,(fun h _=>by have h:dn 6=true:=h; rw [h6] at h; cases h),(fun h=>by have h:dn 10=true:=h; rw [h10] at h; cases h),(fun h=>by have h:dn 11=true:=h; rw [h11] at h; cases h)⟩
  refine EachI.cons (MixOkL.pure (by kernel_rfl) (fun _=>by kernel_rfl) (fun _ _=>by kernel_rfl)) ?_
  refine EachI.cons (MixOkL.turn (by kernel_rfl) (fun dn ws wx hG hdep hcl hni=>?_)) ?_
  ·have h6:=not_done (hcl 6 5 (by kernel_rfl)) hni
   have h10:=not_done (hcl 10 6 (by kernel_rfl)) h6
   have h11:=not_done (hcl 11 10 (by kernel_rfl)) h10
   have hb:=hG.gb
   have hbl:=(Below.refl wx.heap.size wx).alloc (Nat.le_refl _) (.cells #[.int .u8 by6.toNat] 5)
   exact turn_run (by kernel_rfl) _ _ (xg_bsB _ (by6.toNat:Int) wx (by kernel_rfl)) ⟨hb.trans (hbl.mono hb.size),fun h1 h2=>own_grown (hG.g0 h1 h2) (Grown.of_below hbl (S:=fun _=>False)) (fun _ _ _ h=>h),fun _ _=>(rdB_lit wx [by6] (by simp [maxLen]) 1 rfl).mono (by simp),(fun h _=>by have h:dn 6=true:=h; rw [h6] at h; cases h),(fun h=>by have h:dn 10=true:=h; rw [h10] at h; cases h),(fun h=>by have h:dn 11=true:=h; rw [h11] at h; cases h)⟩
  refine EachI.cons (MixOkL.turn (by kernel_rfl) (fun dn ws wx hG hdep hcl hni=>?_)) ?_
  ·have h10:=not_done (hcl 10 6 (by kernel_rfl)) hni
   have h11:=not_done (hcl 11 10 (by kernel_rfl)) h10
   have hb:=hG.gb
   have own0:=hG.g0 (hdep 3 (by kernel_rfl)) hni
   have rd1:=hG.g1 (hdep 5 (by kernel_rfl)) hni
   exact turn_app _ _ _ _ _ _ _ (by kernel_rfl) w4.heap.size (ws 3) (lx.take kk).length (lx.take kk) (by kernel_rfl) own0 (ws 5) [by6] (by kernel_rfl) rd1 (by simp only [List.length_cons,List.length_nil]; omega) hb.size (fun v' w' hown hgr=>⟨hb.trans (below_own own0 hgr hb.size),(fun _ h=>by cases h),(fun _ h=>by cases h),fun _ _=>hown,(fun h=>by have h:dn 10=true:=h; rw [h10] at h; cases h),(fun h=>by have h:dn 11=true:=h; rw [h11] at h; cases h)⟩)
  refine EachI.cons (MixOkL.pure (by kernel_rfl) (fun _=>by kernel_rfl) (fun _ _=>by kernel_rfl)) ?_
  refine EachI.cons (MixOkL.pure (by kernel_rfl) (fun _=>by kernel_rfl) (fun _ _=>by kernel_rfl)) ?_
  refine EachI.cons (MixOkL.pure (by kernel_rfl) (fun _=>by kernel_rfl) (fun _ wx=>xs_from _ _ gy 0 lx.length cy kk wx (by kernel_rfl) (by kernel_rfl) (by omega) (by omega))) ?_
  refine EachI.cons (MixOkL.turn (by kernel_rfl) (fun dn ws wx hG hdep hcl hni=>?_)) ?_
  ·have h11:=not_done (hcl 11 10 (by kernel_rfl)) hni
   have hb:=hG.gb
   have d6:=hdep 6 (by kernel_rfl)
   have own2:=hG.g2 d6 hni
   exact turn_app _ _ _ _ _ _ _ (by kernel_rfl) w4.heap.size (ws 6) ((lx.take kk).length+1) (lx.take kk ++ [by6]) (by kernel_rfl) own2 (.slice (some ⟨gy,0+kk,none⟩) (lx.length - kk) (cy - kk)) (lx.drop kk) (by kernel_rfl) (HTK.out.2.below hb) (by omega) hb.size (fun v' w' hown hgr=>⟨hb.trans (below_own own2 hgr hb.size),(fun _ h=>by have h:dn 6=false:=h; rw [d6] at h; cases h),(fun _ h=>by have h:dn 6=false:=h; rw [d6] at h; cases h),(fun _ h=>by cases h),fun _=>hown,(fun h=>by have h:dn 11=true:=h; rw [h11] at h; cases h)⟩)
  refine EachI.cons (MixOkL.turn (by kernel_rfl) (fun dn ws wx hG hdep hcl hni=>?_)) ?_
  ·exact turn_run (by kernel_rfl) (ws 10) wx (by kernel_rfl) ⟨hG.gb,hG.g0,hG.g1,hG.g2,hG.g3,fun _=>rfl⟩
  exact EachI.nil
 intro ws L' hL' w8 hG8
 have hown8:=hG8.g3 rfl
 have e11:ws 11=ws 10:=hG8.g4 rfl
 have hr8:=RdB.of_own hown8
 obtain ⟨a8,k8,e8, -⟩:=hr8.open_
 have e8:ws 10=.slice a8 (lx.take kk ++ [by6] ++ lx.drop kk).length k8:=e8
 have e11:=e11.trans e8
 have hr8:RdB w8 w8.heap.size (ws 10) (lx.take kk ++ [by6] ++ lx.drop kk):=hr8
 rw [e8] at hr8
 have HF:=Lib.hid (And.intro hr8 (HB4.out.trans (hG8.gb.mono HB4.out.size)))
 simp only [List.set_cons_succ,List.set_cons_zero,setAll,mix,List.getElem?_cons_succ,List.getElem?_cons_zero,Option.join_some,Option.getD_some,Option.getD_none,Nat.reduceAdd,e11] at hL'
 subst hL'
 clear hG8 hown8 hr8 e11 e8
 exact HK.out _ _ _ _ _ _ _ _ _ _ _ w8 a8 k8 HF.out.1 HF.out.2
noncomputable def coB0:Code:=((Tryz.f4.body.bind (findB 0)).getD .skip)
noncomputable def coB2:Code:=((Tryz.f4.body.bind (findB 2)).getD .skip)
set_option maxRecDepth 1000000 in
set_option maxHeartbeats 8000000 in
theorem opensB0 {K:Act→World→Prop} {Q':Exit→Act→World→Prop} {W:World} {db jb:Nat} {s0:JS} {al0:Option Addr} {cl0:Nat} {L0:List ActP} {c1 c2 c3 c4 c5 c6 c7 c8 c9 c10 c11 c12 c13 c14 c17 c19 c20 c21 c22 c23 c24 c25 c26 c27 c28 c29 c30 c31 c32 c33 c34 c35 c36 c37 c38 c39 c40 c41 c42 c43 c44 c45 c46 c47 c48 c49 c50 c51 c52 c53 c54 c55 c56 c57 c58 c59 c60 c61 c62 c63 c64 c65 c66 c67 c68 c69 c70 c71 c72 c73 c74 c75 c76 c77 c78 c79 c80 c81 c82 c83 c84 c85 c86 c87 c88 c89 c90 c91 c92 c93 c94 c95 c96 c97 c98 c99 c100 c101 c102 c103 c104 c105 c106 c107 c108 c109 c110 c111 c112 c113 c114 c115 c116 c117 c118 c119 c120 c121 c122 c123 c124 c125 c126 c127 c128 c129 c130 c131 c132 c133 c134 c135 c136 c137 c138 c139 c140 c141 c142 c143 c144 c145 c146 c147 c148 c149 c150 c151 c152 c153 c154 c155 c156 c157 c158 c159 c160 c161 c162 c163 c164 c165 c166 c167 c168 c169 c170 c171 c172 c173 c174 c175 c176 c177 c178 c179 c180 c181 c182 c183 c184 c185 c186 c187:Value} (w2:World) (hl0:L0.length≤20) (HL0:Hid (ActsAt W W.heap.size (.slice al0 L0.length cl0) L0)) (HF0:Hid (L0.length≤20∧∀ a ∈ L0,SmallAct a)) (HJ2:Hid (JL W.heap.size w2 db jb s0)) (HB2:Hid (Below W.heap.size W w2))
 (HK:Hid (∀ (d18 d49 d50 d51 d52 d53 d54 d55 d56 d57 d58 d59 d60 d61 d62 d63 d64 d65 d66 d67 d68 d69 d70:Value) (w':World) (s:JS),JL W.heap.size w' db jb s→Below W.heap.size W w'→K ⟨#[.slice al0 L0.length cl0,c1,c2,c3,c4,c5,c6,c7,c8,c9,c10,c11,c12,c13,c14,.pointer (some ⟨db,0,none⟩),.pointer (some ⟨jb,0,none⟩),c17,d18,c19,c20,c21,c22,c23,c24,c25,c26,c27,c28,c29,c30,c31,c32,c33,c34,c35,c36,c37,c38,c39,c40,c41,c42,c43,c44,c45,c46,c47,c48,d49,d50,d51,d52,d53,d54,d55,d56,d57,d58,d59,d60,d61,d62,d63,d64,d65,d66,d67,d68,d69,d70,c71,c72,c73,c74,c75,c76,c77,c78,c79,c80,c81,c82,c83,c84,c85,c86,c87,c88,c89,c90,c91,c92,c93,c94,c95,c96,c97,c98,c99,c100,c101,c102,c103,c104,c105,c106,c107,c108,c109,c110,c111,c112,c113,c114,c115,c116,c117,c118,c119,c120,c121,c122,c123,c124,c125,c126,c127,c128,c129,c130,c131,c132,c133,c134,c135,c136,c137,c138,c139,c140,c141,c142,c143,c144,c145,c146,c147,c148,c149,c150,c151,c152,c153,c154,c155,c156,c157,c158,c159,c160,c161,c162,c163,c164,c165,c166,c167,c168,c169,c170,c171,c172,c173,c174,c175,c176,c177,c178,c179,c180,c181,c182,c183,c184,c185,c186,c187],[]⟩ w')) :
 Code.wp Tryz.prog coB0 (Exit.then K Q') ⟨#[.slice al0 L0.length cl0,c1,c2,c3,c4,c5,c6,c7,c8,c9,c10,c11,c12,c13,c14,.pointer (some ⟨db,0,none⟩),.pointer (some ⟨jb,0,none⟩),c17,.int .i64 0,c19,c20,c21,c22,c23,c24,c25,c26,c27,c28,c29,c30,c31,c32,c33,c34,c35,c36,c37,c38,c39,c40,c41,c42,c43,c44,c45,c46,c47,c48,c49,c50,c51,c52,c53,c54,c55,c56,c57,c58,c59,c60,c61,c62,c63,c64,c65,c66,c67,c68,c69,c70,c71,c72,c73,c74,c75,c76,c77,c78,c79,c80,c81,c82,c83,c84,c85,c86,c87,c88,c89,c90,c91,c92,c93,c94,c95,c96,c97,c98,c99,c100,c101,c102,c103,c104,c105,c106,c107,c108,c109,c110,c111,c112,c113,c114,c115,c116,c117,c118,c119,c120,c121,c122,c123,c124,c125,c126,c127,c128,c129,c130,c131,c132,c133,c134,c135,c136,c137,c138,c139,c140,c141,c142,c143,c144,c145,c146,c147,c148,c149,c150,c151,c152,c153,c154,c155,c156,c157,c158,c159,c160,c161,c162,c163,c164,c165,c166,c167,c168,c169,c170,c171,c172,c173,c174,c175,c176,c177,c178,c179,c180,c181,c182,c183,c184,c185,c186,c187],[]⟩ w2:=by
 conv=>arg 2; whnf
 go_wp2
 go_loopw [18] (fun iv wr=>∃ (i:Nat) (s:JS),i≤L0.length∧iv=.int .i64 i∧JL W.heap.size wr db jb s∧Below W.heap.size W wr) (fun i _=>L0.length - (intOf i).toNat)
 case atStart=>exact ⟨0,_,Nat.zero_le _,rfl,HJ2.out,HB2.out⟩
 case round=>
  obtain ⟨i,s,hi,rfl,hj,hbw⟩:=hrel
  have HJ:=Lib.hid hj
  have HBW:=Lib.hid hbw
  clear hj hbw HJ2 HB2
  by_cases hlt:i < L0.length
  ·have b1:decide ((i:Int) < (L0.length:Int))=true:=decide_eq_true (by omega)
   have b2:(i:Int) < (L0.length:Int):=by omega
   obtain ⟨a',cap',e',hx1,hx2,hc⟩:=HL0.out.below HBW.out
   simp only [Value.slice.injEq] at e'
   obtain ⟨rfl,_,rfl⟩:=e'
   rcases hc with hc | ⟨g,off,rfl,hg,hcell⟩
   ·rw [hc] at hlt; simp at hlt
   obtain ⟨vc,vv,q0, -,q2, -, -,q5, -⟩:=hcell i hlt
   have HA:=Lib.hid (HF0.out.2 _ (List.getElem_mem hlt))
   obtain ⟨ac,cc,rfl, -⟩:=id q5
   have HC:=Lib.hid q5
   clear hcell hx1 hx2 q5
   generalize L0[i]=a at *
   obtain ⟨kind,apw,cs,key,val⟩:=a
   simp only at q0 q2 HC
   go_wp2_with fail
   refine (pick_c kind 8 wr (by omega) (by omega)).mono ?_
   rintro e wp ⟨rfl,rfl⟩
   by_cases hk:kind % 8=6
   ·have t6:(kind % 8 == 6)=true:=by simpa using hk
    have HCO:=Lib.hid (compact_l HJ.out)
    go_wp2_with fail
    refine HCO.out.mono ?_
    rintro e w3 ⟨rfl,hj3,hb3⟩
    have HJ3:=Lib.hid hj3
    have HB3:=Lib.hid (HBW.out.trans hb3)
    clear hj3 hb3 HCO HJ HBW q0 q2
    go_wp2
    go_roundw
    case rel=>exact ⟨i+1,_,by omega,by go_num,HJ3.out,HB3.out⟩
    case measure=>simp [intOf]; omega
   ·have t6:(kind % 8 == 6)=false:=by simpa using hk
    have HCO:=Lib.hid (commit_l HJ.out (.slice ac cs.length cc) cs (fun mb hm _=>HC.out.toP (fun g hg=>by have:=HJ.out.jle; have:=HJ.out.dle; omega)) (by have h:cs.length≤70:=HA.out.1; omega) (fun c hc=>by have h:=HA.out.2.2.2 c hc; omega))
    go_wp2_with fail
    refine HCO.out.mono ?_
    rintro e w3 ⟨rfl,hj3,hb3⟩
    have HJ3:=Lib.hid hj3
    have HB3:=Lib.hid (HBW.out.trans hb3)
    clear hj3 hb3 HCO HJ HBW q0 q2
    go_wp2
    go_roundw
    case rel=>exact ⟨i+1,_,by omega,by go_num,HJ3.out,HB3.out⟩
    case measure=>simp [intOf]; omega
  ·obtain rfl:i=L0.length:=by omega
   have b1:decide ((L0.length:Int) < (L0.length:Int))=false:=by simp
   go_wp2_with fail
   exact HK.out _ _ _ _ _ _ _ _ _ _ _ _ _ _ _ _ _ _ _ _ _ _ _ _ s HJ.out HBW.out
set_option maxRecDepth 1000000 in
set_option maxHeartbeats 8000000 in
theorem opensB2 {K:Act→World→Prop} {Q':Exit→Act→World→Prop} {W:World} {ao:Option Addr} {co:Nat} {l2:List UInt8} {by6:UInt8} {kk:Nat} {ay:Option Addr} {cy:Nat} {lx:List UInt8} {m:Int} {w3:World} {c0 c1 c3 c4 c5 c7 c8 c9 c10 c11 c12 c13 c14 c15 c16 c17 c18 c19 c20 c21 c22 c23 c24 c27 c28 c29 c30 c31 c32 c33 c34 c35 c36 c37 c38 c39 c40 c41 c42 c43 c44 c45 c46 c47 c48 c49 c50 c51 c52 c53 c54 c55 c56 c57 c58 c59 c60 c61 c62 c63 c64 c65 c66 c67 c68 c69 c70 c71 c72 c73 c74 c75 c76 c77 c78 c79 c80 c81 c82 c83 c84 c85 c86 c87 c88 c89 c90 c91 c92 c93 c94 c95 c96 c97 c98 c99 c100 c101 c102 c103 c104 c105 c106 c107 c108 c109 c110 c111 c112 c113 c114 c115 c116 c117 c118 c119 c120 c121 c122 c123 c124 c125 c126 c127 c128 c129 c130 c131 c132 c133 c134 c135 c136 c137 c138 c139 c140 c141 c142 c143 c144 c145 c147 c148 c149 c150 c151 c152 c153 c154 c155 c156 c157 c158 c159 c160 c161 c162 c163 c164 c165 c166 c167 c168 c169 c170 c171 c172 c173 c174 c175 c176 c177 c178 c179 c180 c181 c182 c183 c184 c185 c186 c187:Value} (w4:World) (hm4:m=0∨m=1∨m=2∨m=3) (hkl:kk < lx.length) (hlx:lx.length≤262144) (ho:l2.length≤2000) (hn:¬ lx.length=0) (HO:Hid (RdB W W.heap.size (.slice ao l2.length co) l2)) (HBW:Hid (Below W.heap.size W w3)) (HB4:Hid (Below w3.heap.size w3 w4)) (HOW:Hid (w4.ownsRow w3.heap.size 5 1 (.slice ay lx.length cy) lx.length (byts lx)))
 (HK:Hid (∀ (d147 d148 d149 d150 d151 d152 d153 d154 d155 d156 d157 d158 d159 d160 d161 d162 d163 d164 d165 d166 d167 d168 d169 d170 d171 d172 d173 d174 d175 d176:Value) (w':World) (az:Option Addr) (cz nz:Nat) (lz:List UInt8),lz.length=nz→RdB w' w'.heap.size (.slice az nz cz) lz→nz≤1000000→Below w3.heap.size w3 w'→K ⟨#[c0,c1,.slice ao l2.length co,c3,c4,c5,.int .u8 by6.toNat,c7,c8,c9,c10,c11,c12,c13,c14,c15,c16,c17,c18,c19,c20,c21,c22,c23,c24,.int .i64 (kk:Int),.slice az nz cz,c27,c28,c29,c30,c31,c32,c33,c34,c35,c36,c37,c38,c39,c40,c41,c42,c43,c44,c45,c46,c47,c48,c49,c50,c51,c52,c53,c54,c55,c56,c57,c58,c59,c60,c61,c62,c63,c64,c65,c66,c67,c68,c69,c70,c71,c72,c73,c74,c75,c76,c77,c78,c79,c80,c81,c82,c83,c84,c85,c86,c87,c88,c89,c90,c91,c92,c93,c94,c95,c96,c97,c98,c99,c100,c101,c102,c103,c104,c105,c106,c107,c108,c109,c110,c111,c112,c113,c114,c115,c116,c117,c118,c119,c120,c121,c122,c123,c124,c125,c126,c127,c128,c129,c130,c131,c132,c133,c134,c135,c136,c137,c138,c139,c140,c141,c142,c143,c144,c145,.int .u8 m,d147,d148,d149,d150,d151,d152,d153,d154,d155,d156,d157,d158,d159,d160,d161,d162,d163,d164,d165,d166,d167,d168,d169,d170,d171,d172,d173,d174,d175,d176,c177,c178,c179,c180,c181,c182,c183,c184,c185,c186,c187],[]⟩ w')) :
 Code.wp Tryz.prog coB2 (Exit.then K Q') ⟨#[c0,c1,.slice ao l2.length co,c3,c4,c5,.int .u8 by6.toNat,c7,c8,c9,c10,c11,c12,c13,c14,c15,c16,c17,c18,c19,c20,c21,c22,c23,c24,.int .i64 (kk:Int),.slice ay lx.length cy,c27,c28,c29,c30,c31,c32,c33,c34,c35,c36,c37,c38,c39,c40,c41,c42,c43,c44,c45,c46,c47,c48,c49,c50,c51,c52,c53,c54,c55,c56,c57,c58,c59,c60,c61,c62,c63,c64,c65,c66,c67,c68,c69,c70,c71,c72,c73,c74,c75,c76,c77,c78,c79,c80,c81,c82,c83,c84,c85,c86,c87,c88,c89,c90,c91,c92,c93,c94,c95,c96,c97,c98,c99,c100,c101,c102,c103,c104,c105,c106,c107,c108,c109,c110,c111,c112,c113,c114,c115,c116,c117,c118,c119,c120,c121,c122,c123,c124,c125,c126,c127,c128,c129,c130,c131,c132,c133,c134,c135,c136,c137,c138,c139,c140,c141,c142,c143,c144,c145,.int .u8 m,c147,c148,c149,c150,c151,c152,c153,c154,c155,c156,c157,c158,c159,c160,c161,c162,c163,c164,c165,c166,c167,c168,c169,c170,c171,c172,c173,c174,c175,c176,c177,c178,c179,c180,c181,c182,c183,c184,c185,c186,c187],[]⟩ w4:=by
 conv=>arg 2; whnf
 obtain ⟨gy,capy,ey,hgy0,hgy1,hcy,hyc,hyf,hyp⟩:=own_poke HOW.out kk hkl
 simp only [Value.slice.injEq,true_and] at ey
 obtain ⟨rfl,rfl⟩:=ey
 have hrdy:=(RdB.of_own HOW.out).open_
 have HRY:Hid (RdB w4 w4.heap.size (.slice (some ⟨gy,0,none⟩) lx.length cy) lx):=Lib.hid (RdB.of_own HOW.out)
 have HCM:Hid (cy≤maxLen∧∀ j,j < lx.length→w4.cell? ⟨gy,0+j,none⟩=some (.int .u8 (lx.getD j 0).toNat)):=Lib.hid (by
  rcases HRY.out with ⟨_,h⟩ | ⟨g2,off2,cap2,e2,h1,h2,h3,h4⟩
  ·rw [h] at hn; simp at hn
  ·simp only [Value.slice.injEq,Option.some.injEq,Addr.mk.injEq,true_and,and_true] at e2
   obtain ⟨⟨rfl,rfl⟩,rfl⟩:=e2
   exact ⟨h2,h4⟩)
 clear hrdy
 rcases hm4 with rfl | rfl | rfl | rfl
 ·have hx8:=x8G (lx.getD kk 0) by6
  obtain ⟨hp1,hp2⟩:=hyp ((lx.getD kk 0) ^^^ by6)
  have HPK:=Lib.hid (And.intro hp1 (HB4.out.trans (hp2.below (fun q e=>by omega) HB4.out.size)))
  clear hyp hp1 hp2
  generalize lx.getD kk 0=xk at *
  go_wp2_with fail
  exact HK.out _ _ _ _ _ _ _ _ _ _ _ _ _ _ _ _ _ _ _ _ _ _ _ _ _ _ _ _ _ _ (w4.setCell ⟨gy,kk,none⟩ (.int .u8 (xk ^^^ by6).toNat)) _ _ _ (lx.set kk (xk ^^^ by6)) (by rw [List.length_set]) HPK.out.1 (by omega) HPK.out.2
 ·have hkc:(kk:Int)≤(cy:Int):=by omega
  clear hyp hyc
  go_wp2_with fail
  exact HK.out _ _ _ _ _ _ _ _ _ _ _ _ _ _ _ _ _ _ _ _ _ _ _ _ _ _ _ _ _ _ _ _ _ _ (lx.take kk) (by rw [List.length_take]; omega) (RdB.take (by omega) hcy HCM.out.1 hgy1 HCM.out.2) (by omega) HB4.out
 ·clear hyp hyc
  go_wp2_with (at_builtin; go_must (refine wpList_app rfl _ _ rfl w3.heap.size _ lx.length lx rfl HOW.out _ l2 rfl (HO.out.below (HBW.out.trans (HB4.out.mono HBW.out.size))) (by omega) HB4.out.size ?_); intro v5 w5 hy5 hb5)
  have hr5:=RdB.of_own hy5
  obtain ⟨a5',c5',rfl, -⟩:=hr5.open_
  have HF:=Lib.hid (And.intro hr5 (HB4.out.trans hb5))
  clear hr5 hy5 hb5
  go_wp2_with fail
  exact HK.out _ _ _ _ _ _ _ _ _ _ _ _ _ _ _ _ _ _ _ _ _ _ _ _ _ _ _ _ _ _ _ _ _ _ (lx ++ l2) rfl HF.out.1 (by rw [List.length_append]; omega) HF.out.2
 ·clear hyp hyc
  have HTK:Hid (RdB w4 w4.heap.size (.slice (some ⟨gy,0,none⟩) kk cy) (lx.take kk)∧RdB w4 w4.heap.size (.slice (some ⟨gy,0+kk,none⟩) (lx.length - kk) (cy - kk)) (lx.drop kk)):=Lib.hid ⟨RdB.take (by omega) hcy HCM.out.1 hgy1 HCM.out.2,RdB.drop (by omega) hcy HCM.out.1 hgy1 HCM.out.2⟩
  have htl:(lx.take kk).length=kk:=by rw [List.length_take]; omega
  have hdl:(lx.drop kk).length=lx.length - kk:=by rw [List.length_drop]
  go_upto_region 28 with (fail)
  refine opens28 w4 hkl hcy hlx HB4 HTK (Lib.hid ?_)
  intro d147 d148 d149 d150 d151 d152 d153 d154 d155 d156 d157 w8 a8 k8 hr8 hb8
  have HF:=Lib.hid (And.intro hr8 hb8)
  clear hr8 hb8
  go_wp2_with fail
  have hlen:(lx.take kk ++ [by6] ++ lx.drop kk).length=kk+(lx.length - kk+1):=by simp only [List.length_append,List.length_cons,List.length_nil]; omega
  have hr9:=HF.out.1
  rw [hlen] at hr9
  exact HK.out _ _ _ _ _ _ _ _ _ _ _ _ _ _ _ _ _ _ _ _ _ _ _ _ _ _ _ _ _ _ _ _ _ _ (lx.take kk ++ [by6] ++ lx.drop kk) hlen hr9 (by omega) HF.out.2
end Go.Proofs.YtondomklkapogaaGreatDoor
