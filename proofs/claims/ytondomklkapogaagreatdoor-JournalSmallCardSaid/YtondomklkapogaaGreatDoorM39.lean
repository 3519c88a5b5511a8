/- The law's prefixed: whether Keys finds the keys that begin with a prefix. -/
import Derived.Test.YtondomklkapogaaGreatDoorM38
namespace Go.Proofs.YtondomklkapogaaGreatDoor
open Go.RowKit SeedP Go.Maps
theorem sub_pref {k p:List UInt8}:((⟨k.toArray⟩:ByteArray).extract 0 p.length).toList=k.take p.length:=by
 rw [ByteArray.toList_eq,Lib.extract_data]; simp
set_option maxRecDepth 100000 in
set_option maxHeartbeats 8000000 in
/-- prefixed -/
theorem prefixed_c {B:Nat} {p:Nat→Prop} {w:World} {db jb mb:Nat} {s:JS} (h:JZ B p w db jb mb s) (v0 v1 ve:Value) (hrd:RD w v0 v1 s.d) (hen:EntsAt w w.heap.size ve s.c.ents) (pw gen fl ed sum:Int) (pf:List UInt8) (hpf:pf.length≤1073741824) :
 Calls Tryz.prog 30 #[.pointer (some ⟨jb,0,none⟩),rjV pw v0 v1 ve gen fl ed sum s.down,strV pf] w fun e w'=>e=.returned (.bool true)∧Below w.heap.size w w':=by
 obtain ⟨i0,hi0,hz0,hz1,hz2⟩:=info_parts infoS
 obtain ⟨a0,d0,a1,d1,rfl,rfl⟩:=hrd.slices
 obtain ⟨ae,ce,rfl⟩:∃ ae ce,ve=.slice ae s.c.ents.length ce:=by obtain ⟨a,c,e,_⟩:=hen; exact ⟨a,c,e⟩
 have hwt:=h.jw.ok.wt
 have hmax:=h.jw.ok.max
 have HSM:=Lib.hid h.jw.small
 have HBX:=Lib.hid ((Below.refl w.heap.size w).alloc (Nat.le_refl _) (.cells #[.int .i64 pw,.slice a0 s.d.f0.length d0,.slice a1 s.d.f1.length d1,.slice ae s.c.ents.length ce,.int .i64 gen,.int .i64 fl,.int .i64 ed,.int .u64 sum,.bool s.down] 52))
 have HRB:Hid (Blk (w.alloc (.cells #[.int .i64 pw,.slice a0 s.d.f0.length d0,.slice a1 s.d.f1.length d1,.slice ae s.c.ents.length ce,.int .i64 gen,.int .i64 fl,.int .i64 ed,.int .u64 sum,.bool s.down] 52)) w.heap.size 52 (rjC pw (.slice a0 s.d.f0.length d0) (.slice a1 s.d.f1.length d1) (.slice ae s.c.ents.length ce) gen fl ed sum s.down)):=Lib.hid (Blk.new w _ [.int .i64 pw,.slice a0 s.d.f0.length d0,.slice a1 s.d.f1.length d1,.slice ae s.c.ents.length ce,.int .i64 gen,.int .i64 fl,.int .i64 ed,.int .u64 sum,.bool s.down])
 have HPN:Hid (s.c.ents.length≤1000000):=Lib.hid (by
  have h3:∀ P:PEnts,3 * (P.length:Int)≤pWt P:=by
   intro P
   induction P with
   | nil=>exact Int.le_refl _
   | cons x r ih=>rw [pWt_cons,List.length_cons]; unfold eWt; omega
  have h4:=h3 s.c.ents
  omega)
 have HJ:=Lib.hid h
 have HEN:=Lib.hid hen
 clear h hrd hen hwt hmax
 go_enter Tryz.func30,Tryz.ntmps30
 go_upto_region 1 with (fail)
 change Code.wp _ _ _ _ (w.alloc (.cells #[.int .i64 pw,.slice a0 s.d.f0.length d0,.slice a1 s.d.f1.length d1,.slice ae s.c.ents.length ce,.int .i64 gen,.int .i64 fl,.int .i64 ed,.int .u64 sum,.bool s.down] 52))
 generalize (w.alloc (.cells #[.int .i64 pw,.slice a0 s.d.f0.length d0,.slice a1 s.d.f1.length d1,.slice ae s.c.ents.length ce,.int .i64 gen,.int .i64 fl,.int .i64 ed,.int .u64 sum,.bool s.down] 52))=w1 at *
 have HJ1:=Lib.hid (HJ.out.below HBX.out)
 have W0:=Below.refl w1.heap.size w1
 go_wp2
 go_loopw [7,8] (fun wv iv wr=>∃ j:Nat,j≤s.c.ents.length∧iv=.int .i64 j∧wr.ownsRow w1.heap.size 9 1 wv ((keysOf (s.c.ents.take j)).filter (isPref pf)).length (((keysOf (s.c.ents.take j)).filter (isPref pf)).map strV)∧Below w1.heap.size w1 wr) (fun _ i _=>s.c.ents.length - (intOf i).toNat)
 case atStart=>exact ⟨0,Nat.zero_le _,rfl,World.ownsRow_nil _ _ _ 1,W0⟩
 case round=>
  obtain ⟨j,hj,rfl,hown,hB⟩:=hrel
  clear W0
  have HBr:=Lib.hid hB
  have HOWN:=Lib.hid hown
  have HB0r:=Lib.hid (HBX.out.trans (hB.mono HBX.out.size))
  have HJr:=Lib.hid (HJ1.out.below hB)
  have HRBr:=Lib.hid (rb_of (HRB.out.below hB))
  have z3:=HRBr.out.k3
  have z8:=HRBr.out.k8
  have hPN:=HPN.out
  clear hB hown
  by_cases hlt:j < s.c.ents.length
  ·have b1:decide ((j:Int) < (s.c.ents.length:Int))=true:=decide_eq_true (by omega)
   have b3:(j:Int) < (s.c.ents.length:Int):=by omega
   obtain ⟨ae',ce',e',hx1,hx2,hec⟩:=HEN.out.below HB0r.out
   simp only [Value.slice.injEq] at e'
   obtain ⟨rfl,_,rfl⟩:=e'
   rcases hec with hec | ⟨g,off,rfl,hg,hcell⟩
   ·rw [hec] at hlt; simp at hlt
   obtain ⟨vv,e0, -, -⟩:=hcell j hlt
   have hkl:=(HSM.out.key _ (List.getElem_mem hlt)).2
   have HNX:Hid (keysOf (s.c.ents.take (j+1))=keysOf (s.c.ents.take j) ++ [s.c.ents[j].1]):=Lib.hid (by unfold keysOf; rw [List.take_succ_eq_append_getElem hlt,List.map_append]; rfl)
   have hfl:((keysOf (s.c.ents.take j)).filter (isPref pf)).length≤1000000:=by
    have h1:=List.length_filter_le (isPref pf) (keysOf (s.c.ents.take j))
    have h2:(keysOf (s.c.ents.take j)).length≤s.c.ents.length:=by unfold keysOf; rw [List.length_map,List.length_take]; omega
    omega
   clear hcell hx1 hx2
   generalize s.c.ents[j].1=pk at *
   have hks:(⟨pk.toArray⟩:ByteArray).size=pk.length:=by show pk.toArray.size=_; simp
   have hps:(⟨pf.toArray⟩:ByteArray).size=pf.length:=by show pf.toArray.size=_; simp
   by_cases hl:pf.length≤pk.length
   ·have hlb:(decide (pf.length≤pk.length))=true:=by simpa using hl
    have hl2:(pf.length:Int)≤(pk.length:Int):=by omega
    have h0:(0:Int)≤(pf.length:Int):=by omega
    by_cases hp:pk.take pf.length=pf
    ·have hpp:(((⟨pk.toArray⟩:ByteArray).extract 0 pf.length).toList == pf)=true:=by rw [sub_pref,hp]; simp
     have HPR:Hid (isPref pf pk=true):=Lib.hid (by unfold isPref; rw [hlb,hp]; simp)
     have HFN:Hid ((keysOf (s.c.ents.take (j+1))).filter (isPref pf)=(keysOf (s.c.ents.take j)).filter (isPref pf) ++ [pk]):=Lib.hid (by rw [HNX.out,List.filter_append]; simp [HPR.out])
     clear hp hlb
     generalize (keysOf (s.c.ents.take j)).filter (isPref pf)=fs at *
     go_wp2_with (at_builtin; refine wpList_append_own _ rfl _ _ 75 rfl w1.heap.size 9 i0 (.string ⟨#[]⟩) 1 16 Tryz.underlying75 hi0 hz0 hz1 hz2 rfl (by decide) _ _ _ rfl (HOWN.out.alloc _) ⟨wr.heap.size,0,none⟩ 1 1 [strV pk] rfl rfl ?d1 ?d2 ?d3 ?d4 ?d5 ?_)
     case d1=>exact cell_one_new _ _ _
     case d2=>simp [Value.oneCell']
     case d3=>unfold maxLen; omega
     case d4=>omega
     case d5=>have:=HBr.out.size; simp; omega
     intro v' w' hown2 hgr2 _
     have HO2:Hid (w'.ownsRow w1.heap.size 9 1 v' ((keysOf (s.c.ents.take (j+1))).filter (isPref pf)).length (((keysOf (s.c.ents.take (j+1))).filter (isPref pf)).map strV)):=Lib.hid (by rw [HFN.out,List.length_append,List.map_append]; exact hown2)
     have HB2:=Lib.hid ((HBr.out.alloc HBr.out.size (.cells #[strV pk] 9)).grown hgr2 (by have:=HBr.out.size; simp; omega) (fun k e=>(HOWN.out.lt k e).1))
     clear hown2 hgr2
     go_wp2
     go_roundw
     case rel=>exact ⟨j+1,by omega,by go_num,HO2.out,HB2.out⟩
     case measure=>simp [intOf]; omega
    ·have hpp:(((⟨pk.toArray⟩:ByteArray).extract 0 pf.length).toList == pf)=false:=by rw [sub_pref,beq_eq_false_iff_ne]; exact hp
     have HPR:Hid (isPref pf pk=false):=Lib.hid (by unfold isPref; rw [hlb,Bool.true_and,beq_eq_false_iff_ne]; exact hp)
     have HFN:Hid ((keysOf (s.c.ents.take (j+1))).filter (isPref pf)=(keysOf (s.c.ents.take j)).filter (isPref pf)):=Lib.hid (by rw [HNX.out,List.filter_append]; simp [HPR.out])
     clear hp hlb
     go_wp2
     go_roundw
     case rel=>exact ⟨j+1,by omega,by go_num,by rw [HFN.out]; exact HOWN.out,HBr.out⟩
     case measure=>simp [intOf]; omega
   ·have hlb:(decide (pf.length≤pk.length))=false:=by simpa using hl
    have HPR:Hid (isPref pf pk=false):=Lib.hid (by unfold isPref; rw [hlb]; rfl)
    have HFN:Hid ((keysOf (s.c.ents.take (j+1))).filter (isPref pf)=(keysOf (s.c.ents.take j)).filter (isPref pf)):=Lib.hid (by rw [HNX.out,List.filter_append]; simp [HPR.out])
    have hl2:(pk.length:Int) < (pf.length:Int):=by omega
    go_wp2
    go_roundw
    case rel=>exact ⟨j+1,by omega,by go_num,by rw [HFN.out]; exact HOWN.out,HBr.out⟩
    case measure=>simp [intOf]; omega
  ·obtain rfl:j=s.c.ents.length:=by omega
   have b1:decide ((s.c.ents.length:Int) < (s.c.ents.length:Int))=false:=by simp
   rw [List.take_length] at HOWN
   cases hdn:s.down with
   | true=>
     rw [hdn] at z8
     have HGET:Hid (Calls Tryz.prog 31 #[.pointer (some ⟨jb,0,none⟩),strV pf] wr fun e w'=>∃ v,e=.returned (.tuple #[v,.bool false])∧Below wr.heap.size wr w'):=Lib.hid (by
      refine (get_c pf wr HJr.out.jw (by omega)).mono ?_
      rw [hdn]
      rintro e w' ⟨⟨v,rfl,_⟩,hb⟩
      exact ⟨v,rfl,hb⟩)
     generalize ((keysOf s.c.ents).filter (isPref pf)).length=fl2 at *
     clear hdn HJr HJ1 HJ
     go_wp2_with fail
     refine HGET.out.mono ?_
     rintro e w2 ⟨gv,rfl,hb2⟩
     have c8:=keep_cell hb2 z8
     have HF:=Lib.hid (HB0r.out.trans (hb2.mono HB0r.out.size))
     clear hb2 z8 z3
     go_wp2
     go_ret
     exact ⟨rfl,HF.out⟩
   | false=>
     rw [hdn] at z8
     have HGET:Hid (Calls Tryz.prog 31 #[.pointer (some ⟨jb,0,none⟩),strV pf] wr fun e w'=>∃ v,e=.returned (.tuple #[v,.bool (pFind s.c.ents pf).isSome])∧Below wr.heap.size wr w'):=Lib.hid (by
      refine (get_c pf wr HJr.out.jw (by omega)).mono ?_
      rw [hdn]
      rintro e w' ⟨⟨v,rfl,_⟩,hb⟩
      exact ⟨v,rfl,hb⟩)
     have HDN:=Lib.hid hdn
     have HFLN:Hid (((keysOf s.c.ents).filter (isPref pf)).length≤1099511627776):=Lib.hid (by
      have h1:=List.length_filter_le (isPref pf) (keysOf s.c.ents)
      have h2:(keysOf s.c.ents).length≤s.c.ents.length:=by unfold keysOf; rw [List.length_map]; omega
      omega)
     clear hdn
     go_wp2_with fail
     refine HGET.out.mono ?_
     rintro e w2 ⟨gv,rfl,hb2⟩
     have c8:=keep_cell hb2 z8
     have HRB2:=Lib.hid (rb_of (HRB.out.below (HBr.out.trans (hb2.mono HBr.out.size))))
     have HB2:=Lib.hid (HB0r.out.trans (hb2.mono HB0r.out.size))
     have HJ2:=Lib.hid (HJr.out.below hb2)
     have HOWN2:=Lib.hid (own_grown HOWN.out (Grown.of_below hb2 (S:=fun _=>False)) (fun _ _ _ h=>h))
     clear hb2 z8 z3 HGET
     have HKY:Hid (Calls Tryz.prog 34 #[.pointer (some ⟨jb,0,none⟩),strV pf] w2 fun e w'=>∃ v,e=.returned v∧w'.ownsRow w2.heap.size 9 1 v ((keysOf s.c.ents).filter (isPref pf)).length (((keysOf s.c.ents).filter (isPref pf)).map strV)∧Below w2.heap.size w2 w'):=Lib.hid (by
      refine (keysFn_c pf w2 HJ2.out.jw (by omega)).mono ?_
      rw [if_neg (by rw [HDN.out]; decide)]
      exact fun e w' h=>h)
     go_wp2_with fail
     refine HKY.out.mono ?_
     rintro e w3 ⟨kv,rfl,hkv,hb3⟩
     have HST:=Lib.hid (sameTexts_c kv _ _ _ _ w3 hkv (own_grown HOWN2.out (Grown.of_below hb3 (S:=fun _=>False)) (fun _ _ _ h=>h)) HFLN.out)
     have HB3:=Lib.hid (HB2.out.trans (hb3.mono HB2.out.size))
     have c3:=keep_cell hb3 HRB2.out.k3
     clear hkv hb3 HKY c8
     go_wp2_with fail
     refine HST.out.mono ?_
     rintro e w4 ⟨rfl,hb4⟩
     have x3:=keep_cell hb4 c3
     have HB4:=Lib.hid (HB3.out.trans (hb4.mono HB3.out.size))
     have HFI:=Lib.hid (rfind_c (.slice ae s.c.ents.length ce) s.c.ents pf w.heap.size w4 (HEN.out.below HB4.out))
     clear hb4 c3 HST
     go_wp2_with fail
     refine HFI.out.mono ?_
     rintro e w5 ⟨⟨n,rfl,hn1,hn2⟩,rfl⟩
     cases hf:(pFind s.c.ents pf).isSome with
     | true=>
       rw [hf] at hn2
       have hn3:0≤n:=by simpa using hn2
       have hn4:decide (0≤n)=true:=decide_eq_true hn3
       clear hn2 hf
       go_wp2
       go_ret
       exact ⟨rfl,HB4.out⟩
     | false=>
       rw [hf] at hn2
       have hn3:n < 0:=by simpa using hn2
       have hn4:decide (0≤n)=false:=decide_eq_false (by omega)
       clear hn2 hf
       go_wp2
       go_ret
       exact ⟨rfl,HB4.out⟩
end Go.Proofs.YtondomklkapogaaGreatDoor
