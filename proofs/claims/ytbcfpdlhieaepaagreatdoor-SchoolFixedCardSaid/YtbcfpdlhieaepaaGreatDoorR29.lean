/- The walks of the school's readers. -/
import Derived.Test.YtbcfpdlhieaepaaGreatDoorR28
import Derived.Test.YtbcfpdlhieaepaaGreatDoorR22
import Derived.Test.YtbcfpdlhieaepaaGreatDoorR04
import Derived.Maps.AppendAt
namespace Go.Proofs.YtbcfpdlhieaepaaGreatDoor
section
open Go.RowKit SeedP Go.Maps
set_option maxRecDepth 100000 in
/-- Classes -/
theorem classes_c {sb jb db mb:Nat} {p:Nat→Prop} {s:JS} (w:World) (h:SW w sb jb db mb p s) :
 Calls Tryz.prog 17 #[sv sb] w fun e w'=>(∃ v,e=.returned v∧ownS w' w.heap.size v s.classesP)∧Below w.heap.size w w':=by
 have HR:=Lib.hid (sref_c w h)
 unfold refP at HR
 unfold JS.classesP
 cases hd:s.down with
 | true=>
   rw [hd] at HR
   simp only [if_true] at HR ⊢
   clear h hd
   go_enter Tryz.func17,Tryz.ntmps17
   go_wp2_with fail
   refine HR.out.mono ?_
   rintro e w1 ⟨rfl,hb⟩
   go_wp2
   go_ret
   exact ⟨⟨_,rfl,by simpa [ownS] using World.ownsRow_nil w1 w.heap.size 9 1⟩,hb⟩
 | false=>
   rw [hd] at HR
   simp only [Bool.false_eq_true,if_false] at HR ⊢
   have HB:=Lib.hid (fun w1 hb=>behind_c [99] w1 (h.below (w':=w1) hb) hd (by simp))
   clear h hd
   go_enter Tryz.func17,Tryz.ntmps17
   go_wp2_with fail
   refine HR.out.mono ?_
   rintro e w1 ⟨rfl,hb⟩
   go_wp2_with fail
   refine (HB.out w1 hb).mono ?_
   rintro e w2 ⟨⟨v,rfl,hv⟩,hb2⟩
   go_wp2
   go_ret
   exact ⟨⟨_,rfl,own_up hv hb.size⟩,hb.trans (hb2.mono hb.size)⟩
set_option maxRecDepth 100000 in
/-- Students -/
theorem students_c {sb jb db mb:Nat} {p:Nat→Prop} {s:JS} (c:List UInt8) (w:World) (h:SW w sb jb db mb p s) :
 Calls Tryz.prog 18 #[sv sb,strV c] w fun e w'=>(∃ v,e=.returned v∧ownS w' w.heap.size v (s.studentsP c))∧Below w.heap.size w w':=by
 have hun:undef=Value.tuple #[]:=rfl
 have HR:=Lib.hid (sref_c w h)
 have HN:=Lib.hid (fun w=>isName_c c w)
 unfold refP at HR
 unfold JS.studentsP
 cases hd:s.down with
 | true=>
   rw [hd] at HR
   simp only [if_true,true_or] at HR ⊢
   clear h hd HN
   go_enter Tryz.func18,Tryz.ntmps18
   go_wp2_with fail
   refine HR.out.mono ?_
   rintro e w1 ⟨rfl,hb⟩
   go_wp2
   go_ret
   exact ⟨⟨_,rfl,by simpa [ownS] using World.ownsRow_nil w1 w.heap.size 9 1⟩,hb⟩
 | false=>
   rw [hd] at HR
   simp only [Bool.false_eq_true,if_false,false_or] at HR ⊢
   cases hn:isNameP c with
   | false=>
     rw [hn] at HN
     simp only [if_true]
     clear h hd hn
     go_enter Tryz.func18,Tryz.ntmps18
     go_wp2_with fail
     refine HR.out.mono ?_
     rintro e w1 ⟨rfl,hb⟩
     go_wp2_with fail
     refine (HN.out w1).mono ?_
     rintro e w2 ⟨rfl,rfl⟩
     go_wp2
     go_ret
     exact ⟨⟨_,rfl,by simpa [ownS] using World.ownsRow_nil w2 w.heap.size 9 1⟩,hb⟩
   | true=>
     have hl:=isNameP_len hn
     rw [hn] at HN
     simp only [Bool.true_eq_false,if_false]
     have HB:=Lib.hid (fun w1 hb=>behind_c (mkey c []) w1 (h.below (w':=w1) hb) hd (by simp [mkey]; omega))
     have HK:=Lib.hid (fun w=>memberKey_c c [] w (by omega) (by simp))
     generalize mkey c []=mk at *
     clear h hd hn
     go_enter Tryz.func18,Tryz.ntmps18
     go_wp2_with fail
     refine HR.out.mono ?_
     rintro e w1 ⟨rfl,hb⟩
     go_wp2_with fail
     refine (HN.out w1).mono ?_
     rintro e w2 ⟨rfl,rfl⟩
     go_wp2_with fail
     refine (HK.out w2).mono ?_
     rintro e w3 ⟨rfl,rfl⟩
     go_wp2_with fail
     refine (HB.out w3 hb).mono ?_
     rintro e w4 ⟨⟨v,rfl,hv⟩,hb2⟩
     go_wp2
     go_ret
     exact ⟨⟨_,rfl,own_up hv hb.size⟩,hb.trans (hb2.mono hb.size)⟩
theorem Blk.cell_mem {w:World} {g:Nat} {t:TypeId} {cs:List Value} (h:Blk w g t cs) {o:Nat} {v:Value} (hc:w.cell? ⟨g,o,none⟩=some v):v ∈ cs:=by
 by_cases ho:o < cs.length
 ·rw [h.cell o ho] at hc
  rw [List.getD_eq_getElem?_getD,List.getElem?_eq_getElem ho] at hc
  have:cs[o]=v:=by simpa using hc
  rw [← this]; exact List.getElem_mem ho
 ·unfold Blk at h
  simp [World.cell?,h,List.getElem?_eq_none (show cs.length≤o by omega)] at hc
/-- bytes lie in no block that holds none -/
theorem RdB.skip {w w':World} {B g:Nat} {v:Value} {l:List UInt8} {t:TypeId} {cs:List Value} (h:RdB w B v l) (hx:Blk w g t cs) (hn:∀ x ∈ cs,∀ m,x ≠ .int .u8 m) (hg:Grown (fun k=>k=g) w w'):RdB w' B v l:=by
 rcases h with h | ⟨q,off,cap,e,h1,h2,h3,h4⟩
 ·exact Or.inl h
 ·refine Or.inr ⟨q,off,cap,e,h1,h2,h3,fun j hj=>?_⟩
  have hc:=h4 j hj
  refine (World.cell?_of_block (hg.block q (World.block_lt_of_cell? w _ hc) (fun e2=>?_))).trans hc
  have e2:q=g:=e2
  subst e2
  exact hn _ (hx.cell_mem hc) _ rfl
set_option maxRecDepth 100000 in
set_option maxHeartbeats 2000000 in
/-- Task -/
theorem task_c {sb jb db mb:Nat} {p:Nat→Prop} {s:JS} (id:Int) (w:World) (h:SW w sb jb db mb p s) :
 Calls Tryz.prog 24 #[sv sb,.int .i64 id] w fun e w'=>TaskPost w'.heap.size (s.taskP id) e w'∧Below w.heap.size w w':=by
 have hun:undef=Value.tuple #[]:=rfl
 have hB0:Below w.heap.size w (w.alloc (.cells #[.string ⟨#[]⟩,.string ⟨#[]⟩,.int .i64 0,.int .i64 0,.int .i64 0,.int .i64 0,.slice none 0 0] 35)):=(Below.refl _ w).alloc (Nat.le_refl _) _
 have hX:Blk (w.alloc (.cells #[.string ⟨#[]⟩,.string ⟨#[]⟩,.int .i64 0,.int .i64 0,.int .i64 0,.int .i64 0,.slice none 0 0] 35)) w.heap.size 35 [.string ⟨#[]⟩,.string ⟨#[]⟩,.int .i64 0,.int .i64 0,.int .i64 0,.int .i64 0,.slice none 0 0]:=Blk.new w _ [.string ⟨#[]⟩,.string ⟨#[]⟩,.int .i64 0,.int .i64 0,.int .i64 0,.int .i64 0,.slice none 0 0]
 have h1:=h.below hB0
 have HR:=Lib.hid (sref_c _ h1)
 have HX:=Lib.hid hX
 have HB0:=Lib.hid hB0
 unfold refP at HR
 obtain ⟨r,hr0⟩:∃ r,s.taskP id=r:=⟨_,rfl⟩
 rw [hr0]
 cases hd:s.down with
 | true=>
   rw [hd] at HR
   have HE:Hid (r=none):=Lib.hid (by rw [← hr0]; unfold JS.taskP; rw [if_pos (Or.inl hd)])
   simp only [if_true] at HR
   clear h h1 hd hX hB0 hr0
   go_enter Tryz.func24,Tryz.ntmps24
   go_wp2_with fail
   refine HR.out.mono ?_
   rintro e w1 ⟨rfl,hb⟩
   have HX1:=Lib.hid (HX.out.below hb)
   have HB1:=Lib.hid (HB0.out.trans (hb.mono HB0.out.size))
   clear HR hb HX HB0
   obtain ⟨q0,q1,q2,q3,q4,q5,q6,qf⟩:=t7_of HX1.out
   go_wp2
   have hz7:=set7_blk HX1.out (.string ⟨#[]⟩) (.string ⟨#[]⟩) (.int .i64 0) (.int .i64 0) (.int .i64 0) (.int .i64 0) (.slice none 0 0)
   have hb7:=set7_below HB1.out (Nat.le_refl _) (Nat.le_refl _) (.string ⟨#[]⟩) (.string ⟨#[]⟩) (.int .i64 0) (.int .i64 0) (.int .i64 0) (.int .i64 0) (.slice none 0 0)
   change bodyPost _ _ _ _ _ (set7 w1 w.heap.size (.string ⟨#[]⟩) (.string ⟨#[]⟩) (.int .i64 0) (.int .i64 0) (.int .i64 0) (.int .i64 0) (.slice none 0 0))
   generalize set7 w1 w.heap.size (.string ⟨#[]⟩) (.string ⟨#[]⟩) (.int .i64 0) (.int .i64 0) (.int .i64 0) (.int .i64 0) (.slice none 0 0)=w20 at *
   obtain ⟨z0,z1,z2,z3,z4,z5,z6, -⟩:=t7_of hz7
   refine bodyPost_ret (v:=.tuple #[taskV zeroT (.slice none 0 0),.bool false]) (by simp [results,Tryz.results24,go_sem,z0,z1,z2,z3,z4,z5,z6,zeroT]) rfl ?_
   rw [HE.out]
   exact ⟨rfl,hb7⟩
 | false=>
   rw [hd] at HR
   simp only [Bool.false_eq_true,if_false] at HR
   by_cases hlo:id < 1
   ·have t1:decide (id < 1)=true:=decide_eq_true hlo
    have HE:Hid (r=none):=Lib.hid (by rw [← hr0]; unfold JS.taskP; rw [if_pos (Or.inr (Or.inl hlo))])
    clear h h1 hd hX hB0 hlo hr0
    go_enter Tryz.func24,Tryz.ntmps24
    go_wp2_with fail
    refine HR.out.mono ?_
    rintro e w1 ⟨rfl,hb⟩
    have HX1:=Lib.hid (HX.out.below hb)
    have HB1:=Lib.hid (HB0.out.trans (hb.mono HB0.out.size))
    clear HR hb HX HB0
    obtain ⟨q0,q1,q2,q3,q4,q5,q6,qf⟩:=t7_of HX1.out
    go_wp2
    have hz7:=set7_blk HX1.out (.string ⟨#[]⟩) (.string ⟨#[]⟩) (.int .i64 0) (.int .i64 0) (.int .i64 0) (.int .i64 0) (.slice none 0 0)
    have hb7:=set7_below HB1.out (Nat.le_refl _) (Nat.le_refl _) (.string ⟨#[]⟩) (.string ⟨#[]⟩) (.int .i64 0) (.int .i64 0) (.int .i64 0) (.int .i64 0) (.slice none 0 0)
    change bodyPost _ _ _ _ _ (set7 w1 w.heap.size (.string ⟨#[]⟩) (.string ⟨#[]⟩) (.int .i64 0) (.int .i64 0) (.int .i64 0) (.int .i64 0) (.slice none 0 0))
    generalize set7 w1 w.heap.size (.string ⟨#[]⟩) (.string ⟨#[]⟩) (.int .i64 0) (.int .i64 0) (.int .i64 0) (.int .i64 0) (.slice none 0 0)=w20 at *
    obtain ⟨z0,z1,z2,z3,z4,z5,z6, -⟩:=t7_of hz7
    refine bodyPost_ret (v:=.tuple #[taskV zeroT (.slice none 0 0),.bool false]) (by simp [results,Tryz.results24,go_sem,z0,z1,z2,z3,z4,z5,z6,zeroT]) rfl ?_
    rw [HE.out]
    exact ⟨rfl,hb7⟩
   by_cases hhi:9999 < id
   ·have t1:decide (id < 1)=false:=decide_eq_false hlo
    have t2:decide ((9999:Int) < id)=true:=decide_eq_true hhi
    have HE:Hid (r=none):=Lib.hid (by rw [← hr0]; unfold JS.taskP; rw [if_pos (Or.inr (Or.inr hhi))])
    clear h h1 hd hX hB0 hlo hhi hr0
    go_enter Tryz.func24,Tryz.ntmps24
    go_wp2_with fail
    refine HR.out.mono ?_
    rintro e w1 ⟨rfl,hb⟩
    have HX1:=Lib.hid (HX.out.below hb)
    have HB1:=Lib.hid (HB0.out.trans (hb.mono HB0.out.size))
    clear HR hb HX HB0
    obtain ⟨q0,q1,q2,q3,q4,q5,q6,qf⟩:=t7_of HX1.out
    go_wp2
    have hz7:=set7_blk HX1.out (.string ⟨#[]⟩) (.string ⟨#[]⟩) (.int .i64 0) (.int .i64 0) (.int .i64 0) (.int .i64 0) (.slice none 0 0)
    have hb7:=set7_below HB1.out (Nat.le_refl _) (Nat.le_refl _) (.string ⟨#[]⟩) (.string ⟨#[]⟩) (.int .i64 0) (.int .i64 0) (.int .i64 0) (.int .i64 0) (.slice none 0 0)
    change bodyPost _ _ _ _ _ (set7 w1 w.heap.size (.string ⟨#[]⟩) (.string ⟨#[]⟩) (.int .i64 0) (.int .i64 0) (.int .i64 0) (.int .i64 0) (.slice none 0 0))
    generalize set7 w1 w.heap.size (.string ⟨#[]⟩) (.string ⟨#[]⟩) (.int .i64 0) (.int .i64 0) (.int .i64 0) (.int .i64 0) (.slice none 0 0)=w20 at *
    obtain ⟨z0,z1,z2,z3,z4,z5,z6, -⟩:=t7_of hz7
    refine bodyPost_ret (v:=.tuple #[taskV zeroT (.slice none 0 0),.bool false]) (by simp [results,Tryz.results24,go_sem,z0,z1,z2,z3,z4,z5,z6,zeroT]) rfl ?_
    rw [HE.out]
    exact ⟨rfl,hb7⟩
   obtain ⟨n,rfl⟩:∃ n:Nat,id=n:=⟨id.toNat,by omega⟩
   have t1:decide ((n:Int) < 1)=false:=decide_eq_false hlo
   have t2:decide ((9999:Int) < (n:Int))=false:=decide_eq_false hhi
   have HRQ:Hid (r=(pFind s.c.ents (tkey n)).bind readTaskP):=Lib.hid (by
    rw [← hr0]; unfold JS.taskP
    rw [if_neg (by rw [hd]; simp; omega),Int.toNat_natCast]
    cases pFind s.c.ents (tkey n) <;> rfl)
   clear hr0
   have HK:=Lib.hid (fun w=>taskKey_c n w (by omega))
   have HG:=Lib.hid (fun W (hW:Below (w.alloc (.cells #[.string ⟨#[]⟩,.string ⟨#[]⟩,.int .i64 0,.int .i64 0,.int .i64 0,.int .i64 0,.slice none 0 0] 35)).heap.size (w.alloc (.cells #[.string ⟨#[]⟩,.string ⟨#[]⟩,.int .i64 0,.int .i64 0,.int .i64 0,.int .i64 0,.slice none 0 0] 35)) W)=>And.intro (h1.below hW).cell (sget_c (tkey n) W (h1.below hW).jw hd (by simp [tkey,digP_len])))
   clear h h1 hd hX hB0 hlo hhi
   go_enter Tryz.func24,Tryz.ntmps24
   go_wp2_with fail
   refine HR.out.mono ?_
   rintro e w1 ⟨rfl,hb⟩
   have k0:=(HG.out _ hb).1
   have B1:=hb.drew
   have HB1:=Lib.hid hb
   clear hb HR
   generalize tkey n=tk at *
   go_upto_region 3 with (fail)
   go_region_held3 (fun w'=>w'.cell? ⟨sb,0,none⟩=some (.pointer (some ⟨jb,0,none⟩))) (first | exact k0 | exact (HG.out _ B2).1 | exact (HG.out _ B3).1)
    (first
     | (go_at_call 40; refine (HG.out _ B2).2.mono ?_; rintro e w3 ⟨⟨a,c,rfl,hv⟩,b3⟩; have B3:=B2.trans (b3.mono B2.size); clear b3 B2)
     | (go_at_call 52; have _t:=B1; refine (HK.out _).mono ?_; rintro e w2 ⟨rfl,b2⟩; have B2:=B1.trans (b2.mono B1.size); clear b2 B1))
   have HX3:=Lib.hid (HX.out.below B3)
   have HB3:=Lib.hid (HB0.out.trans (B3.mono HB0.out.size))
   have HV:=Lib.hid hv
   clear HX HB0 B3 HG HK hv k0
   obtain ⟨q0,q1,q2,q3,q4,q5,q6,qf⟩:=t7_of HX3.out
   cases hf:pFind s.c.ents tk with
   | none=>
     have e0:=HRQ.out
     rw [hf,Option.bind_none] at e0
     have HE:=Lib.hid e0
     simp only [Option.isSome_none,Option.getD_none]
     clear hf HV e0 HRQ
     go_wp2
     have hz7:=set7_blk HX3.out (.string ⟨#[]⟩) (.string ⟨#[]⟩) (.int .i64 0) (.int .i64 0) (.int .i64 0) (.int .i64 0) (.slice none 0 0)
     have hb7:=set7_below HB3.out (Nat.le_refl _) (Nat.le_refl _) (.string ⟨#[]⟩) (.string ⟨#[]⟩) (.int .i64 0) (.int .i64 0) (.int .i64 0) (.int .i64 0) (.slice none 0 0)
     change bodyPost _ _ _ _ _ (set7 w3 w.heap.size (.string ⟨#[]⟩) (.string ⟨#[]⟩) (.int .i64 0) (.int .i64 0) (.int .i64 0) (.int .i64 0) (.slice none 0 0))
     generalize set7 w3 w.heap.size (.string ⟨#[]⟩) (.string ⟨#[]⟩) (.int .i64 0) (.int .i64 0) (.int .i64 0) (.int .i64 0) (.slice none 0 0)=w20 at *
     obtain ⟨z0,z1,z2,z3,z4,z5,z6, -⟩:=t7_of hz7
     refine bodyPost_ret (v:=.tuple #[taskV zeroT (.slice none 0 0),.bool false]) (by simp [results,Tryz.results24,go_sem,z0,z1,z2,z3,z4,z5,z6,zeroT]) rfl ?_
     rw [HE.out]
     exact ⟨rfl,hb7⟩
   | some v=>
     rw [hf] at HV
     have e0:=HRQ.out
     rw [hf,Option.bind_some] at e0
     have HE:=Lib.hid e0
     simp only [Option.isSome_some,Option.getD_some] at HV ⊢
     clear e0 HRQ
     have HT:=Lib.hid (readTask_c _ v w3 HV.out)
     clear hf HV
     go_wp2_with fail
     refine HT.out.mono ?_
     rintro e w4 ⟨hp,b4⟩
     have HX4:=Lib.hid (HX3.out.below b4)
     have HB4:=Lib.hid (HB3.out.trans (b4.mono HB3.out.size))
     have HS4:=Lib.hid b4.size
     clear HT b4 HX3 HB3 q0 q1 q2 q3 q4 q5 q6 qf
     obtain ⟨q0,q1,q2,q3,q4,q5,q6,qf⟩:=t7_of HX4.out
     cases hr:readTaskP v with
     | none=>
       rw [hr] at hp
       have hp:e=.returned (.tuple #[taskV zeroT (.slice none 0 0),.bool false]):=hp
       subst hp
       unfold zeroT
       go_wp2
       change bodyPost _ _ _ _ _ (set7 w4 w.heap.size (.string ⟨#[]⟩) (.string ⟨#[]⟩) (.int .i64 0) (.int .i64 0) (.int .i64 0) (.int .i64 0) (.slice none 0 0))
       have hz7:=set7_blk HX4.out (.string ⟨#[]⟩) (.string ⟨#[]⟩) (.int .i64 0) (.int .i64 0) (.int .i64 0) (.int .i64 0) (.slice none 0 0)
       have hb7:=set7_below HB4.out (Nat.le_refl _) (Nat.le_refl _) (.string ⟨#[]⟩) (.string ⟨#[]⟩) (.int .i64 0) (.int .i64 0) (.int .i64 0) (.int .i64 0) (.slice none 0 0)
       change bodyPost _ _ _ _ _ (set7 w4 w.heap.size (.string ⟨#[]⟩) (.string ⟨#[]⟩) (.int .i64 0) (.int .i64 0) (.int .i64 0) (.int .i64 0) (.slice none 0 0))
       generalize set7 w4 w.heap.size (.string ⟨#[]⟩) (.string ⟨#[]⟩) (.int .i64 0) (.int .i64 0) (.int .i64 0) (.int .i64 0) (.slice none 0 0)=w20 at *
       obtain ⟨z0,z1,z2,z3,z4,z5,z6, -⟩:=t7_of hz7
       refine bodyPost_ret (v:=.tuple #[taskV zeroT (.slice none 0 0),.bool false]) (by simp [results,Tryz.results24,go_sem,z0,z1,z2,z3,z4,z5,z6,zeroT]) rfl ?_
       rw [HE.out,hr]
       exact ⟨rfl,hb7⟩
     | some t=>
       rw [hr] at hp
       obtain ⟨a2,c2,rfl,hv2⟩:=hp
       have HV2:=Lib.hid (hv2.mono HS4.out)
       obtain ⟨cls,name,frm,due,late,tries,body⟩:=t
       simp only at HV2 ⊢
       have HE2:=Lib.hid (HE.out.trans hr)
       clear hv2 hr HE
       go_wp2
       have hz7:=set7_blk HX4.out (strV cls) (strV name) (.int .i64 frm) (.int .i64 due) (.int .i64 late) (.int .i64 tries) (.slice a2 body.length c2)
       have hb7:=set7_below HB4.out (Nat.le_refl _) (Nat.le_refl _) (strV cls) (strV name) (.int .i64 frm) (.int .i64 due) (.int .i64 late) (.int .i64 tries) (.slice a2 body.length c2)
       have hv7:=(HV2.out.skip HX4.out (fun x hx m=>by simp at hx; rcases hx with rfl | rfl | rfl | rfl | rfl | rfl | rfl <;> simp) (set7_grown w4 w.heap.size (strV cls) (strV name) (.int .i64 frm) (.int .i64 due) (.int .i64 late) (.int .i64 tries) (.slice a2 body.length c2))).mono (set7_grown w4 w.heap.size (strV cls) (strV name) (.int .i64 frm) (.int .i64 due) (.int .i64 late) (.int .i64 tries) (.slice a2 body.length c2)).size
       change bodyPost _ _ _ _ _ (set7 w4 w.heap.size (strV cls) (strV name) (.int .i64 frm) (.int .i64 due) (.int .i64 late) (.int .i64 tries) (.slice a2 body.length c2))
       generalize set7 w4 w.heap.size (strV cls) (strV name) (.int .i64 frm) (.int .i64 due) (.int .i64 late) (.int .i64 tries) (.slice a2 body.length c2)=w20 at *
       obtain ⟨z0,z1,z2,z3,z4,z5,z6, -⟩:=t7_of hz7
       refine bodyPost_ret (v:=.tuple #[taskV ⟨cls,name,frm,due,late,tries,body⟩ (.slice a2 body.length c2),.bool true]) (by simp [results,Tryz.results24,go_sem,z0,z1,z2,z3,z4,z5,z6]) rfl ?_
       rw [HE2.out]
       exact ⟨⟨a2,c2,rfl,hv7⟩,hb7⟩
theorem SchoolOk.ext_len {P:PEnts} (h:SchoolOk P) {id:Nat} {st v:List UInt8} (hf:pFind P (xkey id st)=some v):v.length=4:=by
 obtain ⟨e,_,hk,hv,_⟩:=h _ _ hf
 cases e with
 | ext id' s' m=>rw [hv]; exact numB_length _ _
 | cls c=>have:=(List.cons.inj hk).1; exact absurd this (by decide)
 | mem c s=>have:=(List.cons.inj hk).1; exact absurd this (by decide)
 | tsk i t=>have:=(List.cons.inj hk).1; exact absurd this (by decide)
 | att i s n tm tx=>have:=(List.cons.inj hk).1; exact absurd this (by decide)
set_option maxRecDepth 100000 in
set_option maxHeartbeats 2000000 in
/-- Extension -/
theorem extension_c {sb jb db mb:Nat} {p:Nat→Prop} {s:JS} (id:Int) (st:List UInt8) (w:World) (h:SW w sb jb db mb p s) (hok:SOk s) :
 Calls Tryz.prog 21 #[sv sb,.int .i64 id,strV st] w fun e w'=>e=.returned (.int .i64 (s.extP id st))∧Below w.heap.size w w':=by
 have hun:undef=Value.tuple #[]:=rfl
 have HR:=Lib.hid (sref_c _ h)
 have HN:=Lib.hid (fun w=>isName_c st w)
 unfold refP at HR
 obtain ⟨r,hr0⟩:∃ r,s.extP id st=r:=⟨_,rfl⟩
 rw [hr0]
 cases hd:s.down with
 | true=>
   rw [hd] at HR
   have HE:Hid (r=0):=Lib.hid (by rw [← hr0]; unfold JS.extP; rw [if_pos (Or.inl hd)])
   simp only [if_true] at HR
   clear h hd hr0 hok
   go_enter Tryz.func21,Tryz.ntmps21
   go_wp2_with fail
   refine HR.out.mono ?_
   rintro e w1 ⟨rfl,hb⟩
   go_wp2
   go_ret
   rw [HE.out]
   exact ⟨rfl,hb⟩
 | false=>
   rw [hd] at HR
   simp only [Bool.false_eq_true,if_false] at HR
   by_cases hlo:id < 1
   ·have t1:decide (id < 1)=true:=decide_eq_true hlo
    have HE:Hid (r=0):=Lib.hid (by rw [← hr0]; unfold JS.extP; rw [if_pos (Or.inr (Or.inl hlo))])
    clear h hd hr0 hok hlo
    go_enter Tryz.func21,Tryz.ntmps21
    go_wp2_with fail
    refine HR.out.mono ?_
    rintro e w1 ⟨rfl,hb⟩
    go_wp2
    go_ret
    rw [HE.out]
    exact ⟨rfl,hb⟩
   by_cases hhi:9999 < id
   ·have t1:decide (id < 1)=false:=decide_eq_false hlo
    have t2:decide ((9999:Int) < id)=true:=decide_eq_true hhi
    have HE:Hid (r=0):=Lib.hid (by rw [← hr0]; unfold JS.extP; rw [if_pos (Or.inr (Or.inr (Or.inl hhi)))])
    clear h hd hr0 hok hlo hhi
    go_enter Tryz.func21,Tryz.ntmps21
    go_wp2_with fail
    refine HR.out.mono ?_
    rintro e w1 ⟨rfl,hb⟩
    go_wp2
    go_ret
    rw [HE.out]
    exact ⟨rfl,hb⟩
   have t1:decide (id < 1)=false:=decide_eq_false hlo
   have t2:decide ((9999:Int) < id)=false:=decide_eq_false hhi
   cases hn:isNameP st with
   | false=>
     rw [hn] at HN
     have HE:Hid (r=0):=Lib.hid (by rw [← hr0]; unfold JS.extP; rw [if_pos (Or.inr (Or.inr (Or.inr hn)))])
     clear h hd hr0 hok hlo hhi hn
     go_enter Tryz.func21,Tryz.ntmps21
     go_wp2_with fail
     refine HR.out.mono ?_
     rintro e w1 ⟨rfl,hb⟩
     go_wp2_with fail
     refine (HN.out w1).mono ?_
     rintro e w2 ⟨rfl,rfl⟩
     go_wp2
     go_ret
     rw [HE.out]
     exact ⟨rfl,hb⟩
   | true=>
     have hl:=isNameP_len hn
     rw [hn] at HN
     obtain ⟨n,rfl⟩:∃ n:Nat,id=n:=⟨id.toNat,by omega⟩
     have HRQ:Hid (r=match pFind s.c.ents (xkey n st) with | none=>0 | some v=>numV (v.take 4)):=Lib.hid (by
      rw [← hr0]; unfold JS.extP
      rw [if_neg (by rw [hd,hn]; simp; omega),Int.toNat_natCast]
      cases pFind s.c.ents (xkey n st) <;> rfl)
     have HLN:Hid (∀ v,pFind s.c.ents (xkey n st)=some v→4≤v.length):=Lib.hid (fun v hv=>by rw [(hok hd).2.ext_len hv]; exact Nat.le_refl _)
     have HK:=Lib.hid (fun w=>extensionKey_c n st w (by omega) (by omega))
     have HG:=Lib.hid (fun W (hW:Below w.heap.size w W)=>And.intro (h.below hW).cell (sget_c (xkey n st) W (h.below hW).jw hd (by simp [xkey,digP_len]; omega)))
     clear h hd hlo hhi hr0 hok hn
     go_enter Tryz.func21,Tryz.ntmps21
     go_wp2_with fail
     refine HR.out.mono ?_
     rintro e w1 ⟨rfl,hb⟩
     go_wp2_with fail
     refine (HN.out w1).mono ?_
     rintro e w2 ⟨rfl,rfl⟩
     have k0:=(HG.out _ hb).1
     have B1:=hb.drew
     clear HR HN
     generalize xkey n st=tk at *
     go_upto_region 3 with (fail)
     go_region_held3 (fun w'=>w'.cell? ⟨sb,0,none⟩=some (.pointer (some ⟨jb,0,none⟩))) (first | exact k0 | exact (HG.out _ B2).1 | exact (HG.out _ B3).1)
      (first
       | (go_at_call 40; refine (HG.out _ B2).2.mono ?_; rintro e w4 ⟨⟨a,c,rfl,hv⟩,b3⟩; have B3:=B2.trans (b3.mono B2.size); clear b3 B2)
       | (go_at_call 49; have _t:=B1; refine (HK.out _).mono ?_; rintro e w3 ⟨rfl,b2⟩; have B2:=B1.trans (b2.mono B1.size); clear b2 B1))
     have HB3:=Lib.hid B3
     have HV:=Lib.hid hv
     clear B3 HG HK hv k0 hb
     cases hf:pFind s.c.ents tk with
     | none=>
       have e0:=HRQ.out
       rw [hf] at e0
       have HE:=Lib.hid e0
       clear e0
       simp only [Option.isSome_none,Option.getD_none]
       clear hf HV HRQ HLN
       go_wp2
       go_ret
       rw [HE.out]
       exact ⟨rfl,HB3.out⟩
     | some v=>
       rw [hf] at HV
       have e0:=HRQ.out
       rw [hf] at e0
       have HE:=Lib.hid e0
       clear e0
       simp only [Option.isSome_some,Option.getD_some] at HV ⊢
       have HT:=Lib.hid (readNumber_c _ v _ w4 HV.out (HLN.out v hf))
       clear hf HV HRQ HLN
       go_wp2_with fail
       refine HT.out.mono ?_
       rintro e w5 ⟨⟨v',rfl, -⟩,b5⟩
       go_wp2
       go_ret
       rw [HE.out]
       exact ⟨rfl,HB3.out.trans (b5.mono HB3.out.size)⟩
theorem JS.taskP_fine {s:JS} {id:Int} {t:TaskP} (h:s.taskP id=some t):s.down=false∧1≤id∧id≤9999∧t.Fine∧t.body.length≤4000:=by
 unfold JS.taskP at h
 split at h
 ·cases h
 ·rename_i hn
  have hd:s.down=false:=by cases hd:s.down with | false=>rfl | true=>exact absurd (Or.inl hd) hn
  have h2:¬ id < 1:=fun e=>hn (Or.inr (Or.inl e))
  have h3:¬ 9999 < id:=fun e=>hn (Or.inr (Or.inr e))
  split at h
  ·cases h
  ·have:=readTask_inv h
   exact ⟨hd,by omega,by omega,this.1,this.2.1⟩
set_option maxRecDepth 100000 in
set_option maxHeartbeats 4000000 in
/-- taskOf -/
theorem taskOf_c {sb jb db mb:Nat} {p:Nat→Prop} {s:JS} (id:Int) (st:List UInt8) (w:World) (h:SW w sb jb db mb p s) (hl:st.length≤1000000) :
 Calls Tryz.prog 55 #[sv sb,.int .i64 id,strV st] w fun e w'=>TaskPost w'.heap.size (s.taskOfP id st) e w'∧Below w.heap.size w w':=by
 have hun:undef=Value.tuple #[]:=rfl
 have hB0:Below w.heap.size w (w.alloc (.cells #[.string ⟨#[]⟩,.string ⟨#[]⟩,.int .i64 0,.int .i64 0,.int .i64 0,.int .i64 0,.slice none 0 0] 35)):=(Below.refl _ w).alloc (Nat.le_refl _) _
 have hX:Blk (w.alloc (.cells #[.string ⟨#[]⟩,.string ⟨#[]⟩,.int .i64 0,.int .i64 0,.int .i64 0,.int .i64 0,.slice none 0 0] 35)) w.heap.size 35 [.string ⟨#[]⟩,.string ⟨#[]⟩,.int .i64 0,.int .i64 0,.int .i64 0,.int .i64 0,.slice none 0 0]:=Blk.new w _ [.string ⟨#[]⟩,.string ⟨#[]⟩,.int .i64 0,.int .i64 0,.int .i64 0,.int .i64 0,.slice none 0 0]
 have HT:=Lib.hid (task_c id _ (h.below hB0))
 have HX:=Lib.hid hX
 have HB0:=Lib.hid hB0
 have HS:=Lib.hid (fun W (hW:Below w.heap.size w W)=>h.below hW)
 obtain ⟨r,hr0⟩:∃ r,s.taskOfP id st=r:=⟨_,rfl⟩
 rw [hr0]
 clear h hX hB0
 cases ht:s.taskP id with
 | none=>
   have HE:Hid (r=none):=Lib.hid (by rw [← hr0]; unfold JS.taskOfP; rw [ht])
   rw [ht] at HT
   clear hr0 ht HS
   go_enter Tryz.func55,Tryz.ntmps55
   go_wp2_with fail
   refine HT.out.mono ?_
   rintro e w1 ⟨hp,hb⟩
   have hp:e=.returned (.tuple #[taskV zeroT (.slice none 0 0),.bool false]):=hp
   subst hp
   unfold zeroT
   have hbt:Below w1.heap.size w1 (w1.alloc (.cells #[.string ⟨#[]⟩,.string ⟨#[]⟩,.int .i64 0,.int .i64 0,.int .i64 0,.int .i64 0,.slice none 0 0] 35)):=(Below.refl _ w1).alloc (Nat.le_refl _) _
   have HX1:=Lib.hid ((HX.out.below hb).below hbt)
   have hb1:=HB0.out.trans (hb.mono HB0.out.size)
   have HB1:=Lib.hid (hb1.trans (hbt.mono hb1.size))
   clear HT hb HX HB0 hb1 hbt
   obtain ⟨q0,q1,q2,q3,q4,q5,q6,qf⟩:=t7_of HX1.out
   go_upto_region 2 with (fail)
   change Code.wp _ _ _ _ (w1.alloc (.cells #[.string ⟨#[]⟩,.string ⟨#[]⟩,.int .i64 0,.int .i64 0,.int .i64 0,.int .i64 0,.slice none 0 0] 35))
   generalize w1.alloc (.cells #[.string ⟨#[]⟩,.string ⟨#[]⟩,.int .i64 0,.int .i64 0,.int .i64 0,.int .i64 0,.slice none 0 0] 35)=w2 at *
   go_wp2
   have hz7:=set7_blk HX1.out (.string ⟨#[]⟩) (.string ⟨#[]⟩) (.int .i64 0) (.int .i64 0) (.int .i64 0) (.int .i64 0) (.slice none 0 0)
   have hb7:=set7_below HB1.out (Nat.le_refl _) (Nat.le_refl _) (.string ⟨#[]⟩) (.string ⟨#[]⟩) (.int .i64 0) (.int .i64 0) (.int .i64 0) (.int .i64 0) (.slice none 0 0)
   change bodyPost _ _ _ _ _ (set7 w2 w.heap.size (.string ⟨#[]⟩) (.string ⟨#[]⟩) (.int .i64 0) (.int .i64 0) (.int .i64 0) (.int .i64 0) (.slice none 0 0))
   generalize set7 w2 w.heap.size (.string ⟨#[]⟩) (.string ⟨#[]⟩) (.int .i64 0) (.int .i64 0) (.int .i64 0) (.int .i64 0) (.slice none 0 0)=w20 at *
   obtain ⟨z0,z1,z2,z3,z4,z5,z6, -⟩:=t7_of hz7
   refine bodyPost_ret (v:=.tuple #[taskV zeroT (.slice none 0 0),.bool false]) (by simp [results,Tryz.results55,go_sem,z0,z1,z2,z3,z4,z5,z6,zeroT]) rfl ?_
   rw [HE.out]
   exact ⟨rfl,hb7⟩
 | some t=>
   have hfine:=JS.taskP_fine ht
   have hcl:=isNameP_len hfine.2.2.2.1.cls
   have hd:=hfine.1
   have HRQ:Hid (r=if (pFind s.c.ents (mkey t.cls st)).isSome then some t else none):=Lib.hid (by rw [← hr0]; unfold JS.taskOfP; rw [ht])
   rw [ht] at HT
   clear hr0 ht hfine
   have HK:=Lib.hid (fun w=>memberKey_c t.cls st w (by omega) hl)
   have HG:=Lib.hid (fun W (hW:Below w.heap.size w W)=>there_c (mkey t.cls st) W (HS.out W hW) hd (by simp [mkey]; omega))
   obtain ⟨cls,name,frm,due,late,tries,body⟩:=t
   simp only at HK HG HRQ hcl
   generalize mkey cls st=mk at *
   clear hcl
   go_enter Tryz.func55,Tryz.ntmps55
   go_wp2_with fail
   refine HT.out.mono ?_
   rintro e w1 ⟨⟨a,c,rfl,hv⟩,hb⟩
   have hbt:Below w1.heap.size w1 (w1.alloc (.cells #[strV cls,strV name,.int .i64 frm,.int .i64 due,.int .i64 late,.int .i64 tries,.slice a body.length c] 35)):=(Below.refl _ w1).alloc (Nat.le_refl _) _
   have HX1:=Lib.hid ((HX.out.below hb).below hbt)
   have HY1:=Lib.hid (Blk.new w1 35 [strV cls,strV name,.int .i64 frm,.int .i64 due,.int .i64 late,.int .i64 tries,.slice a body.length c])
   have hb1:=HB0.out.trans (hb.mono HB0.out.size)
   have HB1:=Lib.hid (hb1.trans (hbt.mono hb1.size))
   have HV:=Lib.hid ((hv.below hbt).mono hbt.size)
   have hne:w.heap.size < w1.heap.size:=Nat.lt_of_lt_of_le (by simp) hb.size
   clear HT hb HX HB0 hb1 hbt hv
   have hs:=HB1.out.size
   obtain ⟨q0,q1,q2,q3,q4,q5,q6,qf⟩:=t7_of HX1.out
   obtain ⟨y0,y1,y2,y3,y4,y5,y6,yf⟩:=t7_of HY1.out
   go_upto_region 2 with (fail)
   change Code.wp _ _ _ _ (w1.alloc (.cells #[strV cls,strV name,.int .i64 frm,.int .i64 due,.int .i64 late,.int .i64 tries,.slice a body.length c] 35))
   generalize w1.alloc (.cells #[strV cls,strV name,.int .i64 frm,.int .i64 due,.int .i64 late,.int .i64 tries,.slice a body.length c] 35)=w2 at *
   generalize w1.heap.size=tb at *
   go_wp2_with fail
   refine (HK.out w2).mono ?_
   rintro e w3 ⟨rfl,rfl⟩
   go_wp2_with fail
   refine (HG.out w3 HB1.out).mono ?_
   rintro e w4 ⟨rfl,b4⟩
   have HX4:=Lib.hid (HX1.out.below b4)
   have HY4:=Lib.hid (HY1.out.below b4)
   have HB4:=Lib.hid (HB1.out.trans (b4.mono hs))
   have HV4:=Lib.hid ((HV.out.below b4).mono b4.size)
   clear HK HG HX1 HY1 HB1 HV b4 q0 q1 q2 q3 q4 q5 q6 qf y0 y1 y2 y3 y4 y5 y6 yf hs HS
   obtain ⟨q0,q1,q2,q3,q4,q5,q6,qf⟩:=t7_of HX4.out
   obtain ⟨y0,y1,y2,y3,y4,y5,y6,yf⟩:=t7_of HY4.out
   cases hm:(pFind s.c.ents mk).isSome with
   | false=>
     have e0:=HRQ.out
     rw [hm] at e0
     have HE:=Lib.hid e0
     clear e0 hm
     go_wp2
     have hz7:=set7_blk HX4.out (.string ⟨#[]⟩) (.string ⟨#[]⟩) (.int .i64 0) (.int .i64 0) (.int .i64 0) (.int .i64 0) (.slice none 0 0)
     have hb7:=set7_below HB4.out (Nat.le_refl _) (Nat.le_refl _) (.string ⟨#[]⟩) (.string ⟨#[]⟩) (.int .i64 0) (.int .i64 0) (.int .i64 0) (.int .i64 0) (.slice none 0 0)
     change bodyPost _ _ _ _ _ (set7 w4 w.heap.size (.string ⟨#[]⟩) (.string ⟨#[]⟩) (.int .i64 0) (.int .i64 0) (.int .i64 0) (.int .i64 0) (.slice none 0 0))
     generalize set7 w4 w.heap.size (.string ⟨#[]⟩) (.string ⟨#[]⟩) (.int .i64 0) (.int .i64 0) (.int .i64 0) (.int .i64 0) (.slice none 0 0)=w20 at *
     obtain ⟨z0,z1,z2,z3,z4,z5,z6, -⟩:=t7_of hz7
     refine bodyPost_ret (v:=.tuple #[taskV zeroT (.slice none 0 0),.bool false]) (by simp [results,Tryz.results55,go_sem,z0,z1,z2,z3,z4,z5,z6,zeroT]) rfl ?_
     rw [HE.out]
     exact ⟨rfl,hb7⟩
   | true=>
     have e0:=HRQ.out
     rw [hm] at e0
     have HE:=Lib.hid e0
     clear e0 hm
     go_wp2
     have hz7:=set7_blk HX4.out (strV cls) (strV name) (.int .i64 frm) (.int .i64 due) (.int .i64 late) (.int .i64 tries) (.slice a body.length c)
     have hb7:=set7_below HB4.out (Nat.le_refl _) (Nat.le_refl _) (strV cls) (strV name) (.int .i64 frm) (.int .i64 due) (.int .i64 late) (.int .i64 tries) (.slice a body.length c)
     have hv7:=(HV4.out.skip HX4.out (fun x hx m=>by simp at hx; rcases hx with rfl | rfl | rfl | rfl | rfl | rfl | rfl <;> simp) (set7_grown w4 w.heap.size (strV cls) (strV name) (.int .i64 frm) (.int .i64 due) (.int .i64 late) (.int .i64 tries) (.slice a body.length c))).mono (set7_grown w4 w.heap.size (strV cls) (strV name) (.int .i64 frm) (.int .i64 due) (.int .i64 late) (.int .i64 tries) (.slice a body.length c)).size
     change bodyPost _ _ _ _ _ (set7 w4 w.heap.size (strV cls) (strV name) (.int .i64 frm) (.int .i64 due) (.int .i64 late) (.int .i64 tries) (.slice a body.length c))
     generalize set7 w4 w.heap.size (strV cls) (strV name) (.int .i64 frm) (.int .i64 due) (.int .i64 late) (.int .i64 tries) (.slice a body.length c)=w20 at *
     obtain ⟨z0,z1,z2,z3,z4,z5,z6, -⟩:=t7_of hz7
     refine bodyPost_ret (v:=.tuple #[taskV ⟨cls,name,frm,due,late,tries,body⟩ (.slice a body.length c),.bool true]) (by simp [results,Tryz.results55,go_sem,z0,z1,z2,z3,z4,z5,z6]) rfl ?_
     rw [HE.out]
     exact ⟨⟨a,c,rfl,hv7⟩,hb7⟩
end
section
open Go.RowKit SeedP Go.Maps
section
variable {P:Program} (t e:TypeId) (z:Value) (size bytes:Nat)
theorem apG_run {w:World} (ty:TypeId) (hi:(P.info? e).map (fun i=>(i.zero,i.size,i.bytes))=some (some z,size,bytes)) (ht:P.underlying t=some (.slice e)) (hzs:z.cells.size=size) (hsz:0 < size)
 (B:Nat) (v:Value) (n:Nat) (xs:List Value) (h:w.ownsRow B e size v n xs) (g c:Nat) (ys:List Value) (hl:ys.length=size) (hg:Blk w g e ys) (h1:∀ y ∈ ys,y.oneCell'=true) (hn:n+1≤maxLen) (hnb:(n+1) * bytes≤140737488355328) (hB:B≤w.heap.size) :
 ∃ v' w',(Builtin.append_ #[t,t] ty #[v,.slice (some ⟨g,0,none⟩) 1 c]).run P w=.ok v' w'∧w'.ownsRow B e size v' (n+1) (xs ++ ys)∧w.grownBy w' v.ownBlock∧(v'.ownBlock=v.ownBlock∨v'.ownBlock=some w.heap.size):=by
 obtain ⟨i,hi,hz⟩:=Option.map_eq_some_iff.1 hi
 simp only [Prod.mk.injEq] at hz
 obtain ⟨hz1,hz2,hz3⟩:=hz
 have hcell:∀ j u,ys[j]?=some u→w.cell? ((⟨g,0,none⟩:Addr).add j)=some u:=by
  intro j u hu
  have e0:(⟨g,0,none⟩:Addr).add j=⟨g,j,none⟩:=by unfold Addr.add; split <;> simp_all
  have hj:=(List.getElem?_eq_some_iff.1 hu).1
  rw [e0,hg.cell j hj,List.getD_eq_getElem?_getD,hu]; rfl
 obtain ⟨v',w',hr,h2,h3,_,h5⟩:=run_append_own_at (P:=P) w B t ty e i z size bytes ht hi hz1 hz2 hz3 hzs hsz v n xs h ⟨g,0,none⟩ 1 c ys (by omega) hcell h1 hn hnb hB
 exact ⟨v',w',hr,h2,h3,h5⟩
/-- an append of one row -/
theorem wpList_apG {w:World} {ops:Array Oper} {rest:List Oper} {o:Oper} {a:Act} {Q:Exit→Act→World→Prop}
 (hi:(P.info? e).map (fun i=>(i.zero,i.size,i.bytes))=some (some z,size,bytes)) (ht:P.underlying t=some (.slice e)) (hzs:z.cells.size=size) (hsz:0 < size) (hgd:o.guard=none) (s x:Operand)
 (ho:o.op=.call { callee:=.builtin .append,args:=#[s,x],argTypes:=#[t,t] })
 (B:Nat) (v:Value) (n:Nat) (xs:List Value) (hs:a.eval s=v) (h:w.ownsRow B e size v n xs) (g c:Nat) (ys:List Value) (hx:a.eval x=.slice (some ⟨g,0,none⟩) 1 c) (hl:ys.length=size)
 (hg:Blk w g e ys) (h1:∀ y ∈ ys,y.oneCell'=true) (hn:n+1≤maxLen) (hnb:(n+1) * bytes≤140737488355328) (hB:B≤w.heap.size)
 (hK:∀ v' w',w'.ownsRow B e size v' (n+1) (xs ++ ys)→w.grownBy w' v.ownBlock→(v'.ownBlock=v.ownBlock∨v'.ownBlock=some w.heap.size)→wpList P ops Q rest (a.put o.dst v') w'):wpList P ops Q (o :: rest) a w:=by
 obtain ⟨v',w',hr,h2,h3,h5⟩:=apG_run t e z size bytes o.type hi ht hzs hsz B v n xs h g c ys hl hg h1 hn hnb hB
 refine wpList_plain hgd fun _ hK2=>?_
 unfold Oper.wp execOp
 simp only [ho,resolve,invoke,builtin,Sem.run_bind,Sem.run_pure,Result.andThen_ok,List.map_toArray,List.map_cons,List.map_nil,hs,hx,hr]
 exact hK2 _ _ (hK v' w' h2 h3 h5)
end
end
end Go.Proofs.YtbcfpdlhieaepaaGreatDoor
