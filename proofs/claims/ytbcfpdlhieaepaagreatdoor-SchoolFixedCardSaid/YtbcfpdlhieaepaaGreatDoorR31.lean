/- The walks of the school's acts. -/
import Derived.Test.YtbcfpdlhieaepaaGreatDoorR30
import Derived.Test.YtbcfpdlhieaepaaGreatDoorR18
namespace Go.Proofs.YtbcfpdlhieaepaaGreatDoor
open Go.RowKit SeedP Go.Maps
/-- behind an act -/
structure ActPost (w:World) (sb jb db mb:Nat) (p:Nat→Prop) (s':JS) (w':World):Prop where
 sw:SW w' sb jb db mb (fun g=>p g∨w.heap.size≤g) s'
 gr:Grown (Sj jb db mb) w w'
theorem ActPost.same {w w':World} {sb jb db mb:Nat} {p:Nat→Prop} {s:JS} (h:SW w sb jb db mb p s) (hb:Below w.heap.size w w'):ActPost w sb jb db mb p s w':=
 ⟨⟨(h.below hb).jw.mono (fun _ hg=>Or.inl hg) (h.jw.fresh (Nat.le_refl _)),(h.below hb).sc⟩,Grown.of_below hb⟩
theorem ActPost.of {w w1 w2:World} {sb jb db mb:Nat} {p:Nat→Prop} {s s':JS} (h:SW w sb jb db mb p s) (hb:Below w.heap.size w w1) (hJ:JW w2 jb db mb (fun g=>p g∨w1.heap.size≤g) s') (hG:Grown (Sj jb db mb) w1 w2):ActPost w sb jb db mb p s' w2:=
 ⟨⟨hJ.mono (fun _ hg=>by rcases hg with hg | hg; exact Or.inl hg; exact Or.inr (Nat.le_trans hb.size hg)) (h.jw.fresh (Nat.le_refl _)),(h.below hb).sc.grown hG (h.below hb).out⟩,(Grown.of_below hb).trans hG⟩
theorem ActPost.below {w w1 w2:World} {sb jb db mb:Nat} {p:Nat→Prop} {s:JS} (h:ActPost w sb jb db mb p s w1) (hb:Below w1.heap.size w1 w2):ActPost w sb jb db mb p s w2:=
 ⟨h.sw.below hb,h.gr.trans (Grown.of_below hb)⟩
theorem SW.new {w:World} {sb jb db mb:Nat} {p:Nat→Prop} {s:JS} (h:SW w sb jb db mb p s) {q:Nat} (hq:w.heap.size≤q):q ≠ jb∧q ≠ db∧q ≠ mb:=by
 have:=h.jw.lt; omega
theorem snumber_i (v:Value) (xs:List UInt8) (x:Int) (n B:Nat) (w:World) (hx2:x=n) (hown:w.ownsRow B 5 1 v xs.length (byts xs)) (hB:B≤w.heap.size) (hn:n < 4294967296) (hx:xs.length≤2147483648) :
 Calls Tryz.prog 56 #[v,.int .i64 x] w fun e w'=>(∃ v',e=.returned v'∧w'.ownsRow B 5 1 v' (xs ++ numB n 4).length (byts (xs ++ numB n 4)))∧Below B w w'∧Kept w w':=by
 subst hx2; exact snumber_c v xs n B w hown hB hn hx
theorem rdP_nil (w:World) (p:Nat→Prop):RdP w p (.slice none 0 0) []:=Or.inl ⟨Or.inl rfl,rfl⟩
set_option maxRecDepth 100000 in
set_option maxHeartbeats 4000000 in
/-- AddClass -/
theorem addClass_c {sb jb db mb:Nat} {p:Nat→Prop} {s:JS} (c:List UInt8) (w:World) (h:SW w sb jb db mb p s) :
 Calls Tryz.prog 27 #[sv sb,strV c] w fun e w'=>e=.returned (.int .i64 (addClassP c s).2)∧ActPost w sb jb db mb p (addClassP c s).1 w':=by
 have hun:undef=Value.tuple #[]:=rfl
 have HR:=Lib.hid (sref_c w h)
 unfold refP at HR
 have HW:=Lib.hid h
 obtain ⟨r,hr0⟩:∃ r,addClassP c s=r:=⟨_,rfl⟩
 rw [hr0]
 have HN:=Lib.hid (fun w=>isName_c c w)
 cases hd:s.down with
 | true=>
   rw [hd] at HR
   have HE:Hid (r=(s,360)):=Lib.hid (by rw [← hr0]; unfold addClassP; rw [if_pos hd])
   simp only [if_true] at HR
   clear hr0 hd h
   go_enter Tryz.func27,Tryz.ntmps27
   go_wp2_with fail
   refine HR.out.mono ?_
   rintro e w1 ⟨rfl,hb⟩
   go_wp2
   go_ret
   rw [HE.out]
   exact ⟨rfl,ActPost.same HW.out hb⟩
 | false=>
   rw [hd] at HR
   simp only [Bool.false_eq_true,if_false] at HR
   have HS:=Lib.hid (fun W (hW:Below w.heap.size w W)=>h.below hW)
   cases hn:isNameP c with
   | false=>
     rw [hn] at HN
     have HE:Hid (r=(s,2)):=Lib.hid (by rw [← hr0]; unfold addClassP; rw [if_neg (by rw [hd]; simp),if_pos hn])
     clear hr0 hd h hn HS
     go_enter Tryz.func27,Tryz.ntmps27
     go_wp2_with fail
     refine HR.out.mono ?_
     rintro e w1 ⟨rfl,hb⟩
     go_wp2_with fail
     refine (HN.out _).mono ?_
     rintro e _ ⟨rfl,rfl⟩
     go_wp2
     go_ret
     rw [HE.out]
     exact ⟨rfl,ActPost.same HW.out hb⟩
   | true=>
     have hl:=isNameP_len hn
     rw [hn] at HN
     have HK:=Lib.hid (fun w=>classKey_c c w (by omega))
     have HG:=Lib.hid (fun W (hW:Below w.heap.size w W)=>there_c (ckey c) W (HS.out W hW) hd (by simp [ckey]; omega))
     cases hf:(pFind s.c.ents (ckey c)).isSome with
     | true=>
       rw [hf] at HG
       have HE:Hid (r=(s,371)):=Lib.hid (by rw [← hr0]; unfold addClassP; rw [if_neg (by rw [hd]; simp),if_neg (by rw [hn]; simp),if_pos hf])
       clear hr0 hd h hn HS hf
       go_enter Tryz.func27,Tryz.ntmps27
       go_wp2_with fail
       refine HR.out.mono ?_
       rintro e w1 ⟨rfl,hb⟩
       go_wp2_with fail
       refine (HN.out _).mono ?_
       rintro e _ ⟨rfl,rfl⟩
       go_wp2_with fail
       refine (HK.out _).mono ?_
       rintro e _ ⟨rfl,rfl⟩
       go_wp2_with fail
       refine (HG.out _ hb).mono ?_
       rintro e w3 ⟨rfl,hb3⟩
       have hb3:=hb.trans (hb3.mono hb.size)
       go_wp2
       go_ret
       rw [HE.out]
       exact ⟨rfl,ActPost.same HW.out hb3⟩
     | false=>
       rw [hf] at HG
       have HE:Hid (r=jCommit [⟨ckey c,[],false⟩] s):=Lib.hid (by rw [← hr0]; unfold addClassP; rw [if_neg (by rw [hd]; simp),if_neg (by rw [hn]; simp),if_neg (by rw [hf]; simp)])
       have HC:=Lib.hid (fun W (hW:Below w.heap.size w W)=>And.intro (HS.out W hW).cell (set_c (ckey c) [] (.slice none 0 0) W (HS.out W hW).jw (rdP_nil _ _) (by simp [ckey]; omega) (by simp)))
       clear hr0 hd h hn HS hf
       go_enter Tryz.func27,Tryz.ntmps27
       go_wp2_with fail
       refine HR.out.mono ?_
       rintro e w1 ⟨rfl,hb⟩
       go_wp2_with fail
       refine (HN.out _).mono ?_
       rintro e _ ⟨rfl,rfl⟩
       go_wp2_with fail
       refine (HK.out _).mono ?_
       rintro e _ ⟨rfl,rfl⟩
       go_wp2_with fail
       refine (HG.out _ hb).mono ?_
       rintro e w3 ⟨rfl,hb3⟩
       have hb3:=hb.trans (hb3.mono hb.size)
       have k0:=(HC.out _ hb3).1
       have B3:=hb3.drew
       go_upto_region 8 with (fail)
       go_region_held3 (fun w'=>w'.cell? ⟨sb,0,none⟩=some (.pointer (some ⟨jb,0,none⟩))) (first | exact k0 | exact (ActPost.of HW.out B3 hJ hG).sw.cell)
        (first
         | (go_at_call 58; have _t:=B3; refine (HK.out _).mono ?_; rintro e _ ⟨rfl,rfl⟩)
         | (go_at_call 32; have _t:=B3; refine (HC.out _ B3).2.mono ?_; rintro e w5 ⟨rfl,hJ,hG⟩))
       have HP:=Lib.hid (ActPost.of HW.out B3 hJ hG)
       clear hJ hG
       go_wp2
       go_ret
       rw [HE.out]
       exact ⟨rfl,HP.out⟩
set_option maxRecDepth 100000 in
set_option maxHeartbeats 4000000 in
/-- Enroll -/
theorem enroll_c {sb jb db mb:Nat} {p:Nat→Prop} {s:JS} (c st:List UInt8) (w:World) (h:SW w sb jb db mb p s) :
 Calls Tryz.prog 37 #[sv sb,strV c,strV st] w fun e w'=>e=.returned (.int .i64 (enrollP c st s).2)∧ActPost w sb jb db mb p (enrollP c st s).1 w':=by
 have hun:undef=Value.tuple #[]:=rfl
 have HR:=Lib.hid (sref_c w h)
 unfold refP at HR
 have HW:=Lib.hid h
 obtain ⟨r,hr0⟩:∃ r,enrollP c st s=r:=⟨_,rfl⟩
 rw [hr0]
 have HN:=Lib.hid (fun w=>isName_c c w)
 have HN2:=Lib.hid (fun w=>isName_c st w)
 cases hd:s.down with
 | true=>
   rw [hd] at HR
   have HE:Hid (r=(s,360)):=Lib.hid (by rw [← hr0]; unfold enrollP; rw [if_pos hd])
   simp only [if_true] at HR
   clear hr0 hd h
   go_enter Tryz.func37,Tryz.ntmps37
   go_wp2_with fail
   refine HR.out.mono ?_
   rintro e w1 ⟨rfl,hb⟩
   go_wp2
   go_ret
   rw [HE.out]
   exact ⟨rfl,ActPost.same HW.out hb⟩
 | false=>
   rw [hd] at HR
   simp only [Bool.false_eq_true,if_false] at HR
   have HS:=Lib.hid (fun W (hW:Below w.heap.size w W)=>h.below hW)
   cases hn:isNameP c with
   | false=>
     rw [hn] at HN
     have HE:Hid (r=(s,2)):=Lib.hid (by rw [← hr0]; unfold enrollP; rw [if_neg (by rw [hd]; simp),if_pos (by rw [hn]; rfl)])
     clear hr0 hd h hn HS
     go_enter Tryz.func37,Tryz.ntmps37
     go_wp2_with fail
     refine HR.out.mono ?_
     rintro e w1 ⟨rfl,hb⟩
     go_wp2_with fail
     refine (HN.out _).mono ?_
     rintro e _ ⟨rfl,rfl⟩
     go_wp2
     go_ret
     rw [HE.out]
     exact ⟨rfl,ActPost.same HW.out hb⟩
   | true=>
     have hl:=isNameP_len hn
     rw [hn] at HN
     cases hn2:isNameP st with
     | false=>
       rw [hn2] at HN2
       have HE:Hid (r=(s,2)):=Lib.hid (by rw [← hr0]; unfold enrollP; rw [if_neg (by rw [hd]; simp),if_pos (by rw [hn,hn2]; rfl)])
       clear hr0 hd h hn hn2 HS
       go_enter Tryz.func37,Tryz.ntmps37
       go_wp2_with fail
       refine HR.out.mono ?_
       rintro e w1 ⟨rfl,hb⟩
       go_wp2_with fail
       refine (HN.out _).mono ?_
       rintro e _ ⟨rfl,rfl⟩
       go_wp2_with fail
       refine (HN2.out _).mono ?_
       rintro e _ ⟨rfl,rfl⟩
       go_wp2
       go_ret
       rw [HE.out]
       exact ⟨rfl,ActPost.same HW.out hb⟩
     | true=>
       have hl2:=isNameP_len hn2
       rw [hn2] at HN2
       have HM:=Lib.hid (fun w=>memberKey_c c st w (by omega) (by omega))
       have HGM:=Lib.hid (fun W (hW:Below w.heap.size w W)=>there_c (mkey c st) W (HS.out W hW) hd (by simp [mkey]; omega))
       have HK:=Lib.hid (fun w=>classKey_c c w (by omega))
       have HG:=Lib.hid (fun W (hW:Below w.heap.size w W)=>there_c (ckey c) W (HS.out W hW) hd (by simp [ckey]; omega))
       cases hf:(pFind s.c.ents (ckey c)).isSome with
       | false=>
         rw [hf] at HG
         have HE:Hid (r=(s,6)):=Lib.hid (by rw [← hr0]; unfold enrollP; rw [if_neg (by rw [hd]; simp),if_neg (by rw [hn,hn2]; simp),if_pos hf])
         clear hr0 hd h hn hn2 HS hf HGM HM
         go_enter Tryz.func37,Tryz.ntmps37
         go_wp2_with fail
         refine HR.out.mono ?_
         rintro e w1 ⟨rfl,hb⟩
         go_wp2_with fail
         refine (HN.out _).mono ?_
         rintro e _ ⟨rfl,rfl⟩
         go_wp2_with fail
         refine (HN2.out _).mono ?_
         rintro e _ ⟨rfl,rfl⟩
         go_wp2_with fail
         refine (HK.out _).mono ?_
         rintro e _ ⟨rfl,rfl⟩
         go_wp2_with fail
         refine (HG.out _ hb).mono ?_
         rintro e w3 ⟨rfl,hb3⟩
         have hb3:=hb.trans (hb3.mono hb.size)
         go_wp2
         go_ret
         rw [HE.out]
         exact ⟨rfl,ActPost.same HW.out hb3⟩
       | true=>
         rw [hf] at HG
         cases hf2:(pFind s.c.ents (mkey c st)).isSome with
         | true=>
           rw [hf2] at HGM
           have HE:Hid (r=(s,371)):=Lib.hid (by rw [← hr0]; unfold enrollP; rw [if_neg (by rw [hd]; simp),if_neg (by rw [hn,hn2]; simp),if_neg (by rw [hf]; simp),if_pos hf2])
           clear hr0 hd h hn hn2 HS hf hf2
           go_enter Tryz.func37,Tryz.ntmps37
           go_wp2_with fail
           refine HR.out.mono ?_
           rintro e w1 ⟨rfl,hb⟩
           go_wp2_with fail
           refine (HN.out _).mono ?_
           rintro e _ ⟨rfl,rfl⟩
           go_wp2_with fail
           refine (HN2.out _).mono ?_
           rintro e _ ⟨rfl,rfl⟩
           go_wp2_with fail
           refine (HK.out _).mono ?_
           rintro e _ ⟨rfl,rfl⟩
           go_wp2_with fail
           refine (HG.out _ hb).mono ?_
           rintro e w3 ⟨rfl,hb3⟩
           have hb3:=hb.trans (hb3.mono hb.size)
           go_wp2_with fail
           refine (HM.out _).mono ?_
           rintro e _ ⟨rfl,rfl⟩
           go_wp2_with fail
           refine (HGM.out _ hb3).mono ?_
           rintro e w4 ⟨rfl,hb4⟩
           have hb4:=hb3.trans (hb4.mono hb3.size)
           go_wp2
           go_ret
           rw [HE.out]
           exact ⟨rfl,ActPost.same HW.out hb4⟩
         | false=>
           rw [hf2] at HGM
           have HE:Hid (r=jCommit [⟨mkey c st,[],false⟩] s):=Lib.hid (by rw [← hr0]; unfold enrollP; rw [if_neg (by rw [hd]; simp),if_neg (by rw [hn,hn2]; simp),if_neg (by rw [hf]; simp),if_neg (by rw [hf2]; simp)])
           have HC:=Lib.hid (fun W (hW:Below w.heap.size w W)=>And.intro (HS.out W hW).cell (set_c (mkey c st) [] (.slice none 0 0) W (HS.out W hW).jw (rdP_nil _ _) (by simp [mkey]; omega) (by simp)))
           clear hr0 hd h hn hn2 HS hf hf2
           go_enter Tryz.func37,Tryz.ntmps37
           go_wp2_with fail
           refine HR.out.mono ?_
           rintro e w1 ⟨rfl,hb⟩
           go_wp2_with fail
           refine (HN.out _).mono ?_
           rintro e _ ⟨rfl,rfl⟩
           go_wp2_with fail
           refine (HN2.out _).mono ?_
           rintro e _ ⟨rfl,rfl⟩
           go_wp2_with fail
           refine (HK.out _).mono ?_
           rintro e _ ⟨rfl,rfl⟩
           go_wp2_with fail
           refine (HG.out _ hb).mono ?_
           rintro e w3 ⟨rfl,hb3⟩
           have hb3:=hb.trans (hb3.mono hb.size)
           go_wp2_with fail
           refine (HM.out _).mono ?_
           rintro e _ ⟨rfl,rfl⟩
           go_wp2_with fail
           refine (HGM.out _ hb3).mono ?_
           rintro e w4 ⟨rfl,hb4⟩
           have hb4:=hb3.trans (hb4.mono hb3.size)
           have hb3:=hb4
           have k0:=(HC.out _ hb3).1
           have B3:=hb3.drew
           go_upto_region 10 with (fail)
           go_region_held3 (fun w'=>w'.cell? ⟨sb,0,none⟩=some (.pointer (some ⟨jb,0,none⟩))) (first | exact k0 | exact (ActPost.of HW.out B3 hJ hG).sw.cell)
            (first
             | (go_at_call 47; have _t:=B3; refine (HM.out _).mono ?_; rintro e _ ⟨rfl,rfl⟩)
             | (go_at_call 32; have _t:=B3; refine (HC.out _ B3).2.mono ?_; rintro e w5 ⟨rfl,hJ,hG⟩))
           have HP:=Lib.hid (ActPost.of HW.out B3 hJ hG)
           clear hJ hG
           go_wp2
           go_ret
           rw [HE.out]
           exact ⟨rfl,HP.out⟩
set_option maxRecDepth 100000 in
set_option maxHeartbeats 4000000 in
/-- Leave -/
theorem leave_c {sb jb db mb:Nat} {p:Nat→Prop} {s:JS} (c st:List UInt8) (w:World) (h:SW w sb jb db mb p s) :
 Calls Tryz.prog 42 #[sv sb,strV c,strV st] w fun e w'=>e=.returned (.int .i64 (leaveP c st s).2)∧ActPost w sb jb db mb p (leaveP c st s).1 w':=by
 have hun:undef=Value.tuple #[]:=rfl
 have HR:=Lib.hid (sref_c w h)
 unfold refP at HR
 have HW:=Lib.hid h
 obtain ⟨r,hr0⟩:∃ r,leaveP c st s=r:=⟨_,rfl⟩
 rw [hr0]
 have HN:=Lib.hid (fun w=>isName_c c w)
 have HN2:=Lib.hid (fun w=>isName_c st w)
 cases hd:s.down with
 | true=>
   rw [hd] at HR
   have HE:Hid (r=(s,360)):=Lib.hid (by rw [← hr0]; unfold leaveP; rw [if_pos hd])
   simp only [if_true] at HR
   clear hr0 hd h
   go_enter Tryz.func42,Tryz.ntmps42
   go_wp2_with fail
   refine HR.out.mono ?_
   rintro e w1 ⟨rfl,hb⟩
   go_wp2
   go_ret
   rw [HE.out]
   exact ⟨rfl,ActPost.same HW.out hb⟩
 | false=>
   rw [hd] at HR
   simp only [Bool.false_eq_true,if_false] at HR
   have HS:=Lib.hid (fun W (hW:Below w.heap.size w W)=>h.below hW)
   cases hn:isNameP c with
   | false=>
     rw [hn] at HN
     have HE:Hid (r=(s,2)):=Lib.hid (by rw [← hr0]; unfold leaveP; rw [if_neg (by rw [hd]; simp),if_pos (by rw [hn]; rfl)])
     clear hr0 hd h hn HS
     go_enter Tryz.func42,Tryz.ntmps42
     go_wp2_with fail
     refine HR.out.mono ?_
     rintro e w1 ⟨rfl,hb⟩
     go_wp2_with fail
     refine (HN.out _).mono ?_
     rintro e _ ⟨rfl,rfl⟩
     go_wp2
     go_ret
     rw [HE.out]
     exact ⟨rfl,ActPost.same HW.out hb⟩
   | true=>
     have hl:=isNameP_len hn
     rw [hn] at HN
     cases hn2:isNameP st with
     | false=>
       rw [hn2] at HN2
       have HE:Hid (r=(s,2)):=Lib.hid (by rw [← hr0]; unfold leaveP; rw [if_neg (by rw [hd]; simp),if_pos (by rw [hn,hn2]; rfl)])
       clear hr0 hd h hn hn2 HS
       go_enter Tryz.func42,Tryz.ntmps42
       go_wp2_with fail
       refine HR.out.mono ?_
       rintro e w1 ⟨rfl,hb⟩
       go_wp2_with fail
       refine (HN.out _).mono ?_
       rintro e _ ⟨rfl,rfl⟩
       go_wp2_with fail
       refine (HN2.out _).mono ?_
       rintro e _ ⟨rfl,rfl⟩
       go_wp2
       go_ret
       rw [HE.out]
       exact ⟨rfl,ActPost.same HW.out hb⟩
     | true=>
       have hl2:=isNameP_len hn2
       rw [hn2] at HN2
       have HM:=Lib.hid (fun w=>memberKey_c c st w (by omega) (by omega))
       have HGM:=Lib.hid (fun W (hW:Below w.heap.size w W)=>there_c (mkey c st) W (HS.out W hW) hd (by simp [mkey]; omega))
       cases hf:(pFind s.c.ents (mkey c st)).isSome with
       | false=>
         rw [hf] at HGM
         have HE:Hid (r=(s,6)):=Lib.hid (by rw [← hr0]; unfold leaveP; rw [if_neg (by rw [hd]; simp),if_neg (by rw [hn,hn2]; simp),if_pos hf])
         clear hr0 hd h hn hn2 HS hf
         go_enter Tryz.func42,Tryz.ntmps42
         go_wp2_with fail
         refine HR.out.mono ?_
         rintro e w1 ⟨rfl,hb⟩
         go_wp2_with fail
         refine (HN.out _).mono ?_
         rintro e _ ⟨rfl,rfl⟩
         go_wp2_with fail
         refine (HN2.out _).mono ?_
         rintro e _ ⟨rfl,rfl⟩
         go_wp2_with fail
         refine (HM.out _).mono ?_
         rintro e _ ⟨rfl,rfl⟩
         go_wp2_with fail
         refine (HGM.out _ hb).mono ?_
         rintro e w3 ⟨rfl,hb3⟩
         have hb3:=hb.trans (hb3.mono hb.size)
         go_wp2
         go_ret
         rw [HE.out]
         exact ⟨rfl,ActPost.same HW.out hb3⟩
       | true=>
         rw [hf] at HGM
         have HE:Hid (r=jCommit [⟨mkey c st,[],true⟩] s):=Lib.hid (by rw [← hr0]; unfold leaveP; rw [if_neg (by rw [hd]; simp),if_neg (by rw [hn,hn2]; simp),if_neg (by rw [hf]; simp)])
         have HC:=Lib.hid (fun W (hW:Below w.heap.size w W)=>And.intro (HS.out W hW).cell (drop_c (mkey c st) W (HS.out W hW).jw (by simp [mkey]; omega)))
         clear hr0 hd h hn hn2 HS hf
         go_enter Tryz.func42,Tryz.ntmps42
         go_wp2_with fail
         refine HR.out.mono ?_
         rintro e w1 ⟨rfl,hb⟩
         go_wp2_with fail
         refine (HN.out _).mono ?_
         rintro e _ ⟨rfl,rfl⟩
         go_wp2_with fail
         refine (HN2.out _).mono ?_
         rintro e _ ⟨rfl,rfl⟩
         go_wp2_with fail
         refine (HM.out _).mono ?_
         rintro e _ ⟨rfl,rfl⟩
         go_wp2_with fail
         refine (HGM.out _ hb).mono ?_
         rintro e w3 ⟨rfl,hb3⟩
         have hb3:=hb.trans (hb3.mono hb.size)
         have k0:=(HC.out _ hb3).1
         have B3:=hb3.drew
         go_upto_region 8 with (fail)
         go_region_held3 (fun w'=>w'.cell? ⟨sb,0,none⟩=some (.pointer (some ⟨jb,0,none⟩))) (first | exact k0 | exact (ActPost.of HW.out B3 hJ hG).sw.cell)
          (first
           | (go_at_call 47; have _t:=B3; refine (HM.out _).mono ?_; rintro e _ ⟨rfl,rfl⟩)
           | (go_at_call 75; have _t:=B3; refine (HC.out _ B3).2.mono ?_; rintro e w5 ⟨rfl,hJ,hG⟩))
         have HP:=Lib.hid (ActPost.of HW.out B3 hJ hG)
         clear hJ hG
         go_wp2
         go_ret
         rw [HE.out]
         exact ⟨rfl,HP.out⟩
set_option maxRecDepth 100000 in
set_option maxHeartbeats 4000000 in
/-- Extend -/
theorem extend_c {sb jb db mb:Nat} {p:Nat→Prop} {s:JS} (id:Int) (st:List UInt8) (more:Int) (w:World) (h:SW w sb jb db mb p s) :
 Calls Tryz.prog 39 #[sv sb,.int .i64 id,strV st,.int .i64 more] w fun e w'=>e=.returned (.int .i64 (extendP id st more s).2)∧ActPost w sb jb db mb p (extendP id st more s).1 w':=by
 have hun:undef=Value.tuple #[]:=rfl
 have HR:=Lib.hid (sref_c w h)
 unfold refP at HR
 have HW:=Lib.hid h
 obtain ⟨r,hr0⟩:∃ r,extendP id st more s=r:=⟨_,rfl⟩
 rw [hr0]
 have HN:=Lib.hid (fun w=>isName_c st w)
 cases hd:s.down with
 | true=>
   rw [hd] at HR
   have HE:Hid (r=(s,360)):=Lib.hid (by rw [← hr0]; unfold extendP; rw [if_pos hd])
   simp only [if_true] at HR
   clear hr0 hd h
   go_enter Tryz.func39,Tryz.ntmps39
   go_wp2_with fail
   refine HR.out.mono ?_
   rintro e w1 ⟨rfl,hb⟩
   go_wp2
   go_ret
   rw [HE.out]
   exact ⟨rfl,ActPost.same HW.out hb⟩
 | false=>
   rw [hd] at HR
   simp only [Bool.false_eq_true,if_false] at HR
   have HS:=Lib.hid (fun W (hW:Below w.heap.size w W)=>h.below hW)
   cases hn:isNameP st with
   | false=>
     rw [hn] at HN
     have HE:Hid (r=(s,2)):=Lib.hid (by rw [← hr0]; unfold extendP; rw [if_neg (by rw [hd]; simp),if_pos (Or.inl hn)])
     clear hr0 hd h hn HS
     go_enter Tryz.func39,Tryz.ntmps39
     go_wp2_with fail
     refine HR.out.mono ?_
     rintro e w1 ⟨rfl,hb⟩
     go_wp2_with fail
     refine (HN.out _).mono ?_
     rintro e _ ⟨rfl,rfl⟩
     go_wp2
     go_ret
     rw [HE.out]
     exact ⟨rfl,ActPost.same HW.out hb⟩
   | true=>
     have hl:=isNameP_len hn
     rw [hn] at HN
     by_cases hm0:more < 0
     ·have t1:decide (more < 0)=true:=decide_eq_true hm0
      have HE:Hid (r=(s,2)):=Lib.hid (by rw [← hr0]; unfold extendP; rw [if_neg (by rw [hd]; simp),if_pos (Or.inr (Or.inl hm0))])
      clear hr0 hd h hn HS hm0
      go_enter Tryz.func39,Tryz.ntmps39
      go_wp2_with fail
      refine HR.out.mono ?_
      rintro e w1 ⟨rfl,hb⟩
      go_wp2_with fail
      refine (HN.out _).mono ?_
      rintro e _ ⟨rfl,rfl⟩
      go_wp2
      go_ret
      rw [HE.out]
      exact ⟨rfl,ActPost.same HW.out hb⟩
     have t1:decide (more < 0)=false:=decide_eq_false hm0
     by_cases hm1:1048576 < more
     ·have t2:decide (1048576 < more)=true:=decide_eq_true hm1
      have HE:Hid (r=(s,2)):=Lib.hid (by rw [← hr0]; unfold extendP; rw [if_neg (by rw [hd]; simp),if_pos (Or.inr (Or.inr hm1))])
      clear hr0 hd h hn HS hm0 hm1
      go_enter Tryz.func39,Tryz.ntmps39
      go_wp2_with fail
      refine HR.out.mono ?_
      rintro e w1 ⟨rfl,hb⟩
      go_wp2_with fail
      refine (HN.out _).mono ?_
      rintro e _ ⟨rfl,rfl⟩
      go_wp2
      go_ret
      rw [HE.out]
      exact ⟨rfl,ActPost.same HW.out hb⟩
     have t2:decide (1048576 < more)=false:=decide_eq_false hm1
     have HT:=Lib.hid (fun W (hW:Below w.heap.size w W)=>taskOf_c id st W (HS.out W hW) (by omega))
     have HNO:∀ x,r=(match s.taskOfP id st with | none=>(s,6) | some _=>x)→r=(match s.taskOfP id st with | none=>(s,6) | some _=>x):=fun _ h=>h
     have hr1:r=extendP id st more s:=hr0.symm
     unfold extendP at hr1
     rw [if_neg (by rw [hd]; simp),if_neg (by rw [hn]; simp; omega)] at hr1
     clear HNO
     cases ht:s.taskOfP id st with
     | none=>
       rw [ht] at HT hr1
       have HE:Hid (r=(s,6)):=Lib.hid hr1
       clear hr0 hr1 hd h hn HS ht
       go_enter Tryz.func39,Tryz.ntmps39
       go_wp2_with fail
       refine HR.out.mono ?_
       rintro e w1 ⟨rfl,hb⟩
       go_wp2_with fail
       refine (HN.out _).mono ?_
       rintro e _ ⟨rfl,rfl⟩
       go_wp2_with fail
       refine (HT.out _ hb).mono ?_
       rintro e w3 ⟨hp,hb3⟩
       have hp:e=.returned (.tuple #[taskV zeroT (.slice none 0 0),.bool false]):=hp
       subst hp
       unfold zeroT
       have HB4:=Lib.hid ((hb.trans (hb3.mono hb.size)).alloc (Nat.le_trans hb.size hb3.size) (.cells #[.string ⟨#[]⟩,.string ⟨#[]⟩,.int .i64 0,.int .i64 0,.int .i64 0,.int .i64 0,.slice none 0 0] 35))
       clear hb hb3 HT
       go_wp2
       go_ret
       rw [HE.out]
       exact ⟨rfl,ActPost.same HW.out HB4.out⟩
     | some t=>
       rw [ht] at HT hr1
       simp only at hr1
       obtain ⟨hi1,hi2⟩:1≤id∧id≤9999:=by
        obtain ⟨h1,_⟩:=JS.taskOf_some ht
        have:=JS.taskP_fine h1
        exact ⟨this.2.1,this.2.2.1⟩
       obtain ⟨n,rfl⟩:∃ n:Nat,id=n:=⟨id.toNat,by omega⟩
       obtain ⟨m,hmm⟩:∃ m:Nat,more=m:=⟨more.toNat,by omega⟩
       have hmt:more.toNat=m:=by omega
       simp only [Int.toNat_natCast,hmt] at hr1
       have HK:=Lib.hid (fun w=>extensionKey_c n st w (by omega) (by omega))
       obtain ⟨cls,name,frm,due,late,tries,body⟩:=t
       by_cases hm2:(0:Int) < more
       ·have t3:decide ((0:Int) < more)=true:=decide_eq_true hm2
        rw [if_pos hm2] at hr1
        have HE:=Lib.hid hr1
        have HNUM:=Lib.hid (fun W=>snumber_i (.slice none 0 0) [] more m W.heap.size W hmm (by simpa [byts] using World.ownsRow_nil W W.heap.size 5 1) (Nat.le_refl _) (by omega) (by simp))
        have HC:=Lib.hid (fun W (hW:Below w.heap.size w W) v (hv:W.ownsRow w.heap.size 5 1 v (numB m 4).length (byts (numB m 4)))=>set_c (xkey n st) (numB m 4) v W (HS.out W hW).jw (RdP.own hv (fun g h1 _=>h.new h1)) (by simp [xkey,digP_len]; omega) (by rw [numB_length]; omega))
        have HCE:=Lib.hid (fun W (hW:Below w.heap.size w W)=>(HS.out W hW).cell)
        clear hr0 hr1 hd h hn HS ht hm2 hmt hmm hm0 hm1
        generalize xkey n st=xk at *
        go_enter Tryz.func39,Tryz.ntmps39
        go_wp2_with fail
        refine HR.out.mono ?_
        rintro e w1 ⟨rfl,hb⟩
        go_wp2_with fail
        refine (HN.out _).mono ?_
        rintro e _ ⟨rfl,rfl⟩
        go_wp2_with fail
        refine (HT.out _ hb).mono ?_
        rintro e w3 ⟨⟨a,c2,rfl, -⟩,hb3⟩
        have HB4:=Lib.hid ((hb.trans (hb3.mono hb.size)).alloc (Nat.le_trans hb.size hb3.size) (.cells #[strV cls,strV name,.int .i64 frm,.int .i64 due,.int .i64 late,.int .i64 tries,.slice a body.length c2] 35))
        clear hb hb3 HT
        go_wp2_with fail
        refine (HK.out _).mono ?_
        rintro e w5 ⟨rfl,hb5⟩
        have hb3:=HB4.out.trans (hb5.mono HB4.out.size)
        clear hb5 HB4
        have k0:=HCE.out _ hb3
        have B3:=hb3.drew
        go_upto_region 11 with (fail)
        go_region_held3 (fun w'=>w'.cell? ⟨sb,0,none⟩=some (.pointer (some ⟨jb,0,none⟩))) (first | exact k0 | exact HCE.out _ B6 | exact (ActPost.of HW.out B6 hJ hG).sw.cell)
         (first
          | (go_at_call 32; refine (HC.out _ B6 _ y6).mono ?_; rintro e w7 ⟨rfl,hJ,hG⟩)
          | (go_at_call 56; have _t:=B3; refine (HNUM.out _).mono ?_; rintro e w6 ⟨⟨v6,rfl,y6⟩,b6, -⟩; have y6:=own_up y6 B3.size; have B6:=B3.trans (b6.mono B3.size); clear b6 B3))
        have HP:=Lib.hid (ActPost.of HW.out B6 hJ hG)
        clear hJ hG
        go_wp2
        go_ret
        rw [HE.out]
        exact ⟨rfl,HP.out⟩
       have t3:decide ((0:Int) < more)=false:=decide_eq_false hm2
       rw [if_neg hm2] at hr1
       have HG:=Lib.hid (fun W (hW:Below w.heap.size w W)=>there_c (xkey n st) W (HS.out W hW) hd (by simp [xkey,digP_len]; omega))
       cases hf:(pFind s.c.ents (xkey n st)).isSome with
       | false=>
         rw [hf] at HG
         rw [if_neg (by rw [hf]; simp)] at hr1
         have HE:=Lib.hid hr1
         clear hr0 hr1 hd h hn HS ht hm2 hf hmt hmm hm0 hm1
         generalize xkey n st=xk at *
         go_enter Tryz.func39,Tryz.ntmps39
         go_wp2_with fail
         refine HR.out.mono ?_
         rintro e w1 ⟨rfl,hb⟩
         go_wp2_with fail
         refine (HN.out _).mono ?_
         rintro e _ ⟨rfl,rfl⟩
         go_wp2_with fail
         refine (HT.out _ hb).mono ?_
         rintro e w3 ⟨⟨a,c2,rfl, -⟩,hb3⟩
         have HB4:=Lib.hid ((hb.trans (hb3.mono hb.size)).alloc (Nat.le_trans hb.size hb3.size) (.cells #[strV cls,strV name,.int .i64 frm,.int .i64 due,.int .i64 late,.int .i64 tries,.slice a body.length c2] 35))
         clear hb hb3 HT
         go_wp2_with fail
         refine (HK.out _).mono ?_
         rintro e w5 ⟨rfl,hb5⟩
         have hb3:=HB4.out.trans (hb5.mono HB4.out.size)
         clear hb5 HB4
         go_wp2_with fail
         refine (HG.out _ hb3).mono ?_
         rintro e w6 ⟨rfl,hb6⟩
         have hb7:=hb3.trans (hb6.mono hb3.size)
         go_wp2
         go_ret
         rw [HE.out]
         exact ⟨rfl,ActPost.same HW.out hb7⟩
       | true=>
         rw [hf] at HG
         rw [if_pos hf] at hr1
         have HE:=Lib.hid hr1
         have HC:=Lib.hid (fun W (hW:Below w.heap.size w W)=>And.intro (HS.out W hW).cell (drop_c (xkey n st) W (HS.out W hW).jw (by simp [xkey,digP_len]; omega)))
         clear hr0 hr1 hd h hn HS ht hm2 hf hmt hmm hm0 hm1
         generalize xkey n st=xk at *
         go_enter Tryz.func39,Tryz.ntmps39
         go_wp2_with fail
         refine HR.out.mono ?_
         rintro e w1 ⟨rfl,hb⟩
         go_wp2_with fail
         refine (HN.out _).mono ?_
         rintro e _ ⟨rfl,rfl⟩
         go_wp2_with fail
         refine (HT.out _ hb).mono ?_
         rintro e w3 ⟨⟨a,c2,rfl, -⟩,hb3⟩
         have HB4:=Lib.hid ((hb.trans (hb3.mono hb.size)).alloc (Nat.le_trans hb.size hb3.size) (.cells #[strV cls,strV name,.int .i64 frm,.int .i64 due,.int .i64 late,.int .i64 tries,.slice a body.length c2] 35))
         clear hb hb3 HT
         go_wp2_with fail
         refine (HK.out _).mono ?_
         rintro e w5 ⟨rfl,hb5⟩
         have hb3:=HB4.out.trans (hb5.mono HB4.out.size)
         clear hb5 HB4
         go_wp2_with fail
         refine (HG.out _ hb3).mono ?_
         rintro e w6 ⟨rfl,hb6⟩
         have hb7:=hb3.trans (hb6.mono hb3.size)
         have k0:=(HC.out _ hb7).1
         go_wp2_with fail
         refine (HC.out _ hb7).2.mono ?_
         rintro e w7 ⟨rfl,hJ,hG⟩
         have HP:=Lib.hid (ActPost.of HW.out hb7 hJ hG)
         clear hJ hG
         go_wp2
         go_ret
         rw [HE.out]
         exact ⟨rfl,HP.out⟩
end Go.Proofs.YtbcfpdlhieaepaaGreatDoor
