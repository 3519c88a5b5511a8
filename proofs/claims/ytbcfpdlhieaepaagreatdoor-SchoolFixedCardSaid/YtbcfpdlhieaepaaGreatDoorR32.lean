/- The walk of AddTask. -/
import Derived.Test.YtbcfpdlhieaepaaGreatDoorR31
namespace Go.Proofs.YtbcfpdlhieaepaaGreatDoor
open Go.RowKit SeedP Go.Maps
section
variable (ρ:Operand→Value) (d:Option Tmp) (ty:TypeId) (pos:String) (af:Array Edge) (gd:Option (Nat × Bool))
theorem sx_task (x:Operand) (g:Nat) (y0 y1 y2 y3 y4 y5 y6:Value) (w:World) (hx:ρ x=.pointer (some ⟨g,0,none⟩)) (h0:w.cell? ⟨g,0,none⟩=some y0) (h1:w.cell? ⟨g,1,none⟩=some y1) (h2:w.cell? ⟨g,2,none⟩=some y2) (h3:w.cell? ⟨g,3,none⟩=some y3) (h4:w.cell? ⟨g,4,none⟩=some y4) (h5:w.cell? ⟨g,5,none⟩=some y5) (h6:w.cell? ⟨g,6,none⟩=some y6) :
 (execOp ρ ⟨d,.load 35 x,ty,pos,af,gd⟩).run Tryz.prog w=.ok (.value (.agg #[y0,y1,y2,y3,y4,y5,y6])) w:=by
 simp [go_sem,hx,h0,h1,h2,h3,h4,h5,h6]
theorem sx_jptr (x:Operand) (ad:Addr) (v:Value) (w:World) (hx:ρ x=.pointer (some ad)) (hc:w.cell? ad=some v) :
 (execOp ρ ⟨d,.load 52 x,ty,pos,af,gd⟩).run Tryz.prog w=.ok (.value v) w:=by
 simp [go_sem,hx,hc]
end
/-- what holds while a task is set -/
structure AdG (w W1:World) (sb jb db mb:Nat) (p:Nat→Prop) (tk val:List UInt8) (r:JS × Int) (ds:List Bool) (vs:List Value) (wx:World):Prop where
 gb:ds.getD 2 false=false→Below W1.heap.size W1 wx
 g0:ds.getD 0 false=true→vs.getD 0 undef=strV tk
 g1:ds.getD 1 false=true→ds.getD 2 false=false→wx.ownsRow W1.heap.size 5 1 (vs.getD 1 undef) val.length (byts val)
 g2:ds.getD 2 false=true→vs.getD 2 undef=.int .i64 r.2∧ActPost w sb jb db mb p r.1 wx
 g3:ds.getD 3 false=true→vs.getD 3 undef=vs.getD 2 undef
theorem addTask_commit {t:TaskP} {s:JS} (hd:s.down=false) (ht:timelyB t=true) (hb:¬ 4000 < t.body.length) (hc:(pFind s.c.ents (ckey t.cls)).isSome=true) (hn:¬ 9999 < tasksN s.c.ents+1) {j:JS × Int} (hj:jCommit [⟨tkey (tasksN s.c.ents+1),taskVal t,false⟩] s=j) :
 addTaskP t s=if j.2=0 then (j.1,tasksN s.c.ents+1,0) else (j.1,0,j.2):=by
 unfold addTaskP
 rw [if_neg (by rw [hd]; simp),if_neg (by rw [ht]; simp),if_neg hb,if_neg (by rw [hc]; simp),if_neg hn]
 simp only [hj]
set_option maxRecDepth 100000 in
set_option maxHeartbeats 4000000 in
/-- AddTask -/
theorem addTask_c {sb jb db mb:Nat} {p:Nat→Prop} {s:JS} (t:TaskP) (a:Option Addr) (c:Nat) (w:World) (h:SW w sb jb db mb p s) (hv:RdB w w.heap.size (.slice a t.body.length c) t.body) (hbl:t.body.length≤1000000) :
 Calls Tryz.prog 38 #[sv sb,taskV t (.slice a t.body.length c)] w fun e w'=>e=.returned (.tuple #[.int .i64 (addTaskP t s).2.1,.int .i64 (addTaskP t s).2.2])∧ActPost w sb jb db mb p (addTaskP t s).1 w':=by
 have hun:undef=Value.tuple #[]:=rfl
 obtain ⟨r,hr0⟩:∃ r,addTaskP t s=r:=⟨_,rfl⟩
 rw [hr0]
 obtain ⟨cls,name,frm,due,late,tries,body⟩:=t
 simp only at hv hbl ⊢
 have hB1:Below w.heap.size w (w.alloc (.cells #[strV cls,strV name,.int .i64 frm,.int .i64 due,.int .i64 late,.int .i64 tries,.slice a body.length c] 35)):=(Below.refl _ w).alloc (Nat.le_refl _) _
 have HX1:=Lib.hid (Blk.new w 35 [strV cls,strV name,.int .i64 frm,.int .i64 due,.int .i64 late,.int .i64 tries,.slice a body.length c])
 have HR:=Lib.hid (sref_c _ (h.below hB1))
 have HV:=Lib.hid hv
 have HW:=Lib.hid h
 have HB1:=Lib.hid hB1
 have hz1:(w.alloc (.cells #[strV cls,strV name,.int .i64 frm,.int .i64 due,.int .i64 late,.int .i64 tries,.slice a body.length c] 35)).heap.size=w.heap.size+1:=by simp
 unfold refP at HR
 clear hv
 cases hd:s.down with
 | true=>
   rw [hd] at HR
   have HE:Hid (r=(s,0,360)):=Lib.hid (by rw [← hr0]; unfold addTaskP; rw [if_pos hd])
   simp only [if_true] at HR
   clear hr0 hd h HV
   go_enter Tryz.func38,Tryz.ntmps38
   go_wp2_with fail
   refine HR.out.mono ?_
   rintro e w2 ⟨rfl,hb⟩
   have HB2:=Lib.hid (hB1.trans (hb.mono (by exact hB1.size)))
   have HX2:=Lib.hid (HX1.out.below hb)
   clear hb HX1
   obtain ⟨y0,y1,y2,y3,y4,y5,y6,yf⟩:=t7_of HX2.out
   go_wp2
   go_ret2
   rw [HE.out]
   exact ⟨rfl,ActPost.same HW.out HB2.out⟩
 | false=>
   rw [hd] at HR
   simp only [Bool.false_eq_true,if_false] at HR
   have HS:=Lib.hid (fun W (hW:Below w.heap.size w W)=>h.below hW)
   have HT:=Lib.hid (fun W=>timely_c ⟨cls,name,frm,due,late,tries,body⟩ a body.length c W)
   cases ht:timelyB ⟨cls,name,frm,due,late,tries,body⟩ with
   | false=>
     rw [ht] at HT
     have HE:Hid (r=(s,0,2)):=Lib.hid (by rw [← hr0]; unfold addTaskP; rw [if_neg (by rw [hd]; simp),if_pos ht])
     clear hr0 hd h ht HV HS
     go_enter Tryz.func38,Tryz.ntmps38
     go_wp2_with fail
     refine HR.out.mono ?_
     rintro e w2 ⟨rfl,hb⟩
     have HB2:=Lib.hid (hB1.trans (hb.mono (by exact hB1.size)))
     have HX2:=Lib.hid (HX1.out.below hb)
     clear hb HX1
     obtain ⟨y0,y1,y2,y3,y4,y5,y6,yf⟩:=t7_of HX2.out
     go_wp2_with fail
     refine (HT.out _).mono ?_
     rintro e w3 ⟨rfl,hb3⟩
     have HB3:=Lib.hid (HB2.out.trans (hb3.mono HB2.out.size))
     have HX3:=Lib.hid (HX2.out.below hb3)
     clear HX2 HB2 hb3 HT y0 y1 y2 y3 y4 y5 y6 yf
     obtain ⟨y0,y1,y2,y3,y4,y5,y6,yf⟩:=t7_of HX3.out
     go_wp2
     go_ret2
     rw [HE.out]
     exact ⟨rfl,ActPost.same HW.out HB3.out⟩
   | true=>
     rw [ht] at HT
     have hF:=(timelyB_iff _).1 ht
     have hcl:=isNameP_len hF.cls
     simp only at hcl
     by_cases h4:4000 < body.length
     ·have t1:decide ((4000:Int) < (body.length:Int))=true:=decide_eq_true (by omega)
      have HE:Hid (r=(s,0,3)):=Lib.hid (by rw [← hr0]; unfold addTaskP; rw [if_neg (by rw [hd]; simp),if_neg (by rw [ht]; simp),if_pos h4])
      clear hr0 hd h ht HV HS h4 hF hcl
      go_enter Tryz.func38,Tryz.ntmps38
      go_wp2_with fail
      refine HR.out.mono ?_
      rintro e w2 ⟨rfl,hb⟩
      have HB2:=Lib.hid (hB1.trans (hb.mono (by exact hB1.size)))
      have HX2:=Lib.hid (HX1.out.below hb)
      clear hb HX1
      obtain ⟨y0,y1,y2,y3,y4,y5,y6,yf⟩:=t7_of HX2.out
      go_wp2_with fail
      refine (HT.out _).mono ?_
      rintro e w3 ⟨rfl,hb3⟩
      have HB3:=Lib.hid (HB2.out.trans (hb3.mono HB2.out.size))
      have HX3:=Lib.hid (HX2.out.below hb3)
      clear HX2 HB2 hb3 HT y0 y1 y2 y3 y4 y5 y6 yf
      obtain ⟨y0,y1,y2,y3,y4,y5,y6,yf⟩:=t7_of HX3.out
      go_wp2
      go_ret2
      rw [HE.out]
      exact ⟨rfl,ActPost.same HW.out HB3.out⟩
     have t1:decide ((4000:Int) < (body.length:Int))=false:=decide_eq_false (by omega)
     have HK:=Lib.hid (fun w=>classKey_c cls w (by omega))
     have HG:=Lib.hid (fun W (hW:Below w.heap.size w W)=>there_c (ckey cls) W (HS.out W hW) hd (by simp [ckey]; omega))
     cases hf:(pFind s.c.ents (ckey cls)).isSome with
     | false=>
       rw [hf] at HG
       have HE:Hid (r=(s,0,6)):=Lib.hid (by rw [← hr0]; unfold addTaskP; rw [if_neg (by rw [hd]; simp),if_neg (by rw [ht]; simp),if_neg h4,if_pos hf])
       clear hr0 hd h ht HV HS h4 hF hcl hf
       go_enter Tryz.func38,Tryz.ntmps38
       go_wp2_with fail
       refine HR.out.mono ?_
       rintro e w2 ⟨rfl,hb⟩
       have HB2:=Lib.hid (hB1.trans (hb.mono (by exact hB1.size)))
       have HX2:=Lib.hid (HX1.out.below hb)
       clear hb HX1
       obtain ⟨y0,y1,y2,y3,y4,y5,y6,yf⟩:=t7_of HX2.out
       go_wp2_with fail
       refine (HT.out _).mono ?_
       rintro e w3 ⟨rfl,hb3⟩
       have HB3:=Lib.hid (HB2.out.trans (hb3.mono HB2.out.size))
       have HX3:=Lib.hid (HX2.out.below hb3)
       clear HX2 HB2 hb3 HT y0 y1 y2 y3 y4 y5 y6 yf
       obtain ⟨y0,y1,y2,y3,y4,y5,y6,yf⟩:=t7_of HX3.out
       go_wp2_with fail
       refine (HK.out _).mono ?_
       rintro e _ ⟨rfl,rfl⟩
       go_wp2_with fail
       refine (HG.out _ HB3.out).mono ?_
       rintro e w4 ⟨rfl,hb4⟩
       have HB4:=Lib.hid (HB3.out.trans (hb4.mono HB3.out.size))
       have HX4:=Lib.hid (HX3.out.below hb4)
       clear HX3 HB3 hb4 HK HG y0 y1 y2 y3 y4 y5 y6 yf
       go_wp2
       go_ret2
       rw [HE.out]
       exact ⟨rfl,ActPost.same HW.out HB4.out⟩
     | true=>
       rw [hf] at HG
       have HKE:=Lib.hid (fun W (hW:Below w.heap.size w W)=>And.intro (HS.out W hW).cell (keysFn_c [116] W (HS.out W hW).jw (by simp)))
       rw [hd] at HKE
       simp only [Bool.false_eq_true,if_false] at HKE
       have hll:tasksN s.c.ents≤131072:=by
        have h1:=pWt_len s.c.ents
        have h2:=h.jw.ok.wt
        have h3:=h.jw.ok.max
        have h4:=List.length_filter_le (isPref [116]) (keysOf s.c.ents)
        have h5:(keysOf s.c.ents).length=s.c.ents.length:=by unfold keysOf; rw [List.length_map]
        unfold tasksN
        omega
       have HN:Hid (((keysOf s.c.ents).filter (isPref [116])).length=tasksN s.c.ents):=Lib.hid rfl
       by_cases hn:9999 < tasksN s.c.ents+1
       ·have HE:Hid (r=(s,0,5)):=Lib.hid (by rw [← hr0]; unfold addTaskP; rw [if_neg (by rw [hd]; simp),if_neg (by rw [ht]; simp),if_neg h4,if_neg (by rw [hf]; simp),if_pos hn])
        generalize tasksN s.c.ents=N at *
        have t2:decide ((9999:Int) < (N:Int)+1)=true:=decide_eq_true (by omega)
        clear hr0 hd h ht HV HS h4 hF hcl hf hn
        go_enter Tryz.func38,Tryz.ntmps38
        go_wp2_with fail
        refine HR.out.mono ?_
        rintro e w2 ⟨rfl,hb⟩
        have HB2:=Lib.hid (hB1.trans (hb.mono (by exact hB1.size)))
        have HX2:=Lib.hid (HX1.out.below hb)
        clear hb HX1
        obtain ⟨y0,y1,y2,y3,y4,y5,y6,yf⟩:=t7_of HX2.out
        go_wp2_with fail
        refine (HT.out _).mono ?_
        rintro e w3 ⟨rfl,hb3⟩
        have HB3:=Lib.hid (HB2.out.trans (hb3.mono HB2.out.size))
        have HX3:=Lib.hid (HX2.out.below hb3)
        clear HX2 HB2 hb3 HT y0 y1 y2 y3 y4 y5 y6 yf
        obtain ⟨y0,y1,y2,y3,y4,y5,y6,yf⟩:=t7_of HX3.out
        go_wp2_with fail
        refine (HK.out _).mono ?_
        rintro e _ ⟨rfl,rfl⟩
        go_wp2_with fail
        refine (HG.out _ HB3.out).mono ?_
        rintro e w4 ⟨rfl,hb4⟩
        have HB4:=Lib.hid (HB3.out.trans (hb4.mono HB3.out.size))
        have HX4:=Lib.hid (HX3.out.below hb4)
        clear HX3 HB3 hb4 HK HG y0 y1 y2 y3 y4 y5 y6 yf
        have k0:=(HKE.out _ HB4.out).1
        go_wp2_with fail
        refine (HKE.out _ HB4.out).2.mono ?_
        rintro e w5 ⟨v5,rfl,hv5,hb5⟩
        rw [HN.out] at hv5
        obtain ⟨av,cv,rfl⟩:∃ a c,v5=.slice a N c:=by
         rcases hv5.2 with ⟨rfl,hx⟩ | ⟨g,cap,cur,rfl,_⟩
         ·rw [hx]; exact ⟨_,_,rfl⟩
         ·exact ⟨_,_,rfl⟩
        have HB5:=Lib.hid (HB4.out.trans (hb5.mono HB4.out.size))
        have HX5:=Lib.hid (HX4.out.below hb5)
        clear HX4 HB4 hv5 hb5 HKE k0
        go_wp2
        go_ret2
        rw [HE.out]
        exact ⟨rfl,ActPost.same HW.out HB5.out⟩
       obtain ⟨j,hj⟩:∃ j,jCommit [⟨tkey (tasksN s.c.ents+1),taskVal ⟨cls,name,frm,due,late,tries,body⟩,false⟩] s=j:=⟨_,rfl⟩
       have HRJ:Hid (r=if j.2=0 then (j.1,tasksN s.c.ents+1,0) else (j.1,0,j.2)):=Lib.hid (by rw [← hr0]; exact addTask_commit hd ht h4 hf hn hj)
       have HC:=Lib.hid (fun W (hW:Below w.heap.size w W) v (hv:W.ownsRow w.heap.size 5 1 v (taskVal ⟨cls,name,frm,due,late,tries,body⟩).length (byts (taskVal ⟨cls,name,frm,due,late,tries,body⟩)))=>set_c (tkey (tasksN s.c.ents+1)) (taskVal ⟨cls,name,frm,due,late,tries,body⟩) v W (HS.out W hW).jw (RdP.own hv (fun g h1 _=>h.new h1)) (by simp [tkey,digP_len]) (by
        have l1:=hF.cls
        have l2:=isNameP_len hF.name
        simp only at l2
        simp [taskVal,numB_length]; omega))
       rw [hj] at HC
       have HTV:=Lib.hid (fun W (hW:Below w.heap.size w W)=>taskValue_c ⟨cls,name,frm,due,late,tries,body⟩ (.slice a body.length c) W hF ((HV.out.below hW).mono hW.size) (by show body.length≤4000; omega))
       obtain ⟨val,hval⟩:∃ v,taskVal ⟨cls,name,frm,due,late,tries,body⟩=v:=⟨_,rfl⟩
       rw [hval] at HC HTV
       have HKT:=Lib.hid (fun W=>taskKey_c (tasksN s.c.ents+1) W (by omega))
       obtain ⟨tk,htk⟩:∃ k,tkey (tasksN s.c.ents+1)=k:=⟨_,rfl⟩
       rw [htk] at HC HKT
       clear htk hval hj
       have eN:((tasksN s.c.ents+1:Nat):Int)=(tasksN s.c.ents:Int)+1:=by omega
       rw [eN] at HKT
       clear eN
       generalize tasksN s.c.ents=N at *
       have t2:decide ((9999:Int) < (N:Int)+1)=false:=decide_eq_false (by omega)
       clear hr0 hd h ht HV h4 hF hcl hf hn
       go_enter Tryz.func38,Tryz.ntmps38
       go_wp2_with fail
       refine HR.out.mono ?_
       rintro e w2 ⟨rfl,hb⟩
       have HB2:=Lib.hid (hB1.trans (hb.mono (by exact hB1.size)))
       have HX2:=Lib.hid (HX1.out.below hb)
       clear hb HX1
       obtain ⟨y0,y1,y2,y3,y4,y5,y6,yf⟩:=t7_of HX2.out
       go_wp2_with fail
       refine (HT.out _).mono ?_
       rintro e w3 ⟨rfl,hb3⟩
       have HB3:=Lib.hid (HB2.out.trans (hb3.mono HB2.out.size))
       have HX3:=Lib.hid (HX2.out.below hb3)
       clear HX2 HB2 hb3 HT y0 y1 y2 y3 y4 y5 y6 yf
       obtain ⟨y0,y1,y2,y3,y4,y5,y6,yf⟩:=t7_of HX3.out
       go_wp2_with fail
       refine (HK.out _).mono ?_
       rintro e _ ⟨rfl,rfl⟩
       go_wp2_with fail
       refine (HG.out _ HB3.out).mono ?_
       rintro e w4 ⟨rfl,hb4⟩
       have HB4:=Lib.hid (HB3.out.trans (hb4.mono HB3.out.size))
       have HX4:=Lib.hid (HX3.out.below hb4)
       clear HX3 HB3 hb4 HK HG y0 y1 y2 y3 y4 y5 y6 yf
       have k0:=(HKE.out _ HB4.out).1
       go_wp2_with fail
       refine (HKE.out _ HB4.out).2.mono ?_
       rintro e w5 ⟨v5,rfl,hv5,hb5⟩
       rw [HN.out] at hv5
       obtain ⟨av,cv,rfl⟩:∃ a c,v5=.slice a N c:=by
        rcases hv5.2 with ⟨rfl,hx⟩ | ⟨g,cap,cur,rfl,_⟩
        ·rw [hx]; exact ⟨_,_,rfl⟩
        ·exact ⟨_,_,rfl⟩
       have HB5:=Lib.hid (HB4.out.trans (hb5.mono HB4.out.size))
       have HX5:=Lib.hid (HX4.out.below hb5)
       clear HX4 HB4 hv5 hb5 HKE k0
       go_upto_region 13 with (fail)
       generalize hg:w.heap.size=g at *
       have HALL:Hid (∀ W,Below w5.heap.size w5 W→W.cell? ⟨g,0,none⟩=some (strV cls)∧W.cell? ⟨g,1,none⟩=some (strV name)∧W.cell? ⟨g,2,none⟩=some (.int .i64 frm)∧W.cell? ⟨g,3,none⟩=some (.int .i64 due)∧W.cell? ⟨g,4,none⟩=some (.int .i64 late)∧W.cell? ⟨g,5,none⟩=some (.int .i64 tries)∧W.cell? ⟨g,6,none⟩=some (.slice a body.length c)):=Lib.hid (fun W hW=>by
        obtain ⟨y0,y1,y2,y3,y4,y5,y6, -⟩:=t7_of (HX5.out.below hW)
        exact ⟨y0,y1,y2,y3,y4,y5,y6⟩)
       have HBX:Hid (∀ W,Below w5.heap.size w5 W→Below g w W):=Lib.hid (fun W hW=>HB5.out.trans (hW.mono (by have:=HB5.out.size; omega)))
       have hg5:g≤w5.heap.size:=by have:=HB5.out.size; omega
       refine wp_region_mix (by kernel_rfl) (by kernel_rfl) (by kernel_rfl) [some (sv sb),some (sv sb),some (sv sb),some (.pointer (some ⟨jb,0,none⟩)),some (.int .i64 ((N:Int)+1)),none,some (taskV ⟨cls,name,frm,due,late,tries,body⟩ (.slice a body.length c)),none,none,none] [5,7,8,9] (by kernel_rfl) (by kernel_rfl) (AdG w w5 sb jb db mb p tk val j) ⟨fun _=>bl_drew w5,(fun h=>by cases h),(fun h=>by cases h),(fun h=>by cases h),(fun h=>by cases h)⟩ ?_ ?_
       ·refine EachI.cons (MixOk.pure (by kernel_rfl) (fun _=>by kernel_rfl) (fun _ _=>by kernel_rfl)) ?_
        refine EachI.cons (MixOk.pure (by kernel_rfl) (fun _=>by kernel_rfl) (fun _ _=>by kernel_rfl)) ?_
        refine EachI.cons (MixOk.pure (by kernel_rfl) (fun _=>by kernel_rfl) (fun _ _=>by kernel_rfl)) ?_
        refine EachI.cons (MixOk.look (by kernel_rfl) (fun _=>by kernel_rfl) (fun dn ws wx hG hdep hcl hni=>sx_jptr _ _ _ _ _ _ _ ⟨sb,0,none⟩ _ wx (by kernel_rfl) (HS.out wx (HBX.out wx (hG.gb (not_done (hcl 8 3 (by kernel_rfl)) hni)))).cell)) ?_
        refine EachI.cons (MixOk.pure (by kernel_rfl) (fun _=>by kernel_rfl) (fun _ _=>by kernel_rfl)) ?_
        refine EachI.cons (MixOk.turn (by kernel_rfl) (fun dn ws wx hG hdep hcl hni=>?_)) ?_
        ·have h8:=not_done (hcl 8 5 (by kernel_rfl)) hni
         have h9:=not_done (hcl 9 8 (by kernel_rfl)) h8
         have hb:=hG.gb h8
         refine turn_call (by kernel_rfl) _ _ (by kernel_rfl) ((HKT.out wx).mono ?_)
         rintro e w' ⟨rfl,hb'⟩
         exact ⟨_,rfl,fun _=>hb.trans (hb'.mono hb.size),fun _=>rfl,fun h1 _=>own_below (hG.g1 h1 h8) hb',(fun h=>by have h:dn 8=true:=h; rw [h8] at h; cases h),(fun h=>by have h:dn 9=true:=h; rw [h9] at h; cases h)⟩
        refine EachI.cons (MixOk.look (by kernel_rfl) (fun _=>by kernel_rfl) (fun dn ws wx hG hdep hcl hni=>?_)) ?_
        ·have h8:=not_done (hcl 8 7 (by kernel_rfl)) (not_done (hcl 7 6 (by kernel_rfl)) hni)
         obtain ⟨y0,y1,y2,y3,y4,y5,y6⟩:=HALL.out wx (hG.gb h8)
         exact sx_task _ _ _ _ _ _ _ g _ _ _ _ _ _ _ wx (by kernel_rfl) y0 y1 y2 y3 y4 y5 y6
        refine EachI.cons (MixOk.turn (by kernel_rfl) (fun dn ws wx hG hdep hcl hni=>?_)) ?_
        ·have h8:=not_done (hcl 8 7 (by kernel_rfl)) hni
         have h9:=not_done (hcl 9 8 (by kernel_rfl)) h8
         have hb:=hG.gb h8
         refine turn_call (by kernel_rfl) _ _ (by kernel_rfl) ((HTV.out wx (HBX.out wx hb)).mono ?_)
         rintro e w' ⟨⟨v',rfl,hv'⟩,hb'⟩
         exact ⟨_,rfl,fun _=>hb.trans (hb'.mono hb.size),hG.g0,fun _ _=>own_up hv' hb.size,(fun h=>by have h:dn 8=true:=h; rw [h8] at h; cases h),(fun h=>by have h:dn 9=true:=h; rw [h9] at h; cases h)⟩
        refine EachI.cons (MixOk.turn (by kernel_rfl) (fun dn ws wx hG hdep hcl hni=>?_)) ?_
        ·have h9:=not_done (hcl 9 8 (by kernel_rfl)) hni
         have hb:=HBX.out wx (hG.gb hni)
         have e0:ws 5=strV tk:=hG.g0 (hdep 5 (by kernel_rfl))
         have ho:wx.ownsRow w5.heap.size 5 1 (ws 7) val.length (byts val):=hG.g1 (hdep 7 (by kernel_rfl)) hni
         refine turn_call (by kernel_rfl) 32 #[.pointer (some ⟨jb,0,none⟩),ws 5,ws 7] (by kernel_rfl) ?_
         rw [e0]
         refine (HC.out wx hb (ws 7) (own_up ho hg5)).mono ?_
         rintro e w' ⟨rfl,hJ,hGr⟩
         exact ⟨_,rfl,(fun h=>by cases h),fun _=>by rw [← e0]; rfl,(fun _ h=>by cases h),fun _=>⟨rfl,ActPost.of HW.out (by rw [hg]; exact hb) hJ hGr⟩,(fun h=>by have h:dn 9=true:=h; rw [h9] at h; cases h)⟩
        refine EachI.cons (MixOk.turn (by kernel_rfl) (fun dn ws wx hG hdep hcl hni=>?_)) ?_
        ·refine turn_run (by kernel_rfl) (ws 8) wx (by kernel_rfl) ⟨hG.gb,hG.g0,hG.g1,hG.g2,fun _=>rfl⟩
        exact EachI.nil
       ·intro ws L' hL' w8 hG8
        have e5:ws 9=ws 8:=hG8.g3 rfl
        obtain ⟨e8,hA⟩:=hG8.g2 rfl
        have e8:ws 8=.int .i64 j.2:=e8
        have HA:=Lib.hid hA
        simp only [List.set_cons_succ,List.set_cons_zero,setAll,mix,List.getElem?_cons_succ,List.getElem?_cons_zero,Option.join_some,Option.getD_some,Option.getD_none,Nat.reduceAdd,e5,e8] at hL'
        subst hL'
        clear hG8 e5 e8 hA
        generalize ws 5=v5 at *
        generalize ws 7=v7 at *
        by_cases hz:j.2=0
        ·have HE:Hid (r=(j.1,N+1,0)):=Lib.hid (by rw [HRJ.out,if_pos hz])
         have tz:(j.2 != 0)=false:=by rw [hz]; rfl
         clear hz
         go_wp2
         go_ret2
         rw [HE.out]
         exact ⟨rfl,HA.out⟩
        ·have HE:Hid (r=(j.1,0,j.2)):=Lib.hid (by rw [HRJ.out,if_neg hz])
         have tz:(j.2 != 0)=true:=by rw [bne_iff_ne]; exact hz
         clear hz
         go_wp2
         go_ret2
         rw [HE.out]
         exact ⟨rfl,HA.out⟩
end Go.Proofs.YtbcfpdlhieaepaaGreatDoor
