/- A school that is nil, or was not opened: every method refuses. -/
import Derived.Test.YtbcfpdlhieaepaaGreatDoorQ34
import Derived.Test.YtbcfpdlhieaepaaGreatDoorQ42
import Derived.Test.YtbcfpdlhieaepaaGreatDoorQ43
namespace Go.Proofs.YtbcfpdlhieaepaaGreatDoor
open Go.RowKit SeedP Go.Maps
/-- a pointer at no school -/
def NoS (w:World) (v:Value):Prop:=v=.pointer none∨∃ g,v=sv g∧w.cell? ⟨g,0,none⟩=some (.pointer none)
theorem NoS.below {w w':World} {v:Value} (h:NoS w v) (hb:Below w.heap.size w w'):NoS w' v:=h.imp_right (fun ⟨g,e,hc⟩=>⟨g,e,keep_cell hb hc⟩)
set_option maxRecDepth 100000 in
theorem refused_n (v:Value) (w:World) (h:NoS w v):Calls Tryz.prog 44 #[v] w fun e w'=>e=.returned (.int .i64 1)∧w=w':=by
 have hun:undef=Value.tuple #[]:=rfl
 rcases h with rfl | ⟨g,rfl,hc⟩
 ·go_enter Tryz.func44,Tryz.ntmps44
  go_wp2
  go_ret
  exact ⟨rfl,rfl⟩
 ·go_enter Tryz.func44,Tryz.ntmps44
  go_wp2
  go_ret
  exact ⟨rfl,rfl⟩
set_option maxRecDepth 100000 in
theorem addClass_n (v:Value) (c:List UInt8) (w:World) (h:NoS w v):Calls Tryz.prog 27 #[v,strV c] w fun e w'=>e=.returned (.int .i64 1)∧Below w.heap.size w w':=by
 have hun:undef=Value.tuple #[]:=rfl
 have HR:=Lib.hid (fun W (hW:Below w.heap.size w W)=>refused_n v W (h.below hW))
 clear h
 go_enter Tryz.func27,Tryz.ntmps27
 go_wp2_with fail
 refine (HR.out _ (by first | exact Below.refl _ _ | exact (Below.refl _ _).alloc (Nat.le_refl _) _)).mono ?_
 rintro e w1 ⟨rfl,rfl⟩
 go_wp2
 go_ret
 exact ⟨rfl,(by first | exact Below.refl _ _ | exact (Below.refl _ _).alloc (Nat.le_refl _) _)⟩
set_option maxRecDepth 100000 in
theorem enroll_n (v:Value) (c st:List UInt8) (w:World) (h:NoS w v):Calls Tryz.prog 37 #[v,strV c,strV st] w fun e w'=>e=.returned (.int .i64 1)∧Below w.heap.size w w':=by
 have hun:undef=Value.tuple #[]:=rfl
 have HR:=Lib.hid (fun W (hW:Below w.heap.size w W)=>refused_n v W (h.below hW))
 clear h
 go_enter Tryz.func37,Tryz.ntmps37
 go_wp2_with fail
 refine (HR.out _ (by first | exact Below.refl _ _ | exact (Below.refl _ _).alloc (Nat.le_refl _) _)).mono ?_
 rintro e w1 ⟨rfl,rfl⟩
 go_wp2
 go_ret
 exact ⟨rfl,(by first | exact Below.refl _ _ | exact (Below.refl _ _).alloc (Nat.le_refl _) _)⟩
set_option maxRecDepth 100000 in
theorem leave_n (v:Value) (c st:List UInt8) (w:World) (h:NoS w v):Calls Tryz.prog 42 #[v,strV c,strV st] w fun e w'=>e=.returned (.int .i64 1)∧Below w.heap.size w w':=by
 have hun:undef=Value.tuple #[]:=rfl
 have HR:=Lib.hid (fun W (hW:Below w.heap.size w W)=>refused_n v W (h.below hW))
 clear h
 go_enter Tryz.func42,Tryz.ntmps42
 go_wp2_with fail
 refine (HR.out _ (by first | exact Below.refl _ _ | exact (Below.refl _ _).alloc (Nat.le_refl _) _)).mono ?_
 rintro e w1 ⟨rfl,rfl⟩
 go_wp2
 go_ret
 exact ⟨rfl,(by first | exact Below.refl _ _ | exact (Below.refl _ _).alloc (Nat.le_refl _) _)⟩
set_option maxRecDepth 100000 in
theorem addTask_n (v:Value) (t:TaskP) (vb:Value) (w:World) (h:NoS w v):Calls Tryz.prog 38 #[v,taskV t vb] w fun e w'=>e=.returned (.tuple #[.int .i64 0,.int .i64 1])∧Below w.heap.size w w':=by
 have hun:undef=Value.tuple #[]:=rfl
 have HR:=Lib.hid (fun W (hW:Below w.heap.size w W)=>refused_n v W (h.below hW))
 clear h
 go_enter Tryz.func38,Tryz.ntmps38
 go_wp2_with fail
 refine (HR.out _ (by first | exact Below.refl _ _ | exact (Below.refl _ _).alloc (Nat.le_refl _) _)).mono ?_
 rintro e w1 ⟨rfl,rfl⟩
 go_wp2
 refine bodyPost_ret (results_tmp2 rfl _ _ _) rfl ?_
 exact ⟨rfl,(by first | exact Below.refl _ _ | exact (Below.refl _ _).alloc (Nat.le_refl _) _)⟩
set_option maxRecDepth 100000 in
theorem extend_n (v:Value) (id:Int) (st:List UInt8) (n:Int) (w:World) (h:NoS w v):Calls Tryz.prog 39 #[v,.int .i64 id,strV st,.int .i64 n] w fun e w'=>e=.returned (.int .i64 1)∧Below w.heap.size w w':=by
 have hun:undef=Value.tuple #[]:=rfl
 have HR:=Lib.hid (fun W (hW:Below w.heap.size w W)=>refused_n v W (h.below hW))
 clear h
 go_enter Tryz.func39,Tryz.ntmps39
 go_wp2_with fail
 refine (HR.out _ (by first | exact Below.refl _ _ | exact (Below.refl _ _).alloc (Nat.le_refl _) _)).mono ?_
 rintro e w1 ⟨rfl,rfl⟩
 go_wp2
 go_ret
 exact ⟨rfl,(by first | exact Below.refl _ _ | exact (Below.refl _ _).alloc (Nat.le_refl _) _)⟩
set_option maxRecDepth 100000 in
theorem submit_n (v:Value) (id:Int) (st:List UInt8) (n:Int) (vt:Value) (w:World) (h:NoS w v):Calls Tryz.prog 25 #[v,.int .i64 id,strV st,.int .i64 n,vt] w fun e w'=>e=.returned (.tuple #[.int .i64 0,.int .i64 1])∧Below w.heap.size w w':=by
 have hun:undef=Value.tuple #[]:=rfl
 have HR:=Lib.hid (fun W (hW:Below w.heap.size w W)=>refused_n v W (h.below hW))
 clear h
 go_enter Tryz.func25,Tryz.ntmps25
 go_wp2_with fail
 refine (HR.out _ (by first | exact Below.refl _ _ | exact (Below.refl _ _).alloc (Nat.le_refl _) _)).mono ?_
 rintro e w1 ⟨rfl,rfl⟩
 go_wp2
 refine bodyPost_ret (results_tmp2 rfl _ _ _) rfl ?_
 exact ⟨rfl,(by first | exact Below.refl _ _ | exact (Below.refl _ _).alloc (Nat.le_refl _) _)⟩
set_option maxRecDepth 100000 in
theorem classes_n (v:Value) (w:World) (h:NoS w v):Calls Tryz.prog 17 #[v] w fun e w'=>e=.returned (.slice none 0 0)∧Below w.heap.size w w':=by
 have hun:undef=Value.tuple #[]:=rfl
 have HR:=Lib.hid (fun W (hW:Below w.heap.size w W)=>refused_n v W (h.below hW))
 clear h
 go_enter Tryz.func17,Tryz.ntmps17
 go_wp2_with fail
 refine (HR.out _ (by first | exact Below.refl _ _ | exact (Below.refl _ _).alloc (Nat.le_refl _) _)).mono ?_
 rintro e w1 ⟨rfl,rfl⟩
 go_wp2
 go_ret
 exact ⟨rfl,(by first | exact Below.refl _ _ | exact (Below.refl _ _).alloc (Nat.le_refl _) _)⟩
set_option maxRecDepth 100000 in
theorem students_n (v:Value) (c:List UInt8) (w:World) (h:NoS w v):Calls Tryz.prog 18 #[v,strV c] w fun e w'=>e=.returned (.slice none 0 0)∧Below w.heap.size w w':=by
 have hun:undef=Value.tuple #[]:=rfl
 have HR:=Lib.hid (fun W (hW:Below w.heap.size w W)=>refused_n v W (h.below hW))
 clear h
 go_enter Tryz.func18,Tryz.ntmps18
 go_wp2_with fail
 refine (HR.out _ (by first | exact Below.refl _ _ | exact (Below.refl _ _).alloc (Nat.le_refl _) _)).mono ?_
 rintro e w1 ⟨rfl,rfl⟩
 go_wp2
 go_ret
 exact ⟨rfl,(by first | exact Below.refl _ _ | exact (Below.refl _ _).alloc (Nat.le_refl _) _)⟩
set_option maxRecDepth 100000 in
theorem tasks_n (v:Value) (c:List UInt8) (w:World) (h:NoS w v):Calls Tryz.prog 20 #[v,strV c] w fun e w'=>e=.returned (.slice none 0 0)∧Below w.heap.size w w':=by
 have hun:undef=Value.tuple #[]:=rfl
 have HR:=Lib.hid (fun W (hW:Below w.heap.size w W)=>refused_n v W (h.below hW))
 clear h
 go_enter Tryz.func20,Tryz.ntmps20
 go_wp2_with fail
 refine (HR.out _ (by first | exact Below.refl _ _ | exact (Below.refl _ _).alloc (Nat.le_refl _) _)).mono ?_
 rintro e w1 ⟨rfl,rfl⟩
 go_wp2
 go_ret
 exact ⟨rfl,(by first | exact Below.refl _ _ | exact (Below.refl _ _).alloc (Nat.le_refl _) _)⟩
set_option maxRecDepth 100000 in
theorem task_n (v:Value) (id:Int) (w:World) (h:NoS w v):Calls Tryz.prog 24 #[v,.int .i64 id] w fun e w'=>e=.returned (.tuple #[taskV zeroT (.slice none 0 0),.bool false])∧Below w.heap.size w w':=by
 have hun:undef=Value.tuple #[]:=rfl
 have hB0:Below w.heap.size w (w.alloc (.cells #[.string ⟨#[]⟩,.string ⟨#[]⟩,.int .i64 0,.int .i64 0,.int .i64 0,.int .i64 0,.slice none 0 0] 35)):=(Below.refl _ w).alloc (Nat.le_refl _) _
 have HX:=Lib.hid (Blk.new w 35 [.string ⟨#[]⟩,.string ⟨#[]⟩,.int .i64 0,.int .i64 0,.int .i64 0,.int .i64 0,.slice none 0 0])
 have HR:=Lib.hid (refused_n v _ (h.below hB0))
 have HB0:=Lib.hid hB0
 clear h hB0
 go_enter Tryz.func24,Tryz.ntmps24
 go_wp2_with fail
 refine HR.out.mono ?_
 rintro e w1 ⟨rfl,hw⟩
 have HX1:Hid (Blk w1 w.heap.size 35 [.string ⟨#[]⟩,.string ⟨#[]⟩,.int .i64 0,.int .i64 0,.int .i64 0,.int .i64 0,.slice none 0 0]):=Lib.hid (by rw [← hw]; exact HX.out)
 have HB1:Hid (Below w.heap.size w w1):=Lib.hid (by rw [← hw]; exact HB0.out)
 clear HR HX HB0 hw
 obtain ⟨q0,q1,q2,q3,q4,q5,q6,qf⟩:=t7_of HX1.out
 go_wp2
 have hz7:=set7_blk HX1.out (.string ⟨#[]⟩) (.string ⟨#[]⟩) (.int .i64 0) (.int .i64 0) (.int .i64 0) (.int .i64 0) (.slice none 0 0)
 have hb7:=set7_below HB1.out (Nat.le_refl _) (Nat.le_refl _) (.string ⟨#[]⟩) (.string ⟨#[]⟩) (.int .i64 0) (.int .i64 0) (.int .i64 0) (.int .i64 0) (.slice none 0 0)
 change bodyPost _ _ _ _ _ (set7 w1 w.heap.size (.string ⟨#[]⟩) (.string ⟨#[]⟩) (.int .i64 0) (.int .i64 0) (.int .i64 0) (.int .i64 0) (.slice none 0 0))
 generalize set7 w1 w.heap.size (.string ⟨#[]⟩) (.string ⟨#[]⟩) (.int .i64 0) (.int .i64 0) (.int .i64 0) (.int .i64 0) (.slice none 0 0)=w20 at *
 obtain ⟨z0,z1,z2,z3,z4,z5,z6, -⟩:=t7_of hz7
 refine bodyPost_ret (v:=.tuple #[taskV zeroT (.slice none 0 0),.bool false]) (by simp [results,Tryz.results24,go_sem,z0,z1,z2,z3,z4,z5,z6,zeroT]) rfl ?_
 exact ⟨rfl,hb7⟩
set_option maxRecDepth 100000 in
theorem extension_n (v:Value) (id:Int) (st:List UInt8) (w:World) (h:NoS w v):Calls Tryz.prog 21 #[v,.int .i64 id,strV st] w fun e w'=>e=.returned (.int .i64 0)∧Below w.heap.size w w':=by
 have hun:undef=Value.tuple #[]:=rfl
 have HR:=Lib.hid (fun W (hW:Below w.heap.size w W)=>refused_n v W (h.below hW))
 clear h
 go_enter Tryz.func21,Tryz.ntmps21
 go_wp2_with fail
 refine (HR.out _ (by first | exact Below.refl _ _ | exact (Below.refl _ _).alloc (Nat.le_refl _) _)).mono ?_
 rintro e w1 ⟨rfl,rfl⟩
 go_wp2
 go_ret
 exact ⟨rfl,(by first | exact Below.refl _ _ | exact (Below.refl _ _).alloc (Nat.le_refl _) _)⟩
set_option maxRecDepth 100000 in
theorem attempts_n (v:Value) (id:Int) (st:List UInt8) (w:World) (h:NoS w v):Calls Tryz.prog 22 #[v,.int .i64 id,strV st] w fun e w'=>e=.returned (.slice none 0 0)∧Below w.heap.size w w':=by
 have hun:undef=Value.tuple #[]:=rfl
 have HT:=Lib.hid (task_n v id w h)
 clear h
 go_enter Tryz.func22,Tryz.ntmps22
 go_wp2_with fail
 refine HT.out.mono ?_
 rintro e w1 ⟨rfl,hb⟩
 unfold zeroT
 have HB:=Lib.hid (hb.alloc hb.size (.cells #[.string ⟨#[]⟩,.string ⟨#[]⟩,.int .i64 0,.int .i64 0,.int .i64 0,.int .i64 0,.slice none 0 0] 35))
 go_wp2
 go_ret
 exact ⟨rfl,HB.out⟩
set_option maxRecDepth 100000 in
set_option maxHeartbeats 2000000 in
theorem do_n (v:Value) (a:SActP) (ab ax:Option Addr) (cb cx:Nat) (w:World) (h:NoS w v) (h9:a.kind % 10 ≠ 9) :
 Calls Tryz.prog 14 #[v,actV a (.slice ab a.task.body.length cb) (.slice ax a.text.length cx)] w fun e w'=>e=.returned (.tuple #[.int .i64 0,.int .i64 1])∧Below w.heap.size w w':=by
 have hun:undef=Value.tuple #[]:=rfl
 have HP:=Lib.hid (fun W=>pick_c a.kind 10 W (by omega) (by omega))
 have hk0:0≤a.kind % 10:=Int.emod_nonneg _ (by omega)
 have hk1:a.kind % 10 < 10:=Int.emod_lt_of_pos _ (by omega)
 obtain ⟨k,hk⟩:∃ k,a.kind % 10=k:=⟨_,rfl⟩
 rw [hk] at HP hk0 hk1 h9
 obtain ⟨kind,cls,stu,⟨tcls,tname,frm,due,late,tries,body⟩,id,n,text⟩:=a
 simp only at HP ⊢
 clear hk
 have hY:=Blk.new w 37 [.int .i64 kind,strV cls,strV stu,strV tcls,strV tname,.int .i64 frm,.int .i64 due,.int .i64 late,.int .i64 tries,.slice ab body.length cb,.int .i64 id,.int .i64 n,.slice ax text.length cx]
 have hb1:=(Below.refl w.heap.size w).alloc (Nat.le_refl _) (.cells #[.int .i64 kind,strV cls,strV stu,strV tcls,strV tname,.int .i64 frm,.int .i64 due,.int .i64 late,.int .i64 tries,.slice ab body.length cb,.int .i64 id,.int .i64 n,.slice ax text.length cx] 37)
 have HN:=Lib.hid (h.below hb1)
 clear h
 go_enter Tryz.func14,Tryz.ntmps14
 go_upto_region 1 with (fail)
 change Code.wp _ _ _ _ (w.alloc (.cells #[.int .i64 kind,strV cls,strV stu,strV tcls,strV tname,.int .i64 frm,.int .i64 due,.int .i64 late,.int .i64 tries,.slice ab body.length cb,.int .i64 id,.int .i64 n,.slice ax text.length cx] 37))
 have HB1:=Lib.hid hb1
 have hle:=hb1.size
 generalize w.alloc (.cells #[.int .i64 kind,strV cls,strV stu,strV tcls,strV tname,.int .i64 frm,.int .i64 due,.int .i64 late,.int .i64 tries,.slice ab body.length cb,.int .i64 id,.int .i64 n,.slice ax text.length cx] 37)=w1 at *
 generalize hws:w.heap.size=bx at *
 have y0:=hY.cell 0 (by simp)
 have y1:=hY.cell 1 (by simp)
 have y2:=hY.cell 2 (by simp)
 have y3:=hY.cell 3 (by simp)
 have y4:=hY.cell 4 (by simp)
 have y5:=hY.cell 5 (by simp)
 have y6:=hY.cell 6 (by simp)
 have y7:=hY.cell 7 (by simp)
 have y8:=hY.cell 8 (by simp)
 have y9:=hY.cell 9 (by simp)
 have y10:=hY.cell 10 (by simp)
 have y11:=hY.cell 11 (by simp)
 have y12:=hY.cell 12 (by simp)
 simp only [List.getD_cons_succ,List.getD_cons_zero] at y0 y1 y2 y3 y4 y5 y6 y7 y8 y9 y10 y11 y12
 have HWS:=Lib.hid hws
 clear hY hb1 hws
 have hc:k=0∨k=1∨k=2∨k=3∨k=4∨(k ≠ 0∧k ≠ 1∧k ≠ 2∧k ≠ 3∧k ≠ 4∧k ≠ 9):=by omega
 clear hk0 hk1 h9
 rcases hc with hk | hk | hk | hk | hk | ⟨h0,h1,h2,h3,h4,h9⟩
 ·subst hk
  have HC:=Lib.hid (addClass_n v cls w1 HN.out)
  clear HN
  go_wp2_with fail
  refine (HP.out _).mono ?_
  rintro e _ ⟨rfl,rfl⟩
  go_wp2_with fail
  refine HC.out.mono ?_
  rintro e w2 ⟨rfl,hA⟩
  have HD:=Lib.hid (HB1.out.trans (hA.mono hle))
  go_wp2
  refine bodyPost_ret (results_tmp2 rfl _ _ _) rfl ?_
  exact ⟨rfl,by rw [HWS.out]; exact HD.out⟩
 ·subst hk
  have HC:=Lib.hid (enroll_n v cls stu w1 HN.out)
  clear HN
  go_wp2_with fail
  refine (HP.out _).mono ?_
  rintro e _ ⟨rfl,rfl⟩
  go_wp2_with fail
  refine HC.out.mono ?_
  rintro e w2 ⟨rfl,hA⟩
  have HD:=Lib.hid (HB1.out.trans (hA.mono hle))
  go_wp2
  refine bodyPost_ret (results_tmp2 rfl _ _ _) rfl ?_
  exact ⟨rfl,by rw [HWS.out]; exact HD.out⟩
 ·subst hk
  have HC:=Lib.hid (leave_n v cls stu w1 HN.out)
  clear HN
  go_wp2_with fail
  refine (HP.out _).mono ?_
  rintro e _ ⟨rfl,rfl⟩
  go_wp2_with fail
  refine HC.out.mono ?_
  rintro e w2 ⟨rfl,hA⟩
  have HD:=Lib.hid (HB1.out.trans (hA.mono hle))
  go_wp2
  refine bodyPost_ret (results_tmp2 rfl _ _ _) rfl ?_
  exact ⟨rfl,by rw [HWS.out]; exact HD.out⟩
 ·subst hk
  have HC:=Lib.hid (addTask_n v ⟨tcls,tname,frm,due,late,tries,body⟩ (.slice ab body.length cb) w1 HN.out)
  clear HN
  go_wp2_with fail
  refine (HP.out _).mono ?_
  rintro e _ ⟨rfl,rfl⟩
  go_wp2_with fail
  refine HC.out.mono ?_
  rintro e w2 ⟨rfl,hA⟩
  have HD:=Lib.hid (HB1.out.trans (hA.mono hle))
  go_wp2
  refine bodyPost_ret (results_tmp2 rfl _ _ _) rfl ?_
  exact ⟨rfl,by rw [HWS.out]; exact HD.out⟩
 ·subst hk
  have HC:=Lib.hid (extend_n v id stu n w1 HN.out)
  clear HN
  go_wp2_with fail
  refine (HP.out _).mono ?_
  rintro e _ ⟨rfl,rfl⟩
  go_wp2_with fail
  refine HC.out.mono ?_
  rintro e w2 ⟨rfl,hA⟩
  have HD:=Lib.hid (HB1.out.trans (hA.mono hle))
  go_wp2
  refine bodyPost_ret (results_tmp2 rfl _ _ _) rfl ?_
  exact ⟨rfl,by rw [HWS.out]; exact HD.out⟩
 ·have q0:(k == 0)=false:=by simpa using h0
  have q1:(k == 1)=false:=by simpa using h1
  have q2:(k == 2)=false:=by simpa using h2
  have q3:(k == 3)=false:=by simpa using h3
  have q4:(k == 4)=false:=by simpa using h4
  have q9:(k == 9)=false:=by simpa using h9
  clear h0 h1 h2 h3 h4 h9
  have HC:=Lib.hid (submit_n v id stu n (.slice ax text.length cx) w1 HN.out)
  clear HN
  go_wp2_with fail
  refine (HP.out _).mono ?_
  rintro e _ ⟨rfl,rfl⟩
  go_wp2_with fail
  refine HC.out.mono ?_
  rintro e w2 ⟨rfl,hA⟩
  have HD:=Lib.hid (HB1.out.trans (hA.mono hle))
  go_wp2
  refine bodyPost_ret (results_tmp2 rfl _ _ _) rfl ?_
  exact ⟨rfl,by rw [HWS.out]; exact HD.out⟩
set_option maxRecDepth 100000 in
theorem sopen_nil (w:World):Calls Tryz.prog 13 #[.pointer none] w fun e w'=>e=.returned (.tuple #[.pointer none,.int .i64 2])∧w=w':=by
 have hun:undef=Value.tuple #[]:=rfl
 have HO:=Lib.hid (open_nil w)
 go_enter Tryz.func13,Tryz.ntmps13
 go_wp2_with fail
 refine HO.out.mono ?_
 rintro e w1 ⟨rfl,rfl⟩
 go_wp2
 refine bodyPost_ret (results_tmp2 rfl _ _ _) rfl ?_
 exact ⟨rfl,rfl⟩
end Go.Proofs.YtbcfpdlhieaepaaGreatDoor
