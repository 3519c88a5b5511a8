/- The law's helpers: CopyBytes. -/
import Derived.Test.YtbcfpdlhieaepaaGreatDoorQ33
import Derived.Test.YtbcfpdlhieaepaaGreatDoorQ28
import Derived.Test.YtbcfpdlhieaepaaGreatDoorQ32
import Derived.Test.YtbcfpdlhieaepaaGreatDoorQ21
import Derived.Test.YtbcfpdlhieaepaaGreatDoorQ12
import Derived.RangeFuncNested
import Derived.RangeFuncBound
import Derived.RangeFuncCalls
import Derived.RangeFuncLeaves
import Derived.Test.YtbcfpdlhieaepaaGreatDoorQ04
namespace Go.Proofs.YtbcfpdlhieaepaaGreatDoor
section
open Go.RowKit SeedP Go.Maps
set_option maxRecDepth 100000 in
/-- CopyBytes -/
theorem copyBytes_c (v:Value) (l:List UInt8) (B:Nat) (w:World) (hv:RdB w B v l) (hl:l.length≤1073741824) :
 Calls Tryz.prog 43 #[v] w fun e w'=>(∃ v',e=.returned v'∧w'.ownsRow w.heap.size 5 1 v' l.length (byts l))∧Below w.heap.size w w':=by
 have HV:=Lib.hid hv
 obtain ⟨a,c,rfl,_⟩:=hv.open_
 clear hv
 go_enter Tryz.func43,Tryz.ntmps43
 go_wp2_with (at_builtin; go_must (refine wpList_app rfl _ _ rfl w.heap.size _ 0 [] rfl (World.ownsRow_nil w w.heap.size _ 1) _ l rfl HV.out (by omega) (Nat.le_refl _) ?_); intro v2 w2 hy2 hb2)
 have HF:=Lib.hid (And.intro (show w2.ownsRow w.heap.size 5 1 v2 l.length (byts l) by rw [Nat.zero_add,List.nil_append] at hy2; exact hy2) hb2)
 clear hy2 hb2
 go_ret
 exact ⟨⟨v2,rfl,HF.out.1⟩,HF.out.2⟩
/-- Pick -/
theorem pick_c (x n:Int) (w:World) (n0:1≤n) (n1:n≤9223372036854775807) :
 Calls Tryz.prog 23 #[.int .i64 x,.int .i64 n] w fun e w'=>e=.returned (.int .i64 (x % n))∧w=w':=by
 have m0:=Int.emod_nonneg x (show n ≠ 0 by omega)
 have m1:=Int.emod_lt_of_pos x (show 0 < n by omega)
 by_cases h:x.tmod n < 0
 ·have H:=Lib.hid (pick_low x n n0 h)
  have b:0≤x.tmod n+n∧x.tmod n+n < n:=by rw [H.out]; exact ⟨m0,m1⟩
  have b1:=b.1
  have b2:=b.2
  clear b m0 m1
  go_enter Tryz.func23,Tryz.ntmps23
  go_wp2
  go_ret
  exact ⟨ret_int H.out,rfl⟩
 ·have H:=Lib.hid (pick_high x n n0 (by omega))
  clear m0 m1
  go_enter Tryz.func23,Tryz.ntmps23
  go_wp2
  go_ret
  exact ⟨ret_int H.out,rfl⟩
end
section
open Go.RowKit SeedP Go.Maps
/-- an act, as it is handed by value -/
abbrev actV (a:SActP) (vb vt:Value):Value:=.agg #[.int .i64 a.kind,strV a.cls,strV a.stu,strV a.task.cls,strV a.task.name,.int .i64 a.task.frm,.int .i64 a.task.due,.int .i64 a.task.late,.int .i64 a.task.tries,vb,.int .i64 a.id,.int .i64 a.n,vt]
set_option maxRecDepth 100000 in
set_option maxHeartbeats 2000000 in
/-- do -/
theorem sdo_c {sb jb db mb:Nat} {p:Nat→Prop} {s:JS} (a:SActP) (ab ax:Option Addr) (cb cx:Nat) (w:World) (h:SW w sb jb db mb p s) (hok:SOk s) (hvb:RdB w w.heap.size (.slice ab a.task.body.length cb) a.task.body) (hvt:RdB w w.heap.size (.slice ax a.text.length cx) a.text) (hbl:a.task.body.length≤1000000) (htl:a.text.length≤1000000) :
 Calls Tryz.prog 14 #[sv sb,actV a (.slice ab a.task.body.length cb) (.slice ax a.text.length cx)] w fun e w'=>e=.returned (.tuple #[.int .i64 (doP a s).2.1,.int .i64 (doP a s).2.2])∧ActPost w sb jb db mb p (doP a s).1 w':=by
 have hun:undef=Value.tuple #[]:=rfl
 have HP:=Lib.hid (fun W=>pick_c a.kind 10 W (by omega) (by omega))
 have hk0:0≤a.kind % 10:=Int.emod_nonneg _ (by omega)
 have hk1:a.kind % 10 < 10:=Int.emod_lt_of_pos _ (by omega)
 have W0:=Lib.hid h
 have HB:=Lib.hid hvb
 have HT:=Lib.hid hvt
 obtain ⟨r,hr⟩:∃ r,doP a s=r:=⟨_,rfl⟩
 rw [hr]
 unfold doP at hr
 obtain ⟨k,hk⟩:∃ k,a.kind % 10=k:=⟨_,rfl⟩
 rw [hk] at hr HP hk0 hk1
 obtain ⟨kind,cls,stu,⟨tcls,tname,frm,due,late,tries,body⟩,id,n,text⟩:=a
 simp only at hr hbl htl HB HT HP ⊢
 clear hk h hvb hvt
 have hY:=Blk.new w 37 [.int .i64 kind,strV cls,strV stu,strV tcls,strV tname,.int .i64 frm,.int .i64 due,.int .i64 late,.int .i64 tries,.slice ab body.length cb,.int .i64 id,.int .i64 n,.slice ax text.length cx]
 have hb1:=(Below.refl w.heap.size w).alloc (Nat.le_refl _) (.cells #[.int .i64 kind,strV cls,strV stu,strV tcls,strV tname,.int .i64 frm,.int .i64 due,.int .i64 late,.int .i64 tries,.slice ab body.length cb,.int .i64 id,.int .i64 n,.slice ax text.length cx] 37)
 have hW1:=W0.out.below hb1
 have hB1:=HB.out.below hb1
 have hT1:=HT.out.below hb1
 have HPOST:=Lib.hid (fun s' W' (hA:ActPost (w.alloc (.cells #[.int .i64 kind,strV cls,strV stu,strV tcls,strV tname,.int .i64 frm,.int .i64 due,.int .i64 late,.int .i64 tries,.slice ab body.length cb,.int .i64 id,.int .i64 n,.slice ax text.length cx] 37)) sb jb db mb p s' W')=>ActPost.of W0.out hb1 (hA.sw.jw) hA.gr)
 go_enter Tryz.func14,Tryz.ntmps14
 go_upto_region 1 with (fail)
 change Code.wp _ _ _ _ (w.alloc (.cells #[.int .i64 kind,strV cls,strV stu,strV tcls,strV tname,.int .i64 frm,.int .i64 due,.int .i64 late,.int .i64 tries,.slice ab body.length cb,.int .i64 id,.int .i64 n,.slice ax text.length cx] 37))
 have hle:=hb1.size
 generalize w.alloc (.cells #[.int .i64 kind,strV cls,strV stu,strV tcls,strV tname,.int .i64 frm,.int .i64 due,.int .i64 late,.int .i64 tries,.slice ab body.length cb,.int .i64 id,.int .i64 n,.slice ax text.length cx] 37)=w1 at *
 generalize w.heap.size=bx at *
 have y0:=hY.cell 0 (by simp)
 have y1:=hY.cell 1 (by simp)
 have y2:=hY.cell 2 (by simp)
 have y3:=hY.cell 3 (by simp)
 have y4:=hY.cell 4 (by simp)
 have y5:=hY.cell 5 (by simp)
 have y6:=hY.cell 6 (by simp)
 have y7:=hY.cell 7 (by simp)
 have y8:=hY.cell 8 (by simp)
 have y9:=hY.cell 9 (by simp)
 have y10:=hY.cell 10 (by simp)
 have y11:=hY.cell 11 (by simp)
 have y12:=hY.cell 12 (by simp)
 simp only [List.getD_cons_succ,List.getD_cons_zero] at y0 y1 y2 y3 y4 y5 y6 y7 y8 y9 y10 y11 y12
 clear hY hb1
 have HB1:=Lib.hid (hB1.mono hle)
 have HT1:=Lib.hid (hT1.mono hle)
 have HW1:=Lib.hid hW1
 clear hB1 hT1 hW1 HB HT W0 hle
 have hc:k=0∨k=1∨k=2∨k=3∨k=4∨k=9∨(k ≠ 0∧k ≠ 1∧k ≠ 2∧k ≠ 3∧k ≠ 4∧k ≠ 9):=by omega
 clear hk0 hk1
 rcases hc with hk | hk | hk | hk | hk | hk | ⟨h0,h1,h2,h3,h4,h9⟩
 ·subst hk
  have HC:=Lib.hid (addClass_c cls w1 HW1.out)
  have HE:Hid (r=((addClassP cls s).1,0,(addClassP cls s).2)):=Lib.hid (by rw [← hr]; rfl)
  clear hr HW1 HB1 HT1
  go_wp2_with fail
  refine (HP.out _).mono ?_
  rintro e _ ⟨rfl,rfl⟩
  go_wp2_with fail
  refine HC.out.mono ?_
  rintro e w2 ⟨rfl,hA⟩
  go_wp2
  refine bodyPost_ret (results_tmp2 rfl _ _ _) rfl ?_
  rw [HE.out]
  exact ⟨rfl,HPOST.out _ _ hA⟩
 ·subst hk
  have HC:=Lib.hid (enroll_c cls stu w1 HW1.out)
  have HE:Hid (r=((enrollP cls stu s).1,0,(enrollP cls stu s).2)):=Lib.hid (by rw [← hr]; rfl)
  clear hr HW1 HB1 HT1
  go_wp2_with fail
  refine (HP.out _).mono ?_
  rintro e _ ⟨rfl,rfl⟩
  go_wp2_with fail
  refine HC.out.mono ?_
  rintro e w2 ⟨rfl,hA⟩
  go_wp2
  refine bodyPost_ret (results_tmp2 rfl _ _ _) rfl ?_
  rw [HE.out]
  exact ⟨rfl,HPOST.out _ _ hA⟩
 ·subst hk
  have HC:=Lib.hid (leave_c cls stu w1 HW1.out)
  have HE:Hid (r=((leaveP cls stu s).1,0,(leaveP cls stu s).2)):=Lib.hid (by rw [← hr]; rfl)
  clear hr HW1 HB1 HT1
  go_wp2_with fail
  refine (HP.out _).mono ?_
  rintro e _ ⟨rfl,rfl⟩
  go_wp2_with fail
  refine HC.out.mono ?_
  rintro e w2 ⟨rfl,hA⟩
  go_wp2
  refine bodyPost_ret (results_tmp2 rfl _ _ _) rfl ?_
  rw [HE.out]
  exact ⟨rfl,HPOST.out _ _ hA⟩
 ·subst hk
  have HC:=Lib.hid (addTask_c ⟨tcls,tname,frm,due,late,tries,body⟩ ab cb w1 HW1.out HB1.out hbl)
  have HE:Hid (r=addTaskP ⟨tcls,tname,frm,due,late,tries,body⟩ s):=Lib.hid (by rw [← hr]; rfl)
  clear hr HW1 HB1 HT1
  go_wp2_with fail
  refine (HP.out _).mono ?_
  rintro e _ ⟨rfl,rfl⟩
  go_wp2_with fail
  refine HC.out.mono ?_
  rintro e w2 ⟨rfl,hA⟩
  go_wp2
  refine bodyPost_ret (results_tmp2 rfl _ _ _) rfl ?_
  rw [HE.out]
  exact ⟨rfl,HPOST.out _ _ hA⟩
 ·subst hk
  have HC:=Lib.hid (extend_c id stu n w1 HW1.out)
  have HE:Hid (r=((extendP id stu n s).1,0,(extendP id stu n s).2)):=Lib.hid (by rw [← hr]; rfl)
  clear hr HW1 HB1 HT1
  go_wp2_with fail
  refine (HP.out _).mono ?_
  rintro e _ ⟨rfl,rfl⟩
  go_wp2_with fail
  refine HC.out.mono ?_
  rintro e w2 ⟨rfl,hA⟩
  go_wp2
  refine bodyPost_ret (results_tmp2 rfl _ _ _) rfl ?_
  rw [HE.out]
  exact ⟨rfl,HPOST.out _ _ hA⟩
 ·subst hk
  have HE:Hid (r=(s,0,0)):=Lib.hid (by rw [← hr]; rfl)
  have HA:=Lib.hid (HPOST.out s w1 (ActPost.same HW1.out (Below.refl _ _)))
  clear hr HW1 HB1 HT1
  go_wp2_with fail
  refine (HP.out _).mono ?_
  rintro e _ ⟨rfl,rfl⟩
  go_wp2
  refine bodyPost_ret (results_tmp2 rfl _ _ _) rfl ?_
  rw [HE.out]
  exact ⟨rfl,HA.out⟩
 ·have HC:=Lib.hid (submit_c id stu n text ax cx w1 HW1.out hok HT1.out htl)
  have HE:Hid (r=submitP id stu n text s):=Lib.hid (by rw [← hr,if_neg h0,if_neg h1,if_neg h2,if_neg h3,if_neg h4,if_neg h9])
  have q0:(k == 0)=false:=by simpa using h0
  have q1:(k == 1)=false:=by simpa using h1
  have q2:(k == 2)=false:=by simpa using h2
  have q3:(k == 3)=false:=by simpa using h3
  have q4:(k == 4)=false:=by simpa using h4
  have q9:(k == 9)=false:=by simpa using h9
  clear hr HW1 HB1 HT1 h0 h1 h2 h3 h4 h9
  go_wp2_with fail
  refine (HP.out _).mono ?_
  rintro e _ ⟨rfl,rfl⟩
  go_wp2_with fail
  refine HC.out.mono ?_
  rintro e w2 ⟨rfl,hA⟩
  go_wp2
  refine bodyPost_ret (results_tmp2 rfl _ _ _) rfl ?_
  rw [HE.out]
  exact ⟨rfl,HPOST.out _ _ hA⟩
end
section
open Go.RowKit SeedP Go.Maps
theorem rowU_form {w:World} {B n m:Nat} {e:TypeId} {v:Value} {xs:List Value} (h:w.ownsRow B e m v n xs):∃ a cap,v=.slice a n cap:=by
 rcases h.2 with ⟨rfl,rfl⟩ | ⟨g,cap,cur,rfl,_⟩
 ·exact ⟨_,_,rfl⟩
 ·exact ⟨_,_,rfl⟩
theorem ownU_rdp {w:World} {B n:Nat} {v:Value} {l:List UInt8} (h:w.ownsRow B 5 1 v n (byts l)):RdP w (fun g=>v.ownBlock=some g) v l:=by
 have h':=h
 obtain ⟨hl,h2⟩:=h
 rw [Nat.mul_one,byts_length] at hl
 rcases h2 with ⟨rfl,rfl⟩ | ⟨g,cap,cur,rfl,hb,hg,hn,hc,hs,ht⟩
 ·exact Or.inl ⟨Or.inl rfl,List.eq_nil_of_length_eq_zero hl⟩
 ·refine Or.inr ⟨g,0,cap,by rw [hl],by omega,hc,rfl,fun j hj=>?_⟩
  rw [Nat.zero_add,h'.cellAt j (by omega),byts_get l j hj]
theorem ownU_unb {w:World} {B n m g:Nat} {t:TypeId} {v:Value} {xs:List Value} (h:w.ownsRow B t m v n xs) (hg:v.ownBlock=some g):UnB w g:=by
 rcases h.2 with ⟨rfl,_⟩ | ⟨g1,c1,cur1,rfl,_,hh1,_⟩
 ·simp [Value.ownBlock] at hg
 ·simp only [Value.ownBlock,Option.some.injEq] at hg
  subst hg
  exact fun o=>frozen_of_row w _ o _ _ hh1
/-- while two files are copied -/
structure CpG2 (W:World) (pw:Int) (l0 l1:List UInt8) (ds:List Bool) (vs:List Value) (w:World):Prop where
 be:Below W.heap.size W w
 g0:ds.getD 0 false=true→w.ownsRow W.heap.size 5 1 (vs.getD 0 undef) l0.length (byts l0)
 g1:ds.getD 1 false=true→w.ownsRow W.heap.size 5 1 (vs.getD 1 undef) l1.length (byts l1)
 ne:ds.getD 0 false=true→ds.getD 1 false=true→∀ g,(vs.getD 0 undef).ownBlock=some g→(vs.getD 1 undef).ownBlock ≠ some g
 g2:ds.getD 2 false=true→vs.getD 2 undef=.agg #[vs.getD 0 undef,vs.getD 1 undef]
 g3:ds.getD 3 false=true→vs.getD 3 undef=.agg #[.int .i64 pw,vs.getD 0 undef,vs.getD 1 undef]
 g4:ds.getD 4 false=true→∃ q,vs.getD 4 undef=.pointer (some ⟨q,0,none⟩)∧W.heap.size≤q∧Blk w q 29 [.int .i64 pw,vs.getD 0 undef,vs.getD 1 undef]
 g5:ds.getD 5 false=true→vs.getD 5 undef=vs.getD 4 undef
section
variable {W w w':World} {pw:Int} {l0 l1:List UInt8} {d0 d1 d2 d3 d4 d5:Bool} {u0 u1 u2 u3 u4 u5:Value}
theorem own_keepB {B n m:Nat} {e:TypeId} {v:Value} {xs:List Value} (h:w.ownsRow B e m v n xs) (hb:Below w.heap.size w w'):w'.ownsRow B e m v n xs:=own_grown h (Grown.of_below hb (S:=fun _=>False)) (fun _ _ _ h=>h)
theorem CpG2.call0 (h:CpG2 W pw l0 l1 [d0,d1,d2,d3,d4,d5] [u0,u1,u2,u3,u4,u5] w) {v:Value} (hown:w'.ownsRow w.heap.size 5 1 v l0.length (byts l0)) (hb:Below w.heap.size w w') (h2:d2=false) (h3:d3=false) (h4:d4=false):CpG2 W pw l0 l1 [true,d1,d2,d3,d4,d5] [v,u1,u2,u3,u4,u5] w':=by
 subst h2 h3 h4
 refine ⟨h.be.trans (hb.mono h.be.size),fun _=>own_up hown h.be.size,fun e=>own_keepB (h.g1 e) hb,fun _ e g hg he=>?_,(fun e=>by cases e),(fun e=>by cases e),(fun e=>by cases e),h.g5⟩
 have h5:=(hown.lt g hg).1
 have h6:=((h.g1 e).lt g he).2
 omega
theorem CpG2.call1 (h:CpG2 W pw l0 l1 [d0,d1,d2,d3,d4,d5] [u0,u1,u2,u3,u4,u5] w) {v:Value} (hown:w'.ownsRow w.heap.size 5 1 v l1.length (byts l1)) (hb:Below w.heap.size w w') (h2:d2=false) (h3:d3=false) (h4:d4=false):CpG2 W pw l0 l1 [d0,true,d2,d3,d4,d5] [u0,v,u2,u3,u4,u5] w':=by
 subst h2 h3 h4
 refine ⟨h.be.trans (hb.mono h.be.size),fun e=>own_keepB (h.g0 e) hb,fun _=>own_up hown h.be.size,fun e _ g hg he=>?_,(fun e=>by cases e),(fun e=>by cases e),(fun e=>by cases e),h.g5⟩
 have h5:=(hown.lt g he).1
 have h6:=((h.g0 e).lt g hg).2
 omega
theorem CpG2.b2 (h:CpG2 W pw l0 l1 [d0,d1,d2,d3,d4,d5] [u0,u1,u2,u3,u4,u5] w) {v:Value} (e:v=.agg #[u0,u1]):CpG2 W pw l0 l1 [d0,d1,true,d3,d4,d5] [u0,u1,v,u3,u4,u5] w:=⟨h.be,h.g0,h.g1,h.ne,fun _=>e,h.g3,h.g4,h.g5⟩
theorem CpG2.b3 (h:CpG2 W pw l0 l1 [d0,d1,d2,d3,d4,d5] [u0,u1,u2,u3,u4,u5] w) {v:Value} (e:v=.agg #[.int .i64 pw,u0,u1]):CpG2 W pw l0 l1 [d0,d1,d2,true,d4,d5] [u0,u1,u2,v,u4,u5] w:=⟨h.be,h.g0,h.g1,h.ne,h.g2,fun _=>e,h.g4,h.g5⟩
theorem CpG2.b4 (h:CpG2 W pw l0 l1 [d0,d1,d2,d3,d4,d5] [u0,u1,u2,u3,u4,u5] w) (h5:d5=false):CpG2 W pw l0 l1 [d0,d1,d2,d3,true,d5] [u0,u1,u2,u3,.pointer (some ⟨w.heap.size,0,none⟩),u5] (w.alloc (.cells #[.int .i64 pw,u0,u1] 29)):=by
 subst h5
 have hb:=(Below.refl w.heap.size w).alloc (Nat.le_refl _) (.cells #[.int .i64 pw,u0,u1] 29)
 exact ⟨h.be.trans (hb.mono h.be.size),fun e=>own_keepB (h.g0 e) hb,fun e=>own_keepB (h.g1 e) hb,h.ne,h.g2,h.g3,fun _=>⟨_,rfl,h.be.size,Blk.new w _ [.int .i64 pw,u0,u1]⟩,(fun e=>by cases e)⟩
theorem CpG2.b5 (h:CpG2 W pw l0 l1 [d0,d1,d2,d3,d4,d5] [u0,u1,u2,u3,u4,u5] w):CpG2 W pw l0 l1 [d0,d1,d2,d3,d4,true] [u0,u1,u2,u3,u4,u4] w:=⟨h.be,h.g0,h.g1,h.ne,h.g2,h.g3,h.g4,fun _=>rfl⟩
end
section
variable {ρ:Operand→Value} {d:Option Tmp} {ty:TypeId} {pos:String} {af:Array Edge} {gd:Option (Nat × Bool)}
theorem xc_bytes (x:Operand) (ad:Addr) (v:Value) (w:World) (hx:ρ x=.pointer (some ad)) (hc:w.cell? ad=some v) :
 (execOp ρ ⟨d,.load 26 x,ty,pos,af,gd⟩).run Tryz.prog w=.ok (.value v) w:=by
 simp [go_sem,hx,hc]
theorem xc_int (x:Operand) (ad:Addr) (v:Value) (w:World) (hx:ρ x=.pointer (some ad)) (hc:w.cell? ad=some v) :
 (execOp ρ ⟨d,.load 3 x,ty,pos,af,gd⟩).run Tryz.prog w=.ok (.value v) w:=by
 simp [go_sem,hx,hc]
theorem xc_build2 (x y:Operand) (a:Option Addr) (n c:Nat) (a':Option Addr) (n' c':Nat) (w:World) (hx:ρ x=.slice a n c) (hy:ρ y=.slice a' n' c') :
 (execOp ρ ⟨d,.build 27 #[(0,x),(1,y)],ty,pos,af,gd⟩).run Tryz.prog w=.ok (.value (.agg #[.slice a n c,.slice a' n' c'])) w:=by
 simp [go_sem,hx,hy]
theorem xc_buildD (x y:Operand) (pw:Int) (a:Option Addr) (n c:Nat) (a':Option Addr) (n' c':Nat) (w:World) (hx:ρ x=.int .i64 pw) (hy:ρ y=.agg #[.slice a n c,.slice a' n' c']) :
 (execOp ρ ⟨d,.build 29 #[(0,x),(1,y)],ty,pos,af,gd⟩).run Tryz.prog w=.ok (.value (.agg #[.int .i64 pw,.slice a n c,.slice a' n' c'])) w:=by
 simp [go_sem,hx,hy]
theorem xc_box (x:Operand) (pw:Int) (a:Option Addr) (n c:Nat) (a':Option Addr) (n' c':Nat) (w:World) (hx:ρ x=.agg #[.int .i64 pw,.slice a n c,.slice a' n' c']) :
 (execOp ρ ⟨d,.box 29 x,ty,pos,af,gd⟩).run Tryz.prog w=.ok (.value (.pointer (some ⟨w.heap.size,0,none⟩))) (w.alloc (.cells #[.int .i64 pw,.slice a n c,.slice a' n' c'] 29)):=by
 simp [go_sem,hx]
theorem xc_assign (x:Operand) (v:Value) (w:World) (hx:ρ x=v):(execOp ρ ⟨d,.assign x,ty,pos,af,gd⟩).run Tryz.prog w=.ok (.value v) w:=by
 simp [go_sem,hx]
end
set_option maxRecDepth 100000 in
set_option maxHeartbeats 2000000 in
/-- copies -/
theorem copies_c (d:DS) (v0 v1:Value) (w:World) (hr0:RdB w w.heap.size v0 d.f0) (hr1:RdB w w.heap.size v1 d.f1) (h0:d.f0.length≤1073741824) (h1:d.f1.length≤1073741824) :
 Calls Tryz.prog 15 #[.agg #[.int .i64 d.pw,v0,v1]] w fun e w'=>(∃ db,e=.returned (.pointer (some ⟨db,0,none⟩))∧w.heap.size≤db∧∃ p,(∀ g,p g→w.heap.size≤g∧g < w'.heap.size∧g ≠ db)∧DW w' db p d)∧Below w.heap.size w w':=by
 obtain ⟨a0,c0,rfl, -, -, -⟩:=hr0.open_
 obtain ⟨a1,c1,rfl, -, -, -⟩:=hr1.open_
 obtain ⟨pw,f0,f1⟩:=d
 simp only at hr0 hr1 h0 h1 ⊢
 have hY:=Blk.new w 29 [.int .i64 pw,.slice a0 f0.length c0,.slice a1 f1.length c1]
 have hb1:=(Below.refl w.heap.size w).alloc (Nat.le_refl _) (.cells #[.int .i64 pw,.slice a0 f0.length c0,.slice a1 f1.length c1] 29)
 have hB0:=Lib.hid (hr0.below hb1)
 have hB1:=Lib.hid (hr1.below hb1)
 have HLE:=Lib.hid hb1
 go_enter Tryz.func15,Tryz.ntmps15
 go_upto_region 1 with (fail)
 change Code.wp _ _ _ _ (w.alloc (.cells #[.int .i64 pw,.slice a0 f0.length c0,.slice a1 f1.length c1] 29))
 generalize w.alloc (.cells #[.int .i64 pw,.slice a0 f0.length c0,.slice a1 f1.length c1] 29)=w1 at *
 obtain ⟨bx,hbx⟩:∃ bx,w.heap.size=bx:=⟨_,rfl⟩
 rw [hbx]
 rw [hbx] at hY hB0 hB1
 have HY:=Lib.hid hY
 have HBX:=Lib.hid hbx
 have hlt:=hY.lt
 have HB0:=Lib.hid (hB0.out.mono (show bx≤w1.heap.size by omega))
 have HB1:=Lib.hid (hB1.out.mono (show bx≤w1.heap.size by omega))
 clear hY hb1 hr0 hr1 hB0 hB1 hbx hlt
 refine wp_region_mix (by kernel_rfl) (by kernel_rfl) (by kernel_rfl) [some (.pointer (some ⟨bx,0,none⟩)),some (.int .i64 pw),some (.pointer (some ⟨bx,1,none⟩)),some (.pointer (some ⟨bx,1,none⟩)),some (.slice a0 f0.length c0),none,some (.pointer (some ⟨bx,1,none⟩)),some (.pointer (some ⟨bx,2,none⟩)),some (.slice a1 f1.length c1),none,none,none,none,none] [5,9,10,11,12,13] (by kernel_rfl) (by kernel_rfl) (CpG2 w1 pw f0 f1) ⟨bl_drew w1,(fun h=>by cases h),(fun h=>by cases h),(fun h=>by cases h),(fun h=>by cases h),(fun h=>by cases h),(fun h=>by cases h),(fun h=>by cases h)⟩ ?_ ?_
 ·refine EachI.cons (MixOk.pure (by kernel_rfl) (fun _=>by kernel_rfl) (fun _ _=>by kernel_rfl)) ?_
  refine EachI.cons (MixOk.look (by kernel_rfl) (fun _=>by kernel_rfl) (fun dn ws wx hG hdep hcl hni=>xc_int _ ⟨bx,0,none⟩ _ wx (by kernel_rfl) ((HY.out.below hG.be).cell 0 (by simp)))) ?_
  refine EachI.cons (MixOk.pure (by kernel_rfl) (fun _=>by kernel_rfl) (fun _ _=>by kernel_rfl)) ?_
  refine EachI.cons (MixOk.pure (by kernel_rfl) (fun _=>by kernel_rfl) (fun _ _=>by kernel_rfl)) ?_
  refine EachI.cons (MixOk.look (by kernel_rfl) (fun _=>by kernel_rfl) (fun dn ws wx hG hdep hcl hni=>xc_bytes _ ⟨bx,1,none⟩ _ wx (by kernel_rfl) ((HY.out.below hG.be).cell 1 (by simp)))) ?_
  refine EachI.cons (MixOk.turn (by kernel_rfl) (fun dn ws wx hG hdep hcl hni=>?_)) ?_
  ·have h10:=not_done (hcl 10 5 (by kernel_rfl)) hni
   have h11:=not_done (hcl 11 10 (by kernel_rfl)) h10
   have h12:=not_done (hcl 12 11 (by kernel_rfl)) h11
   refine turn_call (by kernel_rfl) 43 #[.slice a0 f0.length c0] (by kernel_rfl) ((copyBytes_c (.slice a0 f0.length c0) f0 w1.heap.size wx (HB0.out.below hG.be) (by omega)).mono ?_)
   rintro e w' ⟨⟨v',rfl,hown⟩,hbl⟩
   exact ⟨v',rfl,hG.call0 hown hbl h10 h11 h12⟩
  refine EachI.cons (MixOk.pure (by kernel_rfl) (fun _=>by kernel_rfl) (fun _ _=>by kernel_rfl)) ?_
  refine EachI.cons (MixOk.pure (by kernel_rfl) (fun _=>by kernel_rfl) (fun _ _=>by kernel_rfl)) ?_
  refine EachI.cons (MixOk.look (by kernel_rfl) (fun _=>by kernel_rfl) (fun dn ws wx hG hdep hcl hni=>xc_bytes _ ⟨bx,2,none⟩ _ wx (by kernel_rfl) ((HY.out.below hG.be).cell 2 (by simp)))) ?_
  refine EachI.cons (MixOk.turn (by kernel_rfl) (fun dn ws wx hG hdep hcl hni=>?_)) ?_
  ·have h10:=not_done (hcl 10 9 (by kernel_rfl)) hni
   have h11:=not_done (hcl 11 10 (by kernel_rfl)) h10
   have h12:=not_done (hcl 12 11 (by kernel_rfl)) h11
   refine turn_call (by kernel_rfl) 43 #[.slice a1 f1.length c1] (by kernel_rfl) ((copyBytes_c (.slice a1 f1.length c1) f1 w1.heap.size wx (HB1.out.below hG.be) (by omega)).mono ?_)
   rintro e w' ⟨⟨v',rfl,hown⟩,hbl⟩
   exact ⟨v',rfl,hG.call1 hown hbl h10 h11 h12⟩
  refine EachI.cons (MixOk.turn (by kernel_rfl) (fun dn ws wx hG hdep hcl hni=>?_)) ?_
  ·obtain ⟨q0,k0,e0⟩:=rowU_form (hG.g0 (hdep 5 (by kernel_rfl)))
   obtain ⟨q1,k1,e1⟩:=rowU_form (hG.g1 (hdep 9 (by kernel_rfl)))
   have e0:ws 5=.slice q0 f0.length k0:=e0
   have e1:ws 9=.slice q1 f1.length k1:=e1
   refine turn_run (by kernel_rfl) (.agg #[ws 5,ws 9]) wx ?_ (hG.b2 rfl)
   rw [e0,e1]
   exact xc_build2 _ _ _ _ _ _ _ _ wx (Eq.trans (b:=ws 5) (by kernel_rfl) e0) (Eq.trans (b:=ws 9) (by kernel_rfl) e1)
  refine EachI.cons (MixOk.turn (by kernel_rfl) (fun dn ws wx hG hdep hcl hni=>?_)) ?_
  ·have d10:=hdep 10 (by kernel_rfl)
   obtain ⟨q0,k0,e0⟩:=rowU_form (hG.g0 (hcl 10 5 (by kernel_rfl) d10))
   obtain ⟨q1,k1,e1⟩:=rowU_form (hG.g1 (hcl 10 9 (by kernel_rfl) d10))
   have e0:ws 5=.slice q0 f0.length k0:=e0
   have e1:ws 9=.slice q1 f1.length k1:=e1
   have e2:ws 10=.agg #[ws 5,ws 9]:=hG.g2 d10
   refine turn_run (by kernel_rfl) (.agg #[.int .i64 pw,ws 5,ws 9]) wx ?_ (hG.b3 rfl)
   rw [e0,e1] at e2 ⊢
   exact xc_buildD _ _ _ _ _ _ _ _ _ wx (by kernel_rfl) (Eq.trans (b:=ws 10) (by kernel_rfl) e2)
  refine EachI.cons (MixOk.turn (by kernel_rfl) (fun dn ws wx hG hdep hcl hni=>?_)) ?_
  ·have d11:=hdep 11 (by kernel_rfl)
   have d10:=hcl 11 10 (by kernel_rfl) d11
   have h13:=not_done (hcl 13 12 (by kernel_rfl)) hni
   obtain ⟨q0,k0,e0⟩:=rowU_form (hG.g0 (hcl 10 5 (by kernel_rfl) d10))
   obtain ⟨q1,k1,e1⟩:=rowU_form (hG.g1 (hcl 10 9 (by kernel_rfl) d10))
   have e0:ws 5=.slice q0 f0.length k0:=e0
   have e1:ws 9=.slice q1 f1.length k1:=e1
   have e3:ws 11=.agg #[.int .i64 pw,ws 5,ws 9]:=hG.g3 d11
   refine turn_run (by kernel_rfl) (.pointer (some ⟨wx.heap.size,0,none⟩)) (wx.alloc (.cells #[.int .i64 pw,ws 5,ws 9] 29)) ?_ (hG.b4 h13)
   rw [e0,e1] at e3 ⊢
   exact xc_box _ _ _ _ _ _ _ _ wx (Eq.trans (b:=ws 11) (by kernel_rfl) e3)
  refine EachI.cons (MixOk.turn (by kernel_rfl) (fun dn ws wx hG hdep hcl hni=>?_)) ?_
  ·exact turn_run (by kernel_rfl) (ws 12) wx (xc_assign _ (ws 12) wx (by kernel_rfl)) hG.b5
  exact EachI.nil
 ·intro ws L' hL' w7 hG7
  simp only [setAll,mix,List.set_cons_succ,List.set_cons_zero,List.getElem?_cons_succ,List.getElem?_cons_zero,Option.join_some,Option.getD_some,Nat.reduceAdd] at hL'
  subst hL'
  obtain ⟨q,e4,hq,hbq⟩:=hG7.g4 rfl
  have e5:ws 13=.pointer (some ⟨q,0,none⟩):=(hG7.g5 rfl).trans e4
  have o0:w7.ownsRow w1.heap.size 5 1 (ws 5) f0.length (byts f0):=hG7.g0 rfl
  have o1:w7.ownsRow w1.heap.size 5 1 (ws 9) f1.length (byts f1):=hG7.g1 rfl
  have ne:∀ g,(ws 5).ownBlock=some g→(ws 9).ownBlock ≠ some g:=hG7.ne rfl rfl
  have hbq:Blk w7 q 29 [.int .i64 pw,ws 5,ws 9]:=hbq
  have HR:Hid ((∃ db,(.returned (.pointer (some ⟨q,0,none⟩)):Ending)=.returned (.pointer (some ⟨db,0,none⟩))∧w.heap.size≤db∧∃ p,(∀ g,p g→w.heap.size≤g∧g < w7.heap.size∧g ≠ db)∧DW w7 db p ⟨pw,f0,f1⟩)∧Below w.heap.size w w7):=Lib.hid (by
   have hz:=HLE.out.size
   refine ⟨⟨q,rfl,by omega,fun g=>(ws 5).ownBlock=some g∨(ws 9).ownBlock=some g,fun g hg=>?_,ws 5,ws 9,_,_,hbq,ownU_rdp o0,ownU_rdp o1,fun g hg=>⟨Or.inl hg,ne g hg⟩,fun g hg=>Or.inr hg,fun g hg=>?_⟩,HLE.out.trans (hG7.be.mono hz)⟩
   ·rcases hg with hg | hg
    ·exact ⟨by have:=(o0.lt g hg).1; omega,(o0.lt g hg).2,fun e=>own_ne o0 hbq (by decide) (e ▸ hg)⟩
    ·exact ⟨by have:=(o1.lt g hg).1; omega,(o1.lt g hg).2,fun e=>own_ne o1 hbq (by decide) (e ▸ hg)⟩
   ·rcases hg with hg | hg
    ·exact ⟨(o0.lt g hg).2,ownU_unb o0 hg⟩
    ·exact ⟨(o1.lt g hg).2,ownU_unb o1 hg⟩)
  rw [e5]
  clear hG7 o0 o1 ne hbq e4 e5
  go_wp2
  go_ret
  exact HR.out
end
section
open Go.RowKit SeedP
/-- an invariant of a loop: p are blocks that rounds leave alone. New blocks may be laid, and taken into p; the loop's own two blocks may turn -/
structure LoopAb {α:Type} (D:Nat) (I:(Nat→Prop)→List α→World→Prop):Prop where
 ext:∀ p p' s W W',I p s W→Below W.heap.size W W'→(∀ g,p' g→p g∨(W.heap.size≤g∧g < W'.heap.size))→I p' s W'
 put:∀ p s W k o o',I p s W→(k=D∨k=D+1)→W.heap[k]?=some o→o.isCells=false→I p s (W.putObj k o')
/-- an iterator: between two rounds it only lays new blocks; of each value it tells R; what it has laid is left alone if it says so -/
def Iter {α:Type} (F:Fence) (n:Nat) (P:Program) (g:Nat) (lb:Array Value) (encs:α→Array Value) (R:α→Nat→World→Prop) (S Sp:List α→Prop) (N:Nat) (w:World) (p0:Nat→Prop):Prop:=
 ∀ (l:Nat) (J Jx:(Nat→Prop)→List α→World→Prop) (W:World),Below w.heap.size w W →
   (∀ p p' s W W',J p s W→Below W.heap.size W W'→(∀ g,p' g→p g∨(W.heap.size≤g∧g < W'.heap.size))→J p' s W')→(∀ p p' s W W',Jx p s W→Below W.heap.size W W'→(∀ g,p' g→p g∨(W.heap.size≤g∧g < W'.heap.size))→Jx p' s W') →
   (∀ p pre x W0 W1,J p pre W0→pre.length < N→Below W0.heap.size W0 W1→R x W0.heap.size W1→YieldAt F (n - 1) P l (encs x) W1 fun e W'=>(e=.returned (.bool true)∧J p (pre ++ [x]) W'∧Grown (fun g=>¬ p g) W1 W')∨(e=.returned (.bool false)∧Jx p (pre ++ [x]) W')) →
   J p0 [] W→CallsIn F n P g (#[.func (.yield l) #[] #[]] ++ lb) W fun e W'=>(∃ v,e=.returned v)∧((∃ xs,S xs∧J p0 xs W')∨(∃ pre,Sp pre∧Jx p0 pre W'))
/-- what is kept of a loop's two blocks -/
def KeepL (D:Nat) (W W':World):Prop:=∀ k,(k=D∨k=D+1)→∀ o,W.heap[k]?=some o→o.isCells=false→W'.heap[k]?=some o
/-- how a round's body may end -/
def iterPost {α:Type} (D:Nat) (p:Nat→Prop) (I Ix:(Nat→Prop)→List α→World→Prop) (xs:List α) (W:World):Exit→Act→World→Prop
 | .normal,_,W'=>KeepL D W W'∧Grown (fun g=>¬ p g) W W'∧I p xs W'
 | .ret,_,W'=>KeepL D W W'∧Ix p xs W'
 | _,_,_=>False
theorem rangeFunc_iter {F:Fence} {n:Nat} {P:Program} {α:Type} {g:Operand} {ps:Array Tmp} {assign body:Code} {Q:Exit→Act→World→Prop} {a:Act} {w:World}
 (hro:F.round=none) (h1:1≤n) {gf:Nat} {lb:Array Value} (hg:a.eval g=.func (.func gf) #[] lb) (hFg:F.fn gf) (eg:∀ args w,(callFunc gf args).run P w=.ok (.enter gf args) w)
 {encs:α→Array Value} {R:α→Nat→World→Prop} {S Sp:List α→Prop} {N:Nat} {p0:Nat→Prop} (hp0:∀ g,p0 g→g < w.heap.size) (hit:Iter F (n - 1) P gf lb encs R S Sp N w p0) (hps:∀ x,(encs x).size=ps.size)
 (I Ix:(Nat→Prop)→List α→World→Prop) (hI:LoopAb w.heap.size I) (hIx:LoopAb w.heap.size Ix) (h0:I p0 [] w) (a₁:α→Act)
 (hassign:∀ (l:Nat) (x:α) (W:World) (K:Act→World→Prop),K (a₁ x) W→assign.wpIn (F.inRound l) (n - 1 - 1) P (Exit.then K (fun _ _ _=>False)) { tmps:=(ps.zip (encs x)).foldl (fun t (p,v)=>t.setIfInBounds p v) a.tmps,defers:=[] } W)
 (hbody:∀ (l:Nat) (p:Nat→Prop) (pre:List α) (x:α) (W0 W1 W:World),I p pre W0→pre.length < N→Below W0.heap.size W0 W1→R x W0.heap.size W1→(∃ o o',W1.heap[w.heap.size+1]?=some o∧o.isCells=false∧W=W1.putObj (w.heap.size+1) o')→(∀ k,k=w.heap.size∨k=w.heap.size+1→∃ o,W.heap[k]?=some o∧o.isCells=false) →
  body.wpIn (F.inRound l) (n - 1 - 1) P (iterPost w.heap.size p I Ix (pre ++ [x]) W) (a₁ x) W)
 (hdone:∀ (xs:List α) (W:World),S xs→I p0 xs W→W.heap[w.heap.size]?=some (.deferred (some []))→Q .normal { a with defers:={ target:=.collected w.heap.size,args:=#[] } :: a.defers } W)
 (hstop:∀ (pre:List α) (W:World),Sp pre→Ix p0 pre W→W.heap[w.heap.size]?=some (.deferred (some []))→Code.ret.wpIn F n P Q { a with defers:={ target:=.collected w.heap.size,args:=#[] } :: a.defers } W) :
 (Code.rangeFunc g ps assign body).wpIn F n P Q a w:=by
 refine wpIn_rangeFunc fun fn hfn=>?_
 rw [hro]
 obtain ⟨D,hD⟩:∃ D,w.heap.size=D:=⟨_,rfl⟩
 obtain ⟨rc,hrc⟩:∃ rc:LoopState→Option Code→Obj,rc=fun st pe=>.loop { state:=st,pending:=pe,fn,tmps:=a.tmps,params:=ps,assign,body,defers:=D }:=⟨_,rfl⟩
 obtain ⟨V,hV⟩:∃ V,(w.alloc (.deferred (some []))).alloc (rc .ready none)=V:=⟨_,rfl⟩
 have rcC:∀ st pe,(rc st pe).isCells=false:=fun st pe=>by rw [hrc]; rfl
 have rcW:∀ st pe,∃ r,rc st pe=.loop r:=fun st pe=>by rw [hrc]; exact ⟨_,rfl⟩
 have vL:V.heap[D+1]?=some (rc .ready none):=by
  have:=World.alloc_heap_new (w.alloc (.deferred (some []))) (rc .ready none)
  rwa [World.size_alloc,hD,hV] at this
 have vD:V.heap[D]?=some (.deferred (some [])):=by
  rw [← hV,← hD]
  exact (Below.heap_alloc _ _ _ (by simp)).trans (World.alloc_heap_new w _)
 have vB:Below w.heap.size w V:=by
  rw [← hV]
  exact ((Below.refl _ w).alloc (Nat.le_refl _) _).alloc (by simp) _
 have vI:I p0 [] V:=hI.ext _ _ _ _ _ h0 vB (fun _ h=>Or.inl h)
 have vp:¬ p0 (D+1):=fun h=>by have:=hp0 _ h; omega
 rw [hD] at hI hIx
 -- the loop's two blocks beside an invariant
 let two:(st:LoopState)→(pe:Option Code)→World→Prop:=fun st pe W=>W.heap[D+1]?=some (rc st pe)∧W.heap[D]?=some (.deferred (some []))
 have keep:∀ {st pe} {W W':World},two st pe W→Below W.heap.size W W'→two st pe W':=fun h hb=>⟨(hb.block _ (Array.getElem?_eq_some_iff.1 h.1).1).trans h.1,(hb.block _ (Array.getElem?_eq_some_iff.1 h.2).1).trans h.2⟩
 have turn:∀ {st pe} {W:World} (st' pe'),two st pe W→two st' pe' (W.putObj (D+1) (rc st' pe')):=fun st' pe' h=>⟨World.putObj_heap_same (Array.getElem?_eq_some_iff.1 h.1).1,(World.putObj_heap_other (by omega)).trans h.2⟩
 refine ⟨D+1,[{ target:=.collected D,args:=#[] }],V,{ target:=.fn (.func gf) lb,args:=#[.func (.yield (D+1)) #[] #[]] },V,gf,#[.func (.yield (D+1)) #[] #[]] ++ lb,V,?_,?_,?_,?_,fun _=>h1,?_⟩
 ·rw [← hV,hrc,← hD]; exact run_enterLoop_outer _ _ _ _ _
 ·simp only [resolve,hg]
  simp [go_sem]
 ·intro f' hf'; simp [Target.leads] at hf'; subst hf'; exact hFg
 ·simp [invoke,go_sem,eg]
 ·refine (hit (D+1) (fun p pre W=>I p pre W∧two .ready none W∧¬ p (D+1)) (fun p pre W=>Ix p pre W∧two .done (some .ret) W) V vB (fun p p' s W W' h hb hp=>⟨hI.ext _ _ _ _ _ h.1 hb hp,keep h.2.1 hb,fun e=>(hp _ e).elim h.2.2 (fun e2=>by have:=(Array.getElem?_eq_some_iff.1 h.2.1.1).1; have:=e2.1; omega)⟩) (fun p p' s W W' h hb hp=>⟨hIx.ext _ _ _ _ _ h.1 hb hp,keep h.2 hb⟩) ?_ ⟨vI,⟨vL,vD⟩,vp⟩).mono ?_
  ·-- one round
   rintro p pre x W0 W ⟨hi,ht,hpn⟩ hN hW hR
   replace ht:=keep ht hW
   have hl:=ht.1
   rw [hrc] at hl
   have hy:=run_yield (P:=P) (args:=encs x) hl (hps x)
   refine ⟨fn,_,assign,body,hy,roundIn_of_wpIn hfn (hassign _ x W _ ⟨_,run_beginRound hl rfl,?_⟩)⟩
   have ht2:two .busy none (W.putObj (D+1) (rc .busy none)):=turn _ _ ht
   have e2:(Obj.loop { state:=.busy,pending:=none,fn,tmps:=a.tmps,params:=ps,assign,body,defers:=D })=rc .busy none:=by rw [hrc]
   have gP:∀ X:World,∀ o,Grown (fun g=>¬ p g) X (X.putObj (D+1) o):=fun X o=>⟨rfl,rfl,rfl,by simp,fun k _ hk=>World.putObj_heap_other (fun e=>hk (by rw [e]; exact hpn))⟩
   have hb:=hbody (D+1) p pre x W0 W (W.putObj (D+1) (rc .busy none)) hi hN hW hR ⟨_,_,by rw [hD]; exact ht.1,rcC _ _,by rw [hD]⟩ (fun k hk=>by
    rw [hD] at hk
    rcases hk with rfl | rfl
    ·exact ⟨_,ht2.2,rfl⟩
    ·exact ⟨_,ht2.1,rcC _ _⟩)
   rw [hD] at hb
   rw [e2]
   refine wpIn_mono hb ?_
   have fin:∀ (jump:Option Code) (W3:World),KeepL D (W.putObj (D+1) (rc .busy none)) W3 →
    two .busy none W3∧(Instr.endRound (D+1) jump).run P W3=.ok (.bool jump.isNone) (W3.putObj (D+1) (rc (if jump.isNone then .ready else .done) jump)):=fun jump W3 hk=>by
    have h3:two .busy none W3:=⟨hk _ (Or.inr rfl) _ ht2.1 (rcC _ _),hk _ (Or.inl rfl) _ ht2.2 rfl⟩
    have hl3:=h3.1
    rw [hrc] at hl3
    have:=run_endRound (P:=P) jump hl3
    exact ⟨h3,by rw [this,hrc]⟩
   rintro e a3 W3 hp
   cases e with
   | normal=>
     obtain ⟨hk,hb3,hi3⟩:=hp
     obtain ⟨h3,hr⟩:=fin none W3 hk
     exact ⟨_,_,hr,.inl ⟨rfl,⟨hI.put _ _ _ _ _ _ hi3 (Or.inr rfl) h3.1 (rcC _ _),turn _ _ h3,hpn⟩,((gP W _).trans hb3).trans (gP W3 _)⟩⟩
   | ret=>
     obtain ⟨hk,hi3⟩:=hp
     obtain ⟨h3,hr⟩:=fin (some .ret) W3 hk
     exact ⟨_,_,hr,.inr ⟨rfl,hIx.put _ _ _ _ _ _ hi3 (Or.inr rfl) h3.1 (rcC _ _),turn _ _ h3⟩⟩
   | exit id=>exact hp.elim
   | goto t=>exact hp.elim
   | panic ch=>exact hp.elim
   | outgrown=>exact hp.elim
  ·-- behind the iterator
   rintro e W2 ⟨⟨v,rfl⟩,(⟨xs,hS,hi,ht, -⟩ | ⟨pre,hSp,hi,ht⟩)⟩
   ·have hl:=ht.1
    rw [hrc] at hl
    refine ⟨none,_,run_endLoop (P:=P) hl (by simp),?_⟩
    have:=hdone xs (W2.putObj (D+1) (.loop { state:=.exhausted,pending:=none,fn,tmps:=a.tmps,params:=ps,assign,body,defers:=D })) hS (hI.put _ _ _ _ _ _ hi (Or.inr rfl) ht.1 (rcC _ _)) (by rw [hD]; exact (World.putObj_heap_other (by omega)).trans ht.2)
    rw [hD] at this
    exact this
   ·have hl:=ht.1
    rw [hrc] at hl
    refine ⟨some .ret,_,run_endLoop (P:=P) hl (by simp),?_⟩
    have:=hstop pre (W2.putObj (D+1) (.loop { state:=.exhausted,pending:=some .ret,fn,tmps:=a.tmps,params:=ps,assign,body,defers:=D })) hSp (hIx.put _ _ _ _ _ _ hi (Or.inr rfl) ht.1 (rcC _ _)) (by rw [hD]; exact (World.putObj_heap_other (by omega)).trans ht.2)
    rw [hD] at this
    exact this
end
end Go.Proofs.YtbcfpdlhieaepaaGreatDoor
