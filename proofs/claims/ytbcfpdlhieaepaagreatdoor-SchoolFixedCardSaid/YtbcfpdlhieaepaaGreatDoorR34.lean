/- The walk of the law's do: an act, done. -/
import Derived.Test.YtbcfpdlhieaepaaGreatDoorR28
import Derived.Test.YtbcfpdlhieaepaaGreatDoorR33
import Derived.Test.YtbcfpdlhieaepaaGreatDoorR32
import Derived.Test.YtbcfpdlhieaepaaGreatDoorR21
import Derived.Test.YtbcfpdlhieaepaaGreatDoorR12
import Derived.RangeFuncNested
import Derived.RangeFuncBound
import Derived.RangeFuncCalls
import Derived.RangeFuncLeaves
import Derived.Test.YtbcfpdlhieaepaaGreatDoorR04
import Derived.Test.YtbcfpdlhieaepaaGreatDoorR17
import Derived.Test.YtbcfpdlhieaepaaGreatDoorR18
namespace Go.Proofs.YtbcfpdlhieaepaaGreatDoor
section
open Go.RowKit SeedP Go.Maps
/-- an act, as it is handed by value -/
abbrev actV (a:SActP) (vb vt:Value):Value:=.agg #[.int .i64 a.kind,strV a.cls,strV a.stu,strV a.task.cls,strV a.task.name,.int .i64 a.task.frm,.int .i64 a.task.due,.int .i64 a.task.late,.int .i64 a.task.tries,vb,.int .i64 a.id,.int .i64 a.n,vt]
set_option maxRecDepth 100000 in
set_option maxHeartbeats 2000000 in
/-- do -/
theorem sdo_c {sb jb db mb:Nat} {p:Nat→Prop} {s:JS} (a:SActP) (ab ax:Option Addr) (cb cx:Nat) (w:World) (h:SW w sb jb db mb p s) (hok:SOk s) (hvb:RdB w w.heap.size (.slice ab a.task.body.length cb) a.task.body) (hvt:RdB w w.heap.size (.slice ax a.text.length cx) a.text) (hbl:a.task.body.length≤1000000) (htl:a.text.length≤1000000) :
 Calls Tryz.prog 14 #[sv sb,actV a (.slice ab a.task.body.length cb) (.slice ax a.text.length cx)] w fun e w'=>e=.returned (.tuple #[.int .i64 (doP a s).2.1,.int .i64 (doP a s).2.2])∧ActPost w sb jb db mb p (doP a s).1 w':=by
 have hun:undef=Value.tuple #[]:=rfl
 have HP:=Lib.hid (fun W=>pick_c a.kind 10 W (by omega) (by omega))
 have hk0:0≤a.kind % 10:=Int.emod_nonneg _ (by omega)
 have hk1:a.kind % 10 < 10:=Int.emod_lt_of_pos _ (by omega)
 have W0:=Lib.hid h
 have HB:=Lib.hid hvb
 have HT:=Lib.hid hvt
 obtain ⟨r,hr⟩:∃ r,doP a s=r:=⟨_,rfl⟩
 rw [hr]
 unfold doP at hr
 obtain ⟨k,hk⟩:∃ k,a.kind % 10=k:=⟨_,rfl⟩
 rw [hk] at hr HP hk0 hk1
 obtain ⟨kind,cls,stu,⟨tcls,tname,frm,due,late,tries,body⟩,id,n,text⟩:=a
 simp only at hr hbl htl HB HT HP ⊢
 clear hk h hvb hvt
 have hY:=Blk.new w 37 [.int .i64 kind,strV cls,strV stu,strV tcls,strV tname,.int .i64 frm,.int .i64 due,.int .i64 late,.int .i64 tries,.slice ab body.length cb,.int .i64 id,.int .i64 n,.slice ax text.length cx]
 have hb1:=(Below.refl w.heap.size w).alloc (Nat.le_refl _) (.cells #[.int .i64 kind,strV cls,strV stu,strV tcls,strV tname,.int .i64 frm,.int .i64 due,.int .i64 late,.int .i64 tries,.slice ab body.length cb,.int .i64 id,.int .i64 n,.slice ax text.length cx] 37)
 have hW1:=W0.out.below hb1
 have hB1:=HB.out.below hb1
 have hT1:=HT.out.below hb1
 have HPOST:=Lib.hid (fun s' W' (hA:ActPost (w.alloc (.cells #[.int .i64 kind,strV cls,strV stu,strV tcls,strV tname,.int .i64 frm,.int .i64 due,.int .i64 late,.int .i64 tries,.slice ab body.length cb,.int .i64 id,.int .i64 n,.slice ax text.length cx] 37)) sb jb db mb p s' W')=>ActPost.of W0.out hb1 (hA.sw.jw) hA.gr)
 go_enter Tryz.func14,Tryz.ntmps14
 go_upto_region 1 with (fail)
 change Code.wp _ _ _ _ (w.alloc (.cells #[.int .i64 kind,strV cls,strV stu,strV tcls,strV tname,.int .i64 frm,.int .i64 due,.int .i64 late,.int .i64 tries,.slice ab body.length cb,.int .i64 id,.int .i64 n,.slice ax text.length cx] 37))
 have hle:=hb1.size
 generalize w.alloc (.cells #[.int .i64 kind,strV cls,strV stu,strV tcls,strV tname,.int .i64 frm,.int .i64 due,.int .i64 late,.int .i64 tries,.slice ab body.length cb,.int .i64 id,.int .i64 n,.slice ax text.length cx] 37)=w1 at *
 generalize w.heap.size=bx at *
 have y0:=hY.cell 0 (by simp)
 have y1:=hY.cell 1 (by simp)
 have y2:=hY.cell 2 (by simp)
 have y3:=hY.cell 3 (by simp)
 have y4:=hY.cell 4 (by simp)
 have y5:=hY.cell 5 (by simp)
 have y6:=hY.cell 6 (by simp)
 have y7:=hY.cell 7 (by simp)
 have y8:=hY.cell 8 (by simp)
 have y9:=hY.cell 9 (by simp)
 have y10:=hY.cell 10 (by simp)
 have y11:=hY.cell 11 (by simp)
 have y12:=hY.cell 12 (by simp)
 simp only [List.getD_cons_succ,List.getD_cons_zero] at y0 y1 y2 y3 y4 y5 y6 y7 y8 y9 y10 y11 y12
 clear hY hb1
 have HB1:=Lib.hid (hB1.mono hle)
 have HT1:=Lib.hid (hT1.mono hle)
 have HW1:=Lib.hid hW1
 clear hB1 hT1 hW1 HB HT W0 hle
 have hc:k=0∨k=1∨k=2∨k=3∨k=4∨k=9∨(k ≠ 0∧k ≠ 1∧k ≠ 2∧k ≠ 3∧k ≠ 4∧k ≠ 9):=by omega
 clear hk0 hk1
 rcases hc with hk | hk | hk | hk | hk | hk | ⟨h0,h1,h2,h3,h4,h9⟩
 ·subst hk
  have HC:=Lib.hid (addClass_c cls w1 HW1.out)
  have HE:Hid (r=((addClassP cls s).1,0,(addClassP cls s).2)):=Lib.hid (by rw [← hr]; rfl)
  clear hr HW1 HB1 HT1
  go_wp2_with fail
  refine (HP.out _).mono ?_
  rintro e _ ⟨rfl,rfl⟩
  go_wp2_with fail
  refine HC.out.mono ?_
  rintro e w2 ⟨rfl,hA⟩
  go_wp2
  refine bodyPost_ret (results_tmp2 rfl _ _ _) rfl ?_
  rw [HE.out]
  exact ⟨rfl,HPOST.out _ _ hA⟩
 ·subst hk
  have HC:=Lib.hid (enroll_c cls stu w1 HW1.out)
  have HE:Hid (r=((enrollP cls stu s).1,0,(enrollP cls stu s).2)):=Lib.hid (by rw [← hr]; rfl)
  clear hr HW1 HB1 HT1
  go_wp2_with fail
  refine (HP.out _).mono ?_
  rintro e _ ⟨rfl,rfl⟩
  go_wp2_with fail
  refine HC.out.mono ?_
  rintro e w2 ⟨rfl,hA⟩
  go_wp2
  refine bodyPost_ret (results_tmp2 rfl _ _ _) rfl ?_
  rw [HE.out]
  exact ⟨rfl,HPOST.out _ _ hA⟩
 ·subst hk
  have HC:=Lib.hid (leave_c cls stu w1 HW1.out)
  have HE:Hid (r=((leaveP cls stu s).1,0,(leaveP cls stu s).2)):=Lib.hid (by rw [← hr]; rfl)
  clear hr HW1 HB1 HT1
  go_wp2_with fail
  refine (HP.out _).mono ?_
  rintro e _ ⟨rfl,rfl⟩
  go_wp2_with fail
  refine HC.out.mono ?_
  rintro e w2 ⟨rfl,hA⟩
  go_wp2
  refine bodyPost_ret (results_tmp2 rfl _ _ _) rfl ?_
  rw [HE.out]
  exact ⟨rfl,HPOST.out _ _ hA⟩
 ·subst hk
  have HC:=Lib.hid (addTask_c ⟨tcls,tname,frm,due,late,tries,body⟩ ab cb w1 HW1.out HB1.out hbl)
  have HE:Hid (r=addTaskP ⟨tcls,tname,frm,due,late,tries,body⟩ s):=Lib.hid (by rw [← hr]; rfl)
  clear hr HW1 HB1 HT1
  go_wp2_with fail
  refine (HP.out _).mono ?_
  rintro e _ ⟨rfl,rfl⟩
  go_wp2_with fail
  refine HC.out.mono ?_
  rintro e w2 ⟨rfl,hA⟩
  go_wp2
  refine bodyPost_ret (results_tmp2 rfl _ _ _) rfl ?_
  rw [HE.out]
  exact ⟨rfl,HPOST.out _ _ hA⟩
 ·subst hk
  have HC:=Lib.hid (extend_c id stu n w1 HW1.out)
  have HE:Hid (r=((extendP id stu n s).1,0,(extendP id stu n s).2)):=Lib.hid (by rw [← hr]; rfl)
  clear hr HW1 HB1 HT1
  go_wp2_with fail
  refine (HP.out _).mono ?_
  rintro e _ ⟨rfl,rfl⟩
  go_wp2_with fail
  refine HC.out.mono ?_
  rintro e w2 ⟨rfl,hA⟩
  go_wp2
  refine bodyPost_ret (results_tmp2 rfl _ _ _) rfl ?_
  rw [HE.out]
  exact ⟨rfl,HPOST.out _ _ hA⟩
 ·subst hk
  have HE:Hid (r=(s,0,0)):=Lib.hid (by rw [← hr]; rfl)
  have HA:=Lib.hid (HPOST.out s w1 (ActPost.same HW1.out (Below.refl _ _)))
  clear hr HW1 HB1 HT1
  go_wp2_with fail
  refine (HP.out _).mono ?_
  rintro e _ ⟨rfl,rfl⟩
  go_wp2
  refine bodyPost_ret (results_tmp2 rfl _ _ _) rfl ?_
  rw [HE.out]
  exact ⟨rfl,HA.out⟩
 ·have HC:=Lib.hid (submit_c id stu n text ax cx w1 HW1.out hok HT1.out htl)
  have HE:Hid (r=submitP id stu n text s):=Lib.hid (by rw [← hr,if_neg h0,if_neg h1,if_neg h2,if_neg h3,if_neg h4,if_neg h9])
  have q0:(k == 0)=false:=by simpa using h0
  have q1:(k == 1)=false:=by simpa using h1
  have q2:(k == 2)=false:=by simpa using h2
  have q3:(k == 3)=false:=by simpa using h3
  have q4:(k == 4)=false:=by simpa using h4
  have q9:(k == 9)=false:=by simpa using h9
  clear hr HW1 HB1 HT1 h0 h1 h2 h3 h4 h9
  go_wp2_with fail
  refine (HP.out _).mono ?_
  rintro e _ ⟨rfl,rfl⟩
  go_wp2_with fail
  refine HC.out.mono ?_
  rintro e w2 ⟨rfl,hA⟩
  go_wp2
  refine bodyPost_ret (results_tmp2 rfl _ _ _) rfl ?_
  rw [HE.out]
  exact ⟨rfl,HPOST.out _ _ hA⟩
end
section
open Go.RowKit SeedP Go.Maps
/-- while two files are copied -/
structure CpG2 (W:World) (pw:Int) (l0 l1:List UInt8) (ds:List Bool) (vs:List Value) (w:World):Prop where
 be:Below W.heap.size W w
 g0:ds.getD 0 false=true→w.ownsRow W.heap.size 5 1 (vs.getD 0 undef) l0.length (byts l0)
 g1:ds.getD 1 false=true→w.ownsRow W.heap.size 5 1 (vs.getD 1 undef) l1.length (byts l1)
 ne:ds.getD 0 false=true→ds.getD 1 false=true→∀ g,(vs.getD 0 undef).ownBlock=some g→(vs.getD 1 undef).ownBlock ≠ some g
 g2:ds.getD 2 false=true→vs.getD 2 undef=.agg #[vs.getD 0 undef,vs.getD 1 undef]
 g3:ds.getD 3 false=true→vs.getD 3 undef=.agg #[.int .i64 pw,vs.getD 0 undef,vs.getD 1 undef]
 g4:ds.getD 4 false=true→∃ q,vs.getD 4 undef=.pointer (some ⟨q,0,none⟩)∧W.heap.size≤q∧Blk w q 29 [.int .i64 pw,vs.getD 0 undef,vs.getD 1 undef]
 g5:ds.getD 5 false=true→vs.getD 5 undef=vs.getD 4 undef
section
variable {W w w':World} {pw:Int} {l0 l1:List UInt8} {d0 d1 d2 d3 d4 d5:Bool} {u0 u1 u2 u3 u4 u5:Value}
theorem own_keepB {B n m:Nat} {e:TypeId} {v:Value} {xs:List Value} (h:w.ownsRow B e m v n xs) (hb:Below w.heap.size w w'):w'.ownsRow B e m v n xs:=own_grown h (Grown.of_below hb (S:=fun _=>False)) (fun _ _ _ h=>h)
theorem CpG2.b2 (h:CpG2 W pw l0 l1 [d0,d1,d2,d3,d4,d5] [u0,u1,u2,u3,u4,u5] w) {v:Value} (e:v=.agg #[u0,u1]):CpG2 W pw l0 l1 [d0,d1,true,d3,d4,d5] [u0,u1,v,u3,u4,u5] w:=⟨h.be,h.g0,h.g1,h.ne,fun _=>e,h.g3,h.g4,h.g5⟩
theorem CpG2.b3 (h:CpG2 W pw l0 l1 [d0,d1,d2,d3,d4,d5] [u0,u1,u2,u3,u4,u5] w) {v:Value} (e:v=.agg #[.int .i64 pw,u0,u1]):CpG2 W pw l0 l1 [d0,d1,d2,true,d4,d5] [u0,u1,u2,v,u4,u5] w:=⟨h.be,h.g0,h.g1,h.ne,h.g2,fun _=>e,h.g4,h.g5⟩
theorem CpG2.b4 (h:CpG2 W pw l0 l1 [d0,d1,d2,d3,d4,d5] [u0,u1,u2,u3,u4,u5] w) (h5:d5=false):CpG2 W pw l0 l1 [d0,d1,d2,d3,true,d5] [u0,u1,u2,u3,.pointer (some ⟨w.heap.size,0,none⟩),u5] (w.alloc (.cells #[.int .i64 pw,u0,u1] 29)):=by
 subst h5
 have hb:=(Below.refl w.heap.size w).alloc (Nat.le_refl _) (.cells #[.int .i64 pw,u0,u1] 29)
 exact ⟨h.be.trans (hb.mono h.be.size),fun e=>own_keepB (h.g0 e) hb,fun e=>own_keepB (h.g1 e) hb,h.ne,h.g2,h.g3,fun _=>⟨_,rfl,h.be.size,Blk.new w _ [.int .i64 pw,u0,u1]⟩,(fun e=>by cases e)⟩
theorem CpG2.b5 (h:CpG2 W pw l0 l1 [d0,d1,d2,d3,d4,d5] [u0,u1,u2,u3,u4,u5] w):CpG2 W pw l0 l1 [d0,d1,d2,d3,d4,true] [u0,u1,u2,u3,u4,u4] w:=⟨h.be,h.g0,h.g1,h.ne,h.g2,h.g3,h.g4,fun _=>rfl⟩
end
section
variable {ρ:Operand→Value} {d:Option Tmp} {ty:TypeId} {pos:String} {af:Array Edge} {gd:Option (Nat × Bool)}
end
end
section
open Go.RowKit SeedP
/-- an invariant of a loop: p are blocks that rounds leave alone. New blocks may be laid, and taken into p; the loop's own two blocks may turn -/
structure LoopAb {α:Type} (D:Nat) (I:(Nat→Prop)→List α→World→Prop):Prop where
 ext:∀ p p' s W W',I p s W→Below W.heap.size W W'→(∀ g,p' g→p g∨(W.heap.size≤g∧g < W'.heap.size))→I p' s W'
 put:∀ p s W k o o',I p s W→(k=D∨k=D+1)→W.heap[k]?=some o→o.isCells=false→I p s (W.putObj k o')
/-- an iterator: between two rounds it only lays new blocks; of each value it tells R; what it has laid is left alone if it says so -/
def Iter {α:Type} (F:Fence) (n:Nat) (P:Program) (g:Nat) (lb:Array Value) (encs:α→Array Value) (R:α→Nat→World→Prop) (S Sp:List α→Prop) (N:Nat) (w:World) (p0:Nat→Prop):Prop:=
 ∀ (l:Nat) (J Jx:(Nat→Prop)→List α→World→Prop) (W:World),Below w.heap.size w W →
   (∀ p p' s W W',J p s W→Below W.heap.size W W'→(∀ g,p' g→p g∨(W.heap.size≤g∧g < W'.heap.size))→J p' s W')→(∀ p p' s W W',Jx p s W→Below W.heap.size W W'→(∀ g,p' g→p g∨(W.heap.size≤g∧g < W'.heap.size))→Jx p' s W') →
   (∀ p pre x W0 W1,J p pre W0→pre.length < N→Below W0.heap.size W0 W1→R x W0.heap.size W1→YieldAt F (n - 1) P l (encs x) W1 fun e W'=>(e=.returned (.bool true)∧J p (pre ++ [x]) W'∧Grown (fun g=>¬ p g) W1 W')∨(e=.returned (.bool false)∧Jx p (pre ++ [x]) W')) →
   J p0 [] W→CallsIn F n P g (#[.func (.yield l) #[] #[]] ++ lb) W fun e W'=>(∃ v,e=.returned v)∧((∃ xs,S xs∧J p0 xs W')∨(∃ pre,Sp pre∧Jx p0 pre W'))
/-- what is kept of a loop's two blocks -/
def KeepL (D:Nat) (W W':World):Prop:=∀ k,(k=D∨k=D+1)→∀ o,W.heap[k]?=some o→o.isCells=false→W'.heap[k]?=some o
/-- how a round's body may end -/
def iterPost {α:Type} (D:Nat) (p:Nat→Prop) (I Ix:(Nat→Prop)→List α→World→Prop) (xs:List α) (W:World):Exit→Act→World→Prop
 | .normal,_,W'=>KeepL D W W'∧Grown (fun g=>¬ p g) W W'∧I p xs W'
 | .ret,_,W'=>KeepL D W W'∧Ix p xs W'
 | _,_,_=>False
theorem rangeFunc_iter {F:Fence} {n:Nat} {P:Program} {α:Type} {g:Operand} {ps:Array Tmp} {assign body:Code} {Q:Exit→Act→World→Prop} {a:Act} {w:World}
 (hro:F.round=none) (h1:1≤n) {gf:Nat} {lb:Array Value} (hg:a.eval g=.func (.func gf) #[] lb) (hFg:F.fn gf) (eg:∀ args w,(callFunc gf args).run P w=.ok (.enter gf args) w)
 {encs:α→Array Value} {R:α→Nat→World→Prop} {S Sp:List α→Prop} {N:Nat} {p0:Nat→Prop} (hp0:∀ g,p0 g→g < w.heap.size) (hit:Iter F (n - 1) P gf lb encs R S Sp N w p0) (hps:∀ x,(encs x).size=ps.size)
 (I Ix:(Nat→Prop)→List α→World→Prop) (hI:LoopAb w.heap.size I) (hIx:LoopAb w.heap.size Ix) (h0:I p0 [] w) (a₁:α→Act)
 (hassign:∀ (l:Nat) (x:α) (W:World) (K:Act→World→Prop),K (a₁ x) W→assign.wpIn (F.inRound l) (n - 1 - 1) P (Exit.then K (fun _ _ _=>False)) { tmps:=(ps.zip (encs x)).foldl (fun t (p,v)=>t.setIfInBounds p v) a.tmps,defers:=[] } W)
 (hbody:∀ (l:Nat) (p:Nat→Prop) (pre:List α) (x:α) (W0 W1 W:World),I p pre W0→pre.length < N→Below W0.heap.size W0 W1→R x W0.heap.size W1→(∃ o o',W1.heap[w.heap.size+1]?=some o∧o.isCells=false∧W=W1.putObj (w.heap.size+1) o')→(∀ k,k=w.heap.size∨k=w.heap.size+1→∃ o,W.heap[k]?=some o∧o.isCells=false) →
  body.wpIn (F.inRound l) (n - 1 - 1) P (iterPost w.heap.size p I Ix (pre ++ [x]) W) (a₁ x) W)
 (hdone:∀ (xs:List α) (W:World),S xs→I p0 xs W→W.heap[w.heap.size]?=some (.deferred (some []))→Q .normal { a with defers:={ target:=.collected w.heap.size,args:=#[] } :: a.defers } W)
 (hstop:∀ (pre:List α) (W:World),Sp pre→Ix p0 pre W→W.heap[w.heap.size]?=some (.deferred (some []))→Code.ret.wpIn F n P Q { a with defers:={ target:=.collected w.heap.size,args:=#[] } :: a.defers } W) :
 (Code.rangeFunc g ps assign body).wpIn F n P Q a w:=by
 refine wpIn_rangeFunc fun fn hfn=>?_
 rw [hro]
 obtain ⟨D,hD⟩:∃ D,w.heap.size=D:=⟨_,rfl⟩
 obtain ⟨rc,hrc⟩:∃ rc:LoopState→Option Code→Obj,rc=fun st pe=>.loop { state:=st,pending:=pe,fn,tmps:=a.tmps,params:=ps,assign,body,defers:=D }:=⟨_,rfl⟩
 obtain ⟨V,hV⟩:∃ V,(w.alloc (.deferred (some []))).alloc (rc .ready none)=V:=⟨_,rfl⟩
 have rcC:∀ st pe,(rc st pe).isCells=false:=fun st pe=>by rw [hrc]; rfl
 have rcW:∀ st pe,∃ r,rc st pe=.loop r:=fun st pe=>by rw [hrc]; exact ⟨_,rfl⟩
 have vL:V.heap[D+1]?=some (rc .ready none):=by
  have:=World.alloc_heap_new (w.alloc (.deferred (some []))) (rc .ready none)
  rwa [World.size_alloc,hD,hV] at this
 have vD:V.heap[D]?=some (.deferred (some [])):=by
  rw [← hV,← hD]
  exact (Below.heap_alloc _ _ _ (by simp)).trans (World.alloc_heap_new w _)
 have vB:Below w.heap.size w V:=by
  rw [← hV]
  exact ((Below.refl _ w).alloc (Nat.le_refl _) _).alloc (by simp) _
 have vI:I p0 [] V:=hI.ext _ _ _ _ _ h0 vB (fun _ h=>Or.inl h)
 have vp:¬ p0 (D+1):=fun h=>by have:=hp0 _ h; omega
 rw [hD] at hI hIx
 -- the loop's two blocks beside an invariant
 let two:(st:LoopState)→(pe:Option Code)→World→Prop:=fun st pe W=>W.heap[D+1]?=some (rc st pe)∧W.heap[D]?=some (.deferred (some []))
 have keep:∀ {st pe} {W W':World},two st pe W→Below W.heap.size W W'→two st pe W':=fun h hb=>⟨(hb.block _ (Array.getElem?_eq_some_iff.1 h.1).1).trans h.1,(hb.block _ (Array.getElem?_eq_some_iff.1 h.2).1).trans h.2⟩
 have turn:∀ {st pe} {W:World} (st' pe'),two st pe W→two st' pe' (W.putObj (D+1) (rc st' pe')):=fun st' pe' h=>⟨World.putObj_heap_same (Array.getElem?_eq_some_iff.1 h.1).1,(World.putObj_heap_other (by omega)).trans h.2⟩
 refine ⟨D+1,[{ target:=.collected D,args:=#[] }],V,{ target:=.fn (.func gf) lb,args:=#[.func (.yield (D+1)) #[] #[]] },V,gf,#[.func (.yield (D+1)) #[] #[]] ++ lb,V,?_,?_,?_,?_,fun _=>h1,?_⟩
 ·rw [← hV,hrc,← hD]; exact run_enterLoop_outer _ _ _ _ _
 ·simp only [resolve,hg]
  simp [go_sem]
 ·intro f' hf'; simp [Target.leads] at hf'; subst hf'; exact hFg
 ·simp [invoke,go_sem,eg]
 ·refine (hit (D+1) (fun p pre W=>I p pre W∧two .ready none W∧¬ p (D+1)) (fun p pre W=>Ix p pre W∧two .done (some .ret) W) V vB (fun p p' s W W' h hb hp=>⟨hI.ext _ _ _ _ _ h.1 hb hp,keep h.2.1 hb,fun e=>(hp _ e).elim h.2.2 (fun e2=>by have:=(Array.getElem?_eq_some_iff.1 h.2.1.1).1; have:=e2.1; omega)⟩) (fun p p' s W W' h hb hp=>⟨hIx.ext _ _ _ _ _ h.1 hb hp,keep h.2 hb⟩) ?_ ⟨vI,⟨vL,vD⟩,vp⟩).mono ?_
  ·-- one round
   rintro p pre x W0 W ⟨hi,ht,hpn⟩ hN hW hR
   replace ht:=keep ht hW
   have hl:=ht.1
   rw [hrc] at hl
   have hy:=run_yield (P:=P) (args:=encs x) hl (hps x)
   refine ⟨fn,_,assign,body,hy,roundIn_of_wpIn hfn (hassign _ x W _ ⟨_,run_beginRound hl rfl,?_⟩)⟩
   have ht2:two .busy none (W.putObj (D+1) (rc .busy none)):=turn _ _ ht
   have e2:(Obj.loop { state:=.busy,pending:=none,fn,tmps:=a.tmps,params:=ps,assign,body,defers:=D })=rc .busy none:=by rw [hrc]
   have gP:∀ X:World,∀ o,Grown (fun g=>¬ p g) X (X.putObj (D+1) o):=fun X o=>⟨rfl,rfl,rfl,by simp,fun k _ hk=>World.putObj_heap_other (fun e=>hk (by rw [e]; exact hpn))⟩
   have hb:=hbody (D+1) p pre x W0 W (W.putObj (D+1) (rc .busy none)) hi hN hW hR ⟨_,_,by rw [hD]; exact ht.1,rcC _ _,by rw [hD]⟩ (fun k hk=>by
    rw [hD] at hk
    rcases hk with rfl | rfl
    ·exact ⟨_,ht2.2,rfl⟩
    ·exact ⟨_,ht2.1,rcC _ _⟩)
   rw [hD] at hb
   rw [e2]
   refine wpIn_mono hb ?_
   have fin:∀ (jump:Option Code) (W3:World),KeepL D (W.putObj (D+1) (rc .busy none)) W3 →
    two .busy none W3∧(Instr.endRound (D+1) jump).run P W3=.ok (.bool jump.isNone) (W3.putObj (D+1) (rc (if jump.isNone then .ready else .done) jump)):=fun jump W3 hk=>by
    have h3:two .busy none W3:=⟨hk _ (Or.inr rfl) _ ht2.1 (rcC _ _),hk _ (Or.inl rfl) _ ht2.2 rfl⟩
    have hl3:=h3.1
    rw [hrc] at hl3
    have:=run_endRound (P:=P) jump hl3
    exact ⟨h3,by rw [this,hrc]⟩
   rintro e a3 W3 hp
   cases e with
   | normal=>
     obtain ⟨hk,hb3,hi3⟩:=hp
     obtain ⟨h3,hr⟩:=fin none W3 hk
     exact ⟨_,_,hr,.inl ⟨rfl,⟨hI.put _ _ _ _ _ _ hi3 (Or.inr rfl) h3.1 (rcC _ _),turn _ _ h3,hpn⟩,((gP W _).trans hb3).trans (gP W3 _)⟩⟩
   | ret=>
     obtain ⟨hk,hi3⟩:=hp
     obtain ⟨h3,hr⟩:=fin (some .ret) W3 hk
     exact ⟨_,_,hr,.inr ⟨rfl,hIx.put _ _ _ _ _ _ hi3 (Or.inr rfl) h3.1 (rcC _ _),turn _ _ h3⟩⟩
   | exit id=>exact hp.elim
   | goto t=>exact hp.elim
   | panic ch=>exact hp.elim
   | outgrown=>exact hp.elim
  ·-- behind the iterator
   rintro e W2 ⟨⟨v,rfl⟩,(⟨xs,hS,hi,ht, -⟩ | ⟨pre,hSp,hi,ht⟩)⟩
   ·have hl:=ht.1
    rw [hrc] at hl
    refine ⟨none,_,run_endLoop (P:=P) hl (by simp),?_⟩
    have:=hdone xs (W2.putObj (D+1) (.loop { state:=.exhausted,pending:=none,fn,tmps:=a.tmps,params:=ps,assign,body,defers:=D })) hS (hI.put _ _ _ _ _ _ hi (Or.inr rfl) ht.1 (rcC _ _)) (by rw [hD]; exact (World.putObj_heap_other (by omega)).trans ht.2)
    rw [hD] at this
    exact this
   ·have hl:=ht.1
    rw [hrc] at hl
    refine ⟨some .ret,_,run_endLoop (P:=P) hl (by simp),?_⟩
    have:=hstop pre (W2.putObj (D+1) (.loop { state:=.exhausted,pending:=some .ret,fn,tmps:=a.tmps,params:=ps,assign,body,defers:=D })) hSp (hIx.put _ _ _ _ _ _ hi (Or.inr rfl) ht.1 (rcC _ _)) (by rw [hD]; exact (World.putObj_heap_other (by omega)).trans ht.2)
    rw [hD] at this
    exact this
end
section
open Go.RowKit SeedP Go.Maps
structure GoodC (c:ContP):Prop where
 inC:∀ x ∈ c.inClass,x.length≤1000000
 tk:c.tasks.length≤9999
 tr:∀ e ∈ c.tries,e.2 ∈ c.ofTask
theorem GoodC.z:GoodC contZ:=⟨fun x hx=>(by cases hx),(by simp [contZ]),fun e he=>(by cases he)⟩
theorem setT_in {l:List (List UInt8 × Nat)} {k:List UInt8} {n:Nat} {e:List UInt8 × Nat} (h:e ∈ setT l k n):e ∈ l∨e.2=n:=by
 unfold setT at h
 split at h
 ·obtain ⟨y,hy,he⟩:=List.mem_map.1 h
  split at he
  ·right; rw [← he]
  ·left; rw [← he]; exact hy
 ·rcases List.mem_append.1 h with h | h
  ·exact Or.inl h
  ·right; rw [List.mem_singleton.1 h]
theorem entStep_good {c:ContP} {e:List UInt8 × List UInt8} (h:GoodC c) (hs:(entStep c e).2=true):GoodC (entStep c e).1:=by
 obtain ⟨k,v⟩:=e
 cases k with
 | nil=>cases hs
 | cons k rest=>
   unfold entStep at hs ⊢
   simp only at hs ⊢
   split at hs
   ·next h1=>
    rw [if_pos h1]
    exact ⟨h.inC,h.tk,h.tr⟩
   ·next h1=>
    rw [if_neg h1]
    split at hs
    ·next h2=>
     rw [if_pos h2]
     unfold memStep at hs ⊢
     simp only [Bool.and_eq_true] at hs
     refine ⟨fun x hx=>?_,h.tk,h.tr⟩
     rcases List.mem_append.1 hx with hx | hx
     ·exact h.inC x hx
     ·rw [List.mem_singleton.1 hx]
      have:=isNameP_len hs.1.1.2
      omega
    ·next h2=>
     rw [if_neg h2]
     split at hs
     ·next h3=>
      rw [if_pos h3]
      unfold tskStep at hs ⊢
      simp only [Bool.and_eq_true,decide_eq_true_eq] at hs ⊢
      refine ⟨fun x hx=>?_,by simp only [List.length_append,List.length_cons,List.length_nil]; exact hs.1.2,h.tr⟩
      rcases List.mem_append.1 hx with hx | hx
      ·exact h.inC x hx
      ·rw [List.mem_singleton.1 hx]
       obtain ⟨t,ht⟩:=Option.isSome_iff_exists.1 hs.1.1
       rw [ht,Option.getD_some]
       have ht2:=ht
       unfold readTaskP at ht2
       split at ht2
       ·cases ht2
       ·split at ht2
        ·cases ht2
        ·split at ht2
         ·cases ht2
         ·simp only at ht2
          split at ht2
          ·next hc=>
           have hc:=(Bool.and_eq_true _ _ ▸ hc:_∧_).1
           have:=((timelyB_iff _).1 hc).cls
           rw [← Option.some.inj ht2]
           have:=isNameP_len this
           simp only at this ⊢
           omega
          ·cases ht2
     ·next h3=>
      rw [if_neg h3]
      split at hs
      ·next h4=>
       rw [if_pos h4]
       unfold extStep
       exact ⟨h.inC,h.tk,fun e he=>List.mem_append.2 (Or.inl (h.tr e he))⟩
      ·next h4=>
       rw [if_neg h4]
       split at hs
       ·next h5=>
        rw [if_pos h5]
        unfold attStep at hs ⊢
        simp only at hs ⊢
        split at hs
        ·cases hs
        ·next h6=>
         rw [if_neg h6]
         split at hs
         ·cases hs
         ·next h7=>
          rw [if_neg h7]
          refine ⟨h.inC,h.tk,fun e he=>?_⟩
          simp only at he ⊢
          rcases setT_in he with he | he
          ·exact List.mem_append.2 (Or.inl (h.tr e he))
          ·exact List.mem_append.2 (Or.inr (by rw [he]; exact List.mem_singleton_self _))
       ·cases hs
theorem entsGo_good:∀ (P:PEnts) (c c':ContP),GoodC c→entsGo c P=some c'→GoodC c'
 | [],c,c',h,he=>by cases he; exact h
 | e :: r,c,c',h,he=>by
   unfold entsGo at he
   split at he
   ·next hs=>exact entsGo_good r _ _ (entStep_good h hs) he
   ·cases he
theorem entsGo_app:∀ (P Q:PEnts) (c:ContP),entsGo c (P ++ Q)=(entsGo c P).bind (fun c'=>entsGo c' Q)
 | [],Q,c=>rfl
 | e :: r,Q,c=>by
   rw [List.cons_append,entsGo,entsGo]
   split
   ·exact entsGo_app r Q _
   ·rfl
theorem entsGo_one (c:ContP) (e:List UInt8 × List UInt8):entsGo c [e]=if (entStep c e).2 then some (entStep c e).1 else none:=rfl
/-- what came first was read well -/
theorem entsGo_pre {P Q:PEnts} {c:ContP} (h:entsGo c P=none):entsGo c (P ++ Q)=none:=by rw [entsGo_app,h]; rfl
end
section
open Go.RowKit SeedP Go.Maps
structure BackI (L:List SE) (c:ContP):Prop where
 wf:∀ e ∈ L,e.Wf
 cl:∀ x ∈ c.classes,SE.cls x ∈ L
 im:∀ x s,SE.mem x s ∈ L→x ∈ c.inClass
 it:∀ i t,SE.tsk i t ∈ L→t.cls ∈ c.inClass∧i≤c.tasks.length
 tl:∀ i t,c.tasks[i]?=some t→SE.tsk (i+1) t ∈ L
 ox:∀ i s m,SE.ext i s m ∈ L→i ∈ c.ofTask
 oa:∀ i s n tm tx,SE.att i s n tm tx ∈ L→i ∈ c.ofTask∧(digP i 4 ++ s,i) ∈ c.tries∧(c.atts (digP i 4 ++ s))[n - 1]?=some tm
 al:∀ i s j tm,i≤9999→(c.atts (digP i 4 ++ s))[j]?=some tm→∃ tx,SE.att i s (j+1) tm tx ∈ L
 ord:∀ i s j a b,i≤9999→(c.atts (digP i 4 ++ s))[j]?=some a→(c.atts (digP i 4 ++ s))[j+1]?=some b→a≤b
theorem BackI.start:BackI [] contZ:=
 ⟨fun _ h=>(by cases h),fun _ h=>(by cases h),fun _ _ h=>(by cases h),fun _ _ h=>(by cases h),fun _ _ h=>(by simp [contZ] at h),fun _ _ _ h=>(by cases h),fun _ _ _ _ _ h=>(by cases h),fun _ _ _ _ _ h=>(by simp [contZ] at h),fun _ _ _ _ _ _ h=>(by simp [contZ] at h)⟩
theorem BackI.cls {L:List SE} {c:ContP} (h:BackI L c) {x:List UInt8} (hw:(SE.cls x).Wf):BackI (L ++ [.cls x]) { c with classes:=x :: c.classes }:=by
 refine ⟨fun e he=>?_,fun y hy=>?_,fun y s hm=>?_,fun i t hm=>?_,fun i t ht=>?_,fun i s m hm=>?_,fun i s n tm tx hm=>?_,fun i s j tm hi hj=>?_,h.ord⟩
 ·rcases List.mem_append.1 he with he | he
  ·exact h.wf e he
  ·rw [List.mem_singleton.1 he]; exact hw
 ·rcases List.mem_cons.1 hy with rfl | hy
  ·exact List.mem_append_right _ (List.mem_singleton.2 rfl)
  ·exact List.mem_append_left _ (h.cl y hy)
 ·exact h.im y s (by simpa using hm)
 ·exact h.it i t (by simpa using hm)
 ·exact List.mem_append_left _ (h.tl i t ht)
 ·exact h.ox i s m (by simpa using hm)
 ·exact h.oa i s n tm tx (by simpa using hm)
 ·obtain ⟨tx,ht⟩:=h.al i s j tm hi hj
  exact ⟨tx,List.mem_append_left _ ht⟩
theorem BackI.mem {L:List SE} {c:ContP} (h:BackI L c) {x s0:List UInt8} (hw:(SE.mem x s0).Wf):BackI (L ++ [.mem x s0]) { c with inClass:=c.inClass ++ [x] }:=by
 refine ⟨fun e he=>?_,fun y hy=>List.mem_append_left _ (h.cl y hy),fun y s hm=>?_,fun i t hm=>?_,fun i t ht=>?_,fun i s m hm=>?_,fun i s n tm tx hm=>?_,fun i s j tm hi hj=>?_,h.ord⟩
 ·rcases List.mem_append.1 he with he | he
  ·exact h.wf e he
  ·rw [List.mem_singleton.1 he]; exact hw
 ·rcases List.mem_append.1 hm with hm | hm
  ·exact List.mem_append_left _ (h.im y s hm)
  ·have e:=List.mem_singleton.1 hm
   cases e
   exact List.mem_append_right _ (List.mem_singleton.2 rfl)
 ·obtain ⟨k1,k2⟩:=h.it i t (by simpa using hm)
  exact ⟨List.mem_append_left _ k1,k2⟩
 ·exact List.mem_append_left _ (h.tl i t ht)
 ·exact h.ox i s m (by simpa using hm)
 ·exact h.oa i s n tm tx (by simpa using hm)
 ·obtain ⟨tx,ht⟩:=h.al i s j tm hi hj
  exact ⟨tx,List.mem_append_left _ ht⟩
theorem BackI.tsk {L:List SE} {c:ContP} (h:BackI L c) {t0:TaskP} (hw:(SE.tsk (c.tasks.length+1) t0).Wf):BackI (L ++ [.tsk (c.tasks.length+1) t0]) { c with tasks:=c.tasks ++ [t0],inClass:=c.inClass ++ [t0.cls] }:=by
 refine ⟨fun e he=>?_,fun y hy=>List.mem_append_left _ (h.cl y hy),fun y s hm=>?_,fun i t hm=>?_,fun i t ht=>?_,fun i s m hm=>?_,fun i s n tm tx hm=>?_,fun i s j tm hi hj=>?_,h.ord⟩
 ·rcases List.mem_append.1 he with he | he
  ·exact h.wf e he
  ·rw [List.mem_singleton.1 he]; exact hw
 ·exact List.mem_append_left _ (h.im y s (by simpa using hm))
 ·rcases List.mem_append.1 hm with hm | hm
  ·obtain ⟨k1,k2⟩:=h.it i t hm
   exact ⟨List.mem_append_left _ k1,by rw [List.length_append]; omega⟩
  ·have e:=List.mem_singleton.1 hm
   cases e
   exact ⟨List.mem_append_right _ (List.mem_singleton.2 rfl),by rw [List.length_append]; exact Nat.le_refl _⟩
 ·have ht:(c.tasks ++ [t0])[i]?=some t:=ht
  by_cases hl:i < c.tasks.length
  ·rw [List.getElem?_append_left hl] at ht
   exact List.mem_append_left _ (h.tl i t ht)
  ·rw [List.getElem?_append_right (by omega)] at ht
   by_cases h0:i - c.tasks.length=0
   ·rw [h0] at ht
    cases ht
    rw [show i=c.tasks.length by omega]
    exact List.mem_append_right _ (List.mem_singleton.2 rfl)
   ·rw [List.getElem?_eq_none (by rw [List.length_singleton]; omega)] at ht
    cases ht
 ·exact h.ox i s m (by simpa using hm)
 ·exact h.oa i s n tm tx (by simpa using hm)
 ·obtain ⟨tx,ht⟩:=h.al i s j tm hi hj
  exact ⟨tx,List.mem_append_left _ ht⟩
theorem BackI.ext {L:List SE} {c:ContP} (h:BackI L c) {id m0:Nat} {s0:List UInt8} (hw:(SE.ext id s0 m0).Wf):BackI (L ++ [.ext id s0 m0]) { c with ofTask:=c.ofTask ++ [id] }:=by
 refine ⟨fun e he=>?_,fun y hy=>List.mem_append_left _ (h.cl y hy),fun y s hm=>?_,fun i t hm=>?_,fun i t ht=>?_,fun i s m hm=>?_,fun i s n tm tx hm=>?_,fun i s j tm hi hj=>?_,h.ord⟩
 ·rcases List.mem_append.1 he with he | he
  ·exact h.wf e he
  ·rw [List.mem_singleton.1 he]; exact hw
 ·exact h.im y s (by simpa using hm)
 ·exact h.it i t (by simpa using hm)
 ·exact List.mem_append_left _ (h.tl i t ht)
 ·rcases List.mem_append.1 hm with hm | hm
  ·exact List.mem_append_left _ (h.ox i s m hm)
  ·have e:=List.mem_singleton.1 hm
   cases e
   exact List.mem_append_right _ (List.mem_singleton.2 rfl)
 ·obtain ⟨k1,k2,k3⟩:=h.oa i s n tm tx (by simpa using hm)
  exact ⟨List.mem_append_left _ k1,k2,k3⟩
 ·obtain ⟨tx,ht⟩:=h.al i s j tm hi hj
  exact ⟨tx,List.mem_append_left _ ht⟩
theorem setT_new (l:List (List UInt8 × Nat)) (k:List UInt8) (n:Nat):(k,n) ∈ setT l k n:=by
 unfold setT
 split
 ·rename_i h
  obtain ⟨e,he,hk⟩:=List.any_eq_true.1 h
  exact List.mem_map.2 ⟨e,he,by rw [if_pos hk]⟩
 ·exact List.mem_append_right _ (List.mem_singleton.2 rfl)
theorem setT_old {l:List (List UInt8 × Nat)} {k w:List UInt8} {n i:Nat} (h:(w,i) ∈ l) (hn:w=k→i=n):(w,i) ∈ setT l k n:=by
 unfold setT
 split
 ·refine List.mem_map.2 ⟨(w,i),h,?_⟩
  by_cases e:w=k
  ·rw [if_pos (by simpa using e),e,hn e]
  ·rw [if_neg (by simpa using e)]
 ·exact List.mem_append_left _ h
theorem BackI.att {L:List SE} {c:ContP} (h:BackI L c) {id tm0:Nat} {s0 tx0:List UInt8} (hw:(SE.att id s0 ((c.atts (digP id 4 ++ s0)).length+1) tm0 tx0).Wf) (ho:¬ (1 < (c.atts (digP id 4 ++ s0)).length+1∧tm0 < (c.atts (digP id 4 ++ s0)).getD ((c.atts (digP id 4 ++ s0)).length+1 - 2) 0)) :
 BackI (L ++ [.att id s0 ((c.atts (digP id 4 ++ s0)).length+1) tm0 tx0]) { c with ofTask:=c.ofTask ++ [id],atts:=updA c.atts (digP id 4 ++ s0) (c.atts (digP id 4 ++ s0) ++ [tm0]),tries:=setT c.tries (digP id 4 ++ s0) id }:=by
 have hid:id≤9999:=hw.2.1
 refine ⟨fun e he=>?_,fun y hy=>List.mem_append_left _ (h.cl y hy),fun y s hm=>?_,fun i t hm=>?_,fun i t ht=>?_,fun i s m hm=>?_,fun i s n tm tx hm=>?_,fun i s j tm hi hj=>?_,fun i s j a b hi ha hb=>?_⟩
 ·rcases List.mem_append.1 he with he | he
  ·exact h.wf e he
  ·rw [List.mem_singleton.1 he]; exact hw
 ·exact h.im y s (by simpa using hm)
 ·exact h.it i t (by simpa using hm)
 ·exact List.mem_append_left _ (h.tl i t ht)
 ·exact List.mem_append_left _ (h.ox i s m (by simpa using hm))
 ·show i ∈ c.ofTask ++ [id]∧(digP i 4 ++ s,i) ∈ setT c.tries _ _∧(updA c.atts (digP id 4 ++ s0) (c.atts (digP id 4 ++ s0) ++ [tm0]) (digP i 4 ++ s))[n - 1]?=some tm
  rcases List.mem_append.1 hm with hm | hm
  ·obtain ⟨k1,k2,k3⟩:=h.oa i s n tm tx hm
   have hi:i≤9999:=(h.wf _ hm).2.1
   refine ⟨List.mem_append_left _ k1,setT_old k2 (fun e=>(whose_inj hi hid e).1),?_⟩
   unfold updA
   by_cases e:digP i 4 ++ s=digP id 4 ++ s0
   ·rw [if_pos e,← e,List.getElem?_append_left (List.getElem?_eq_some_iff.1 k3).1]
    exact k3
   ·rw [if_neg e]; exact k3
  ·have e:=List.mem_singleton.1 hm
   cases e
   refine ⟨List.mem_append_right _ (List.mem_singleton.2 rfl),setT_new _ _ _,?_⟩
   unfold updA
   rw [if_pos rfl,Nat.add_sub_cancel,List.getElem?_append_right (Nat.le_refl _),Nat.sub_self]
   rfl
 ·have hj:(updA c.atts (digP id 4 ++ s0) (c.atts (digP id 4 ++ s0) ++ [tm0]) (digP i 4 ++ s))[j]?=some tm:=hj
  unfold updA at hj
  by_cases e:digP i 4 ++ s=digP id 4 ++ s0
  ·obtain ⟨rfl,rfl⟩:=whose_inj hi hid e
   rw [if_pos rfl] at hj
   by_cases hl:j < (c.atts (digP i 4 ++ s)).length
   ·rw [List.getElem?_append_left hl] at hj
    obtain ⟨tx,ht⟩:=h.al i s j tm hi hj
    exact ⟨tx,List.mem_append_left _ ht⟩
   ·rw [List.getElem?_append_right (by omega)] at hj
    by_cases h0:j - (c.atts (digP i 4 ++ s)).length=0
    ·rw [h0] at hj
     cases hj
     rw [show j=(c.atts (digP i 4 ++ s)).length by omega]
     exact ⟨tx0,List.mem_append_right _ (List.mem_singleton.2 rfl)⟩
    ·rw [List.getElem?_eq_none (by rw [List.length_singleton]; omega)] at hj
     cases hj
  ·rw [if_neg e] at hj
   obtain ⟨tx,ht⟩:=h.al i s j tm hi hj
   exact ⟨tx,List.mem_append_left _ ht⟩
 ·have ha:(updA c.atts (digP id 4 ++ s0) (c.atts (digP id 4 ++ s0) ++ [tm0]) (digP i 4 ++ s))[j]?=some a:=ha
  have hb:(updA c.atts (digP id 4 ++ s0) (c.atts (digP id 4 ++ s0) ++ [tm0]) (digP i 4 ++ s))[j+1]?=some b:=hb
  unfold updA at ha hb
  by_cases e:digP i 4 ++ s=digP id 4 ++ s0
  ·rw [if_pos e] at ha hb
   have hord:=h.ord id s0 j
   generalize c.atts (digP id 4 ++ s0)=l at ha hb ho hord
   by_cases hl:j+1 < l.length
   ·rw [List.getElem?_append_left hl] at hb
    rw [List.getElem?_append_left (by omega)] at ha
    exact hord a b hid ha hb
   ·have hlen:=(List.getElem?_eq_some_iff.1 hb).1
    rw [List.length_append,List.length_singleton] at hlen
    have e1:j+1=l.length:=by omega
    rw [List.getElem?_append_left (by omega)] at ha
    rw [List.getElem?_append_right (by omega),e1,Nat.sub_self] at hb
    cases hb
    have e2:l.getD (l.length+1 - 2) 0=a:=by
     rw [show l.length+1 - 2=j by omega,List.getD_eq_getElem?_getD,ha]; rfl
    rw [e2] at ho
    omega
  ·rw [if_neg e] at ha hb
   exact h.ord i s j a b hi ha hb
theorem mem_find {P:PEnts} (hn:(keysOf P).Nodup) {k v:List UInt8} (h:(k,v) ∈ P):pFind P k=some v:=by
 induction P with
 | nil=>cases h
 | cons x r ih=>
   have hn:(x.1 :: keysOf r).Nodup:=hn
   obtain ⟨h1,h2⟩:=List.nodup_cons.1 hn
   rw [pFind_cons]
   rcases List.mem_cons.1 h with rfl | h
   ·rw [if_pos (by simp)]
   ·rw [if_neg,ih h2 h]
    intro e
    have e:=eq_of_beq e
    exact h1 (by rw [e]; exact List.mem_map.2 ⟨(k,v),h,rfl⟩)
end
end Go.Proofs.YtbcfpdlhieaepaaGreatDoor
