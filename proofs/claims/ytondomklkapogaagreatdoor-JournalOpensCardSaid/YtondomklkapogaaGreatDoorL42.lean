/- The law's does, of a disk that may not be. -/
import Derived.Test.YtondomklkapogaaGreatDoorL41
import Derived.BigQuiet
import Derived.Test.YtondomklkapogaaGreatDoorL17
namespace Go.Proofs.YtondomklkapogaaGreatDoor
section
open Go.RowKit SeedP Go.Maps
set_option maxRecDepth 100000 in
/-- Open, of a disk that may not be -/
theorem ropen_badV (d:DS) (v0 v1:Value) (w:World) (hrd:RD w v0 v1 d) (hno:d.pw < -1∨262144 < d.f0.length∨262144 < d.f1.length) :
 Calls Tryz.prog 16 #[.agg #[.int .i64 d.pw,v0,v1]] w fun e w'=>e=.returned (.tuple #[rjV 0 (.slice none 0 0) (.slice none 0 0) (.slice none 0 0) 0 0 0 0 false,.int .i64 2])∧Below w.heap.size w w':=by
 obtain ⟨a0,c0,a1,c1,rfl,rfl⟩:=hrd.slices
 have HB:=Lib.hid ((OpM.start w d.pw a0 a1 d.f0.length d.f1.length c0 c1).be)
 clear hrd
 by_cases h1:d.pw < -1
 ·have t1:decide (d.pw < -1)=true:=decide_eq_true h1
  clear hno h1
  go_enter Tryz.func16,Tryz.ntmps16
  go_wp2
  exact bodyPost_ret (v:=.tuple #[rjV 0 (.slice none 0 0) (.slice none 0 0) (.slice none 0 0) 0 0 0 0 false,.int .i64 2]) (by simp [results,Tryz.results16,go_sem]) rfl ⟨rfl,HB.out⟩
 have t1:decide (d.pw < -1)=false:=decide_eq_false h1
 by_cases h2:262144 < d.f0.length
 ·have t2:decide ((262144:Int) < (d.f0.length:Int))=true:=decide_eq_true (by omega)
  clear hno h1 h2
  go_enter Tryz.func16,Tryz.ntmps16
  go_wp2
  exact bodyPost_ret (v:=.tuple #[rjV 0 (.slice none 0 0) (.slice none 0 0) (.slice none 0 0) 0 0 0 0 false,.int .i64 2]) (by simp [results,Tryz.results16,go_sem]) rfl ⟨rfl,HB.out⟩
 have t2:decide ((262144:Int) < (d.f0.length:Int))=false:=decide_eq_false (by omega)
 have t3:decide ((262144:Int) < (d.f1.length:Int))=true:=decide_eq_true (by omega)
 clear hno h1 h2
 go_enter Tryz.func16,Tryz.ntmps16
 go_wp2
 exact bodyPost_ret (v:=.tuple #[rjV 0 (.slice none 0 0) (.slice none 0 0) (.slice none 0 0) 0 0 0 0 false,.int .i64 2]) (by simp [results,Tryz.results16,go_sem]) rfl ⟨rfl,HB.out⟩
set_option maxRecDepth 100000 in
/-- Open, of a disk that may not be -/
theorem open_bad {B:Nat} {p:Nat→Prop} {w:World} {db:Nat} {d:DS} (h:DZ B p w db d) (hno:d.pw < -1∨262144 < d.f0.length∨262144 < d.f1.length) :
 Calls Tryz.prog 10 #[.pointer (some ⟨db,0,none⟩)] w fun e w'=>e=.returned (.tuple #[.pointer none,.int .i64 2])∧w=w':=by
 obtain ⟨v0,v1,q0,q1,hb,hr0,hr1,_⟩:=h.dw
 obtain ⟨a0,c0,rfl,_⟩:=hr0.toB.open_
 obtain ⟨a1,c1,rfl,_⟩:=hr1.toB.open_
 by_cases hp:d.pw < -1
 ·exact open_weak db d.pw _ _ w hb hp
 ·exact open_long db d.pw a0 a1 _ c0 _ c1 w hb (by omega) (by omega)
set_option maxRecDepth 100000 in
set_option maxHeartbeats 8000000 in
/-- does, of a disk that may not be -/
theorem does_bad (d:DS) (v0 v1 vl:Value) (w0:World) (hs:St w0) (hr0:RdB w0 w0.heap.size v0 d.f0) (hr1:RdB w0 w0.heap.size v1 d.f1) (h0:d.f0.length≤1073741824) (h1:d.f1.length≤1073741824) (hno:d.pw < -1∨262144 < d.f0.length∨262144 < d.f1.length) :
 Calls Tryz.prog 7 #[.agg #[.int .i64 d.pw,v0,v1],vl] w0 fun e w'=>e=.returned (.bool true)∧Below w0.heap.size w0 w':=by
 obtain ⟨a0,c0,rfl, -, -, -⟩:=hr0.open_
 obtain ⟨a1,c1,rfl, -, -, -⟩:=hr1.open_
 have HB1:=Lib.hid ((Below.refl w0.heap.size w0).alloc (Nat.le_refl _) (.cells #[.int .i64 d.pw,.slice a0 d.f0.length c0,.slice a1 d.f1.length c1] 28))
 have HK1:=Lib.hid (Blk.new w0 28 [.int .i64 d.pw,.slice a0 d.f0.length c0,.slice a1 d.f1.length c1])
 have HS:=Lib.hid hs
 have HSZ0:Hid (w0.heap.size < (w0.alloc (.cells #[.int .i64 d.pw,.slice a0 d.f0.length c0,.slice a1 d.f1.length c1] 28)).heap.size):=Lib.hid (by simp)
 have HR:=Lib.hid (And.intro hr0 hr1)
 have HNO:=Lib.hid hno
 clear hs hr0 hr1 hno
 go_enter Tryz.func7,Tryz.ntmps7
 go_upto_region 1 with (fail)
 change Code.wp _ _ _ _ (w0.alloc (.cells #[.int .i64 d.pw,.slice a0 d.f0.length c0,.slice a1 d.f1.length c1] 28))
 have HK1':Hid (Blk (w0.alloc (.cells #[.int .i64 d.pw,.slice a0 d.f0.length c0,.slice a1 d.f1.length c1] 28)) w0.heap.size 28 [.int .i64 d.pw,.slice a0 d.f0.length c0,.slice a1 d.f1.length c1]):=HK1
 clear HK1
 generalize w0.alloc (.cells #[.int .i64 d.pw,.slice a0 d.f0.length c0,.slice a1 d.f1.length c1] 28)=w1 at *
 have x0:=HK1'.out.cell 0 (by simp)
 have x1:=HK1'.out.cell 1 (by simp)
 have x2:=HK1'.out.cell 2 (by simp)
 simp only [List.getD_cons_zero,List.getD_cons_succ] at x0 x1 x2
 have HDC:=Lib.hid (disk_c d (.slice a0 d.f0.length c0) (.slice a1 d.f1.length c1) w1 (HS.out.below HB1.out HS.out.pos) ((HR.out.1.below HB1.out).mono HB1.out.size) ((HR.out.2.below HB1.out).mono HB1.out.size) (by omega) (by omega))
 go_wp2_with fail
 refine HDC.out.mono ?_
 rintro e w2 ⟨⟨db,y0,y1,rfl,⟨p,hdz⟩,hrd⟩,hb2⟩
 obtain ⟨b0,e0,b1,e1,rfl,rfl⟩:=hrd.slices
 have HB2:=Lib.hid (HB1.out.trans (hb2.mono HB1.out.size))
 have HKS:=Lib.hid (HK1'.out.below hb2)
 have HRS:=Lib.hid (And.intro (HR.out.1.below (HB1.out.trans (hb2.mono HB1.out.size))) (HR.out.2.below (HB1.out.trans (hb2.mono HB1.out.size))))
 have HDZ:=Lib.hid hdz
 have HRD:=Lib.hid hrd
 have HBB:Hid (Blk (w2.alloc (.cells #[.int .i64 d.pw,.slice b0 d.f0.length e0,.slice b1 d.f1.length e1] 47)) w2.heap.size 47 [.int .i64 d.pw,.slice b0 d.f0.length e0,.slice b1 d.f1.length e1]):=Lib.hid (Blk.new w2 _ [.int .i64 d.pw,.slice b0 d.f0.length e0,.slice b1 d.f1.length e1])
 have hba:=(Below.refl w2.heap.size w2).alloc (Nat.le_refl _) (.cells #[.int .i64 d.pw,.slice b0 d.f0.length e0,.slice b1 d.f1.length e1] 47)
 have HDZ3:=Lib.hid (HDZ.out.grown (Grown.of_below hba (S:=fun _=>False)) (fun _ h=>h.elim))
 have HRD3:=Lib.hid (HRD.out.below hba)
 have HB3:=Lib.hid (HB2.out.trans (hba.mono HB2.out.size))
 have HKS3:=Lib.hid (HKS.out.below hba)
 have HRS3:=Lib.hid (And.intro (HRS.out.1.below (hba.mono HB2.out.size)) (HRS.out.2.below (hba.mono HB2.out.size)))
 clear hba hdz hrd hb2 HDC x0 x1 x2 HK1' HB1 HDZ HRD HB2 HS HR HKS HRS
 go_upto_region 2 with (fail)
 change Code.wp _ _ _ _ (w2.alloc (.cells #[.int .i64 d.pw,.slice b0 d.f0.length e0,.slice b1 d.f1.length e1] 47))
 generalize w2.alloc (.cells #[.int .i64 d.pw,.slice b0 d.f0.length e0,.slice b1 d.f1.length e1] 47)=w3 at *
 have HOP:=Lib.hid (open_bad HDZ3.out HNO.out)
 have x0:=HBB.out.cell 0 (by simp)
 have x1:=HBB.out.cell 1 (by simp)
 have x2:=HBB.out.cell 2 (by simp)
 simp only [List.getD_cons_zero,List.getD_cons_succ] at x0 x1 x2
 go_wp2_with fail
 refine HOP.out.mono ?_
 rintro e w4 ⟨rfl,rfl⟩
 have HRO:=Lib.hid (ropen_badV d (.slice b0 d.f0.length e0) (.slice b1 d.f1.length e1) w3 HRD3.out HNO.out)
 go_wp2_with fail
 refine HRO.out.mono ?_
 rintro e w5 ⟨rfl,hb5⟩
 have hba:=(Below.refl w5.heap.size w5).alloc (Nat.le_refl _) (.cells #[.int .i64 0,.slice none 0 0,.slice none 0 0,.slice none 0 0,.int .i64 0,.int .i64 0,.int .i64 0,.int .u64 0,.bool false] 52)
 have HDZ6:=Lib.hid (HDZ3.out.grown (Grown.of_below (hb5.trans (hba.mono hb5.size)) (S:=fun _=>False)) (fun _ h=>h.elim))
 have HKS6:=Lib.hid ((HKS3.out.below hb5).below hba)
 have HRS6:=Lib.hid (And.intro ((HRS3.out.1.below (hb5.mono HB3.out.size)).below (hba.mono (Nat.le_trans HB3.out.size hb5.size))) ((HRS3.out.2.below (hb5.mono HB3.out.size)).below (hba.mono (Nat.le_trans HB3.out.size hb5.size))))
 have HB6:=Lib.hid ((HB3.out.trans (hb5.mono HB3.out.size)).trans (hba.mono (Nat.le_trans HB3.out.size hb5.size)))
 clear hba hb5 HRO HOP HDZ3 HRD3 HB3 HKS3 HRS3 HBB x0 x1 x2
 go_upto_region 4 with (fail)
 change Code.wp _ _ _ _ (w5.alloc (.cells #[.int .i64 0,.slice none 0 0,.slice none 0 0,.slice none 0 0,.int .i64 0,.int .i64 0,.int .i64 0,.int .u64 0,.bool false] 52))
 generalize w5.alloc (.cells #[.int .i64 0,.slice none 0 0,.slice none 0 0,.slice none 0 0,.int .i64 0,.int .i64 0,.int .i64 0,.int .u64 0,.bool false] 52)=w6 at *
 obtain ⟨m0,f0,m1,f1,y0,y1,y2,hy1,hy2, -⟩:=HDZ6.out.cells
 have z1:=HKS6.out.cell 1 (by simp)
 have z2:=HKS6.out.cell 2 (by simp)
 simp only [List.getD_cons_zero,List.getD_cons_succ] at z1 z2
 have hsz:=HB6.out.size
 have hcx0:∀ n,(convert 25 9 (.slice m0 d.f0.length f0)).run Tryz.prog (w6.drewN n)=.ok (.string ⟨(d.f0).toArray⟩) (w6.drewN n):=fun n=>conv_c (w:=w6.drewN n) (hy1.mono (Nat.le_refl _))
 have hcx1:∀ n,(convert 25 9 (.slice m1 d.f1.length f1)).run Tryz.prog (w6.drewN n)=.ok (.string ⟨(d.f1).toArray⟩) (w6.drewN n):=fun n=>conv_c (w:=w6.drewN n) (hy2.mono (Nat.le_refl _))
 have hca0:∀ n,(convert 25 9 (.slice a0 d.f0.length c0)).run Tryz.prog (w6.drewN n)=.ok (.string ⟨(d.f0).toArray⟩) (w6.drewN n):=fun n=>conv_c (w:=w6.drewN n) ((HRS6.out.1).mono hsz)
 have hca1:∀ n,(convert 25 9 (.slice a1 d.f1.length c1)).run Tryz.prog (w6.drewN n)=.ok (.string ⟨(d.f1).toArray⟩) (w6.drewN n):=fun n=>conv_c (w:=w6.drewN n) ((HRS6.out.2).mono hsz)
 clear hy1 hy2 hsz
 go_upto_region 5 with (fail)
 go_quiet (fail)
 have HB7:Hid (Below w0.heap.size w0 (w6.drewN nq)):=Lib.hid (below_drewN HB6.out nq)
 clear hcx0 hcx1 hca0 hca1 y0 y1 y2 z1 z2
 generalize w6.drewN nq=w7 at *
 go_wp2
 go_ret
 exact ⟨rfl,HB7.out⟩
end
section
open Go.RowKit SeedP Go.Maps
def fineB (k n:Nat):Bool:=decide (k≤60) && (decide (n≤200) || decide (4096 < n) && decide (n≤4106))
theorem fineB_le {k n:Nat} (h:fineB k n=true):k≤60∧n≤4106:=by
 unfold fineB at h
 simp only [Bool.and_eq_true,Bool.or_eq_true,decide_eq_true_eq] at h
 omega
set_option maxRecDepth 100000 in
theorem fine_c (key:List UInt8) (a:Option Addr) (n c:Nat) (w:World):Calls Tryz.prog 20 #[strV key,.slice a n c] w fun e w'=>e=.returned (.bool (fineB key.length n))∧w'=w:=by
 have hks:(⟨key.toArray⟩:ByteArray).size=key.length:=by show key.toArray.size=_; simp
 unfold strV
 generalize hF:fineB key.length n=f
 unfold fineB at hF
 generalize key.length=k at *
 by_cases h1:k≤60
 ·have t1:decide ((k:Int)≤60)=true:=decide_eq_true (by omega)
  by_cases h2:n≤200
  ·have t2:decide ((n:Int)≤200)=true:=decide_eq_true (by omega)
   obtain rfl:true=f:=by rw [← hF]; simp [h1,h2]
   clear hF h1 h2
   go_enter Tryz.func20,Tryz.ntmps20
   go_wp2
   go_ret
   exact ⟨rfl,rfl⟩
  ·have t2:decide ((n:Int)≤200)=false:=decide_eq_false (by omega)
   by_cases h3:4096 < n
   ·have t3:decide ((4096:Int) < (n:Int))=true:=decide_eq_true (by omega)
    by_cases h4:n≤4106
    ·have t4:decide ((n:Int)≤4106)=true:=decide_eq_true (by omega)
     obtain rfl:true=f:=by rw [← hF]; simp [h1,h3,h4]
     clear hF h1 h2 h3 h4
     go_enter Tryz.func20,Tryz.ntmps20
     go_wp2
     go_ret
     exact ⟨rfl,rfl⟩
    ·have t4:decide ((n:Int)≤4106)=false:=decide_eq_false (by omega)
     obtain rfl:false=f:=by rw [← hF]; simp [h1,h2,h3,h4]
     clear hF h1 h2 h3 h4
     go_enter Tryz.func20,Tryz.ntmps20
     go_wp2
     go_ret
     exact ⟨rfl,rfl⟩
   ·have t3:decide ((4096:Int) < (n:Int))=false:=decide_eq_false (by omega)
    obtain rfl:false=f:=by rw [← hF]; simp [h1,h2,h3]
    clear hF h1 h2 h3
    go_enter Tryz.func20,Tryz.ntmps20
    go_wp2
    go_ret
    exact ⟨rfl,rfl⟩
 ·have t1:decide ((k:Int)≤60)=false:=decide_eq_false (by omega)
  obtain rfl:false=f:=by rw [← hF]; simp [h1]
  clear hF h1
  go_enter Tryz.func20,Tryz.ntmps20
  go_wp2
  go_ret
  exact ⟨rfl,rfl⟩
/-- an act that is examined -/
def SmallAct (a:ActP):Prop:=a.cs.length≤70∧a.key.length≤60∧a.val.length≤4106∧∀ c ∈ a.cs,c.key.length≤60∧c.val.length≤4106
theorem SmallAct.ok {a:ActP} (h:SmallAct a) (h0: -9223372036854775808≤a.pw) (h1:a.pw≤9223372036854775807):a.Ok:=
 ⟨h0,h1,by have:=h.1; omega,fun c hc=>by have:=h.2.2.2 c hc; omega,by have:=h.2.1; omega,by have:=h.2.2.1; omega⟩
/-- what Few hands back -/
def FewPost (L:List ActP) (e:Ending):Prop:=∃ b,e=.returned (.bool b)∧(b=true→L.length≤20∧∀ a ∈ L,SmallAct a)
theorem FewPost.no (L:List ActP):FewPost L (.returned (.bool false)):=⟨false,rfl,fun h=>by cases h⟩
theorem FewPost.yes {L:List ActP} (h:L.length≤20∧∀ a ∈ L,SmallAct a):FewPost L (.returned (.bool true)):=⟨true,rfl,fun _=>h⟩
set_option maxRecDepth 100000 in
set_option maxHeartbeats 4000000 in
/-- Few -/
theorem few_c (vl:Value) (L:List ActP) (w:World) (hL:ActsAt w w.heap.size vl L) :
 Calls Tryz.prog 6 #[vl] w fun e w'=>FewPost L e∧Below w.heap.size w w':=by
 have HL:=Lib.hid hL
 obtain ⟨al,cl,rfl, -, -, -⟩:=hL
 have W0:=Lib.hid (Below.refl w.heap.size w)
 by_cases hn:20 < L.length
 ·have t1:(20:Int) < (L.length:Int):=by omega
  go_enter Tryz.func6,Tryz.ntmps6
  go_wp2
  go_ret
  exact ⟨FewPost.no _,W0.out⟩
 have t1:¬ (20:Int) < (L.length:Int):=by omega
 go_enter Tryz.func6,Tryz.ntmps6
 go_wp2
 go_loopw [4] (fun iv wr=>∃ i:Nat,i≤L.length∧iv=.int .i64 i∧(∀ a ∈ L.take i,SmallAct a)∧Below w.heap.size w wr) (fun i _=>L.length - (intOf i).toNat)
 case atStart=>exact ⟨0,Nat.zero_le _,rfl,(fun a ha=>by cases ha),W0.out⟩
 case round=>
  obtain ⟨i,hi,rfl,hs,hb⟩:=hrel
  have HS:=Lib.hid hs
  have HB:=Lib.hid hb
  clear hs hb
  by_cases hlt:i < L.length
  ·have b1:decide ((i:Int) < (L.length:Int))=true:=decide_eq_true (by omega)
   have b2:(i:Int) < (L.length:Int):=by omega
   obtain ⟨a',cap',e',hx1,hx2,hc⟩:=HL.out
   simp only [Value.slice.injEq] at e'
   obtain ⟨rfl,_,rfl⟩:=e'
   rcases hc with hc | ⟨g,off,rfl,hg,hcell⟩
   ·rw [hc] at hlt; simp at hlt
   obtain ⟨vc,vv, -, -,q2,q3,q4,q5,q6⟩:=hcell i hlt
   obtain ⟨ac,cc,rfl, -⟩:=id q5
   obtain ⟨av,cv,rfl, -⟩:=q6.open_
   have HX:Hid (L.take (i+1)=L.take i ++ [L[i]]):=Lib.hid (List.take_succ_eq_append_getElem hlt)
   have HC:=Lib.hid q5
   have HALL:Hid (∀ wx,Below w.heap.size w wx→wx.cell? ⟨g,off+i * 5+2,none⟩=some (.slice ac L[i].cs.length cc)):=Lib.hid (fun wx hbx=>(hbx.cell (p:=⟨g,off+i * 5+2,none⟩) hg).trans q2)
   have p2:=(HB.out.cell (p:=⟨g,off+i * 5+2,none⟩) hg).trans q2
   have p3:=(HB.out.cell (p:=⟨g,off+i * 5+3,none⟩) hg).trans q3
   have p4:=(HB.out.cell (p:=⟨g,off+i * 5+4,none⟩) hg).trans q4
   clear hcell hx1 hx2 q2 q3 q4 q5 q6
   generalize L[i]=a at *
   obtain ⟨kind,apw,cs,key,val⟩:=a
   simp only at p2 p3 p4 HC HALL
   have HF:=Lib.hid (fun w=>fine_c key av val.length cv w)
   by_cases hc7:70 < cs.length
   ·have t7:decide ((70:Int) < (cs.length:Int))=true:=decide_eq_true (by omega)
    have t8:(70:Int) < (cs.length:Int):=by omega
    go_upto_region 7 with (fail)
    go_quiet (fail)
    have HB2:=Lib.hid (below_drewN HB.out nq)
    clear p2 p3 p4
    generalize wr.drewN nq=w2 at *
    go_wp2
    go_ret
    exact ⟨FewPost.no _,HB2.out⟩
   have t7:decide ((70:Int) < (cs.length:Int))=false:=decide_eq_false (by omega)
   go_upto_region 7 with (fail)
   go_quiet ((go_at_call 20; exact Calls.quiet_of_same (HF.out _)))
   have HB2:=Lib.hid (below_drewN HB.out nq)
   have hszw:=HB.out.size
   clear p2 p3 p4
   generalize wr.drewN nq=w2 at *
   cases hfb:fineB key.length val.length with
   | false=>
     go_wp2
     go_ret
     exact ⟨FewPost.no _,HB2.out⟩
   | true=>
     have HFB:=Lib.hid (fineB_le hfb)
     clear hfb
     go_wp2
     go_loopw [5] (fun kv wx=>∃ k:Nat,k≤cs.length∧kv=.int .i64 k∧(∀ c ∈ cs.take k,c.key.length≤60∧c.val.length≤4106)∧Below w.heap.size w wx) (fun k _=>cs.length - (intOf k).toNat)
     case atStart=>exact ⟨0,Nat.zero_le _,rfl,(fun a ha=>by cases ha),HB2.out⟩
     case round=>
      obtain ⟨k,hk,rfl,hs3,hb3⟩:=hrel
      have HS3:=Lib.hid hs3
      have HB3:=Lib.hid hb3
      clear hs3 hb3
      generalize wr=w3 at *
      have p2:=HALL.out w3 HB3.out
      by_cases hkl:k < cs.length
      ·have b3:decide ((k:Int) < (cs.length:Int))=true:=decide_eq_true (by omega)
       have b4:(k:Int) < (cs.length:Int):=by omega
       obtain ⟨a3,c3,e3,_,_,hc3⟩:=HC.out
       simp only [Value.slice.injEq] at e3
       obtain ⟨rfl,_,rfl⟩:=e3
       rcases hc3 with hc3 | ⟨g3,off3,rfl,hg3,hcell3⟩
       ·rw [hc3] at hkl; simp at hkl
       obtain ⟨vv3,u0,u1,_,dv⟩:=hcell3 k hkl
       obtain ⟨a4,c4,rfl, -⟩:=dv.open_
       have HX3:Hid (cs.take (k+1)=cs.take k ++ [cs[k]]):=Lib.hid (List.take_succ_eq_append_getElem hkl)
       have s0:=(HB3.out.cell (p:=⟨g3,off3+k * 3,none⟩) hg3).trans u0
       have s1:=(HB3.out.cell (p:=⟨g3,off3+k * 3+1,none⟩) hg3).trans u1
       clear hcell3 u0 u1 dv
       generalize cs[k]=c at *
       obtain ⟨ckey,cval,cdrop⟩:=c
       simp only at s0 s1
       have HF3:=Lib.hid (fun w=>fine_c ckey a4 cval.length c4 w)
       go_upto_region 12 with (fail)
       go_quiet ((go_at_call 20; exact Calls.quiet_of_same (HF3.out _)))
       have HB4:=Lib.hid (below_drewN HB3.out nq)
       clear s0 s1
       generalize w3.drewN nq=w4 at *
       cases hfb:fineB ckey.length cval.length with
       | false=>
         go_wp2
         go_ret
         exact ⟨FewPost.no _,HB4.out⟩
       | true=>
         have HFB3:=Lib.hid (fineB_le hfb)
         clear hfb
         go_wp2
         go_roundw
         case rel=>
          refine ⟨k+1,by omega,by go_num,fun c hc=>?_,HB4.out⟩
          rw [HX3.out] at hc
          rcases List.mem_append.1 hc with hc | hc
          ·exact HS3.out c hc
          ·obtain rfl:=List.mem_singleton.1 hc
           exact HFB3.out
         case measure=>simp [intOf]; omega
      ·obtain rfl:k=cs.length:=by omega
       have b3:decide ((cs.length:Int) < (cs.length:Int))=false:=by simp
       go_wp2
       go_roundw
       case rel=>
        refine ⟨i+1,by omega,by go_num,fun a ha=>?_,HB3.out⟩
        rw [HX.out] at ha
        rcases List.mem_append.1 ha with ha | ha
        ·exact HS.out a ha
        ·obtain rfl:=List.mem_singleton.1 ha
         refine ⟨by show cs.length≤70; omega,HFB.out.1,HFB.out.2,fun c hc=>HS3.out c ?_⟩
         rw [List.take_length]; exact hc
       case measure=>simp [intOf]; omega
  ·obtain rfl:i=L.length:=by omega
   have b1:decide ((L.length:Int) < (L.length:Int))=false:=by simp
   go_wp2
   go_ret
   refine ⟨FewPost.yes ⟨by omega,fun a ha=>HS.out a ?_⟩,HB.out⟩
   rw [List.take_length]; exact ha
end
section
open Go.RowKit SeedP Go.Maps
theorem sA_find:pFind sA.ents [97]=some [7,8]:=by decide
theorem sX_keys:(keysOf sX.ents).filter (isPref [])=[]:=rfl
theorem lit78 (w:World) (q:Nat→Prop) (hq:q w.heap.size):RdP (w.alloc (.cells #[.int .u8 7,.int .u8 8] 5)) q (.slice (some ⟨w.heap.size,0,none⟩) 2 2) [7,8]:=by
 have h:=rdB_lit w [7,8] (by decide) 2 rfl
 rcases h with h | ⟨g,off,cap,e,h1,h2,h3,h4⟩
 ·cases h.2
 ·cases e
  exact Or.inr ⟨_,0,2,rfl,h1,h2,hq,h4⟩
set_option maxRecDepth 100000 in
set_option maxHeartbeats 4000000 in
/-- awake -/
theorem awake_c (w:World) (hs:St w):Calls Tryz.prog 8 #[] w fun e w'=>e=.returned (.bool true)∧Below w.heap.size w w':=by
 go_enter Tryz.func8,Tryz.ntmps8
 go_wp2_with fail
 refine (empty_c _ hs).mono ?_
 rintro e w1 ⟨rfl,hD1,hb1⟩
 clear hs
 go_wp2_with fail
 refine (open_l hD1 (empty_ok (-1) (by decide) (by decide))).mono ?_
 rintro e w2 ⟨jb,rfl,hJ2,hb2⟩
 go_wp2_with fail
 refine (set_l (hJ2.below ((Below.refl _ _).alloc (Nat.le_refl _) _)) [97] [7,8] _ (fun mb hm hJ=>by
  exact lit78 w2 _ (hJ.other (Blk.new w2 5 [.int .u8 7,.int .u8 8]) (by decide) (by decide))) (by decide) (by decide)).mono ?_
 rintro e w3 ⟨rfl,hJ3,hb3⟩
 have hb3:=((Below.refl _ w2).alloc (by have:=hJ2.size; omega) (.cells #[.int .u8 7,.int .u8 8] 5)).trans hb3
 have hB3:=(hb1.trans (hb2.mono hb1.size)).trans hb3
 have hcs:=awake_set
 unfold csA at hcs
 rw [hcs] at hJ3
 rw [hcs]
 clear hcs hb3 hb2 hb1 hJ2 hD1
 obtain ⟨a0,c0,a1,c1,_,k1,k2,r0,r1,_⟩:=hJ3.dl.cells
 have hl0:=awake_len
 have hd0:=awake_drop
 have hl1:sA.d.f1.length=0:=rfl
 obtain ⟨f0,hf0⟩:∃ f0,sA.d.f0=f0:=⟨_,rfl⟩
 rw [hf0] at k1 r0 hl0 hd0
 rw [hl0] at k1 r0
 rw [hl1] at k2 r1
 rcases r0 with ⟨_,e⟩ | ⟨g0,o0,c0',e0,hc1,hc2,hc3,hc4⟩
 ·rw [e] at hl0; cases hl0
 simp only [Value.slice.injEq] at e0
 obtain ⟨rfl,hq0,rfl⟩:=e0
 have hr0:RdB w3 w3.heap.size (.slice (some ⟨g0,o0+36,none⟩) 8 (c0 - 36)) [1,0,1,97,0,2,7,8]:=by
  have h:=RdB.drop (n:=36) (by omega) hc1 hc2 hc3 hc4
  rw [hd0,hl0] at h
  exact h
 have hcv:=conv_c hr0
 have hcz:¬ c0=36:=by omega
 clear r1 hc4 hd0 hr0 hq0 hl0 hl1 hc1 hc2 hc3 hb3 hf0
 go_wp2_with fail
 refine (open_l hJ3.dl hJ3.ok.d).mono ?_
 rw [awake_open]
 rintro e w4 ⟨jk,rfl,hJ4,hb4⟩
 have hB4:=hB3.trans (hJ3.cut hb4)
 clear hcv hcz k1 k2 hJ3 hB3 hb4
 go_wp2_with fail
 refine (get_l hJ4 [97] (by decide)).mono ?_
 rw [sA_find]
 rintro e w5 ⟨⟨a5,c5,rfl,hr5⟩,hb5⟩
 have hJ5:=hJ4.below hb5
 have hB5:=hB4.trans (hJ4.cut hb5)
 have hcv:(convert 25 9 (.slice a5 2 c5)).run Tryz.prog w5=.ok (.string ⟨#[7,8]⟩) w5:=conv_c hr5
 clear hb5 hJ4 hB4 hr5
 go_wp2_with fail
 have hW:Calls Tryz.prog 32 #[.pointer (some ⟨jk,0,none⟩)] w5 fun e w'=>e=.returned (.int .i64 6)∧w5=w':=weight_l hJ5
 refine hW.mono ?_
 rintro e w6 ⟨rfl,rfl⟩
 clear hcv hW
 go_wp2_with fail
 have hG:Calls Tryz.prog 33 #[.pointer (some ⟨jk,0,none⟩)] w5 fun e w'=>e=.returned (.int .i64 1)∧w5=w':=generation_l hJ5
 refine hG.mono ?_
 rintro e w6 ⟨rfl,rfl⟩
 clear hG
 go_wp2_with fail
 refine (drop_l hJ5 [98] (by decide)).mono ?_
 rw [awake_none]
 rintro e w6 ⟨rfl,hJ6,hb6⟩
 have hB6:=hB5.trans hb6
 clear hb6 hB5 hJ5
 go_wp2_with fail
 refine (compact_l hJ6).mono ?_
 obtain ⟨sB,hc1,hc2,hc3,hc4⟩:=awake_compact
 rw [hc1]
 rintro e w7 ⟨rfl,hJ7,hb7⟩
 have hB7:=hB6.trans hb7
 obtain ⟨a0,c0,a1,c1,_,k1,k2,r0,r1,_⟩:=hJ7.dl.cells
 have hG:Calls Tryz.prog 33 #[.pointer (some ⟨jk,0,none⟩)] w7 fun e w'=>e=.returned (.int .i64 2)∧w7=w':=by
  have h:=generation_l hJ7
  rw [hc2,hc4] at h
  exact h
 rw [hc3] at k2
 have HG:=Lib.hid hG
 have HB7:=Lib.hid hB7
 have HS7:=Lib.hid hJ7.st
 clear r0 r1 hG hc1 hc2 hc3 hc4 k1 hb7 hB6 hJ6 hB7 hJ7
 go_wp2_with fail
 refine HG.out.mono ?_
 rintro e w8 ⟨rfl,rfl⟩
 have hS:=HS7.out
 have hB:=HB7.out
 have HZ:=Lib.hid hB.size
 clear HG HB7 HS7 k2
 go_wp2_with fail
 have hD:=DL.new w7 hS 43
 have hbn:=(Below.refl _ w7).alloc (Nat.le_refl _) (.cells #[.int .i64 43,.slice none 0 0,.slice none 0 0] 28)
 refine (open_l hD (empty_ok 43 (by decide) (by decide))).mono ?_
 rintro e w8 ⟨jw,rfl,hJ8,hb8⟩
 have hb8:=hbn.trans (hD.cut hb8)
 clear hbn hD hS
 go_wp2_with fail
 refine (set_l (hJ8.below ((Below.refl _ _).alloc (Nat.le_refl _) _)) [97] [7,8] _ (fun mb hm hJ=>by
  exact lit78 w8 _ (hJ.other (Blk.new w8 5 [.int .u8 7,.int .u8 8]) (by decide) (by decide))) (by decide) (by decide)).mono ?_
 rintro e w9 ⟨rfl,hJ9,hb9⟩
 have hb9:=(((Below.refl _ w8).alloc (by have:=hJ8.size; omega) (.cells #[.int .u8 7,.int .u8 8] 5)).trans hb9)
 have hB9:=hB.trans ((hb8.trans hb9).mono hB.size)
 have hcs:=weak_set
 unfold csA at hcs
 rw [hcs] at hJ9
 rw [hcs]
 clear hcs hb9 hb8 hB hJ8
 go_wp2_with fail
 have hG:Calls Tryz.prog 33 #[.pointer (some ⟨jw,0,none⟩)] w9 fun e w'=>e=.returned (.int .i64 0)∧w9=w':=generation_l hJ9
 refine hG.mono ?_
 rintro e w10 ⟨rfl,rfl⟩
 obtain ⟨a0,c0,a1,c1,k0,k1,k2,r0,r1,z⟩:=hJ9.dl.cells
 rw [weak_len] at k1
 have HD:=Lib.hid hJ9.dl
 have HB:=Lib.hid hB9
 have HO:=Lib.hid hJ9.ok.d
 have z0:=z 0
 clear r0 r1 hG hJ9 hB9 k2 z
 go_wp2_with fail
 refine (open_l (HD.out.power (-1)) (empty_ok (-1) (by decide) (by decide) |> fun _=>⟨by decide,by decide,HO.out.f0,HO.out.f1⟩)).mono ?_
 have hB10:=HB.out.trans ((HD.out.power_below (.int .i64 (-1))).mono HZ.out)
 rw [show jOpen ⟨-1,sW.d.f0,sW.d.f1⟩=sX from weak_open]
 rintro e w10 ⟨jx,rfl,hJ10,hb10⟩
 have hB10:=hB10.trans (hb10.mono (by have h:=HD.out.size; have h2:=HZ.out; simp; omega))
 clear hb10 HB HD HO k0 k1 z0
 go_wp2_with fail
 have hG:Calls Tryz.prog 33 #[.pointer (some ⟨jx,0,none⟩)] w10 fun e w'=>e=.returned (.int .i64 1)∧w10=w':=generation_l hJ10
 refine hG.mono ?_
 rintro e w11 ⟨rfl,rfl⟩
 clear hG
 go_wp2_with fail
 refine (keys_l hJ10 [] (by decide)).mono ?_
 rw [sX_keys]
 rintro e w11 ⟨v,rfl,hv,hb11⟩
 obtain ⟨va,vc,rfl⟩:∃ va vc,v=.slice va 0 vc:=by
  rcases hv.2 with ⟨rfl,_⟩ | ⟨g,cap,cur,rfl,_⟩
  ·exact ⟨none,0,rfl⟩
  ·exact ⟨_,cap,rfl⟩
 have hJ11:=hJ10.below hb11
 have hB11:=hB10.trans ((hJ10.cut hb11).mono HZ.out)
 clear hv hb11 hB10 hJ10
 go_wp2_with fail
 obtain ⟨sY,hy1,hy2⟩:=weak_again
 refine (set_l hJ11 [98] [] (.slice none 0 0) (fun mb hm hJ=>Or.inl ⟨Or.inl rfl,rfl⟩) (by decide) (by decide)).mono ?_
 rw [hy1]
 rintro e w12 ⟨rfl,hJ12,hb12⟩
 have hB12:=Lib.hid (hB11.trans (hb12.mono HZ.out))
 obtain ⟨a0,c0,a1,c1,k0,k1,k2,r0,r1,z⟩:=hJ12.dl.cells
 rw [hy2] at k1
 clear r0 r1 k0 k2 z hJ12 hb12 hB11 hJ11 hy1 hy2
 go_wp2
 go_ret
 exact ⟨rfl,hB12.out⟩
end
section
open Go.RowKit SeedP Go.Maps
/-- a disk whose files may be anything -/
structure DkF (B:Nat) (w:World) (db:Nat) (d:DS):Prop where
 st:St w
 pos:0 < B
 le:B≤db
 blk:∃ a0 c0 a1 c1,Blk w db 28 [.int .i64 d.pw,.slice a0 d.f0.length c0,.slice a1 d.f1.length c1]∧RdB w w.heap.size (.slice a0 d.f0.length c0) d.f0∧RdB w w.heap.size (.slice a1 d.f1.length c1) d.f1
 n0:d.f0.length≤1000000
 n1:d.f1.length≤1000000
 pw:d.pw≤9223372036854775807
theorem DkF.below {B:Nat} {w w':World} {db:Nat} {d:DS} (h:DkF B w db d) (hb:Below w.heap.size w w'):DkF B w' db d:=by
 obtain ⟨hs,h0,h1,⟨a0,c0,a1,c1,k,r0,r1⟩,n0,n1,pw⟩:=h
 exact ⟨hs.below hb hs.pos,h0,h1,⟨a0,c0,a1,c1,k.below hb,(r0.below hb).mono hb.size,(r1.below hb).mono hb.size⟩,n0,n1,pw⟩
theorem DkF.size {B:Nat} {w:World} {db:Nat} {d:DS} (h:DkF B w db d):B < w.heap.size:=by
 obtain ⟨hs,h0,h1,⟨a0,c0,a1,c1,k,r0,r1⟩,n0,n1,pw⟩:=h
 have:=k.lt; omega
theorem JL.dkf {B:Nat} {w:World} {db jb:Nat} {s:JS} (h:JL B w db jb s):DkF B w db s.d:=by
 have hd:=h.dl
 have ho:=h.ok.d
 have h0:=ho.f0
 have h1:=ho.f1
 obtain ⟨hs,hp,hle,v0,v1,q0,q1,hb,hr0,hr1,_⟩:=hd
 have r0:=hr0.toB
 have r1:=hr1.toB
 obtain ⟨a0,c0,rfl,_⟩:=r0.open_
 obtain ⟨a1,c1,rfl,_⟩:=r1.open_
 exact ⟨hs,hp,hle,⟨a0,c0,a1,c1,hb,r0,r1⟩,by omega,by omega,ho.pw1⟩
/-- a file is put -/
theorem DkF.put {B:Nat} {w:World} {db:Nat} {d:DS} (h:DkF B w db d) {fo:Nat} (hfo:fo=1∨fo=2) {a:Option Addr} {c:Nat} {l:List UInt8} (hr:RdB w w.heap.size (.slice a l.length c) l) (hn:l.length≤1000000) :
 (∃ d',DkF B (w.setCell ⟨db,fo,none⟩ (.slice a l.length c)) db d')∧Below B w (w.setCell ⟨db,fo,none⟩ (.slice a l.length c)):=by
 have hsz:=h.size
 obtain ⟨hs,h0,h1,⟨a0,c0,a1,c1,k,r0,r1⟩,n0,n1,pw⟩:=h
 have hg:Grown (fun k=>k=db) w (w.setCell ⟨db,fo,none⟩ (.slice a l.length c)):=Grown.setCell (S:=fun k=>k=db) (Grown.refl _ _) (a:=⟨db,fo,none⟩) rfl _
 have hno:∀ x ∈ [Value.int .i64 d.pw,.slice a0 d.f0.length c0,.slice a1 d.f1.length c1],∀ m:Int,x ≠ .int .u8 m:=by
  intro x hx m e
  simp only [List.mem_cons,List.not_mem_nil,or_false] at hx
  rcases hx with rfl | rfl | rfl <;> cases e
 have hs':=hs.block (hg.block 0 hs.pos (fun e=>by omega))
 have q0:=(r0.away k hno hg).mono hg.size
 have q1:=(r1.away k hno hg).mono hg.size
 have q2:=(hr.away k hno hg).mono hg.size
 refine ⟨?_,hg.below (fun k e=>by omega) (by omega)⟩
 rcases hfo with rfl | rfl
 ·exact ⟨⟨d.pw,l,d.f1⟩,hs',h0,h1,⟨a,c,a1,c1,k.set 1 _,q2,q1⟩,hn,n1,pw⟩
 ·exact ⟨⟨d.pw,d.f0,l⟩,hs',h0,h1,⟨a0,c0,a,c,k.set 2 _,q0,q2⟩,n0,hn,pw⟩
/-- the file at a place -/
theorem DkF.file {B:Nat} {w:World} {db:Nat} {d:DS} (h:DkF B w db d) {fo:Nat} (hfo:fo=1∨fo=2):∃ a c,∃ l:List UInt8,w.cell? ⟨db,fo,none⟩=some (.slice a l.length c)∧RdB w w.heap.size (.slice a l.length c) l∧(l=d.f0∨l=d.f1)∧w.frozen? ⟨db,fo,none⟩=false:=by
 obtain ⟨hs,h0,h1,⟨a0,c0,a1,c1,k,r0,r1⟩,n0,n1,pw⟩:=h
 rcases hfo with rfl | rfl
 ·exact ⟨a0,c0,d.f0,k.cell 1 (by simp),r0,Or.inl rfl,k.frozen 1⟩
 ·exact ⟨a1,c1,d.f1,k.cell 2 (by simp),r1,Or.inr rfl,k.frozen 2⟩
/-- changes below a journal, to be made -/
theorem ChgsAt.toP {w:World} {B:Nat} {q:Nat→Prop} {v:Value} {cs:List Chg} (h:ChgsAt w B v cs) (hq:∀ g,g < B→q g):ChgsP w q v cs:=by
 obtain ⟨a,cap,e,h1,h2,h3⟩:=h
 refine ⟨a,cap,e,h1,h2,?_⟩
 rcases h3 with h3 | ⟨g,off,e2,hlt,h4⟩
 ·exact Or.inl h3
 ·refine Or.inr ⟨g,off,e2,hq g hlt,fun j hj=>?_⟩
  obtain ⟨vv,k0,k1,k2,k3⟩:=h4 j hj
  exact ⟨vv,k0,k1,k2,k3.toP hq⟩
/-- a byte of an own row is turned -/
theorem own_poke {w:World} {B n:Nat} {v:Value} {l:List UInt8} (h:w.ownsRow B 5 1 v n (byts l)) (k:Nat) (hk:k < l.length):∃ g cap,v=.slice (some ⟨g,0,none⟩) l.length cap∧B≤g∧g < w.heap.size∧l.length≤cap∧w.cell? ⟨g,k,none⟩=some (.int .u8 (l.getD k 0).toNat)∧w.frozen? ⟨g,k,none⟩=false ∧
 ∀ z:UInt8,RdB (w.setCell ⟨g,k,none⟩ (.int .u8 z.toNat)) (w.setCell ⟨g,k,none⟩ (.int .u8 z.toNat)).heap.size v (l.set k z)∧Grown (fun q=>q=g) w (w.setCell ⟨g,k,none⟩ (.int .u8 z.toNat)):=by
 have h':=h
 obtain ⟨hl,h2⟩:=h
 rw [Nat.mul_one,byts_length] at hl
 subst hl
 rcases h2 with ⟨rfl,h0⟩ | ⟨g,cap,cur,rfl,hB,hg,hc,hm,hs,ht⟩
 ·omega
 have hb:Blk w g 5 cur.toList:=by unfold Blk; simpa using hg
 have hlt:=hb.lt
 refine ⟨g,cap,rfl,hB,hlt,hc,?_,hb.frozen k,fun z=>?_⟩
 ·rw [h'.cellAt k (by omega),byts_get l k hk]
 have hgr:Grown (fun q=>q=g) w (w.setCell ⟨g,k,none⟩ (.int .u8 z.toNat)):=Grown.setCell (S:=fun q=>q=g) (Grown.refl _ _) (a:=⟨g,k,none⟩) rfl _
 refine ⟨?_,hgr⟩
 refine Or.inr ⟨g,0,cap,by rw [List.length_set],by rw [List.length_set]; exact hc,hm,by have:=hgr.size; omega,fun j hj=>?_⟩
 rw [List.length_set] at hj
 rw [Nat.zero_add]
 have hb2:=hb.set k (.int .u8 z.toNat)
 have hcl:cur.toList.length=cap:=by rw [Array.length_toList,hs,Nat.mul_one]
 rw [hb2.cell j (by rw [List.length_set]; omega)]
 by_cases e:j=k
 ·subst e
  simp [List.getD_eq_getElem?_getD,hcl,show j < cap by omega,hk]
 ·have hc1:=h'.cellAt j (by omega)
  rw [byts_get l j hj,hb.cell j (by omega)] at hc1
  simp only [List.getD_eq_getElem?_getD] at hc1 ⊢
  rw [List.getElem?_set_ne (by omega),hc1,List.getElem?_set_ne (by omega)]
section
variable {ρ:Operand→Value} {d:Option Tmp} {ty:TypeId} {pos:String} {af:Array Edge} {gd:Option (Nat × Bool)}
theorem xg_u64 (x:Operand) (ad:Addr) (v:Value) (w:World) (hx:ρ x=.pointer (some ad)) (hc:w.cell? ad=some v) :
 (execOp ρ ⟨d,.load 46 x,ty,pos,af,gd⟩).run Tryz.prog w=.ok (.value v) w:=by
 simp [go_sem,hx,hc]
theorem xs_from (x y:Operand) (g off m c lo:Nat) (w:World) (hx:ρ x=.slice (some ⟨g,off,none⟩) m c) (hy:ρ y=.int .i64 (lo:Int)) (h1:lo≤m) (h3:lo < c) :
 (execOp ρ ⟨d,.slice 25 x (some y) none none,ty,pos,af,gd⟩).run Tryz.prog w=.ok (.value (.slice (some ⟨g,off+lo,none⟩) (m - lo) (c - lo))) w:=by
 have b1:(lo:Int)≤(m:Int):=by omega
 have b3:¬ c=lo:=by omega
 simp [go_sem,hx,hy,b1,b3]
theorem xg_bsB (x:Operand) (n:Int) (w:World) (hx:ρ x=.int .u8 n):(execOp ρ ⟨d,.buildSlice 25 1 #[(0,x)],ty,pos,af,gd⟩).run Tryz.prog w=.ok (.value (.slice (some ⟨w.heap.size,0,none⟩) 1 1)) (w.alloc (.cells #[.int .u8 n] 5)):=by
 simp [go_sem,hx]
end
theorem x8G (a b:UInt8):bits .xor .u8 a.toNat b.toNat=((a ^^^ b).toNat:Int):=by
 show IntKind.u8.wrap (((BitVec.ofInt 8 a.toNat ^^^ BitVec.ofInt 8 b.toNat).toNat:Nat):Int)=_
 rw [IntKind.wrap_u8]
 have e:∀ c:UInt8,BitVec.ofInt 8 (c.toNat:Int)=c.toBitVec:=fun c=>by
  apply BitVec.eq_of_toNat_eq; simp
 rw [e,e]
 have:=(a ^^^ b).toNat_lt
 show (((a.toBitVec ^^^ b.toBitVec).toNat:Nat):Int) % 256=_
 rw [← UInt8.toBitVec_xor]
 show (((a ^^^ b).toNat:Nat):Int) % 256=_
 omega
end
end Go.Proofs.YtondomklkapogaaGreatDoor
