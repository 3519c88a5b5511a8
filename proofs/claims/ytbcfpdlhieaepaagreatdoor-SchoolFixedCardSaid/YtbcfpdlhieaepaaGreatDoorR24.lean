/- The walk of readTask. -/
import Derived.Test.YtbcfpdlhieaepaaGreatDoorR23
import Derived.Test.YtbcfpdlhieaepaaGreatDoorR16
namespace Go.Proofs.YtbcfpdlhieaepaaGreatDoor
section
open Go.RowKit SeedP Go.Maps
/-- what readTask hands back -/
def TaskPost (B:Nat) (r:Option TaskP) (e:Ending) (w':World):Prop:=match r with
 | none=>e=.returned (.tuple #[taskV zeroT (.slice none 0 0),.bool false])
 | some t=>∃ a c,e=.returned (.tuple #[taskV t (.slice a t.body.length c),.bool true])∧RdB w' B (.slice a t.body.length c) t.body
/-- seven cells are stored -/
def set7 (w:World) (g:Nat) (y0 y1 y2 y3 y4 y5 y6:Value):World:=((((((w.setCell ⟨g,0,none⟩ y0).setCell ⟨g,1,none⟩ y1).setCell ⟨g,2,none⟩ y2).setCell ⟨g,3,none⟩ y3).setCell ⟨g,4,none⟩ y4).setCell ⟨g,5,none⟩ y5).setCell ⟨g,6,none⟩ y6
theorem set7_blk {w:World} {g:Nat} {t:TypeId} {x0 x1 x2 x3 x4 x5 x6:Value} (h:Blk w g t [x0,x1,x2,x3,x4,x5,x6]) (y0 y1 y2 y3 y4 y5 y6:Value):Blk (set7 w g y0 y1 y2 y3 y4 y5 y6) g t [y0,y1,y2,y3,y4,y5,y6]:=
 ((((((h.set 0 y0).set 1 y1).set 2 y2).set 3 y3).set 4 y4).set 5 y5).set 6 y6
theorem set7_grown (w:World) (g:Nat) (y0 y1 y2 y3 y4 y5 y6:Value):Grown (fun k=>k=g) w (set7 w g y0 y1 y2 y3 y4 y5 y6):=by
 have s:∀ {w':World},Grown (fun k=>k=g) w w'→∀ (j:Nat) (y:Value),Grown (fun k=>k=g) w (w'.setCell ⟨g,j,none⟩ y):=fun h j y=>Grown.setCell (S:=fun k=>k=g) h (a:=⟨g,j,none⟩) rfl y
 exact s (s (s (s (s (s (s (Grown.refl _ w) 0 y0) 1 y1) 2 y2) 3 y3) 4 y4) 5 y5) 6 y6
theorem set7_below {w w':World} {B g:Nat} (h:Below B w w') (hg:B≤g) (hB:B≤w.heap.size) (y0 y1 y2 y3 y4 y5 y6:Value):Below B w (set7 w' g y0 y1 y2 y3 y4 y5 y6):=
 h.trans ((set7_grown w' g y0 y1 y2 y3 y4 y5 y6).below (fun k e=>by have e:k=g:=e; omega) (Nat.le_trans hB h.size))
theorem t7_of {w:World} {g:Nat} {t:TypeId} {x0 x1 x2 x3 x4 x5 x6:Value} (h:Blk w g t [x0,x1,x2,x3,x4,x5,x6]) :
 w.cell? ⟨g,0,none⟩=some x0∧w.cell? ⟨g,1,none⟩=some x1∧w.cell? ⟨g,2,none⟩=some x2∧w.cell? ⟨g,3,none⟩=some x3∧w.cell? ⟨g,4,none⟩=some x4∧w.cell? ⟨g,5,none⟩=some x5∧w.cell? ⟨g,6,none⟩=some x6∧∀ o,w.frozen? ⟨g,o,none⟩=false:=
 ⟨h.cell 0 (by show 0 < 7; omega),h.cell 1 (by show 1 < 7; omega),h.cell 2 (by show 2 < 7; omega),h.cell 3 (by show 3 < 7; omega),h.cell 4 (by show 4 < 7; omega),h.cell 5 (by show 5 < 7; omega),h.cell 6 (by show 6 < 7; omega),fun o=>h.frozen o⟩
/-- what holds while a task is read: what is returned, what is read so far -/
structure RtM (w W:World) (x0 x1 x2 x3 x4 x5 x6:Value):Prop where
 be:Below w.heap.size w W
 r:Blk W w.heap.size 35 [.string ⟨#[]⟩,.string ⟨#[]⟩,.int .i64 0,.int .i64 0,.int .i64 0,.int .i64 0,.slice none 0 0]
 t:Blk W (w.heap.size+1) 35 [x0,x1,x2,x3,x4,x5,x6]
theorem RtM.start (w:World):RtM w ((w.alloc (.cells #[.string ⟨#[]⟩,.string ⟨#[]⟩,.int .i64 0,.int .i64 0,.int .i64 0,.int .i64 0,.slice none 0 0] 35)).alloc (.cells #[.string ⟨#[]⟩,.string ⟨#[]⟩,.int .i64 0,.int .i64 0,.int .i64 0,.int .i64 0,.slice none 0 0] 35)) (.string ⟨#[]⟩) (.string ⟨#[]⟩) (.int .i64 0) (.int .i64 0) (.int .i64 0) (.int .i64 0) (.slice none 0 0):=
 ⟨((Below.refl _ w).alloc (Nat.le_refl _) _).alloc (by simp) _,(Blk.new w _ [.string ⟨#[]⟩,.string ⟨#[]⟩,.int .i64 0,.int .i64 0,.int .i64 0,.int .i64 0,.slice none 0 0]).alloc _,Blk.at _ _ [.string ⟨#[]⟩,.string ⟨#[]⟩,.int .i64 0,.int .i64 0,.int .i64 0,.int .i64 0,.slice none 0 0] (by simp)⟩
section
variable {w W W':World} {x0 x1 x2 x3 x4 x5 x6:Value}
theorem RtM.below (h:RtM w W x0 x1 x2 x3 x4 x5 x6) (hb:Below W.heap.size W W'):RtM w W' x0 x1 x2 x3 x4 x5 x6:=⟨h.be.trans (hb.mono h.be.size),h.r.below hb,h.t.below hb⟩
theorem RtM.set (h:RtM w W x0 x1 x2 x3 x4 x5 x6) (j:Nat) (v:Value):Below w.heap.size w (W.setCell ⟨w.heap.size+1,j,none⟩ v)∧Blk (W.setCell ⟨w.heap.size+1,j,none⟩ v) w.heap.size 35 [.string ⟨#[]⟩,.string ⟨#[]⟩,.int .i64 0,.int .i64 0,.int .i64 0,.int .i64 0,.slice none 0 0]∧Blk (W.setCell ⟨w.heap.size+1,j,none⟩ v) (w.heap.size+1) 35 ([x0,x1,x2,x3,x4,x5,x6].set j v):=
 ⟨h.be.setCell (p:=⟨w.heap.size+1,j,none⟩) (by simp) v,h.r.other (by simp) v,h.t.set j v⟩
end
/-- and two answers -/
structure RtO (w W:World) (ob:Nat) (x0 x1 x2 x3 x4 x5 x6:Value) (o0 o1:Bool):Prop where
 m:RtM w W x0 x1 x2 x3 x4 x5 x6
 o:Blk W ob 143 [.bool o0,.bool o1]
 lt:w.heap.size+1 < ob
section
variable {w W W':World} {ob:Nat} {x0 x1 x2 x3 x4 x5 x6:Value} {o0 o1:Bool}
theorem RtO.made (h:RtM w W x0 x1 x2 x3 x4 x5 x6):RtO w (W.alloc (.cells #[.bool false,.bool false] 143)) W.heap.size x0 x1 x2 x3 x4 x5 x6 false false:=
 ⟨h.below ((Below.refl _ W).alloc (Nat.le_refl _) _),Blk.new W _ [.bool false,.bool false],h.t.lt⟩
theorem RtO.below (h:RtO w W ob x0 x1 x2 x3 x4 x5 x6 o0 o1) (hb:Below W.heap.size W W'):RtO w W' ob x0 x1 x2 x3 x4 x5 x6 o0 o1:=⟨h.m.below hb,h.o.below hb,h.lt⟩
theorem RtO.twoB (h:RtO w W ob x0 x1 x2 x3 x4 x5 x6 o0 o1) (j:Nat) (v:Value) (k:Nat) (b:Bool):Below w.heap.size W ((W.setCell ⟨w.heap.size+1,j,none⟩ v).setCell ⟨ob,k,none⟩ (.bool b)):=
 ((Below.refl w.heap.size W).setCell (p:=⟨w.heap.size+1,j,none⟩) (by simp) v).setCell (p:=⟨ob,k,none⟩) (by have:=h.lt; show w.heap.size≤ob; omega) (.bool b)
theorem RtO.two (h:RtO w W ob x0 x1 x2 x3 x4 x5 x6 o0 o1) (j:Nat) (v:Value) (k:Nat) (b:Bool):Below w.heap.size w ((W.setCell ⟨w.heap.size+1,j,none⟩ v).setCell ⟨ob,k,none⟩ (.bool b))∧Blk ((W.setCell ⟨w.heap.size+1,j,none⟩ v).setCell ⟨ob,k,none⟩ (.bool b)) w.heap.size 35 [.string ⟨#[]⟩,.string ⟨#[]⟩,.int .i64 0,.int .i64 0,.int .i64 0,.int .i64 0,.slice none 0 0] ∧
 Blk ((W.setCell ⟨w.heap.size+1,j,none⟩ v).setCell ⟨ob,k,none⟩ (.bool b)) (w.heap.size+1) 35 ([x0,x1,x2,x3,x4,x5,x6].set j v)∧Blk ((W.setCell ⟨w.heap.size+1,j,none⟩ v).setCell ⟨ob,k,none⟩ (.bool b)) ob 143 ([Value.bool o0,.bool o1].set k (.bool b)):=by
 have hlt:=h.lt
 have h1:=h.m.set j v
 exact ⟨h.m.be.trans (h.twoB j v k b),h1.2.1.other (by show w.heap.size ≠ ob; omega) _,h1.2.2.other (by show w.heap.size+1 ≠ ob; omega) _,(h.o.other (by show ob ≠ w.heap.size+1; omega) v).set k _⟩
theorem RtO.two0 (h:RtO w W ob x0 x1 x2 x3 x4 x5 x6 o0 o1) (v:Value) (b:Bool):RtO w ((W.setCell ⟨w.heap.size+1,0,none⟩ v).setCell ⟨ob,0,none⟩ (.bool b)) ob v x1 x2 x3 x4 x5 x6 b o1:=
 ⟨⟨(h.two 0 v 0 b).1,(h.two 0 v 0 b).2.1,(h.two 0 v 0 b).2.2.1⟩,(h.two 0 v 0 b).2.2.2,h.lt⟩
theorem RtO.two1 (h:RtO w W ob x0 x1 x2 x3 x4 x5 x6 o0 o1) (v:Value) (b:Bool):RtO w ((W.setCell ⟨w.heap.size+1,1,none⟩ v).setCell ⟨ob,1,none⟩ (.bool b)) ob x0 v x2 x3 x4 x5 x6 o0 b:=
 ⟨⟨(h.two 1 v 1 b).1,(h.two 1 v 1 b).2.1,(h.two 1 v 1 b).2.2.1⟩,(h.two 1 v 1 b).2.2.2,h.lt⟩
theorem RtO.body (h:RtO w W ob x0 x1 x2 x3 x4 x5 x6 o0 o1) (v:Value):RtO w (W.setCell ⟨w.heap.size+1,6,none⟩ v) ob x0 x1 x2 x3 x4 x5 v o0 o1:=
 ⟨⟨(h.m.set 6 v).1,(h.m.set 6 v).2.1,(h.m.set 6 v).2.2⟩,h.o.other (by have:=h.lt; show ob ≠ w.heap.size+1; omega) v,h.lt⟩
end
set_option maxRecDepth 100000 in
set_option maxHeartbeats 4000000 in
/-- readTask -/
theorem readTask_c (v:Value) (l:List UInt8) (w:World) (hv:RdB w w.heap.size v l) :
 Calls Tryz.prog 53 #[v] w fun e w'=>TaskPost w.heap.size (readTaskP l) e w'∧Below w.heap.size w w':=by
 have hun:undef=Value.tuple #[]:=rfl
 obtain ⟨a,c,rfl,hm, -, -⟩:=hv.open_
 have HV:=Lib.hid hv
 clear hv
 have hM:=RtM.start w
 by_cases h13:l.length < 13
 ·have t1:decide ((l.length:Int) < 13)=true:=decide_eq_true (by omega)
  have HR:Hid (readTaskP l=none):=Lib.hid (by unfold readTaskP; rw [if_pos h13])
  have HB:=Lib.hid hM.be
  obtain ⟨k0,k1,k2,k3,k4,k5,k6,kf⟩:=t7_of hM.r
  clear h13 hM
  go_enter Tryz.func53,Tryz.ntmps53
  go_wp2
  refine bodyPost_ret (v:=.tuple #[taskV zeroT (.slice none 0 0),.bool false]) (by simp [results,Tryz.results53,go_sem,k0,k1,k2,k3,k4,k5,k6,zeroT]) rfl ?_
  rw [HR.out]
  exact ⟨rfl,HB.out⟩
 have t1:decide ((l.length:Int) < 13)=false:=decide_eq_false (by omega)
 obtain ⟨d4,hd4⟩:∃ d,l.drop 4=d:=⟨_,rfl⟩
 obtain ⟨d8,hd8⟩:∃ d,d4.drop 4=d:=⟨_,rfl⟩
 obtain ⟨d12,hd12⟩:∃ d,d8.drop 4=d:=⟨_,rfl⟩
 obtain ⟨n0,hn0⟩:∃ n,numV (l.take 4)=n:=⟨_,rfl⟩
 obtain ⟨n4,hn4⟩:∃ n,numV (d4.take 4)=n:=⟨_,rfl⟩
 obtain ⟨n8,hn8⟩:∃ n,numV (d8.take 4)=n:=⟨_,rfl⟩
 have l4:d4.length=l.length - 4:=by rw [← hd4,List.length_drop]
 have l8:d8.length=l.length - 8:=by rw [← hd8,List.length_drop]; omega
 have l12:d12.length=l.length - 12:=by rw [← hd12,List.length_drop]; omega
 have HD0:=Lib.hid (And.intro hn0 hd4)
 have HD1:=Lib.hid (And.intro hn4 hd8)
 have HD2:=Lib.hid (And.intro hn8 hd12)
 have G4:=Lib.hid (show 4≤d4.length by omega)
 have G8:=Lib.hid (show 4≤d8.length by omega)
 have G12:=Lib.hid (show 1≤d12.length by omega)
 have hl13:=Lib.hid h13
 clear hd4 hd8 hd12 hn0 hn4 hn8 l4 l8 l12
 have HM:=Lib.hid hM
 obtain ⟨k0,k1,k2,k3,k4,k5,k6,kf⟩:=t7_of hM.t
 have h1:=Lib.hid (readNumber_c (.slice a l.length c) l w.heap.size ((w.alloc (.cells #[.string ⟨#[]⟩,.string ⟨#[]⟩,.int .i64 0,.int .i64 0,.int .i64 0,.int .i64 0,.slice none 0 0] 35)).alloc (.cells #[.string ⟨#[]⟩,.string ⟨#[]⟩,.int .i64 0,.int .i64 0,.int .i64 0,.int .i64 0,.slice none 0 0] 35)) (HV.out.below hM.be) (by omega))
 clear hM
 go_enter Tryz.func53,Tryz.ntmps53
 go_wp2_with fail
 refine h1.out.mono ?_
 rw [HD0.out.1,HD0.out.2]
 rintro e w3 ⟨⟨v3,rfl,hv3⟩,hb3⟩
 clear h1 k0 k1 k2 k3 k4 k5 k6 kf
 have hM3:=HM.out.below hb3
 obtain ⟨a3,c3,rfl, -, -, -⟩:=hv3.open_
 obtain ⟨k0,k1,k2,k3,k4,k5,k6,kf⟩:=t7_of hM3.t
 have HS:=Lib.hid (hM3.set 2 (.int .i64 (n0:Nat)))
 have HR3:=Lib.hid (hv3.below ((Below.refl w.heap.size w3).setCell (p:=⟨w.heap.size+1,2,none⟩) (by simp) (.int .i64 (n0:Nat))))
 have HM:=Lib.hid (show RtM w (w3.setCell ⟨w.heap.size+1,2,none⟩ (.int .i64 (n0:Nat))) (.string ⟨#[]⟩) (.string ⟨#[]⟩) (.int .i64 (n0:Nat)) (.int .i64 0) (.int .i64 0) (.int .i64 0) (.slice none 0 0) from ⟨HS.out.1,HS.out.2.1,HS.out.2.2⟩)
 have h:=Lib.hid (readNumber_c _ d4 w.heap.size _ HR3.out G4.out)
 clear hM3 HS HR3
 go_wp2_with fail
 refine h.out.mono ?_
 rw [HD1.out.1,HD1.out.2]
 rintro e w5 ⟨⟨v5,rfl,hv5⟩,hb5⟩
 clear h k0 k1 k2 k3 k4 k5 k6 kf
 clear hb3 hv3
 have hM5:=HM.out.below hb5
 obtain ⟨a5,c5,rfl, -, -, -⟩:=hv5.open_
 obtain ⟨k0,k1,k2,k3,k4,k5,k6,kf⟩:=t7_of hM5.t
 have HS:=Lib.hid (hM5.set 3 (.int .i64 (n4:Nat)))
 have HR5:=Lib.hid (hv5.below ((Below.refl w.heap.size w5).setCell (p:=⟨w.heap.size+1,3,none⟩) (by simp) (.int .i64 (n4:Nat))))
 have HM:=Lib.hid (show RtM w (w5.setCell ⟨w.heap.size+1,3,none⟩ (.int .i64 (n4:Nat))) (.string ⟨#[]⟩) (.string ⟨#[]⟩) (.int .i64 (n0:Nat)) (.int .i64 (n4:Nat)) (.int .i64 0) (.int .i64 0) (.slice none 0 0) from ⟨HS.out.1,HS.out.2.1,HS.out.2.2⟩)
 have h:=Lib.hid (readNumber_c _ d8 w.heap.size _ HR5.out G8.out)
 clear hM5 HS HR5
 go_wp2_with fail
 refine h.out.mono ?_
 rw [HD2.out.1,HD2.out.2]
 rintro e w7 ⟨⟨v7,rfl,hv7⟩,hb7⟩
 clear h k0 k1 k2 k3 k4 k5 k6 kf
 clear hb5 hv5
 have hM7:=HM.out.below hb7
 obtain ⟨a7,c7,rfl, -, -, -⟩:=hv7.open_
 obtain ⟨k0,k1,k2,k3,k4,k5,k6,kf⟩:=t7_of hM7.t
 have HS:=Lib.hid (hM7.set 4 (.int .i64 (n8:Nat)))
 have HR7:=Lib.hid (hv7.below ((Below.refl w.heap.size w7).setCell (p:=⟨w.heap.size+1,4,none⟩) (by simp) (.int .i64 (n8:Nat))))
 have HM:=Lib.hid (show RtM w (w7.setCell ⟨w.heap.size+1,4,none⟩ (.int .i64 (n8:Nat))) (.string ⟨#[]⟩) (.string ⟨#[]⟩) (.int .i64 (n0:Nat)) (.int .i64 (n4:Nat)) (.int .i64 (n8:Nat)) (.int .i64 0) (.slice none 0 0) from ⟨HS.out.1,HS.out.2.1,HS.out.2.2⟩)
 clear hM7 HS hb7
 go_upto_region 7 with (fail)
 clear k0 k1 k2 k3 k4 k5 k6 kf
 obtain ⟨k0,k1,k2,k3,k4,k5,k6,kf⟩:=t7_of HM.out.t
 rcases HR7.out with ⟨_,e⟩ | ⟨g,off,cap,e,h1,h2,h3,hc⟩
 ·exfalso; have:=G12.out; rw [e] at this; simp at this
 simp only [Value.slice.injEq,true_and] at e
 obtain ⟨rfl,rfl⟩:=e
 have hs1:=Lib.hid (rdB_drop 1 g off c7 G12.out h1 h2 h3 hc)
 obtain ⟨b,r,hbr⟩:∃ b r,d12=b :: r:=by
  cases d12 with
  | nil=>have:=G12.out; simp at this
  | cons b r=>exact ⟨b,r,rfl⟩
 have c0:=hc 0 (by have:=G12.out; omega)
 simp only [Nat.add_zero] at c0
 have eb:d12.getD 0 0=b:=by rw [hbr]; rfl
 have er:d12.drop 1=r:=by rw [hbr]; rfl
 rw [eb] at c0
 rw [er] at hs1
 have hlen:=Lib.hid (show d12.length=r.length+1 by rw [hbr]; rfl)
 have HBR:=Lib.hid hbr
 have p0:0 < d12.length:=by have:=G12.out; omega
 have p1:(0:Int) < (d12.length:Int):=by omega
 have p2:(1:Int)≤(d12.length:Int):=by omega
 clear hc eb er h3 HR7 hbr
 generalize d12.length=n12 at *
 generalize w7.setCell ⟨w.heap.size+1,4,none⟩ (.int .i64 (n8:Nat))=w8 at *
 have hu:=b.toNat_lt
 unfold maxLen at h2
 go_region
 have HM9:=Lib.hid (show RtM w (w8.setCell ⟨w.heap.size+1,5,none⟩ (.int .i64 b.toNat)).drew (.string ⟨#[]⟩) (.string ⟨#[]⟩) (.int .i64 (n0:Nat)) (.int .i64 (n4:Nat)) (.int .i64 (n8:Nat)) (.int .i64 b.toNat) (.slice none 0 0) from ⟨(HM.out.set 5 (.int .i64 b.toNat)).1.drew,(HM.out.set 5 (.int .i64 b.toNat)).2.1,(HM.out.set 5 (.int .i64 b.toNat)).2.2⟩)
 have HS9:=Lib.hid (show RdB (w8.setCell ⟨w.heap.size+1,5,none⟩ (.int .i64 b.toNat)).drew w.heap.size _ r from hs1.out.below ((Below.refl w.heap.size w8).setCell (p:=⟨w.heap.size+1,5,none⟩) (by simp) (.int .i64 b.toNat)).drew)
 have er1:n12 - 1=r.length:=by have:=hlen.out; omega
 rw [er1] at HS9 ⊢
 clear hs1 k0 k1 k2 k3 k4 k5 k6 kf c0 HM er1 hv7
 generalize (if c7=1 then some (⟨g,off,none⟩:Addr) else some ⟨g,off+1,none⟩)=pa at *
 generalize (w8.setCell ⟨w.heap.size+1,5,none⟩ (.int .i64 b.toNat)).drew=w9 at *
 have HO:=Lib.hid (RtO.made HM9.out)
 have hv:=HS9.out.below ((Below.refl w9.heap.size w9).alloc (Nat.le_refl _) (.cells #[.bool false,.bool false] 143) |>.mono HM9.out.be.size)
 have h:=Lib.hid (readName_c _ r w.heap.size _ hv)
 clear HM9 HS9 hv
 have hobs:w.heap.size+1 < w9.heap.size:=HO.out.lt
 generalize hob:w9.heap.size=ob at *
 have ne1:ob ≠ w.heap.size+1:=by omega
 have ne2:w.heap.size+1 ≠ ob:=by omega
 go_wp2_with fail
 refine h.out.mono ?_
 rintro e w11 ⟨hp,hb11⟩
 have HO:=Lib.hid (HO.out.below hb11)
 clear h hb11
 obtain ⟨k0,k1,k2,k3,k4,k5,k6,kf⟩:=t7_of HO.out.m.t
 have o0:=HO.out.o.cell 0 (by simp)
 have o1:=HO.out.o.cell 1 (by simp)
 have of0:=HO.out.o.frozen 0
 have of1:=HO.out.o.frozen 1
 simp only [List.getD_cons_zero,List.getD_cons_succ] at o0 o1
 cases hr1:rName r with
 | none=>
   rw [hr1] at hp
   subst hp
   have HRT:Hid (readTaskP l=none):=Lib.hid (by
    unfold readTaskP
    rw [if_neg hl13.out]
    have e13:l.drop 13=r:=by
     have:l.drop 13=(((l.drop 4).drop 4).drop 4).drop 1:=by simp [List.drop_drop]
     rw [this,HD0.out.2,HD1.out.2,HD2.out.2,HBR.out]; rfl
    rw [e13,hr1])
   have HO:=Lib.hid (HO.out.two0 (.string ⟨#[]⟩) false)
   have h:=Lib.hid (readName_c (.slice none 0 0) [] w.heap.size ((w11.setCell ⟨w.heap.size+1,0,none⟩ (.string ⟨#[]⟩)).setCell ⟨ob,0,none⟩ (.bool false)) (RdB.nil _ _))
   unfold zeroName
   go_wp2_with fail
   refine h.out.mono ?_
   rintro e w13 ⟨hp,hb13⟩
   have hp:e=.returned zeroName:=hp
   subst hp
   have HO:=Lib.hid (HO.out.below hb13)
   clear h hb13
   clear k0 k1 k2 k3 k4 k5 k6 kf o0 o1 of0 of1
   obtain ⟨k0,k1,k2,k3,k4,k5,k6,kf⟩:=t7_of HO.out.m.t
   have o0:=HO.out.o.cell 0 (by simp)
   have o1:=HO.out.o.cell 1 (by simp)
   have of0:=HO.out.o.frozen 0
   have of1:=HO.out.o.frozen 1
   simp only [List.getD_cons_zero,List.getD_cons_succ] at o0 o1
   have HO:=Lib.hid ((HO.out.two1 (.string ⟨#[]⟩) false).body (.slice none 0 0))
   unfold zeroName
   go_upto_region 12 with (fail)
   generalize ((w13.setCell ⟨w.heap.size+1,1,none⟩ (.string ⟨#[]⟩)).setCell ⟨ob,1,none⟩ (.bool false)).setCell ⟨w.heap.size+1,6,none⟩ (.slice none 0 0)=w14 at *
   clear k0 k1 k2 k3 k4 k5 k6 kf o0 o1 of0 of1
   obtain ⟨k0,k1,k2,k3,k4,k5,k6,kf⟩:=t7_of HO.out.m.t
   have o0:=HO.out.o.cell 0 (by simp)
   have o1:=HO.out.o.cell 1 (by simp)
   have of0:=HO.out.o.frozen 0
   have of1:=HO.out.o.frozen 1
   simp only [List.getD_cons_zero,List.getD_cons_succ] at o0 o1
   obtain ⟨q0,q1,q2,q3,q4,q5,q6,qf⟩:=t7_of HO.out.m.r
   go_wp2
   have hz7:=set7_blk HO.out.m.r (.string ⟨#[]⟩) (.string ⟨#[]⟩) (.int .i64 0) (.int .i64 0) (.int .i64 0) (.int .i64 0) (.slice none 0 0)
   have hb7:=set7_below HO.out.m.be (Nat.le_refl _) (Nat.le_refl _) (.string ⟨#[]⟩) (.string ⟨#[]⟩) (.int .i64 0) (.int .i64 0) (.int .i64 0) (.int .i64 0) (.slice none 0 0)
   change bodyPost _ _ _ _ _ (set7 w14 w.heap.size (.string ⟨#[]⟩) (.string ⟨#[]⟩) (.int .i64 0) (.int .i64 0) (.int .i64 0) (.int .i64 0) (.slice none 0 0))
   generalize set7 w14 w.heap.size (.string ⟨#[]⟩) (.string ⟨#[]⟩) (.int .i64 0) (.int .i64 0) (.int .i64 0) (.int .i64 0) (.slice none 0 0)=w20 at *
   obtain ⟨z0,z1,z2,z3,z4,z5,z6, -⟩:=t7_of hz7
   refine bodyPost_ret (v:=.tuple #[taskV zeroT (.slice none 0 0),.bool false]) (by simp [results,Tryz.results53,go_sem,z0,z1,z2,z3,z4,z5,z6,zeroT]) rfl ?_
   rw [HRT.out]
   exact ⟨rfl,hb7⟩
 | some cr=>
   obtain ⟨c1,r1⟩:=cr
   rw [hr1] at hp
   obtain ⟨v',rfl,hv'⟩:=hp
   obtain ⟨a',c',rfl, -, -, -⟩:=hv'.open_
   have hv':=hv'.below (HO.out.twoB 0 (strV c1) 0 true)
   have HO:=Lib.hid (HO.out.two0 (strV c1) true)
   have h:=Lib.hid (readName_c (.slice a' r1.length c') r1 w.heap.size ((w11.setCell ⟨w.heap.size+1,0,none⟩ (strV c1)).setCell ⟨ob,0,none⟩ (.bool true)) hv')
   clear hv'
   go_wp2_with fail
   refine h.out.mono ?_
   rintro e w13 ⟨hp,hb13⟩
   have HO:=Lib.hid (HO.out.below hb13)
   clear h hb13
   clear k0 k1 k2 k3 k4 k5 k6 kf o0 o1 of0 of1
   cases hr2:rName r1 with
   | none=>
     rw [hr2] at hp
     subst hp
     have HRT:Hid (readTaskP l=none):=Lib.hid (by
      unfold readTaskP
      rw [if_neg hl13.out]
      have e13:l.drop 13=r:=by
       have:l.drop 13=(((l.drop 4).drop 4).drop 4).drop 1:=by simp [List.drop_drop]
       rw [this,HD0.out.2,HD1.out.2,HD2.out.2,HBR.out]; rfl
      rw [e13,hr1]
      simp only
      rw [hr2])
     obtain ⟨k0,k1,k2,k3,k4,k5,k6,kf⟩:=t7_of HO.out.m.t
     have o0:=HO.out.o.cell 0 (by simp)
     have o1:=HO.out.o.cell 1 (by simp)
     have of0:=HO.out.o.frozen 0
     have of1:=HO.out.o.frozen 1
     simp only [List.getD_cons_zero,List.getD_cons_succ] at o0 o1
     have HO:=Lib.hid ((HO.out.two1 (.string ⟨#[]⟩) false).body (.slice none 0 0))
     unfold zeroName
     go_upto_region 12 with (fail)
     generalize ((w13.setCell ⟨w.heap.size+1,1,none⟩ (.string ⟨#[]⟩)).setCell ⟨ob,1,none⟩ (.bool false)).setCell ⟨w.heap.size+1,6,none⟩ (.slice none 0 0)=w14 at *
     clear k0 k1 k2 k3 k4 k5 k6 kf o0 o1 of0 of1
     obtain ⟨k0,k1,k2,k3,k4,k5,k6,kf⟩:=t7_of HO.out.m.t
     have o0:=HO.out.o.cell 0 (by simp)
     have o1:=HO.out.o.cell 1 (by simp)
     have of0:=HO.out.o.frozen 0
     have of1:=HO.out.o.frozen 1
     simp only [List.getD_cons_zero,List.getD_cons_succ] at o0 o1
     obtain ⟨q0,q1,q2,q3,q4,q5,q6,qf⟩:=t7_of HO.out.m.r
     go_wp2
     have hz7:=set7_blk HO.out.m.r (.string ⟨#[]⟩) (.string ⟨#[]⟩) (.int .i64 0) (.int .i64 0) (.int .i64 0) (.int .i64 0) (.slice none 0 0)
     have hb7:=set7_below HO.out.m.be (Nat.le_refl _) (Nat.le_refl _) (.string ⟨#[]⟩) (.string ⟨#[]⟩) (.int .i64 0) (.int .i64 0) (.int .i64 0) (.int .i64 0) (.slice none 0 0)
     change bodyPost _ _ _ _ _ (set7 w14 w.heap.size (.string ⟨#[]⟩) (.string ⟨#[]⟩) (.int .i64 0) (.int .i64 0) (.int .i64 0) (.int .i64 0) (.slice none 0 0))
     generalize set7 w14 w.heap.size (.string ⟨#[]⟩) (.string ⟨#[]⟩) (.int .i64 0) (.int .i64 0) (.int .i64 0) (.int .i64 0) (.slice none 0 0)=w20 at *
     obtain ⟨z0,z1,z2,z3,z4,z5,z6, -⟩:=t7_of hz7
     refine bodyPost_ret (v:=.tuple #[taskV zeroT (.slice none 0 0),.bool false]) (by simp [results,Tryz.results53,go_sem,z0,z1,z2,z3,z4,z5,z6,zeroT]) rfl ?_
     rw [HRT.out]
     exact ⟨rfl,hb7⟩
   | some cr=>
     obtain ⟨m1,body⟩:=cr
     rw [hr2] at hp
     obtain ⟨v',rfl,hv'⟩:=hp
     obtain ⟨a2,c2,rfl, -, -, -⟩:=hv'.open_
     have hv':=(hv'.below (HO.out.twoB 1 (strV m1) 1 true)).below ((Below.refl w.heap.size _).setCell (p:=⟨w.heap.size+1,6,none⟩) (by simp) (.slice a2 body.length c2))
     have HV2:=Lib.hid hv'
     clear hv'
     obtain ⟨k0,k1,k2,k3,k4,k5,k6,kf⟩:=t7_of HO.out.m.t
     have o0:=HO.out.o.cell 0 (by simp)
     have o1:=HO.out.o.cell 1 (by simp)
     have of0:=HO.out.o.frozen 0
     have of1:=HO.out.o.frozen 1
     simp only [List.getD_cons_zero,List.getD_cons_succ] at o0 o1
     have HO:=Lib.hid ((HO.out.two1 (strV m1) true).body (.slice a2 body.length c2))
     have HRT:Hid (readTaskP l=if timelyB ⟨c1,m1,n0,n4,n8,b.toNat,body⟩ && decide (body.length≤4000) then some ⟨c1,m1,n0,n4,n8,b.toNat,body⟩ else none):=Lib.hid (by
      unfold readTaskP
      rw [if_neg hl13.out]
      have e13:l.drop 13=r:=by
       have:l.drop 13=(((l.drop 4).drop 4).drop 4).drop 1:=by simp [List.drop_drop]
       rw [this,HD0.out.2,HD1.out.2,HD2.out.2,HBR.out]; rfl
      have e8:l.drop 8=d8:=by
       have:l.drop 8=(l.drop 4).drop 4:=by simp [List.drop_drop]
       rw [this,HD0.out.2,HD1.out.2]
      have e12:l.getD 12 0=b:=by
       have h12:l.drop 12=b :: r:=by
        have:l.drop 12=((l.drop 4).drop 4).drop 4:=by simp [List.drop_drop]
        rw [this,HD0.out.2,HD1.out.2,HD2.out.2,HBR.out]
       have h6:=congrArg (fun l=>l.head?) h12
       simp only [List.head?_drop,List.head?_cons] at h6
       rw [List.getD_eq_getElem?_getD,h6]; rfl
      rw [e13,hr1]
      simp only
      rw [hr2]
      simp only
      rw [HD0.out.1,HD0.out.2,HD1.out.1,e8,HD2.out.1,e12])
     go_upto_region 12 with (fail)
     generalize ((w13.setCell ⟨w.heap.size+1,1,none⟩ (strV m1)).setCell ⟨ob,1,none⟩ (.bool true)).setCell ⟨w.heap.size+1,6,none⟩ (.slice a2 body.length c2)=w14 at *
     clear k0 k1 k2 k3 k4 k5 k6 kf o0 o1 of0 of1
     obtain ⟨k0,k1,k2,k3,k4,k5,k6,kf⟩:=t7_of HO.out.m.t
     have o0:=HO.out.o.cell 0 (by simp)
     have o1:=HO.out.o.cell 1 (by simp)
     have of0:=HO.out.o.frozen 0
     have of1:=HO.out.o.frozen 1
     simp only [List.getD_cons_zero,List.getD_cons_succ] at o0 o1
     have h:=Lib.hid (timely_c ⟨c1,m1,n0,n4,n8,b.toNat,body⟩ a2 body.length c2 w14)
     cases htm:timelyB ⟨c1,m1,n0,n4,n8,b.toNat,body⟩ with
     | false=>
       rw [htm] at h HRT
       simp only [Bool.false_and,Bool.false_eq_true,if_false] at HRT
       go_wp2_with fail
       refine h.out.mono ?_
       rintro e w15 ⟨rfl,hb15⟩
       have HO:=Lib.hid (HO.out.below hb15)
       clear h hb15
       clear k0 k1 k2 k3 k4 k5 k6 kf o0 o1 of0 of1
       obtain ⟨q0,q1,q2,q3,q4,q5,q6,qf⟩:=t7_of HO.out.m.r
       go_wp2
       have hz7:=set7_blk HO.out.m.r (.string ⟨#[]⟩) (.string ⟨#[]⟩) (.int .i64 0) (.int .i64 0) (.int .i64 0) (.int .i64 0) (.slice none 0 0)
       have hb7:=set7_below HO.out.m.be (Nat.le_refl _) (Nat.le_refl _) (.string ⟨#[]⟩) (.string ⟨#[]⟩) (.int .i64 0) (.int .i64 0) (.int .i64 0) (.int .i64 0) (.slice none 0 0)
       change bodyPost _ _ _ _ _ (set7 w15 w.heap.size (.string ⟨#[]⟩) (.string ⟨#[]⟩) (.int .i64 0) (.int .i64 0) (.int .i64 0) (.int .i64 0) (.slice none 0 0))
       generalize set7 w15 w.heap.size (.string ⟨#[]⟩) (.string ⟨#[]⟩) (.int .i64 0) (.int .i64 0) (.int .i64 0) (.int .i64 0) (.slice none 0 0)=w20 at *
       obtain ⟨z0,z1,z2,z3,z4,z5,z6, -⟩:=t7_of hz7
       refine bodyPost_ret (v:=.tuple #[taskV zeroT (.slice none 0 0),.bool false]) (by simp [results,Tryz.results53,go_sem,z0,z1,z2,z3,z4,z5,z6,zeroT]) rfl ?_
       rw [HRT.out]
       exact ⟨rfl,hb7⟩
     | true=>
       rw [htm] at h HRT
       go_wp2_with fail
       refine h.out.mono ?_
       rintro e w15 ⟨rfl,hb15⟩
       have HO2:=Lib.hid (HO.out.below hb15)
       have HV2:=Lib.hid (HV2.out.below (hb15.mono HO.out.m.be.size))
       have HO:=HO2
       clear h hb15 HO2
       clear k0 k1 k2 k3 k4 k5 k6 kf o0 o1 of0 of1
       obtain ⟨k0,k1,k2,k3,k4,k5,k6,kf⟩:=t7_of HO.out.m.t
       have o0:=HO.out.o.cell 0 (by simp)
       have o1:=HO.out.o.cell 1 (by simp)
       have of0:=HO.out.o.frozen 0
       have of1:=HO.out.o.frozen 1
       simp only [List.getD_cons_zero,List.getD_cons_succ] at o0 o1
       by_cases h4:body.length≤4000
       ·have t4:decide ((4000:Int) < (body.length:Int))=false:=decide_eq_false (by omega)
        simp only [Bool.true_and,decide_eq_true h4,if_true] at HRT
        clear h4
        obtain ⟨q0,q1,q2,q3,q4,q5,q6,qf⟩:=t7_of HO.out.m.r
        go_wp2
        have hz7:=set7_blk HO.out.m.r (strV c1) (strV m1) (.int .i64 (n0:Nat)) (.int .i64 (n4:Nat)) (.int .i64 (n8:Nat)) (.int .i64 b.toNat) (.slice a2 body.length c2)
        have hb7:=set7_below HO.out.m.be (Nat.le_refl _) (Nat.le_refl _) (strV c1) (strV m1) (.int .i64 (n0:Nat)) (.int .i64 (n4:Nat)) (.int .i64 (n8:Nat)) (.int .i64 b.toNat) (.slice a2 body.length c2)
        have hv7:=HV2.out.below (set7_below (Below.refl w.heap.size w15) (Nat.le_refl _) (HO.out.m.be.size) (strV c1) (strV m1) (.int .i64 (n0:Nat)) (.int .i64 (n4:Nat)) (.int .i64 (n8:Nat)) (.int .i64 b.toNat) (.slice a2 body.length c2))
        change bodyPost _ _ _ _ _ (set7 w15 w.heap.size (strV c1) (strV m1) (.int .i64 (n0:Nat)) (.int .i64 (n4:Nat)) (.int .i64 (n8:Nat)) (.int .i64 b.toNat) (.slice a2 body.length c2))
        generalize set7 w15 w.heap.size (strV c1) (strV m1) (.int .i64 (n0:Nat)) (.int .i64 (n4:Nat)) (.int .i64 (n8:Nat)) (.int .i64 b.toNat) (.slice a2 body.length c2)=w20 at *
        obtain ⟨z0,z1,z2,z3,z4,z5,z6, -⟩:=t7_of hz7
        refine bodyPost_ret (v:=.tuple #[taskV ⟨c1,m1,n0,n4,n8,b.toNat,body⟩ (.slice a2 body.length c2),.bool true]) (by simp [results,Tryz.results53,go_sem,z0,z1,z2,z3,z4,z5,z6]) rfl ?_
        rw [HRT.out]
        exact ⟨⟨a2,c2,rfl,hv7⟩,hb7⟩
       ·have t4:decide ((4000:Int) < (body.length:Int))=true:=decide_eq_true (by omega)
        simp only [Bool.true_and,decide_eq_false h4,Bool.false_eq_true,if_false] at HRT
        clear h4 HV2
        obtain ⟨q0,q1,q2,q3,q4,q5,q6,qf⟩:=t7_of HO.out.m.r
        go_wp2
        have hz7:=set7_blk HO.out.m.r (.string ⟨#[]⟩) (.string ⟨#[]⟩) (.int .i64 0) (.int .i64 0) (.int .i64 0) (.int .i64 0) (.slice none 0 0)
        have hb7:=set7_below HO.out.m.be (Nat.le_refl _) (Nat.le_refl _) (.string ⟨#[]⟩) (.string ⟨#[]⟩) (.int .i64 0) (.int .i64 0) (.int .i64 0) (.int .i64 0) (.slice none 0 0)
        change bodyPost _ _ _ _ _ (set7 w15 w.heap.size (.string ⟨#[]⟩) (.string ⟨#[]⟩) (.int .i64 0) (.int .i64 0) (.int .i64 0) (.int .i64 0) (.slice none 0 0))
        generalize set7 w15 w.heap.size (.string ⟨#[]⟩) (.string ⟨#[]⟩) (.int .i64 0) (.int .i64 0) (.int .i64 0) (.int .i64 0) (.slice none 0 0)=w20 at *
        obtain ⟨z0,z1,z2,z3,z4,z5,z6, -⟩:=t7_of hz7
        refine bodyPost_ret (v:=.tuple #[taskV zeroT (.slice none 0 0),.bool false]) (by simp [results,Tryz.results53,go_sem,z0,z1,z2,z3,z4,z5,z6,zeroT]) rfl ?_
        rw [HRT.out]
        exact ⟨rfl,hb7⟩
end
section
open Go.RowKit SeedP Go.Maps
set_option maxRecDepth 100000 in
set_option maxHeartbeats 2000000 in
/-- Commit of a journal that is down, or of too few or too many changes, or of changes that are not valid -/
theorem commit_early' {jb db mb:Nat} {p:Nat→Prop} {s:JS} (v:Value) (cs:List Chg) (w:World) (h:JW w jb db mb p s) (hc:ChgsP w (fun g=>g ≠ jb∧g ≠ db∧g ≠ mb) v cs) (hn:cs.length≤1000000) (HVx:∀ w2,Below w.heap.size w w2→Calls Tryz.prog 95 #[v] w2 fun e w'=>e=.returned (.int .i64 (validP cs))∧Below w2.heap.size w2 w') (hx:s.down=true∨cs.length=0∨64 < cs.length∨validP cs ≠ 0) :
 Calls Tryz.prog 60 #[.pointer (some ⟨jb,0,none⟩),v] w fun e w'=>e=.returned (.int .i64 (jCommit cs s).2)∧(jCommit cs s).1=s∧Below w.heap.size w w':=by
 have hB2:Below w.heap.size w ((w.alloc (.cells #[.pointer (some ⟨jb,0,none⟩)] 52)).alloc (.cells #[v] 69)):=((Below.refl _ _).alloc (Nat.le_refl _) _).alloc (by simp) _
 have HR:=Lib.hid (refused_c _ (h.below hB2))
 have hcg:=hc.grown (Grown.of_below hB2 (S:=fun _=>False)) (fun _ _ h=>h)
 have HV:=Lib.hid (HVx _ hB2)
 obtain ⟨a,cap,rfl,_,_,_⟩:=hc
 have X2:Blk ((w.alloc (.cells #[.pointer (some ⟨jb,0,none⟩)] 52)).alloc (.cells #[.slice a cs.length cap] 69)) w.heap.size 52 [.pointer (some ⟨jb,0,none⟩)]:=(Blk.new w 52 [.pointer (some ⟨jb,0,none⟩)]).alloc _
 have E2:Blk ((w.alloc (.cells #[.pointer (some ⟨jb,0,none⟩)] 52)).alloc (.cells #[.slice a cs.length cap] 69)) (w.heap.size+1) 69 [.slice a cs.length cap]:=by
  have:=Blk.new (w.alloc (.cells #[.pointer (some ⟨jb,0,none⟩)] 52)) 69 [.slice a cs.length cap]
  simpa using this
 have hlb:(cs.length:Int)≤1000000:=by omega
 have HX:=Lib.hid hx
 have HB2:=Lib.hid hB2
 have x0:=X2.cell 0 (by simp)
 have e0:=E2.cell 0 (by simp)
 simp only [List.getD_cons_zero] at x0 e0
 clear hx hB2 h X2 E2 hcg HVx
 go_enter Tryz.func60,Tryz.ntmps60
 go_wp2_with fail
 refine HR.out.mono ?_
 rintro e w3 ⟨rfl,rfl⟩
 clear HR
 generalize (w.alloc (.cells #[.pointer (some ⟨jb,0,none⟩)] 52)).alloc (.cells #[.slice a cs.length cap] 69)=w2 at *
 have HD:Hid (∀ d,s.down=d→(d=true→jCommit cs s=(s,360))∧(d=false→cs.length=0∨64 < cs.length→jCommit cs s=(s,5))∧(d=false→¬ (cs.length=0∨64 < cs.length)→validP cs ≠ 0→jCommit cs s=(s,validP cs))):=Lib.hid (by
  rintro d hd
  refine ⟨fun h=>?_,fun h h2=>?_,fun h h2 h3=>?_⟩ <;> unfold jCommit
  ·rw [if_pos (by rw [hd,h])]
  ·rw [if_neg (by rw [hd,h]; simp),if_pos h2]
  ·rw [if_neg (by rw [hd,h]; simp),if_neg h2,if_pos h3])
 have HJ:Hid (∀ r:Int,jCommit cs s=(s,r)→Ending.returned (.int .i64 r)=.returned (.int .i64 (jCommit cs s).2)∧(jCommit cs s).1=s):=Lib.hid (fun r h=>by rw [h]; exact ⟨rfl,rfl⟩)
 generalize hdd:s.down=d at *
 have HDD:=Lib.hid hdd
 clear hdd
 cases d
 ·simp only [Bool.false_eq_true,if_false]
  by_cases h0:cs.length=0
  ·have h0':((cs.length:Int) == 0)=true:=by simp [h0]
   have h64:(decide ((64:Int) < (cs.length:Int)))=false:=by simp; omega
   have HZ:=Lib.hid h0
   clear h0
   go_wp2
   go_ret
   exact ⟨(HJ.out 5 ((HD.out false rfl).2.1 rfl (Or.inl HZ.out))).1,(HJ.out 5 ((HD.out false rfl).2.1 rfl (Or.inl HZ.out))).2,HB2.out⟩
  ·have h0':((cs.length:Int) == 0)=false:=by simpa using h0
   by_cases h6:64 < cs.length
   ·have h64:(decide ((64:Int) < (cs.length:Int)))=true:=by simp; omega
    have HZ:=Lib.hid h6
    clear h0 h6
    go_wp2
    go_ret
    exact ⟨(HJ.out 5 ((HD.out false rfl).2.1 rfl (Or.inr HZ.out))).1,(HJ.out 5 ((HD.out false rfl).2.1 rfl (Or.inr HZ.out))).2,HB2.out⟩
   ·have h64:(decide ((64:Int) < (cs.length:Int)))=false:=by simp; omega
    have HVV:Hid (validP cs ≠ 0∧¬ (cs.length=0∨64 < cs.length)):=Lib.hid (by
     have:=HX.out
     refine ⟨?_,by omega⟩
     rcases this with h | h | h | h
     ·cases h
     ·exact absurd h h0
     ·exact absurd h h6
     ·exact h)
    clear h0 h6
    go_wp2_with fail
    refine HV.out.mono ?_
    rintro e w4 ⟨rfl,hb4⟩
    have hvb:(validP cs != 0)=true:=by have:=HVV.out.1; simpa using this
    have HFI:=Lib.hid (And.intro (HJ.out (validP cs) ((HD.out false rfl).2.2 rfl HVV.out.2 HVV.out.1)) (HB2.out.trans (hb4.mono HB2.out.size)))
    generalize validP cs=vp at *
    go_wp2
    go_ret
    exact ⟨HFI.out.1.1,HFI.out.1.2,HFI.out.2⟩
 ·simp only [if_true]
  go_wp2
  go_ret
  exact ⟨(HJ.out 360 ((HD.out true rfl).1 rfl)).1,(HJ.out 360 ((HD.out true rfl).1 rfl)).2,HB2.out⟩
/-- the same, for changes of a common size -/
theorem commit_early {jb db mb:Nat} {p:Nat→Prop} {s:JS} (v:Value) (cs:List Chg) (w:World) (h:JW w jb db mb p s) (hc:ChgsP w (fun g=>g ≠ jb∧g ≠ db∧g ≠ mb) v cs) (hn:cs.length≤1000000) (hb:∀ c ∈ cs,c.key.length≤1073741824∧c.val.length≤1073741824) (hx:s.down=true∨cs.length=0∨64 < cs.length∨validP cs ≠ 0) :
 Calls Tryz.prog 60 #[.pointer (some ⟨jb,0,none⟩),v] w fun e w'=>e=.returned (.int .i64 (jCommit cs s).2)∧(jCommit cs s).1=s∧Below w.heap.size w w':=
 commit_early' v cs w h hc hn (fun _ hB=>valid_c v cs _ (hc.grown (Grown.of_below hB (S:=fun _=>False)) (fun _ _ h=>h)).toB hn (fun c hc=>by have:=hb c hc; omega)) hx
end
end Go.Proofs.YtbcfpdlhieaepaaGreatDoor
