/- The reference's journal: cut. -/
import Derived.Test.YtondomklkapogaaGreatDoorM20
namespace Go.Proofs.YtondomklkapogaaGreatDoor
open Go.RowKit SeedP Go.Maps
/-- a journal of the reference, as a value -/
abbrev rjV (pw:Int) (v0 v1 ve:Value) (gen fl ed sum:Int) (down:Bool):Value:=.agg #[.int .i64 pw,v0,v1,ve,.int .i64 gen,.int .i64 fl,.int .i64 ed,.int .u64 sum,.bool down]
/-- its files -/
structure RD (w:World) (v0 v1:Value) (d:DS):Prop where
 r0:RdB w w.heap.size v0 d.f0
 r1:RdB w w.heap.size v1 d.f1
theorem RD.below {w w':World} {v0 v1:Value} {d:DS} (h:RD w v0 v1 d) (hb:Below w.heap.size w w'):RD w' v0 v1 d:=⟨(h.r0.below hb).mono hb.size,(h.r1.below hb).mono hb.size⟩
set_option maxRecDepth 100000 in
/-- cut, where the length is right already -/
theorem rcut_same (d:DS) (a0 a1 ae:Option Addr) (c0 c1 ne ce:Nat) (gen fl ed sum:Int) (down:Bool) (f:Bool) (n:Nat) (w:World) (hn:(d.get f).length=n) :
 Calls Tryz.prog 57 #[rjV d.pw (.slice a0 d.f0.length c0) (.slice a1 d.f1.length c1) (.slice ae ne ce) gen fl ed sum down,.int .i64 (if f then 1 else 0),.int .i64 n] w fun e w'=>e=.returned (rjV d.pw (.slice a0 d.f0.length c0) (.slice a1 d.f1.length c1) (.slice ae ne ce) gen fl ed sum down)∧Below w.heap.size w w':=by
 subst hn
 have HB:=Lib.hid (((Below.refl w.heap.size w).alloc (Nat.le_refl _) (.cells #[.int .i64 d.pw,.slice a0 d.f0.length c0,.slice a1 d.f1.length c1,.slice ae ne ce,.int .i64 gen,.int .i64 fl,.int .i64 ed,.int .u64 sum,.bool down] 52)))
 cases f with
 | false=>
   simp only [DS.get,Bool.false_eq_true,if_false]
   go_enter Tryz.func57,Tryz.ntmps57
   go_wp2
   exact bodyPost_ret (v:=rjV d.pw (.slice a0 d.f0.length c0) (.slice a1 d.f1.length c1) (.slice ae ne ce) gen fl ed sum down) (by simp [results,Tryz.results57,go_sem]) rfl ⟨rfl,HB.out.alloc HB.out.size _⟩
 | true=>
   simp only [DS.get,if_true]
   go_enter Tryz.func57,Tryz.ntmps57
   go_wp2
   exact bodyPost_ret (v:=rjV d.pw (.slice a0 d.f0.length c0) (.slice a1 d.f1.length c1) (.slice ae ne ce) gen fl ed sum down) (by simp [results,Tryz.results57,go_sem]) rfl ⟨rfl,HB.out.alloc HB.out.size _⟩
set_option maxRecDepth 100000 in
/-- cut, without power -/
theorem rcut_dead (d:DS) (a0 a1 ae:Option Addr) (c0 c1 ne ce:Nat) (gen fl ed sum:Int) (down:Bool) (f:Bool) (n:Nat) (w:World) (hn:(d.get f).length ≠ n) :
 Calls Tryz.prog 57 #[rjV 0 (.slice a0 d.f0.length c0) (.slice a1 d.f1.length c1) (.slice ae ne ce) gen fl ed sum down,.int .i64 (if f then 1 else 0),.int .i64 n] w fun e w'=>e=.returned (rjV 0 (.slice a0 d.f0.length c0) (.slice a1 d.f1.length c1) (.slice ae ne ce) gen fl ed sum true)∧Below w.heap.size w w':=by
 have HB:=Lib.hid (((Below.refl w.heap.size w).alloc (Nat.le_refl _) (.cells #[.int .i64 0,.slice a0 d.f0.length c0,.slice a1 d.f1.length c1,.slice ae ne ce,.int .i64 gen,.int .i64 fl,.int .i64 ed,.int .u64 sum,.bool true] 52)))
 cases f with
 | false=>
   simp only [DS.get,Bool.false_eq_true,if_false] at hn ⊢
   have hne:((d.f0.length:Int) == (n:Int))=false:=by rw [beq_eq_false_iff_ne]; omega
   go_enter Tryz.func57,Tryz.ntmps57
   go_wp2
   exact bodyPost_ret (v:=rjV 0 (.slice a0 d.f0.length c0) (.slice a1 d.f1.length c1) (.slice ae ne ce) gen fl ed sum true) (by simp [results,Tryz.results57,go_sem]) rfl ⟨rfl,HB.out.alloc HB.out.size _⟩
 | true=>
   simp only [DS.get,if_true] at hn ⊢
   have hne:((d.f1.length:Int) == (n:Int))=false:=by rw [beq_eq_false_iff_ne]; omega
   go_enter Tryz.func57,Tryz.ntmps57
   go_wp2
   exact bodyPost_ret (v:=rjV 0 (.slice a0 d.f0.length c0) (.slice a1 d.f1.length c1) (.slice ae ne ce) gen fl ed sum true) (by simp [results,Tryz.results57,go_sem]) rfl ⟨rfl,HB.out.alloc HB.out.size _⟩
/-- a journal's cells -/
def rjC (pw:Int) (v0 v1 ve:Value) (gen fl ed sum:Int) (down:Bool):List Value:=[.int .i64 pw,v0,v1,ve,.int .i64 gen,.int .i64 fl,.int .i64 ed,.int .u64 sum,.bool down]
/-- a journal in a block: what the walk needs of it -/
structure RB (w:World) (g:Nat) (pw:Int) (v0 v1 ve:Value) (gen fl ed sum:Int) (down:Bool):Prop where
 k0:w.cell? ⟨g,0,none⟩=some (.int .i64 pw)
 k1:w.cell? ⟨g,1,none⟩=some v0
 k2:w.cell? ⟨g,2,none⟩=some v1
 k3:w.cell? ⟨g,3,none⟩=some ve
 k4:w.cell? ⟨g,4,none⟩=some (.int .i64 gen)
 k5:w.cell? ⟨g,5,none⟩=some (.int .i64 fl)
 k6:w.cell? ⟨g,6,none⟩=some (.int .i64 ed)
 k7:w.cell? ⟨g,7,none⟩=some (.int .u64 sum)
 k8:w.cell? ⟨g,8,none⟩=some (.bool down)
 fr:∀ o,w.frozen? ⟨g,o,none⟩=false
theorem rb_of {w:World} {g:Nat} {pw:Int} {v0 v1 ve:Value} {gen fl ed sum:Int} {down:Bool} (h:Blk w g 52 (rjC pw v0 v1 ve gen fl ed sum down)):RB w g pw v0 v1 ve gen fl ed sum down:=
 ⟨h.cell 0 (by show 0 < 9; omega),h.cell 1 (by show 1 < 9; omega),h.cell 2 (by show 2 < 9; omega),h.cell 3 (by show 3 < 9; omega),h.cell 4 (by show 4 < 9; omega),h.cell 5 (by show 5 < 9; omega),h.cell 6 (by show 6 < 9; omega),h.cell 7 (by show 7 < 9; omega),h.cell 8 (by show 8 < 9; omega),fun o=>h.frozen o⟩
/-- the two blocks that a function over a journal begins with: its argument's, and its result's -/
theorem rb_two (w:World) (pw:Int) (v0 v1 ve:Value) (gen fl ed sum:Int) (down:Bool) :
 Blk ((w.alloc (.cells (rjC pw v0 v1 ve gen fl ed sum down).toArray 52)).alloc (.cells (rjC 0 (.slice none 0 0) (.slice none 0 0) (.slice none 0 0) 0 0 0 0 false).toArray 52)) w.heap.size 52 (rjC pw v0 v1 ve gen fl ed sum down) ∧
 Blk ((w.alloc (.cells (rjC pw v0 v1 ve gen fl ed sum down).toArray 52)).alloc (.cells (rjC 0 (.slice none 0 0) (.slice none 0 0) (.slice none 0 0) 0 0 0 0 false).toArray 52)) (w.heap.size+1) 52 (rjC 0 (.slice none 0 0) (.slice none 0 0) (.slice none 0 0) 0 0 0 0 false) ∧
 Below w.heap.size w ((w.alloc (.cells (rjC pw v0 v1 ve gen fl ed sum down).toArray 52)).alloc (.cells (rjC 0 (.slice none 0 0) (.slice none 0 0) (.slice none 0 0) 0 0 0 0 false).toArray 52)) ∧
 ((w.alloc (.cells (rjC pw v0 v1 ve gen fl ed sum down).toArray 52)).alloc (.cells (rjC 0 (.slice none 0 0) (.slice none 0 0) (.slice none 0 0) 0 0 0 0 false).toArray 52)).heap.size=w.heap.size+2:=
 ⟨(Blk.new w _ _).alloc _,Blk.at _ _ _ (by simp),((Below.refl w.heap.size w).alloc (Nat.le_refl _) _).alloc (by simp) _,by simp⟩
/-- nine cells are stored -/
def set9 (w:World) (g:Nat) (y0 y1 y2 y3 y4 y5 y6 y7 y8:Value):World:=((((((((w.setCell ⟨g,0,none⟩ y0).setCell ⟨g,1,none⟩ y1).setCell ⟨g,2,none⟩ y2).setCell ⟨g,3,none⟩ y3).setCell ⟨g,4,none⟩ y4).setCell ⟨g,5,none⟩ y5).setCell ⟨g,6,none⟩ y6).setCell ⟨g,7,none⟩ y7).setCell ⟨g,8,none⟩ y8
theorem set9_blk {w:World} {g:Nat} {t:TypeId} {x0 x1 x2 x3 x4 x5 x6 x7 x8:Value} (h:Blk w g t [x0,x1,x2,x3,x4,x5,x6,x7,x8]) (y0 y1 y2 y3 y4 y5 y6 y7 y8:Value):Blk (set9 w g y0 y1 y2 y3 y4 y5 y6 y7 y8) g t [y0,y1,y2,y3,y4,y5,y6,y7,y8]:=
 ((((((((h.set 0 y0).set 1 y1).set 2 y2).set 3 y3).set 4 y4).set 5 y5).set 6 y6).set 7 y7).set 8 y8
theorem set9_grown (w:World) (g:Nat) (y0 y1 y2 y3 y4 y5 y6 y7 y8:Value):Grown (fun k=>k=g) w (set9 w g y0 y1 y2 y3 y4 y5 y6 y7 y8):=by
 have s:∀ {w':World},Grown (fun k=>k=g) w w'→∀ (j:Nat) (y:Value),Grown (fun k=>k=g) w (w'.setCell ⟨g,j,none⟩ y):=fun h j y=>Grown.setCell (S:=fun k=>k=g) h (a:=⟨g,j,none⟩) rfl y
 exact s (s (s (s (s (s (s (s (s (Grown.refl _ w) 0 y0) 1 y1) 2 y2) 3 y3) 4 y4) 5 y5) 6 y6) 7 y7) 8 y8
set_option maxRecDepth 100000 in
/-- cut, with power -/
theorem rcut_do (d:DS) (a0 a1 ae:Option Addr) (c0 c1 ne ce:Nat) (gen fl ed sum:Int) (down:Bool) (f:Bool) (n:Nat) (w:World) (hr:RD w (.slice a0 d.f0.length c0) (.slice a1 d.f1.length c1) d) (hd:d.Ok) (hn:n < (d.get f).length) (hp:d.pw ≠ 0) :
 Calls Tryz.prog 57 #[rjV d.pw (.slice a0 d.f0.length c0) (.slice a1 d.f1.length c1) (.slice ae ne ce) gen fl ed sum down,.int .i64 (if f then 1 else 0),.int .i64 n] w fun e w'=>(∃ v,e=.returned (rjV (if 0 < d.pw then d.pw - 1 else d.pw) (if f then .slice a0 d.f0.length c0 else v) (if f then v else .slice a1 d.f1.length c1) (.slice ae ne ce) gen fl ed sum down)∧RdB w' w'.heap.size v ((d.get f).take n))∧Below w.heap.size w w':=by
 obtain ⟨hr0,hr1⟩:=hr
 have hpw0:=hd.pw0
 have hpw1:=hd.pw1
 have hl0:=hd.f0
 have hl1:=hd.f1
 cases f with
 | false=>
   simp only [DS.get,Bool.false_eq_true,if_false] at hn ⊢
   rcases hr0 with ⟨_,e⟩ | ⟨g,off,cap,e,hlc,hcm,hg,hcell⟩
   ·rw [e] at hn; simp at hn
   simp only [Value.slice.injEq,true_and] at e
   obtain ⟨rfl,rfl⟩:=e
   have hne:((d.f0.length:Int) == (n:Int))=false:=by rw [beq_eq_false_iff_ne]; omega
   have hp0:(d.pw == 0)=false:=by rw [beq_eq_false_iff_ne]; exact hp
   have HSRC:=Lib.hid (RdB.take (n:=n) (by omega) hlc hcm hg hcell)
   have hni:(n:Int)≤(c0:Int):=by omega
   obtain ⟨npw,hnpw⟩:∃ z,(if 0 < d.pw then d.pw - 1 else d.pw)=z:=⟨_,rfl⟩
   rw [hnpw]
   have HN:=Lib.hid hnpw
   clear hnpw
   obtain ⟨tA,tZ,tB,tS⟩:=rb_two w d.pw (.slice (some ⟨g,off,none⟩) d.f0.length c0) (.slice a1 d.f1.length c1) (.slice ae ne ce) gen fl ed sum down
   have HA:=Lib.hid tA
   have HZ:=Lib.hid tZ
   have HB:=Lib.hid tB
   have HSZ:=Lib.hid tS
   clear tA tZ tB tS hcell
   go_enter Tryz.func57,Tryz.ntmps57
   go_upto_region 1 with (fail)
   change Code.wp _ _ _ _ ((w.alloc (.cells (rjC d.pw (.slice (some ⟨g,off,none⟩) d.f0.length c0) (.slice a1 d.f1.length c1) (.slice ae ne ce) gen fl ed sum down).toArray 52)).alloc (.cells (rjC 0 (.slice none 0 0) (.slice none 0 0) (.slice none 0 0) 0 0 0 0 false).toArray 52))
   generalize (w.alloc (.cells (rjC d.pw (.slice (some ⟨g,off,none⟩) d.f0.length c0) (.slice a1 d.f1.length c1) (.slice ae ne ce) gen fl ed sum down).toArray 52)).alloc (.cells (rjC 0 (.slice none 0 0) (.slice none 0 0) (.slice none 0 0) 0 0 0 0 false).toArray 52)=w2 at *
   obtain ⟨k0,k1,k2,k3,k4,k5,k6,k7,k8,fr⟩:=rb_of HA.out
   have fr0:=fr 0
   have fr1:=fr 1
   clear fr
   go_upto_if 25 with (fail)
   go_cut [25] from 26 to 31 (fun tv wx=>tv=tv∧Blk wx w.heap.size 52 (rjC npw (.slice (some ⟨g,off,none⟩) d.f0.length c0) (.slice a1 d.f1.length c1) (.slice ae ne ce) gen fl ed sum down)∧Blk wx (w.heap.size+1) 52 (rjC 0 (.slice none 0 0) (.slice none 0 0) (.slice none 0 0) 0 0 0 0 false)∧Below w.heap.size w wx)
   case first=>
    by_cases hpos:0 < d.pw
    ·have hdp:decide (0 < d.pw)=true:=decide_eq_true hpos
     have hv:=HN.out
     rw [if_pos hpos] at hv
     subst hv
     have HR:=Lib.hid (And.intro (HA.out.set 0 (.int .i64 (d.pw - 1))) (And.intro (HZ.out.other (a:=⟨w.heap.size,0,none⟩) (by show w.heap.size+1 ≠ w.heap.size; omega) (.int .i64 (d.pw - 1))) (HB.out.setCell (p:=⟨w.heap.size,0,none⟩) (Nat.le_refl _) (.int .i64 (d.pw - 1)))))
     go_wp2_with fail
     go_meet
     exact ⟨trivial,HR.out⟩
    ·have hdp:decide (0 < d.pw)=false:=decide_eq_false hpos
     have hv:=HN.out
     rw [if_neg hpos] at hv
     subst hv
     have HR:=Lib.hid (And.intro HA.out (And.intro HZ.out HB.out))
     go_wp2_with fail
     go_meet
     exact ⟨trivial,HR.out⟩
   case rest=>
    obtain ⟨_,hA,hZ,hB⟩:=hcut
    have HA:=Lib.hid hA
    have HZ:=Lib.hid hZ
    have HB:=Lib.hid hB
    have hlA:=hA.lt
    have hlZ:=hZ.lt
    clear hA hZ hB k0 k1 k2 k3 k4 k5 k6 k7 k8 fr0 fr1
    generalize wc=w3 at *
    have k1:=(rb_of HA.out).k1
    have HS3:=Lib.hid (HSRC.out.below HB.out)
    have HB4:=Lib.hid ((Below.refl w3.heap.size w3).alloc (Nat.le_refl _) (.cells #[] 5))
    have HO:=Lib.hid (own_lit w3 w3.heap.size [] (by simp [maxLen]) 0 rfl (Nat.le_refl _))
    have HS4:=Lib.hid (HS3.out.below (HB4.out.mono HB.out.size))
    have HTL2:=Lib.hid (show (d.f0.take n).length=n by rw [List.length_take]; omega)
    have HTL:=Lib.hid (show 0+(d.f0.take n).length=n by rw [List.length_take]; omega)
    go_upto_region 9 with (at_builtin; go_must (refine wpList_app rfl _ _ rfl w3.heap.size _ 0 [] rfl HO.out _ (d.f0.take n) rfl HS4.out (by rw [List.length_take]; omega) (by simp) ?_); intro v5 w5 hy5 hb5
                           go_must (have hb5:=HB4.out.trans hb5; rw [HTL.out] at hy5; obtain ⟨a5,c5,e5,_⟩:=(RdB.of_own hy5).open_; rw [List.nil_append,HTL2.out] at e5; subst e5; have HY5:=Lib.hid hy5; have HB5:=Lib.hid (HB.out.trans (hb5.mono HB.out.size)); have HA5:=Lib.hid (HA.out.below hb5); have HZ5:=Lib.hid (HZ.out.below hb5); have fr1:=HA5.out.frozen 1; have kk1:=(rb_of HA5.out).k1))
    clear hy5 hb5
    have HA6:=Lib.hid (HA5.out.set 1 (.slice a5 n c5))
    have HZ6:=Lib.hid (HZ5.out.other (a:=⟨w.heap.size,1,none⟩) (by show w.heap.size+1 ≠ w.heap.size; omega) (.slice a5 n c5))
    have HB6:=Lib.hid (HB5.out.setCell (p:=⟨w.heap.size,1,none⟩) (Nat.le_refl _) (.slice a5 n c5))
    have hv6:=own_grown HY5.out (Grown.setCell (S:=fun k=>k=w.heap.size) (Grown.refl _ w5) (a:=⟨w.heap.size,1,none⟩) rfl (.slice a5 n c5)) (fun g hg _ e=>by have:=HB.out.size; have e:g=w.heap.size:=e; omega)
    have HV6:=Lib.hid hv6
    clear hv6 fr1 kk1 k1
    change Code.wp _ _ _ _ (w5.setCell ⟨w.heap.size,1,none⟩ (.slice a5 n c5))
    generalize w5.setCell ⟨w.heap.size,1,none⟩ (.slice a5 n c5)=w6 at *
    have hA6:Blk w6 w.heap.size 52 (rjC npw (.slice a5 n c5) (.slice a1 d.f1.length c1) (.slice ae ne ce) gen fl ed sum down):=HA6.out
    obtain ⟨k0,k1,k2,k3,k4,k5,k6,k7,k8,_⟩:=rb_of hA6
    obtain ⟨z0,z1,z2,z3,z4,z5,z6,z7,z8,zf⟩:=rb_of HZ6.out
    have zf0:=zf 0
    have zf1:=zf 1
    have zf2:=zf 2
    have zf3:=zf 3
    have zf4:=zf 4
    have zf5:=zf 5
    have zf6:=zf 6
    have zf7:=zf 7
    have zf8:=zf 8
    clear zf hA6
    go_wp2
    have hz9:=set9_blk HZ6.out (.int .i64 npw) (.slice a5 n c5) (.slice a1 d.f1.length c1) (.slice ae ne ce) (.int .i64 gen) (.int .i64 fl) (.int .i64 ed) (.int .u64 sum) (.bool down)
    have hg9:=set9_grown w6 (w.heap.size+1) (.int .i64 npw) (.slice a5 n c5) (.slice a1 d.f1.length c1) (.slice ae ne ce) (.int .i64 gen) (.int .i64 fl) (.int .i64 ed) (.int .u64 sum) (.bool down)
    change bodyPost _ _ _ _ _ (set9 w6 (w.heap.size+1) (.int .i64 npw) (.slice a5 n c5) (.slice a1 d.f1.length c1) (.slice ae ne ce) (.int .i64 gen) (.int .i64 fl) (.int .i64 ed) (.int .u64 sum) (.bool down))
    generalize set9 w6 (w.heap.size+1) (.int .i64 npw) (.slice a5 n c5) (.slice a1 d.f1.length c1) (.slice ae ne ce) (.int .i64 gen) (.int .i64 fl) (.int .i64 ed) (.int .u64 sum) (.bool down)=w7 at *
    obtain ⟨j0,j1,j2,j3,j4,j5,j6,j7,j8,_⟩:=rb_of hz9
    have hB7:=HB6.out.trans (hg9.below (fun k e=>by have e:k=w.heap.size+1:=e; omega) HB6.out.size)
    have hR7:RdB w7 w7.heap.size (.slice a5 n c5) (d.f0.take n):=by
     have h:=own_grown HV6.out hg9 (fun g hg _ e=>by have e:g=w.heap.size+1:=e; omega)
     exact RdB.of_own h
    exact bodyPost_ret (v:=rjV npw (.slice a5 n c5) (.slice a1 d.f1.length c1) (.slice ae ne ce) gen fl ed sum down) (by simp [results,Tryz.results57,go_sem,j0,j1,j2,j3,j4,j5,j6,j7,j8]) rfl ⟨⟨_,rfl,hR7⟩,hB7⟩
 | true=>
   simp only [DS.get,if_true] at hn ⊢
   rcases hr1 with ⟨_,e⟩ | ⟨g,off,cap,e,hlc,hcm,hg,hcell⟩
   ·rw [e] at hn; simp at hn
   simp only [Value.slice.injEq,true_and] at e
   obtain ⟨rfl,rfl⟩:=e
   have hne:((d.f1.length:Int) == (n:Int))=false:=by rw [beq_eq_false_iff_ne]; omega
   have hp0:(d.pw == 0)=false:=by rw [beq_eq_false_iff_ne]; exact hp
   have HSRC:=Lib.hid (RdB.take (n:=n) (by omega) hlc hcm hg hcell)
   have hni:(n:Int)≤(c1:Int):=by omega
   obtain ⟨npw,hnpw⟩:∃ z,(if 0 < d.pw then d.pw - 1 else d.pw)=z:=⟨_,rfl⟩
   rw [hnpw]
   have HN:=Lib.hid hnpw
   clear hnpw
   obtain ⟨tA,tZ,tB,tS⟩:=rb_two w d.pw (.slice a0 d.f0.length c0) (.slice (some ⟨g,off,none⟩) d.f1.length c1) (.slice ae ne ce) gen fl ed sum down
   have HA:=Lib.hid tA
   have HZ:=Lib.hid tZ
   have HB:=Lib.hid tB
   have HSZ:=Lib.hid tS
   clear tA tZ tB tS hcell
   go_enter Tryz.func57,Tryz.ntmps57
   go_upto_region 1 with (fail)
   change Code.wp _ _ _ _ ((w.alloc (.cells (rjC d.pw (.slice a0 d.f0.length c0) (.slice (some ⟨g,off,none⟩) d.f1.length c1) (.slice ae ne ce) gen fl ed sum down).toArray 52)).alloc (.cells (rjC 0 (.slice none 0 0) (.slice none 0 0) (.slice none 0 0) 0 0 0 0 false).toArray 52))
   generalize (w.alloc (.cells (rjC d.pw (.slice a0 d.f0.length c0) (.slice (some ⟨g,off,none⟩) d.f1.length c1) (.slice ae ne ce) gen fl ed sum down).toArray 52)).alloc (.cells (rjC 0 (.slice none 0 0) (.slice none 0 0) (.slice none 0 0) 0 0 0 0 false).toArray 52)=w2 at *
   obtain ⟨k0,k1,k2,k3,k4,k5,k6,k7,k8,fr⟩:=rb_of HA.out
   have fr0:=fr 0
   have fr2:=fr 2
   clear fr
   go_upto_if 25 with (fail)
   go_cut [25] from 26 to 31 (fun tv wx=>tv=tv∧Blk wx w.heap.size 52 (rjC npw (.slice a0 d.f0.length c0) (.slice (some ⟨g,off,none⟩) d.f1.length c1) (.slice ae ne ce) gen fl ed sum down)∧Blk wx (w.heap.size+1) 52 (rjC 0 (.slice none 0 0) (.slice none 0 0) (.slice none 0 0) 0 0 0 0 false)∧Below w.heap.size w wx)
   case first=>
    by_cases hpos:0 < d.pw
    ·have hdp:decide (0 < d.pw)=true:=decide_eq_true hpos
     have hv:=HN.out
     rw [if_pos hpos] at hv
     subst hv
     have HR:=Lib.hid (And.intro (HA.out.set 0 (.int .i64 (d.pw - 1))) (And.intro (HZ.out.other (a:=⟨w.heap.size,0,none⟩) (by show w.heap.size+1 ≠ w.heap.size; omega) (.int .i64 (d.pw - 1))) (HB.out.setCell (p:=⟨w.heap.size,0,none⟩) (Nat.le_refl _) (.int .i64 (d.pw - 1)))))
     go_wp2_with fail
     go_meet
     exact ⟨trivial,HR.out⟩
    ·have hdp:decide (0 < d.pw)=false:=decide_eq_false hpos
     have hv:=HN.out
     rw [if_neg hpos] at hv
     subst hv
     have HR:=Lib.hid (And.intro HA.out (And.intro HZ.out HB.out))
     go_wp2_with fail
     go_meet
     exact ⟨trivial,HR.out⟩
   case rest=>
    obtain ⟨_,hA,hZ,hB⟩:=hcut
    have HA:=Lib.hid hA
    have HZ:=Lib.hid hZ
    have HB:=Lib.hid hB
    have hlA:=hA.lt
    have hlZ:=hZ.lt
    clear hA hZ hB k0 k1 k2 k3 k4 k5 k6 k7 k8 fr0 fr2
    generalize wc=w3 at *
    have k2:=(rb_of HA.out).k2
    have HS3:=Lib.hid (HSRC.out.below HB.out)
    have HB4:=Lib.hid ((Below.refl w3.heap.size w3).alloc (Nat.le_refl _) (.cells #[] 5))
    have HO:=Lib.hid (own_lit w3 w3.heap.size [] (by simp [maxLen]) 0 rfl (Nat.le_refl _))
    have HS4:=Lib.hid (HS3.out.below (HB4.out.mono HB.out.size))
    have HTL2:=Lib.hid (show (d.f1.take n).length=n by rw [List.length_take]; omega)
    have HTL:=Lib.hid (show 0+(d.f1.take n).length=n by rw [List.length_take]; omega)
    go_upto_region 9 with (at_builtin; go_must (refine wpList_app rfl _ _ rfl w3.heap.size _ 0 [] rfl HO.out _ (d.f1.take n) rfl HS4.out (by rw [List.length_take]; omega) (by simp) ?_); intro v5 w5 hy5 hb5
                           go_must (have hb5:=HB4.out.trans hb5; rw [HTL.out] at hy5; obtain ⟨a5,c5,e5,_⟩:=(RdB.of_own hy5).open_; rw [List.nil_append,HTL2.out] at e5; subst e5; have HY5:=Lib.hid hy5; have HB5:=Lib.hid (HB.out.trans (hb5.mono HB.out.size)); have HA5:=Lib.hid (HA.out.below hb5); have HZ5:=Lib.hid (HZ.out.below hb5); have fr2:=HA5.out.frozen 2; have kk2:=(rb_of HA5.out).k2))
    clear hy5 hb5
    have HA6:=Lib.hid (HA5.out.set 2 (.slice a5 n c5))
    have HZ6:=Lib.hid (HZ5.out.other (a:=⟨w.heap.size,2,none⟩) (by show w.heap.size+1 ≠ w.heap.size; omega) (.slice a5 n c5))
    have HB6:=Lib.hid (HB5.out.setCell (p:=⟨w.heap.size,2,none⟩) (Nat.le_refl _) (.slice a5 n c5))
    have hv6:=own_grown HY5.out (Grown.setCell (S:=fun k=>k=w.heap.size) (Grown.refl _ w5) (a:=⟨w.heap.size,2,none⟩) rfl (.slice a5 n c5)) (fun g hg _ e=>by have:=HB.out.size; have e:g=w.heap.size:=e; omega)
    have HV6:=Lib.hid hv6
    clear hv6 fr2 kk2 k2
    change Code.wp _ _ _ _ (w5.setCell ⟨w.heap.size,2,none⟩ (.slice a5 n c5))
    generalize w5.setCell ⟨w.heap.size,2,none⟩ (.slice a5 n c5)=w6 at *
    have hA6:Blk w6 w.heap.size 52 (rjC npw (.slice a0 d.f0.length c0) (.slice a5 n c5) (.slice ae ne ce) gen fl ed sum down):=HA6.out
    obtain ⟨k0,k1,k2,k3,k4,k5,k6,k7,k8,_⟩:=rb_of hA6
    obtain ⟨z0,z1,z2,z3,z4,z5,z6,z7,z8,zf⟩:=rb_of HZ6.out
    have zf0:=zf 0
    have zf1:=zf 1
    have zf2:=zf 2
    have zf3:=zf 3
    have zf4:=zf 4
    have zf5:=zf 5
    have zf6:=zf 6
    have zf7:=zf 7
    have zf8:=zf 8
    clear zf hA6
    go_wp2
    have hz9:=set9_blk HZ6.out (.int .i64 npw) (.slice a0 d.f0.length c0) (.slice a5 n c5) (.slice ae ne ce) (.int .i64 gen) (.int .i64 fl) (.int .i64 ed) (.int .u64 sum) (.bool down)
    have hg9:=set9_grown w6 (w.heap.size+1) (.int .i64 npw) (.slice a0 d.f0.length c0) (.slice a5 n c5) (.slice ae ne ce) (.int .i64 gen) (.int .i64 fl) (.int .i64 ed) (.int .u64 sum) (.bool down)
    change bodyPost _ _ _ _ _ (set9 w6 (w.heap.size+1) (.int .i64 npw) (.slice a0 d.f0.length c0) (.slice a5 n c5) (.slice ae ne ce) (.int .i64 gen) (.int .i64 fl) (.int .i64 ed) (.int .u64 sum) (.bool down))
    generalize set9 w6 (w.heap.size+1) (.int .i64 npw) (.slice a0 d.f0.length c0) (.slice a5 n c5) (.slice ae ne ce) (.int .i64 gen) (.int .i64 fl) (.int .i64 ed) (.int .u64 sum) (.bool down)=w7 at *
    obtain ⟨j0,j1,j2,j3,j4,j5,j6,j7,j8,_⟩:=rb_of hz9
    have hB7:=HB6.out.trans (hg9.below (fun k e=>by have e:k=w.heap.size+1:=e; omega) HB6.out.size)
    have hR7:RdB w7 w7.heap.size (.slice a5 n c5) (d.f1.take n):=by
     have h:=own_grown HV6.out hg9 (fun g hg _ e=>by have e:g=w.heap.size+1:=e; omega)
     exact RdB.of_own h
    exact bodyPost_ret (v:=rjV npw (.slice a0 d.f0.length c0) (.slice a5 n c5) (.slice ae ne ce) gen fl ed sum down) (by simp [results,Tryz.results57,go_sem,j0,j1,j2,j3,j4,j5,j6,j7,j8]) rfl ⟨⟨_,rfl,hR7⟩,hB7⟩
/-- cut -/
theorem rcut_c (d:DS) (v0 v1:Value) (ae:Option Addr) (ne ce:Nat) (gen fl ed sum:Int) (down:Bool) (f:Bool) (n:Nat) (w:World) (hr:RD w v0 v1 d) (hd:d.Ok) (hn:n≤(d.get f).length) :
 Calls Tryz.prog 57 #[rjV d.pw v0 v1 (.slice ae ne ce) gen fl ed sum down,.int .i64 (if f then 1 else 0),.int .i64 n] w fun e w'=>(∃ v0' v1',e=.returned (rjV (dCut f n d).1.pw v0' v1' (.slice ae ne ce) gen fl ed sum (if (dCut f n d).2 then down else true))∧RD w' v0' v1' (dCut f n d).1)∧Below w.heap.size w w':=by
 obtain ⟨a0,c0,rfl,_⟩:=hr.r0.open_
 obtain ⟨a1,c1,rfl,_⟩:=hr.r1.open_
 unfold dCut
 by_cases he:(d.get f).length=n
 ·rw [if_pos he]
  refine (rcut_same d a0 a1 ae c0 c1 ne ce gen fl ed sum down f n w he).mono ?_
  rintro e w' ⟨rfl,hb⟩
  exact ⟨⟨_,_,rfl,hr.below hb⟩,hb⟩
 ·rw [if_neg he]
  by_cases hp:d.pw=0
  ·rw [if_pos hp,hp]
   refine (rcut_dead d a0 a1 ae c0 c1 ne ce gen fl ed sum down f n w he).mono ?_
   rintro e w' ⟨rfl,hb⟩
   exact ⟨⟨_,_,rfl,hr.below hb⟩,hb⟩
  ·rw [if_neg hp]
   refine (rcut_do d a0 a1 ae c0 c1 ne ce gen fl ed sum down f n w hr hd (by omega) hp).mono ?_
   rintro e w' ⟨⟨v,rfl,hv⟩,hb⟩
   refine ⟨?_,hb⟩
   have hr':=hr.below hb
   cases f with
   | false=>exact ⟨v,_,rfl,hv,hr'.r1⟩
   | true=>exact ⟨_,v,rfl,hr'.r0,hv⟩
end Go.Proofs.YtondomklkapogaaGreatDoor
