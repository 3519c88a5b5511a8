/- The law's disk: a disk that shares no memory with another one, and the same for the reference. -/
import Derived.Test.YtondomklkapogaaGreatDoorM36
import Derived.Test.YtondomklkapogaaGreatDoorM37
namespace Go.Proofs.YtondomklkapogaaGreatDoor
open Go.RowKit SeedP Go.Maps
/-- what disk has laid: the disk that came in, its result, and the two disks -/
structure DkM (W w:World) (src xd xz:List Value):Prop where
 sb:Blk w W.heap.size 28 src
 rb:Blk w (W.heap.size+1) 47 [.int .i64 0,.slice none 0 0,.slice none 0 0]
 db:Blk w (W.heap.size+1+1) 28 xd
 zb:Blk w (W.heap.size+1+1+1) 47 xz
 be:Below W.heap.size W w
theorem DkM.sz {W w:World} {src xd xz:List Value} (h:DkM W w src xd xz):W.heap.size+1+1+1 < w.heap.size:=h.zb.lt
theorem DkM.start (W:World) (x0 x1 x2 y0:Value):DkM W ((((W.alloc (.cells #[x0,x1,x2] 28)).alloc (.cells #[.int .i64 0,.slice none 0 0,.slice none 0 0] 47)).alloc (.cells #[y0,.slice none 0 0,.slice none 0 0] 28)).alloc (.cells #[y0,.slice none 0 0,.slice none 0 0] 47)) [x0,x1,x2] [y0,.slice none 0 0,.slice none 0 0] [y0,.slice none 0 0,.slice none 0 0]:=by
 refine ⟨(((Blk.new W _ [x0,x1,x2]).alloc _).alloc _).alloc _,?_,?_,?_,?_⟩
 ·exact ((Blk.at (g:=W.heap.size+1) _ _ [.int .i64 0,.slice none 0 0,.slice none 0 0] (by simp)).alloc _).alloc _
 ·exact (Blk.at (g:=W.heap.size+1+1) _ _ [y0,.slice none 0 0,.slice none 0 0] (by simp)).alloc _
 ·exact Blk.at (g:=W.heap.size+1+1+1) _ _ [y0,.slice none 0 0,.slice none 0 0] (by simp)
 ·exact ((((Below.refl _ W).alloc (Nat.le_refl _) _).alloc (by simp) _).alloc (by simp; omega) _).alloc (by simp; omega) _
/-- while one file is copied twice -/
structure DkG (W Wr:World) (l:List UInt8) (xd xz:List Value) (i:Nat) (ds:List Bool) (vs:List Value) (w:World):Prop where
 gg:Grown (fun k=>k=W.heap.size+1+1∨k=W.heap.size+1+1+1) Wr w
 g0:ds.getD 0 false=true→w.ownsRow Wr.heap.size 5 1 (vs.getD 0 undef) l.length (byts l)
 g1:ds.getD 1 false=true→w.ownsRow Wr.heap.size 5 1 (vs.getD 1 undef) l.length (byts l)
 g2:ds.getD 2 false=false→Blk w (W.heap.size+1+1) 28 xd
 g3:ds.getD 2 false=true→Blk w (W.heap.size+1+1) 28 (xd.set (1+i) (vs.getD 0 undef))
 g4:ds.getD 3 false=false→Blk w (W.heap.size+1+1+1) 47 xz
 g5:ds.getD 3 false=true→Blk w (W.heap.size+1+1+1) 47 (xz.set (1+i) (vs.getD 1 undef))
section
variable {W Wr w:World} {l:List UInt8} {xd xz:List Value} {i:Nat} {d0 d1 d2 d3:Bool} {u0 u1 u2 u3:Value}
theorem DkG.be {ds:List Bool} {vs:List Value} (h:DkG W Wr l xd xz i ds vs w) (hb:Below W.heap.size W Wr) (hz:W.heap.size+1+1+1 < Wr.heap.size):Below W.heap.size W w:=hb.trans (h.gg.below (fun k e=>by omega) (by omega))
theorem DkG.call0 (h:DkG W Wr l xd xz i [d0,d1,d2,d3] [u0,u1,u2,u3] w) {v:Value} {w':World} (hown:w'.ownsRow w.heap.size 5 1 v l.length (byts l)) (hb:Below w.heap.size w w') (h2:d2=false):DkG W Wr l xd xz i [true,d1,d2,d3] [v,u1,u2,u3] w':=
 ⟨h.gg.trans (Grown.of_below hb),fun _=>own_up hown h.gg.size,fun e=>own_grown (h.g1 e) (Grown.of_below hb (S:=fun _=>False)) (fun _ _ _ h=>h),fun e=>(h.g2 e).below hb,fun e=>by (subst h2; cases e),fun e=>(h.g4 e).below hb,fun e=>(h.g5 e).below hb⟩
theorem DkG.call1 (h:DkG W Wr l xd xz i [d0,d1,d2,d3] [u0,u1,u2,u3] w) {v:Value} {w':World} (hown:w'.ownsRow w.heap.size 5 1 v l.length (byts l)) (hb:Below w.heap.size w w') (h3:d3=false):DkG W Wr l xd xz i [d0,true,d2,d3] [u0,v,u2,u3] w':=
 ⟨h.gg.trans (Grown.of_below hb),fun e=>own_grown (h.g0 e) (Grown.of_below hb (S:=fun _=>False)) (fun _ _ _ h=>h),fun _=>own_up hown h.gg.size,fun e=>(h.g2 e).below hb,fun e=>(h.g3 e).below hb,fun e=>(h.g4 e).below hb,fun e=>by (subst h3; cases e)⟩
theorem u8_set {g o B n:Nat} {t:TypeId} {v x:Value} {l:List UInt8} {cs:List Value} (ho:w.ownsRow B 5 1 v n (byts l)) (hb:Blk w g t cs) (ht:5 ≠ t):(w.setCell ⟨g,o,none⟩ x).ownsRow B 5 1 v n (byts l):=by
 have hg:w.grownBy (w.setCell ⟨g,o,none⟩ x) (some g):=⟨rfl,rfl,rfl,by simp,fun k _ hk=>heap_setCell_other w ⟨g,o,none⟩ k x (fun e=>hk (by simp [e]))⟩
 exact ho.kept hg (Or.inr (own_ne ho hb ht))
theorem DkG.store0 (h:DkG W Wr l xd xz i [d0,d1,d2,d3] [u0,u1,u2,u3] w) (hb:Blk w (W.heap.size+1+1) 28 xd) {B:Nat} (_ho:w.ownsRow B 5 1 u0 l.length (byts l)):DkG W Wr l xd xz i [d0,d1,true,d3] [u0,u1,undef,u3] (w.setCell ⟨W.heap.size+1+1,1+i,none⟩ u0):=by
 have hg:Grown (fun k=>k=W.heap.size+1+1) w (w.setCell ⟨W.heap.size+1+1,1+i,none⟩ u0):=Grown.setCell (S:=fun k=>k=W.heap.size+1+1) (Grown.refl _ _) (a:=⟨W.heap.size+1+1,1+i,none⟩) rfl _
 exact ⟨h.gg.trans (hg.mono (fun k _ e=>Or.inl e)),fun e=>u8_set (h.g0 e) hb (by decide),fun e=>u8_set (h.g1 e) hb (by decide),(fun e=>by cases e),fun _=>hb.set _ _,fun e=>(h.g4 e).grown hg (by omega),fun e=>(h.g5 e).grown hg (by omega)⟩
theorem DkG.store1 (h:DkG W Wr l xd xz i [d0,d1,d2,d3] [u0,u1,u2,u3] w) (hb:Blk w (W.heap.size+1+1+1) 47 xz) {B:Nat} (_ho:w.ownsRow B 5 1 u1 l.length (byts l)):DkG W Wr l xd xz i [d0,d1,d2,true] [u0,u1,u2,undef] (w.setCell ⟨W.heap.size+1+1+1,1+i,none⟩ u1):=by
 have hg:Grown (fun k=>k=W.heap.size+1+1+1) w (w.setCell ⟨W.heap.size+1+1+1,1+i,none⟩ u1):=Grown.setCell (S:=fun k=>k=W.heap.size+1+1+1) (Grown.refl _ _) (a:=⟨W.heap.size+1+1+1,1+i,none⟩) rfl _
 exact ⟨h.gg.trans (hg.mono (fun k _ e=>Or.inr e)),fun e=>u8_set (h.g0 e) hb (by decide),fun e=>u8_set (h.g1 e) hb (by decide),fun e=>(h.g2 e).grown hg (by omega),fun e=>(h.g3 e).grown hg (by omega),(fun e=>by cases e),fun _=>hb.set _ _⟩
end
/-- the files that are there -/
structure DkX (W w:World) (d:DS) (n:Nat) (x0 x1 y0 y1:Value):Prop where
 h0:0 < n→w.ownsRow W.heap.size 5 1 x0 d.f0.length (byts d.f0)∧w.ownsRow W.heap.size 5 1 y0 d.f0.length (byts d.f0)
 h1:1 < n→w.ownsRow W.heap.size 5 1 x1 d.f1.length (byts d.f1)∧w.ownsRow W.heap.size 5 1 y1 d.f1.length (byts d.f1)
 ne:1 < n→∀ g,x0.ownBlock=some g→x1.ownBlock ≠ some g
theorem own_gg {W w w':World} {n:Nat} {v:Value} {l:List UInt8} {xd xz src:List Value} (h:w.ownsRow W.heap.size 5 1 v n (byts l)) (hM:DkM W w src xd xz) (hg:Grown (fun k=>k=W.heap.size+1+1∨k=W.heap.size+1+1+1) w w'):w'.ownsRow W.heap.size 5 1 v n (byts l):=by
 refine ⟨h.1,?_⟩
 rcases h.2 with h2 | ⟨g,cap,cur,e,hB,h3,r⟩
 ·exact Or.inl h2
 ·refine Or.inr ⟨g,cap,cur,e,hB,(hg.block g (Array.getElem?_eq_some_iff.1 h3).1 (fun hk=>?_)).trans h3,r⟩
  subst e
  rcases hk with hk | hk
  ·exact own_ne h hM.db (by decide) (by rw [← hk]; rfl)
  ·exact own_ne h hM.zb (by decide) (by rw [← hk]; rfl)
theorem DkM.grown {W Wr w:World} {l:List UInt8} {src xd xz:List Value} {i:Nat} {vs:List Value} (h:DkM W Wr src xd xz) (hG:DkG W Wr l xd xz i [true,true,true,true] vs w):DkM W w src (xd.set (1+i) (vs.getD 0 undef)) (xz.set (1+i) (vs.getD 1 undef)):=
 ⟨h.sb.grown hG.gg (by omega),h.rb.grown hG.gg (by omega),hG.g3 rfl,hG.g5 rfl,hG.be h.be h.sz⟩
theorem DkM.next0 {W Wr w:World} {d:DS} {src:List Value} {p x0 x1 y0 y1:Value} {vs:List Value} (h:DkM W Wr src [p,x0,x1] [p,y0,y1]) (_hx:DkX W Wr d 0 x0 x1 y0 y1) (hG:DkG W Wr d.f0 [p,x0,x1] [p,y0,y1] 0 [true,true,true,true] vs w):DkM W w src [p,vs.getD 0 undef,x1] [p,vs.getD 1 undef,y1]∧DkX W w d 1 (vs.getD 0 undef) x1 (vs.getD 1 undef) y1:=
 ⟨h.grown hG,⟨fun _=>⟨own_up (hG.g0 rfl) h.be.size,own_up (hG.g1 rfl) h.be.size⟩,(fun e=>by omega),(fun e=>by omega)⟩⟩
theorem DkM.next1 {W Wr w:World} {d:DS} {src:List Value} {p x0 x1 y0 y1:Value} {vs:List Value} (h:DkM W Wr src [p,x0,x1] [p,y0,y1]) (hx:DkX W Wr d 1 x0 x1 y0 y1) (hG:DkG W Wr d.f1 [p,x0,x1] [p,y0,y1] 1 [true,true,true,true] vs w):DkM W w src [p,x0,vs.getD 0 undef] [p,y0,vs.getD 1 undef]∧DkX W w d 2 x0 (vs.getD 0 undef) y0 (vs.getD 1 undef):=by
 have h0:=hx.h0 (by omega)
 refine ⟨h.grown hG,⟨fun _=>⟨own_gg h0.1 h hG.gg,own_gg h0.2 h hG.gg⟩,fun _=>⟨own_up (hG.g0 rfl) h.be.size,own_up (hG.g1 rfl) h.be.size⟩,fun _ g hg e=>?_⟩⟩
 have h1:=(h0.1.lt g hg).2
 have h2:=((hG.g0 rfl).lt g e).1
 omega
theorem own_rdp {w:World} {B n:Nat} {v:Value} {l:List UInt8} (h:w.ownsRow B 5 1 v n (byts l)):RdP w (fun g=>v.ownBlock=some g) v l:=by
 have h':=h
 obtain ⟨hl,h2⟩:=h
 rw [Nat.mul_one,byts_length] at hl
 rcases h2 with ⟨rfl,rfl⟩ | ⟨g,cap,cur,rfl,hb,hg,hn,hc,hs,ht⟩
 ·exact Or.inl ⟨Or.inl rfl,List.eq_nil_of_length_eq_zero hl⟩
 ·refine Or.inr ⟨g,0,cap,by rw [hl],by omega,hc,rfl,fun j hj=>?_⟩
  rw [Nat.zero_add,h'.cellAt j (by omega),byts_get l j hj]
theorem own_unb {w:World} {B n m g:Nat} {t:TypeId} {v:Value} {xs:List Value} (h:w.ownsRow B t m v n xs) (hg:v.ownBlock=some g):UnB w g:=by
 rcases h.2 with ⟨rfl,_⟩ | ⟨g1,c1,cur1,rfl,_,hh1,_⟩
 ·simp [Value.ownBlock] at hg
 ·simp only [Value.ownBlock,Option.some.injEq] at hg
  subst hg
  exact fun o=>frozen_of_row w _ o _ _ hh1
theorem own_rb {w w':World} {B n g:Nat} {t:TypeId} {v:Value} {l:List UInt8} {cs:List Value} (h:w.ownsRow B 5 1 v n (byts l)) (hb:Blk w g t cs) (ht:5 ≠ t) (hg:Grown (fun k=>k=g) w w'):w'.ownsRow B 5 1 v n (byts l):=by
 refine ⟨h.1,?_⟩
 rcases h.2 with h2 | ⟨q,cap,cur,e,hB,h3,r⟩
 ·exact Or.inl h2
 ·refine Or.inr ⟨q,cap,cur,e,hB,(hg.block q (Array.getElem?_eq_some_iff.1 h3).1 (fun hk=>?_)).trans h3,r⟩
  subst e
  exact own_ne h hb ht (by rw [← hk]; rfl)
theorem DkM.fin {W w w':World} {d:DS} {src:List Value} {x0 x1 y0 y1:Value} (hs:St W) (hM:DkM W w src [.int .i64 d.pw,x0,x1] [.int .i64 d.pw,y0,y1]) (hX:DkX W w d 2 x0 x1 y0 y1) (hg:Grown (fun k=>k=W.heap.size+1) w w'):(∃ p,DZ W.heap.size p w' (W.heap.size+1+1) d)∧RD w' y0 y1 d∧Below W.heap.size W w':=by
 have hx:DkX W w' d 2 x0 x1 y0 y1:=⟨fun _=>⟨own_rb (hX.h0 (by omega)).1 hM.rb (by decide) hg,own_rb (hX.h0 (by omega)).2 hM.rb (by decide) hg⟩,fun _=>⟨own_rb (hX.h1 (by omega)).1 hM.rb (by decide) hg,own_rb (hX.h1 (by omega)).2 hM.rb (by decide) hg⟩,hX.ne⟩
 have hdb:=hM.db.grown hg (by omega)
 have hsz:=hM.sz
 have hbe:Below W.heap.size W w':=hM.be.trans (hg.below (fun k e=>by omega) (by omega))
 clear hM hX hg
 have h0:=hx.h0 (by omega)
 have h1:=hx.h1 (by omega)
 refine ⟨⟨fun g=>x0.ownBlock=some g∨x1.ownBlock=some g,hs.below hbe hs.pos,hs.pos,by omega,fun g hg=>?_,fun g hg=>?_,x0,x1,fun g=>x0.ownBlock=some g,fun g=>x1.ownBlock=some g,hdb,?_,?_,fun g hg=>⟨Or.inl hg,hx.ne (by omega) g hg⟩,fun g hg=>Or.inr hg,fun g hg=>?_⟩,⟨RdB.of_own h0.2,RdB.of_own h1.2⟩,hbe⟩
 ·rcases hg with hg | hg
  ·exact h0.1.lt g hg
  ·exact h1.1.lt g hg
 ·rintro rfl
  rcases hg with hg | hg
  ·exact own_ne h0.1 hdb (by decide) hg
  ·exact own_ne h1.1 hdb (by decide) hg
 ·exact own_rdp h0.1
 ·exact own_rdp h1.1
 ·rcases hg with hg | hg
  ·exact ⟨(h0.1.lt g hg).2,own_unb h0.1 hg⟩
  ·exact ⟨(h1.1.lt g hg).2,own_unb h1.1 hg⟩
set_option maxRecDepth 100000 in
set_option maxHeartbeats 4000000 in
/-- disk -/
theorem disk_c (d:DS) (v0 v1:Value) (W:World) (hs:St W) (hr0:RdB W W.heap.size v0 d.f0) (hr1:RdB W W.heap.size v1 d.f1) (h0:d.f0.length≤1073741824) (h1:d.f1.length≤1073741824) :
 Calls Tryz.prog 15 #[.agg #[.int .i64 d.pw,v0,v1]] W fun e w'=>(∃ db x0 x1,e=.returned (.tuple #[.pointer (some ⟨db,0,none⟩),.agg #[.int .i64 d.pw,x0,x1]])∧(∃ p,DZ W.heap.size p w' db d)∧RD w' x0 x1 d)∧Below W.heap.size W w':=by
 obtain ⟨a0,c0,rfl, -, -, -⟩:=hr0.open_
 obtain ⟨a1,c1,rfl, -, -, -⟩:=hr1.open_
 have HR0:=Lib.hid hr0
 have HR1:=Lib.hid hr1
 have HS:=Lib.hid hs
 have HM0:=Lib.hid (DkM.start W (.int .i64 d.pw) (.slice a0 d.f0.length c0) (.slice a1 d.f1.length c1) (.int .i64 d.pw))
 clear hr0 hr1 hs
 go_enter Tryz.func15,Tryz.ntmps15
 go_wp2
 go_loopw [6] (fun iv wr=>∃ (i:Nat) (x0 x1 y0 y1:Value),i≤2∧iv=.int .i64 i∧DkM W wr [.int .i64 d.pw,.slice a0 d.f0.length c0,.slice a1 d.f1.length c1] [.int .i64 d.pw,x0,x1] [.int .i64 d.pw,y0,y1]∧DkX W wr d i x0 x1 y0 y1) (fun i _=>2 - (intOf i).toNat)
 case atStart=>exact ⟨0,_,_,_,_,by omega,rfl,HM0.out,(fun h=>by omega),(fun h=>by omega),(fun h=>by omega)⟩
 case round=>
  obtain ⟨i,x0,x1,y0,y1,hi,rfl,hM,hX⟩:=hrel
  clear HM0
  have HM:=Lib.hid hM
  have HX:=Lib.hid hX
  clear hM hX
  rcases (show i=0∨i=1∨i=2 by omega) with rfl | rfl | rfl
  ·go_upto_region 6 with (fail)
   refine wp_region_mix (by kernel_rfl) (by kernel_rfl) (by kernel_rfl) [some (.pointer (some ⟨W.heap.size+1+1,0,none⟩)),some (.int .i64 0),some (.int .i64 0),some (.int .i64 0),some (.pointer (some ⟨W.heap.size,1,none⟩)),some (.pointer (some ⟨W.heap.size,1,none⟩)),some (.slice a0 d.f0.length c0),none,some (.int .i64 0),some (.pointer (some ⟨W.heap.size,1,none⟩)),some (.pointer (some ⟨W.heap.size,1,none⟩)),some (.slice a0 d.f0.length c0),none,some (.pointer (some ⟨W.heap.size+1+1,0,none⟩)),some (.pointer (some ⟨W.heap.size+1+1,1,none⟩)),some (.pointer (some ⟨W.heap.size+1+1,1,none⟩)),none,some (.pointer (some ⟨W.heap.size+1+1+1,1,none⟩)),some (.pointer (some ⟨W.heap.size+1+1+1,1,none⟩)),none] [7,12,16,19] (by kernel_rfl) (by kernel_rfl) (DkG W wr d.f0 [.int .i64 d.pw,x0,x1] [.int .i64 d.pw,y0,y1] 0) ⟨Grown.of_below (bl_drew wr),(fun h=>by cases h),(fun h=>by cases h),fun _=>HM.out.db.below (bl_drew wr),(fun h=>by cases h),fun _=>HM.out.zb.below (bl_drew wr),(fun h=>by cases h)⟩ ?_ ?_
   ·refine EachI.cons (MixOk.pure (by kernel_rfl) (fun _=>by kernel_rfl) (fun _ _=>by kernel_rfl)) ?_
    refine EachI.cons (MixOk.pure (by kernel_rfl) (fun _=>by kernel_rfl) (fun _ _=>by kernel_rfl)) ?_
    refine EachI.cons (MixOk.pure (by kernel_rfl) (fun _=>by kernel_rfl) (fun _ _=>by kernel_rfl)) ?_
    refine EachI.cons (MixOk.pure (by kernel_rfl) (fun _=>by kernel_rfl) (fun _ _=>by kernel_rfl)) ?_
    refine EachI.cons (MixOk.pure (by kernel_rfl) (fun _=>by kernel_rfl) (fun _ _=>by kernel_rfl)) ?_
    refine EachI.cons (MixOk.pure (by kernel_rfl) (fun _=>by kernel_rfl) (fun _ _=>by kernel_rfl)) ?_
    refine EachI.cons (MixOk.look (by kernel_rfl) (fun _=>by kernel_rfl) (fun dn ws wx hG hdep hcl hni=>xr_bytes _ _ _ _ _ _ _ ⟨W.heap.size,1,none⟩ _ wx (by kernel_rfl) ((HM.out.sb.grown hG.gg (by omega)).cell 1 (by simp)))) ?_
    refine EachI.cons (MixOk.turn (by kernel_rfl) (fun dn ws wx hG hdep hcl hni=>?_)) ?_
    ·have h16:=not_done (hcl 16 7 (by kernel_rfl)) hni
     have hs:=hG.gg.size
     refine turn_call (by kernel_rfl) 17 #[.slice a0 d.f0.length c0] (by kernel_rfl) ((copyBytes_c (.slice a0 d.f0.length c0) d.f0 W.heap.size wx (HR0.out.below (hG.be HM.out.be HM.out.sz)) (by omega)).mono ?_)
     rintro e w' ⟨⟨v',rfl,hown⟩,hbl⟩
     exact ⟨v',rfl,hG.call0 hown hbl h16⟩
    refine EachI.cons (MixOk.pure (by kernel_rfl) (fun _=>by kernel_rfl) (fun _ _=>by kernel_rfl)) ?_
    refine EachI.cons (MixOk.pure (by kernel_rfl) (fun _=>by kernel_rfl) (fun _ _=>by kernel_rfl)) ?_
    refine EachI.cons (MixOk.pure (by kernel_rfl) (fun _=>by kernel_rfl) (fun _ _=>by kernel_rfl)) ?_
    refine EachI.cons (MixOk.look (by kernel_rfl) (fun _=>by kernel_rfl) (fun dn ws wx hG hdep hcl hni=>xr_bytes _ _ _ _ _ _ _ ⟨W.heap.size,1,none⟩ _ wx (by kernel_rfl) ((HM.out.sb.grown hG.gg (by omega)).cell 1 (by simp)))) ?_
    refine EachI.cons (MixOk.turn (by kernel_rfl) (fun dn ws wx hG hdep hcl hni=>?_)) ?_
    ·have h19:=not_done (hcl 19 12 (by kernel_rfl)) hni
     have hs:=hG.gg.size
     refine turn_call (by kernel_rfl) 17 #[.slice a0 d.f0.length c0] (by kernel_rfl) ((copyBytes_c (.slice a0 d.f0.length c0) d.f0 W.heap.size wx (HR0.out.below (hG.be HM.out.be HM.out.sz)) (by omega)).mono ?_)
     rintro e w' ⟨⟨v',rfl,hown⟩,hbl⟩
     exact ⟨v',rfl,hG.call1 hown hbl h19⟩
    refine EachI.cons (MixOk.pure (by kernel_rfl) (fun _=>by kernel_rfl) (fun _ _=>by kernel_rfl)) ?_
    refine EachI.cons (MixOk.pure (by kernel_rfl) (fun _=>by kernel_rfl) (fun _ _=>by kernel_rfl)) ?_
    refine EachI.cons (MixOk.pure (by kernel_rfl) (fun _=>by kernel_rfl) (fun _ _=>by kernel_rfl)) ?_
    refine EachI.cons (MixOk.turn (by kernel_rfl) (fun dn ws wx hG hdep hcl hni=>?_)) ?_
    ·have hd:dn 7=true:=hdep 7 (by kernel_rfl)
     have ho:=hG.g0 hd
     obtain ⟨a,cp,ea,_⟩:=rowV_form ho
     have ea:ws 7=.slice a _ cp:=ea
     have hb:=hG.g2 hni
     refine turn_store _ _ _ _ _ _ _ (by kernel_rfl) ⟨W.heap.size+1+1,1,none⟩ _ a _ cp (by kernel_rfl) (Eq.trans (b:=ws 7) (by kernel_rfl) ea) (hb.cell 1 (by simp)) (hb.frozen _) ?_
     rw [← ea]
     exact hG.store0 hb ho
    refine EachI.cons (MixOk.pure (by kernel_rfl) (fun _=>by kernel_rfl) (fun _ _=>by kernel_rfl)) ?_
    refine EachI.cons (MixOk.pure (by kernel_rfl) (fun _=>by kernel_rfl) (fun _ _=>by kernel_rfl)) ?_
    refine EachI.cons (MixOk.turn (by kernel_rfl) (fun dn ws wx hG hdep hcl hni=>?_)) ?_
    ·have hd:dn 12=true:=hdep 12 (by kernel_rfl)
     have ho:=hG.g1 hd
     obtain ⟨a,cp,ea,_⟩:=rowV_form ho
     have ea:ws 12=.slice a _ cp:=ea
     have hb:=hG.g4 hni
     refine turn_store _ _ _ _ _ _ _ (by kernel_rfl) ⟨W.heap.size+1+1+1,1,none⟩ _ a _ cp (by kernel_rfl) (Eq.trans (b:=ws 12) (by kernel_rfl) ea) (hb.cell 1 (by simp)) (hb.frozen _) ?_
     rw [← ea]
     exact hG.store1 hb ho
    exact EachI.nil
   ·intro ws L' hL' w7 hG7
    have HF:=Lib.hid hG7
    simp only [List.set_cons_succ,List.set_cons_zero,setAll,mix,List.getElem?_cons_succ,List.getElem?_cons_zero,Option.join_some,Option.getD_some,Option.getD_none,Nat.reduceAdd] at hL'
    subst hL'
    clear hG7
    have HN:=Lib.hid (DkM.next0 HM.out HX.out HF.out)
    go_wp2
    go_roundw
    case rel=>exact ⟨1,_,_,_,_,by omega,rfl,HN.out.1,HN.out.2⟩
    case measure=>simp [intOf]
  ·go_upto_region 6 with (fail)
   refine wp_region_mix (by kernel_rfl) (by kernel_rfl) (by kernel_rfl) [some (.pointer (some ⟨W.heap.size+1+1,0,none⟩)),some (.int .i64 1),some (.int .i64 1),some (.int .i64 1),some (.pointer (some ⟨W.heap.size,1,none⟩)),some (.pointer (some ⟨W.heap.size,2,none⟩)),some (.slice a1 d.f1.length c1),none,some (.int .i64 1),some (.pointer (some ⟨W.heap.size,1,none⟩)),some (.pointer (some ⟨W.heap.size,2,none⟩)),some (.slice a1 d.f1.length c1),none,some (.pointer (some ⟨W.heap.size+1+1,0,none⟩)),some (.pointer (some ⟨W.heap.size+1+1,1,none⟩)),some (.pointer (some ⟨W.heap.size+1+1,2,none⟩)),none,some (.pointer (some ⟨W.heap.size+1+1+1,1,none⟩)),some (.pointer (some ⟨W.heap.size+1+1+1,2,none⟩)),none] [7,12,16,19] (by kernel_rfl) (by kernel_rfl) (DkG W wr d.f1 [.int .i64 d.pw,x0,x1] [.int .i64 d.pw,y0,y1] 1) ⟨Grown.of_below (bl_drew wr),(fun h=>by cases h),(fun h=>by cases h),fun _=>HM.out.db.below (bl_drew wr),(fun h=>by cases h),fun _=>HM.out.zb.below (bl_drew wr),(fun h=>by cases h)⟩ ?_ ?_
   ·refine EachI.cons (MixOk.pure (by kernel_rfl) (fun _=>by kernel_rfl) (fun _ _=>by kernel_rfl)) ?_
    refine EachI.cons (MixOk.pure (by kernel_rfl) (fun _=>by kernel_rfl) (fun _ _=>by kernel_rfl)) ?_
    refine EachI.cons (MixOk.pure (by kernel_rfl) (fun _=>by kernel_rfl) (fun _ _=>by kernel_rfl)) ?_
    refine EachI.cons (MixOk.pure (by kernel_rfl) (fun _=>by kernel_rfl) (fun _ _=>by kernel_rfl)) ?_
    refine EachI.cons (MixOk.pure (by kernel_rfl) (fun _=>by kernel_rfl) (fun _ _=>by kernel_rfl)) ?_
    refine EachI.cons (MixOk.pure (by kernel_rfl) (fun _=>by kernel_rfl) (fun _ _=>by kernel_rfl)) ?_
    refine EachI.cons (MixOk.look (by kernel_rfl) (fun _=>by kernel_rfl) (fun dn ws wx hG hdep hcl hni=>xr_bytes _ _ _ _ _ _ _ ⟨W.heap.size,2,none⟩ _ wx (by kernel_rfl) ((HM.out.sb.grown hG.gg (by omega)).cell 2 (by simp)))) ?_
    refine EachI.cons (MixOk.turn (by kernel_rfl) (fun dn ws wx hG hdep hcl hni=>?_)) ?_
    ·have h16:=not_done (hcl 16 7 (by kernel_rfl)) hni
     have hs:=hG.gg.size
     refine turn_call (by kernel_rfl) 17 #[.slice a1 d.f1.length c1] (by kernel_rfl) ((copyBytes_c (.slice a1 d.f1.length c1) d.f1 W.heap.size wx (HR1.out.below (hG.be HM.out.be HM.out.sz)) (by omega)).mono ?_)
     rintro e w' ⟨⟨v',rfl,hown⟩,hbl⟩
     exact ⟨v',rfl,hG.call0 hown hbl h16⟩
    refine EachI.cons (MixOk.pure (by kernel_rfl) (fun _=>by kernel_rfl) (fun _ _=>by kernel_rfl)) ?_
    refine EachI.cons (MixOk.pure (by kernel_rfl) (fun _=>by kernel_rfl) (fun _ _=>by kernel_rfl)) ?_
    refine EachI.cons (MixOk.pure (by kernel_rfl) (fun _=>by kernel_rfl) (fun _ _=>by kernel_rfl)) ?_
    refine EachI.cons (MixOk.look (by kernel_rfl) (fun _=>by kernel_rfl) (fun dn ws wx hG hdep hcl hni=>xr_bytes _ _ _ _ _ _ _ ⟨W.heap.size,2,none⟩ _ wx (by kernel_rfl) ((HM.out.sb.grown hG.gg (by omega)).cell 2 (by simp)))) ?_
    refine EachI.cons (MixOk.turn (by kernel_rfl) (fun dn ws wx hG hdep hcl hni=>?_)) ?_
    ·have h19:=not_done (hcl 19 12 (by kernel_rfl)) hni
     have hs:=hG.gg.size
     refine turn_call (by kernel_rfl) 17 #[.slice a1 d.f1.length c1] (by kernel_rfl) ((copyBytes_c (.slice a1 d.f1.length c1) d.f1 W.heap.size wx (HR1.out.below (hG.be HM.out.be HM.out.sz)) (by omega)).mono ?_)
     rintro e w' ⟨⟨v',rfl,hown⟩,hbl⟩
     exact ⟨v',rfl,hG.call1 hown hbl h19⟩
    refine EachI.cons (MixOk.pure (by kernel_rfl) (fun _=>by kernel_rfl) (fun _ _=>by kernel_rfl)) ?_
    refine EachI.cons (MixOk.pure (by kernel_rfl) (fun _=>by kernel_rfl) (fun _ _=>by kernel_rfl)) ?_
    refine EachI.cons (MixOk.pure (by kernel_rfl) (fun _=>by kernel_rfl) (fun _ _=>by kernel_rfl)) ?_
    refine EachI.cons (MixOk.turn (by kernel_rfl) (fun dn ws wx hG hdep hcl hni=>?_)) ?_
    ·have hd:dn 7=true:=hdep 7 (by kernel_rfl)
     have ho:=hG.g0 hd
     obtain ⟨a,cp,ea,_⟩:=rowV_form ho
     have ea:ws 7=.slice a _ cp:=ea
     have hb:=hG.g2 hni
     refine turn_store _ _ _ _ _ _ _ (by kernel_rfl) ⟨W.heap.size+1+1,2,none⟩ _ a _ cp (by kernel_rfl) (Eq.trans (b:=ws 7) (by kernel_rfl) ea) (hb.cell 2 (by simp)) (hb.frozen _) ?_
     rw [← ea]
     exact hG.store0 hb ho
    refine EachI.cons (MixOk.pure (by kernel_rfl) (fun _=>by kernel_rfl) (fun _ _=>by kernel_rfl)) ?_
    refine EachI.cons (MixOk.pure (by kernel_rfl) (fun _=>by kernel_rfl) (fun _ _=>by kernel_rfl)) ?_
    refine EachI.cons (MixOk.turn (by kernel_rfl) (fun dn ws wx hG hdep hcl hni=>?_)) ?_
    ·have hd:dn 12=true:=hdep 12 (by kernel_rfl)
     have ho:=hG.g1 hd
     obtain ⟨a,cp,ea,_⟩:=rowV_form ho
     have ea:ws 12=.slice a _ cp:=ea
     have hb:=hG.g4 hni
     refine turn_store _ _ _ _ _ _ _ (by kernel_rfl) ⟨W.heap.size+1+1+1,2,none⟩ _ a _ cp (by kernel_rfl) (Eq.trans (b:=ws 12) (by kernel_rfl) ea) (hb.cell 2 (by simp)) (hb.frozen _) ?_
     rw [← ea]
     exact hG.store1 hb ho
    exact EachI.nil
   ·intro ws L' hL' w7 hG7
    have HF:=Lib.hid hG7
    simp only [List.set_cons_succ,List.set_cons_zero,setAll,mix,List.getElem?_cons_succ,List.getElem?_cons_zero,Option.join_some,Option.getD_some,Option.getD_none,Nat.reduceAdd] at hL'
    subst hL'
    clear hG7
    have HN:=Lib.hid (DkM.next1 HM.out HX.out HF.out)
    go_wp2
    go_roundw
    case rel=>exact ⟨2,_,_,_,_,by omega,rfl,HN.out.1,HN.out.2⟩
    case measure=>simp [intOf]
  ·obtain ⟨b0,e0,rfl, -⟩:=rowV_form (HX.out.h0 (by omega)).2
   obtain ⟨b1,e1,rfl, -⟩:=rowV_form (HX.out.h1 (by omega)).2
   have z0:=HM.out.zb.cell 0 (by simp)
   have z1:=HM.out.zb.cell 1 (by simp)
   have z2:=HM.out.zb.cell 2 (by simp)
   have r0:=HM.out.rb.cell 0 (by simp)
   have r1:=HM.out.rb.cell 1 (by simp)
   have r2:=HM.out.rb.cell 2 (by simp)
   have f0:=HM.out.rb.frozen 0
   have f1:=HM.out.rb.frozen 1
   have f2:=HM.out.rb.frozen 2
   simp only [List.getD_cons_zero,List.getD_cons_succ] at z0 z1 z2 r0 r1 r2
   have hne:W.heap.size+1+1+1 ≠ W.heap.size+1:=by omega
   have hne2:W.heap.size+1 ≠ W.heap.size+1+1+1:=by omega
   have HBK:Hid (Blk ((((wr.setCell ⟨W.heap.size+1,0,none⟩ (.int .i64 d.pw)).setCell ⟨W.heap.size+1,1,none⟩ (.slice b0 d.f0.length e0)).setCell ⟨W.heap.size+1,2,none⟩ (.slice b1 d.f1.length e1)).drew) (W.heap.size+1) 47 [.int .i64 d.pw,.slice b0 d.f0.length e0,.slice b1 d.f1.length e1]):=Lib.hid (((HM.out.rb.set 0 (.int .i64 d.pw)).set 1 (.slice b0 d.f0.length e0)).set 2 (.slice b1 d.f1.length e1))
   have HGR:Hid (Grown (fun k=>k=W.heap.size+1) wr ((((wr.setCell ⟨W.heap.size+1,0,none⟩ (.int .i64 d.pw)).setCell ⟨W.heap.size+1,1,none⟩ (.slice b0 d.f0.length e0)).setCell ⟨W.heap.size+1,2,none⟩ (.slice b1 d.f1.length e1)).drew)):=Lib.hid ((Grown.setCell (S:=fun k=>k=W.heap.size+1) (Grown.setCell (S:=fun k=>k=W.heap.size+1) (Grown.setCell (S:=fun k=>k=W.heap.size+1) (Grown.refl _ _) (a:=⟨W.heap.size+1,0,none⟩) rfl _) (a:=⟨W.heap.size+1,1,none⟩) rfl _) (a:=⟨W.heap.size+1,2,none⟩) rfl _).trans (Grown.of_below (bl_drew _)))
   have HF:=Lib.hid (DkM.fin HS.out HM.out HX.out HGR.out)
   go_upto_region 7 with (fail)
   go_region
   all_goals
    change Exit.then _ _ _ _ ((((wr.setCell ⟨W.heap.size+1,0,none⟩ (.int .i64 d.pw)).setCell ⟨W.heap.size+1,1,none⟩ (.slice b0 d.f0.length e0)).setCell ⟨W.heap.size+1,2,none⟩ (.slice b1 d.f1.length e1)).drew)
    generalize (((wr.setCell ⟨W.heap.size+1,0,none⟩ (.int .i64 d.pw)).setCell ⟨W.heap.size+1,1,none⟩ (.slice b0 d.f0.length e0)).setCell ⟨W.heap.size+1,2,none⟩ (.slice b1 d.f1.length e1)).drew=w9 at *
    have q0:=HBK.out.cell 0 (by simp)
    have q1:=HBK.out.cell 1 (by simp)
    have q2:=HBK.out.cell 2 (by simp)
    simp only [List.getD_cons_zero,List.getD_cons_succ] at q0 q1 q2
    go_wp2
    exact bodyPost_ret (v:=.tuple #[.pointer (some ⟨W.heap.size+1+1,0,none⟩),.agg #[.int .i64 d.pw,.slice b0 d.f0.length e0,.slice b1 d.f1.length e1]]) (by simp [results,Tryz.results15,go_sem,q0,q1,q2]) rfl ⟨⟨_,_,_,rfl,HF.out.1,HF.out.2.1⟩,HF.out.2.2⟩
end Go.Proofs.YtondomklkapogaaGreatDoor
