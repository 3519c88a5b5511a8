/- Task again: the body lies in a block of the call's own. Written by mkswalkp.py. -/
import Derived.Test.YtbcfpdlhieaepaaGreatDoorR30
namespace Go.Proofs.YtbcfpdlhieaepaaGreatDoor
open Go.RowKit SeedP Go.Maps
/-- bytes in a block from lo on, below B -/
def RdQ (lo:Nat) (w:World) (B:Nat) (v:Value) (l:List UInt8):Prop:=RdP w (fun g=>lo≤g∧g < B) v l
theorem RdQ.toB {lo:Nat} {w:World} {B:Nat} {v:Value} {l:List UInt8} (h:RdQ lo w B v l):RdB w B v l:=h.imp_right (fun ⟨g,off,cap,e,h1,h2,h3,h4⟩=>⟨g,off,cap,e,h1,h2,h3.2,h4⟩)
theorem RdQ.below {lo:Nat} {w w':World} {B:Nat} {v:Value} {l:List UInt8} (h:RdQ lo w B v l) (hb:Below B w w'):RdQ lo w' B v l:=h.imp_right (fun ⟨g,off,cap,e,h1,h2,h3,h4⟩=>⟨g,off,cap,e,h1,h2,h3,fun j hj=>(hb.cell (p:=⟨g,off+j,none⟩) h3.2).trans (h4 j hj)⟩)
theorem RdQ.nil (lo:Nat) (w:World) (B:Nat):RdQ lo w B (.slice none 0 0) []:=Or.inl ⟨Or.inl rfl,rfl⟩
theorem RdQ.drew {lo:Nat} {w:World} {B:Nat} {v:Value} {l:List UInt8} (h:RdQ lo w B v l):RdQ lo w.drew B v l:=h
theorem RdQ.mono {lo:Nat} {w:World} {B B':Nat} {v:Value} {l:List UInt8} (h:RdQ lo w B v l) (hB:B≤B'):RdQ lo w B' v l:=RdP.mono h (fun _ _ hg=>⟨hg.1,Nat.lt_of_lt_of_le hg.2 hB⟩)
theorem RdQ.skip {lo:Nat} {w w':World} {B g:Nat} {v:Value} {l:List UInt8} {t:TypeId} {cs:List Value} (h:RdQ lo w B v l) (hx:Blk w g t cs) (hn:∀ x ∈ cs,∀ m,x ≠ .int .u8 m) (hg:Grown (fun k=>k=g) w w'):RdQ lo w' B v l:=by
 rcases h with h | ⟨q,off,cap,e,h1,h2,h3,h4⟩
 ·exact Or.inl h
 ·refine Or.inr ⟨q,off,cap,e,h1,h2,h3,fun j hj=>?_⟩
  have hc:=h4 j hj
  refine (World.cell?_of_block (hg.block q (World.block_lt_of_cell? w _ hc) (fun e2=>?_))).trans hc
  have e2:q=g:=e2
  subst e2
  exact hn _ (hx.cell_mem hc) _ rfl
theorem rdQ_drop {lo:Nat} {w:World} {B:Nat} {l:List UInt8} (k g off cap:Nat) (hk:k≤l.length) (h1:l.length≤cap) (h2:cap≤9223372036854775807) (h3:lo≤g∧g < B) (hc:∀ j,j < l.length→w.cell? ⟨g,off+j,none⟩=some (.int .u8 (l.getD j 0).toNat)) :
 RdQ lo w B (.slice (if cap=k then some ⟨g,off,none⟩ else some ⟨g,off+k,none⟩) (l.length - k) (cap - k)) (l.drop k):=rdP_drop (p:=fun g=>lo≤g∧g < B) k g off cap hk h1 h2 h3 hc
theorem readNumberQ_c (lo:Nat) (v:Value) (l:List UInt8) (B:Nat) (w:World) (hv:RdQ lo w B v l) (h4:4≤l.length) :
 Calls Tryz.prog 50 #[v] w fun e w'=>(∃ v',e=.returned (.tuple #[.int .i64 (numV (l.take 4)),v'])∧RdQ lo w' B v' (l.drop 4))∧Below w.heap.size w w':=readNumberP_c v l (fun g=>lo≤g∧g < B) w hv h4
set_option maxRecDepth 100000 in
set_option maxHeartbeats 1000000 in
theorem readNameQ_c (lo:Nat) (v:Value) (l:List UInt8) (B:Nat) (w:World) (hv:RdQ lo w B v l) :
 Calls Tryz.prog 88 #[v] w fun e w'=>(match rName l with
  | none=>e=.returned zeroName
  | some (nm,r)=>∃ v',e=.returned (.tuple #[strV nm,v',.bool true])∧RdQ lo w' B v' r)∧Below w.heap.size w w':=by
 have hun:undef=Value.tuple #[]:=rfl
 have W0:=Lib.hid (Below.refl w.heap.size w)
 cases l with
 | nil=>
   obtain ⟨a,cap,rfl,_⟩:=(RdQ.toB hv).open_
   clear hv
   simp only [rName,List.length_nil]
   go_enter Tryz.func88,Tryz.ntmps88
   go_wp2
   refine bodyPost_ret (v:=zeroName) (by simp [results,Tryz.results88,go_sem,zeroName]) rfl ?_
   exact ⟨rfl,W0.out⟩
 | cons n r=>
   rcases hv with ⟨_,h⟩ | ⟨g,off,cap,rfl,h1,h2,h3,hc⟩
   ·cases h
   have c0:=hc 0 (by simp)
   rw [Nat.add_zero] at c0
   simp only [List.getD_cons_zero] at c0
   have hn:=n.toNat_lt
   unfold maxLen at h2
   simp only [List.length_cons] at h1 hc
   have e0:((((r.length+1:Nat):Int)) == 0)=false:=beq_eq_false_iff_ne.2 (by omega)
   by_cases hlt:r.length < n.toNat
   ·have t1:decide (((r.length+1:Nat):Int) < 1+(n.toNat:Int))=true:=decide_eq_true (by omega)
    have HR:Hid (rName (n :: r)=none):=Lib.hid (by simp only [rName]; rw [if_pos hlt])
    rw [HR.out]
    simp only [List.length_cons]
    obtain ⟨k,hk⟩:∃ k,r.length+1=k:=⟨_,rfl⟩
    have k0:0 < k:=by omega
    have k1:(0:Int) < (k:Int):=by omega
    rw [hk] at e0 t1 ⊢
    clear hc hlt HR h3 h1
    generalize n.toNat=m at *
    go_enter Tryz.func88,Tryz.ntmps88
    go_wp2
    refine bodyPost_ret (v:=zeroName) (by simp [results,Tryz.results88,go_sem,zeroName]) rfl ?_
    exact ⟨rfl,W0.out⟩
   ·have t1:decide (((r.length+1:Nat):Int) < 1+(n.toNat:Int))=false:=decide_eq_false (by omega)
    have HR:Hid (rName (n :: r)=some (r.take n.toNat,r.drop n.toNat)):=Lib.hid (by simp only [rName]; rw [if_neg hlt])
    rw [HR.out]
    simp only [List.length_cons]
    obtain ⟨k,hk⟩:∃ k,r.length+1=k:=⟨_,rfl⟩
    have k0:0 < k:=by omega
    have k1:(0:Int) < (k:Int):=by omega
    have k2:(1:Int)+(n.toNat:Int)≤(k:Int):=by omega
    have k3:(1:Int)+(n.toNat:Int)≤(cap:Int):=by omega
    have k4:(1:Int)≤1+(n.toNat:Int):=by omega
    have k5:(0:Int)≤1+(n.toNat:Int):=by omega
    rw [hk] at e0 t1 h1 hc ⊢
    have en:(1+(n.toNat:Int)).toNat=1+n.toNat:=by omega
    have hl:(n :: r).length=k:=by rw [← hk]; rfl
    have d1:((n :: r).take (1+n.toNat)).drop 1=r.take n.toNat:=by rw [Nat.add_comm]; rfl
    have d2:(n :: r).drop (1+n.toNat)=r.drop n.toNat:=by rw [Nat.add_comm]; rfl
    have s1:=rdB_sub (w:=w) (B:=B) (l:=n :: r) 1 (1+n.toNat) g off cap (by omega) (by omega) (by omega) h2 h3.2 (fun j hj=>hc j (by omega))
    have s2:=rdQ_drop (lo:=lo) (w:=w) (B:=B) (l:=n :: r) (1+n.toNat) g off cap (by omega) (by omega) h2 h3 (fun j hj=>hc j (by omega))
    rw [d1,Nat.add_sub_cancel_left] at s1
    rw [d2,hl] at s2
    clear hc hlt HR h3 hk d1 d2 hl
    generalize r.take n.toNat=nm at *
    generalize r.drop n.toNat=rs at *
    generalize n.toNat=m at *
    by_cases q1:cap=1
    ·subst q1
     obtain rfl:m=0:=by omega
     obtain rfl:k=1:=by omega
     rw [if_pos rfl] at s1
     rw [if_pos (by omega)] at s2
     have kc:=conv_c s1.drew
     have HS:=Lib.hid s2
     clear s1 s2
     go_enter Tryz.func88,Tryz.ntmps88
     go_wp2
     go_region
     go_wp2
     refine bodyPost_ret (v:=.tuple #[strV nm,.slice (some ⟨g,off,none⟩) 0 0,.bool true]) (by simp [results,Tryz.results88,go_sem]) rfl ?_
     exact ⟨⟨_,rfl,HS.out⟩,W0.out.drew⟩
    ·rw [if_neg q1] at s1
     by_cases q2:cap=1+m
     ·rw [if_pos q2] at s2
      have HS:=Lib.hid s2
      subst q2
      rw [Nat.add_sub_cancel_left] at s1
      have kc:=conv_c s1.drew
      have hm0:¬ m=0:=by omega
      clear s1 s2
      go_enter Tryz.func88,Tryz.ntmps88
      go_wp2
      go_region
      go_wp2
      refine bodyPost_ret (v:=.tuple #[strV nm,.slice (some ⟨g,off,none⟩) (k - (1+m)) (1+m - (1+m)),.bool true]) (by simp [results,Tryz.results88,go_sem]; try omega) rfl ?_
      exact ⟨⟨_,rfl,HS.out⟩,W0.out.drew⟩
     ·rw [if_neg q2] at s2
      have kc:=conv_c s1.drew
      have HS:=Lib.hid s2
      clear s1 s2
      go_enter Tryz.func88,Tryz.ntmps88
      go_wp2
      go_region
      go_wp2
      refine bodyPost_ret (v:=.tuple #[strV nm,.slice (some ⟨g,off+(1+m),none⟩) (k - (1+m)) (cap - (1+m)),.bool true]) (by simp [results,Tryz.results88,go_sem]) rfl ?_
      exact ⟨⟨_,rfl,HS.out⟩,W0.out.drew⟩
/-- what readTask hands back -/
def TaskPostQ (lo B:Nat) (r:Option TaskP) (e:Ending) (w':World):Prop:=match r with
 | none=>e=.returned (.tuple #[taskV zeroT (.slice none 0 0),.bool false])
 | some t=>∃ a c,e=.returned (.tuple #[taskV t (.slice a t.body.length c),.bool true])∧RdQ lo w' B (.slice a t.body.length c) t.body
set_option maxRecDepth 100000 in
set_option maxHeartbeats 4000000 in
/-- readTask -/
theorem readTaskQ_c (lo:Nat) (v:Value) (l:List UInt8) (w:World) (hv:RdQ lo w w.heap.size v l) :
 Calls Tryz.prog 53 #[v] w fun e w'=>TaskPostQ lo w.heap.size (readTaskP l) e w'∧Below w.heap.size w w':=by
 have hun:undef=Value.tuple #[]:=rfl
 obtain ⟨a,c,rfl,hm, -, -⟩:=(RdQ.toB hv).open_
 have HV:=Lib.hid hv
 clear hv
 have hM:=RtM.start w
 by_cases h13:l.length < 13
 ·have t1:decide ((l.length:Int) < 13)=true:=decide_eq_true (by omega)
  have HR:Hid (readTaskP l=none):=Lib.hid (by unfold readTaskP; rw [if_pos h13])
  have HB:=Lib.hid hM.be
  obtain ⟨k0,k1,k2,k3,k4,k5,k6,kf⟩:=t7_of hM.r
  clear h13 hM
  go_enter Tryz.func53,Tryz.ntmps53
  go_wp2
  refine bodyPost_ret (v:=.tuple #[taskV zeroT (.slice none 0 0),.bool false]) (by simp [results,Tryz.results53,go_sem,k0,k1,k2,k3,k4,k5,k6,zeroT]) rfl ?_
  rw [HR.out]
  exact ⟨rfl,HB.out⟩
 have t1:decide ((l.length:Int) < 13)=false:=decide_eq_false (by omega)
 obtain ⟨d4,hd4⟩:∃ d,l.drop 4=d:=⟨_,rfl⟩
 obtain ⟨d8,hd8⟩:∃ d,d4.drop 4=d:=⟨_,rfl⟩
 obtain ⟨d12,hd12⟩:∃ d,d8.drop 4=d:=⟨_,rfl⟩
 obtain ⟨n0,hn0⟩:∃ n,numV (l.take 4)=n:=⟨_,rfl⟩
 obtain ⟨n4,hn4⟩:∃ n,numV (d4.take 4)=n:=⟨_,rfl⟩
 obtain ⟨n8,hn8⟩:∃ n,numV (d8.take 4)=n:=⟨_,rfl⟩
 have l4:d4.length=l.length - 4:=by rw [← hd4,List.length_drop]
 have l8:d8.length=l.length - 8:=by rw [← hd8,List.length_drop]; omega
 have l12:d12.length=l.length - 12:=by rw [← hd12,List.length_drop]; omega
 have HD0:=Lib.hid (And.intro hn0 hd4)
 have HD1:=Lib.hid (And.intro hn4 hd8)
 have HD2:=Lib.hid (And.intro hn8 hd12)
 have G4:=Lib.hid (show 4≤d4.length by omega)
 have G8:=Lib.hid (show 4≤d8.length by omega)
 have G12:=Lib.hid (show 1≤d12.length by omega)
 have hl13:=Lib.hid h13
 clear hd4 hd8 hd12 hn0 hn4 hn8 l4 l8 l12
 have HM:=Lib.hid hM
 obtain ⟨k0,k1,k2,k3,k4,k5,k6,kf⟩:=t7_of hM.t
 have h1:=Lib.hid (readNumberQ_c lo (.slice a l.length c) l w.heap.size ((w.alloc (.cells #[.string ⟨#[]⟩,.string ⟨#[]⟩,.int .i64 0,.int .i64 0,.int .i64 0,.int .i64 0,.slice none 0 0] 35)).alloc (.cells #[.string ⟨#[]⟩,.string ⟨#[]⟩,.int .i64 0,.int .i64 0,.int .i64 0,.int .i64 0,.slice none 0 0] 35)) (HV.out.below hM.be) (by omega))
 clear hM
 go_enter Tryz.func53,Tryz.ntmps53
 go_wp2_with fail
 refine h1.out.mono ?_
 rw [HD0.out.1,HD0.out.2]
 rintro e w3 ⟨⟨v3,rfl,hv3⟩,hb3⟩
 clear h1 k0 k1 k2 k3 k4 k5 k6 kf
 have hM3:=HM.out.below hb3
 obtain ⟨a3,c3,rfl, -, -, -⟩:=(RdQ.toB hv3).open_
 obtain ⟨k0,k1,k2,k3,k4,k5,k6,kf⟩:=t7_of hM3.t
 have HS:=Lib.hid (hM3.set 2 (.int .i64 (n0:Nat)))
 have HR3:=Lib.hid (hv3.below ((Below.refl w.heap.size w3).setCell (p:=⟨w.heap.size+1,2,none⟩) (by simp) (.int .i64 (n0:Nat))))
 have HM:=Lib.hid (show RtM w (w3.setCell ⟨w.heap.size+1,2,none⟩ (.int .i64 (n0:Nat))) (.string ⟨#[]⟩) (.string ⟨#[]⟩) (.int .i64 (n0:Nat)) (.int .i64 0) (.int .i64 0) (.int .i64 0) (.slice none 0 0) from ⟨HS.out.1,HS.out.2.1,HS.out.2.2⟩)
 have h:=Lib.hid (readNumberQ_c lo _ d4 w.heap.size _ HR3.out G4.out)
 clear hM3 HS HR3
 go_wp2_with fail
 refine h.out.mono ?_
 rw [HD1.out.1,HD1.out.2]
 rintro e w5 ⟨⟨v5,rfl,hv5⟩,hb5⟩
 clear h k0 k1 k2 k3 k4 k5 k6 kf
 clear hb3 hv3
 have hM5:=HM.out.below hb5
 obtain ⟨a5,c5,rfl, -, -, -⟩:=(RdQ.toB hv5).open_
 obtain ⟨k0,k1,k2,k3,k4,k5,k6,kf⟩:=t7_of hM5.t
 have HS:=Lib.hid (hM5.set 3 (.int .i64 (n4:Nat)))
 have HR5:=Lib.hid (hv5.below ((Below.refl w.heap.size w5).setCell (p:=⟨w.heap.size+1,3,none⟩) (by simp) (.int .i64 (n4:Nat))))
 have HM:=Lib.hid (show RtM w (w5.setCell ⟨w.heap.size+1,3,none⟩ (.int .i64 (n4:Nat))) (.string ⟨#[]⟩) (.string ⟨#[]⟩) (.int .i64 (n0:Nat)) (.int .i64 (n4:Nat)) (.int .i64 0) (.int .i64 0) (.slice none 0 0) from ⟨HS.out.1,HS.out.2.1,HS.out.2.2⟩)
 have h:=Lib.hid (readNumberQ_c lo _ d8 w.heap.size _ HR5.out G8.out)
 clear hM5 HS HR5
 go_wp2_with fail
 refine h.out.mono ?_
 rw [HD2.out.1,HD2.out.2]
 rintro e w7 ⟨⟨v7,rfl,hv7⟩,hb7⟩
 clear h k0 k1 k2 k3 k4 k5 k6 kf
 clear hb5 hv5
 have hM7:=HM.out.below hb7
 obtain ⟨a7,c7,rfl, -, -, -⟩:=(RdQ.toB hv7).open_
 obtain ⟨k0,k1,k2,k3,k4,k5,k6,kf⟩:=t7_of hM7.t
 have HS:=Lib.hid (hM7.set 4 (.int .i64 (n8:Nat)))
 have HR7:=Lib.hid (hv7.below ((Below.refl w.heap.size w7).setCell (p:=⟨w.heap.size+1,4,none⟩) (by simp) (.int .i64 (n8:Nat))))
 have HM:=Lib.hid (show RtM w (w7.setCell ⟨w.heap.size+1,4,none⟩ (.int .i64 (n8:Nat))) (.string ⟨#[]⟩) (.string ⟨#[]⟩) (.int .i64 (n0:Nat)) (.int .i64 (n4:Nat)) (.int .i64 (n8:Nat)) (.int .i64 0) (.slice none 0 0) from ⟨HS.out.1,HS.out.2.1,HS.out.2.2⟩)
 clear hM7 HS hb7
 go_upto_region 7 with (fail)
 clear k0 k1 k2 k3 k4 k5 k6 kf
 obtain ⟨k0,k1,k2,k3,k4,k5,k6,kf⟩:=t7_of HM.out.t
 rcases HR7.out with ⟨_,e⟩ | ⟨g,off,cap,e,h1,h2,h3,hc⟩
 ·exfalso; have:=G12.out; rw [e] at this; simp at this
 simp only [Value.slice.injEq,true_and] at e
 obtain ⟨rfl,rfl⟩:=e
 have hs1:=Lib.hid (rdQ_drop (lo:=lo) 1 g off c7 G12.out h1 h2 h3 hc)
 obtain ⟨b,r,hbr⟩:∃ b r,d12=b :: r:=by
  cases d12 with
  | nil=>have:=G12.out; simp at this
  | cons b r=>exact ⟨b,r,rfl⟩
 have c0:=hc 0 (by have:=G12.out; omega)
 simp only [Nat.add_zero] at c0
 have eb:d12.getD 0 0=b:=by rw [hbr]; rfl
 have er:d12.drop 1=r:=by rw [hbr]; rfl
 rw [eb] at c0
 rw [er] at hs1
 have hlen:=Lib.hid (show d12.length=r.length+1 by rw [hbr]; rfl)
 have HBR:=Lib.hid hbr
 have p0:0 < d12.length:=by have:=G12.out; omega
 have p1:(0:Int) < (d12.length:Int):=by omega
 have p2:(1:Int)≤(d12.length:Int):=by omega
 clear hc eb er h3 HR7 hbr
 generalize d12.length=n12 at *
 generalize w7.setCell ⟨w.heap.size+1,4,none⟩ (.int .i64 (n8:Nat))=w8 at *
 have hu:=b.toNat_lt
 unfold maxLen at h2
 go_region
 have HM9:=Lib.hid (show RtM w (w8.setCell ⟨w.heap.size+1,5,none⟩ (.int .i64 b.toNat)).drew (.string ⟨#[]⟩) (.string ⟨#[]⟩) (.int .i64 (n0:Nat)) (.int .i64 (n4:Nat)) (.int .i64 (n8:Nat)) (.int .i64 b.toNat) (.slice none 0 0) from ⟨(HM.out.set 5 (.int .i64 b.toNat)).1.drew,(HM.out.set 5 (.int .i64 b.toNat)).2.1,(HM.out.set 5 (.int .i64 b.toNat)).2.2⟩)
 have HS9:=Lib.hid (show RdQ lo (w8.setCell ⟨w.heap.size+1,5,none⟩ (.int .i64 b.toNat)).drew w.heap.size _ r from hs1.out.below ((Below.refl w.heap.size w8).setCell (p:=⟨w.heap.size+1,5,none⟩) (by simp) (.int .i64 b.toNat)).drew)
 have er1:n12 - 1=r.length:=by have:=hlen.out; omega
 rw [er1] at HS9 ⊢
 clear hs1 k0 k1 k2 k3 k4 k5 k6 kf c0 HM er1 hv7
 generalize (if c7=1 then some (⟨g,off,none⟩:Addr) else some ⟨g,off+1,none⟩)=pa at *
 generalize (w8.setCell ⟨w.heap.size+1,5,none⟩ (.int .i64 b.toNat)).drew=w9 at *
 have HO:=Lib.hid (RtO.made HM9.out)
 have hv:=HS9.out.below ((Below.refl w9.heap.size w9).alloc (Nat.le_refl _) (.cells #[.bool false,.bool false] 143) |>.mono HM9.out.be.size)
 have h:=Lib.hid (readNameQ_c lo _ r w.heap.size _ hv)
 clear HM9 HS9 hv
 have hobs:w.heap.size+1 < w9.heap.size:=HO.out.lt
 generalize hob:w9.heap.size=ob at *
 have ne1:ob ≠ w.heap.size+1:=by omega
 have ne2:w.heap.size+1 ≠ ob:=by omega
 go_wp2_with fail
 refine h.out.mono ?_
 rintro e w11 ⟨hp,hb11⟩
 have HO:=Lib.hid (HO.out.below hb11)
 clear h hb11
 obtain ⟨k0,k1,k2,k3,k4,k5,k6,kf⟩:=t7_of HO.out.m.t
 have o0:=HO.out.o.cell 0 (by simp)
 have o1:=HO.out.o.cell 1 (by simp)
 have of0:=HO.out.o.frozen 0
 have of1:=HO.out.o.frozen 1
 simp only [List.getD_cons_zero,List.getD_cons_succ] at o0 o1
 cases hr1:rName r with
 | none=>
   rw [hr1] at hp
   subst hp
   have HRT:Hid (readTaskP l=none):=Lib.hid (by
    unfold readTaskP
    rw [if_neg hl13.out]
    have e13:l.drop 13=r:=by
     have:l.drop 13=(((l.drop 4).drop 4).drop 4).drop 1:=by simp [List.drop_drop]
     rw [this,HD0.out.2,HD1.out.2,HD2.out.2,HBR.out]; rfl
    rw [e13,hr1])
   have HO:=Lib.hid (HO.out.two0 (.string ⟨#[]⟩) false)
   have h:=Lib.hid (readNameQ_c lo (.slice none 0 0) [] w.heap.size ((w11.setCell ⟨w.heap.size+1,0,none⟩ (.string ⟨#[]⟩)).setCell ⟨ob,0,none⟩ (.bool false)) (RdQ.nil _ _ _))
   unfold zeroName
   go_wp2_with fail
   refine h.out.mono ?_
   rintro e w13 ⟨hp,hb13⟩
   have hp:e=.returned zeroName:=hp
   subst hp
   have HO:=Lib.hid (HO.out.below hb13)
   clear h hb13
   clear k0 k1 k2 k3 k4 k5 k6 kf o0 o1 of0 of1
   obtain ⟨k0,k1,k2,k3,k4,k5,k6,kf⟩:=t7_of HO.out.m.t
   have o0:=HO.out.o.cell 0 (by simp)
   have o1:=HO.out.o.cell 1 (by simp)
   have of0:=HO.out.o.frozen 0
   have of1:=HO.out.o.frozen 1
   simp only [List.getD_cons_zero,List.getD_cons_succ] at o0 o1
   have HO:=Lib.hid ((HO.out.two1 (.string ⟨#[]⟩) false).body (.slice none 0 0))
   unfold zeroName
   go_upto_region 12 with (fail)
   generalize ((w13.setCell ⟨w.heap.size+1,1,none⟩ (.string ⟨#[]⟩)).setCell ⟨ob,1,none⟩ (.bool false)).setCell ⟨w.heap.size+1,6,none⟩ (.slice none 0 0)=w14 at *
   clear k0 k1 k2 k3 k4 k5 k6 kf o0 o1 of0 of1
   obtain ⟨k0,k1,k2,k3,k4,k5,k6,kf⟩:=t7_of HO.out.m.t
   have o0:=HO.out.o.cell 0 (by simp)
   have o1:=HO.out.o.cell 1 (by simp)
   have of0:=HO.out.o.frozen 0
   have of1:=HO.out.o.frozen 1
   simp only [List.getD_cons_zero,List.getD_cons_succ] at o0 o1
   obtain ⟨q0,q1,q2,q3,q4,q5,q6,qf⟩:=t7_of HO.out.m.r
   go_wp2
   have hz7:=set7_blk HO.out.m.r (.string ⟨#[]⟩) (.string ⟨#[]⟩) (.int .i64 0) (.int .i64 0) (.int .i64 0) (.int .i64 0) (.slice none 0 0)
   have hb7:=set7_below HO.out.m.be (Nat.le_refl _) (Nat.le_refl _) (.string ⟨#[]⟩) (.string ⟨#[]⟩) (.int .i64 0) (.int .i64 0) (.int .i64 0) (.int .i64 0) (.slice none 0 0)
   change bodyPost _ _ _ _ _ (set7 w14 w.heap.size (.string ⟨#[]⟩) (.string ⟨#[]⟩) (.int .i64 0) (.int .i64 0) (.int .i64 0) (.int .i64 0) (.slice none 0 0))
   generalize set7 w14 w.heap.size (.string ⟨#[]⟩) (.string ⟨#[]⟩) (.int .i64 0) (.int .i64 0) (.int .i64 0) (.int .i64 0) (.slice none 0 0)=w20 at *
   obtain ⟨z0,z1,z2,z3,z4,z5,z6, -⟩:=t7_of hz7
   refine bodyPost_ret (v:=.tuple #[taskV zeroT (.slice none 0 0),.bool false]) (by simp [results,Tryz.results53,go_sem,z0,z1,z2,z3,z4,z5,z6,zeroT]) rfl ?_
   rw [HRT.out]
   exact ⟨rfl,hb7⟩
 | some cr=>
   obtain ⟨c1,r1⟩:=cr
   rw [hr1] at hp
   obtain ⟨v',rfl,hv'⟩:=hp
   obtain ⟨a',c',rfl, -, -, -⟩:=(RdQ.toB hv').open_
   have hv':=hv'.below (HO.out.twoB 0 (strV c1) 0 true)
   have HO:=Lib.hid (HO.out.two0 (strV c1) true)
   have h:=Lib.hid (readNameQ_c lo (.slice a' r1.length c') r1 w.heap.size ((w11.setCell ⟨w.heap.size+1,0,none⟩ (strV c1)).setCell ⟨ob,0,none⟩ (.bool true)) hv')
   clear hv'
   go_wp2_with fail
   refine h.out.mono ?_
   rintro e w13 ⟨hp,hb13⟩
   have HO:=Lib.hid (HO.out.below hb13)
   clear h hb13
   clear k0 k1 k2 k3 k4 k5 k6 kf o0 o1 of0 of1
   cases hr2:rName r1 with
   | none=>
     rw [hr2] at hp
     subst hp
     have HRT:Hid (readTaskP l=none):=Lib.hid (by
      unfold readTaskP
      rw [if_neg hl13.out]
      have e13:l.drop 13=r:=by
       have:l.drop 13=(((l.drop 4).drop 4).drop 4).drop 1:=by simp [List.drop_drop]
       rw [this,HD0.out.2,HD1.out.2,HD2.out.2,HBR.out]; rfl
      rw [e13,hr1]
      simp only
      rw [hr2])
     obtain ⟨k0,k1,k2,k3,k4,k5,k6,kf⟩:=t7_of HO.out.m.t
     have o0:=HO.out.o.cell 0 (by simp)
     have o1:=HO.out.o.cell 1 (by simp)
     have of0:=HO.out.o.frozen 0
     have of1:=HO.out.o.frozen 1
     simp only [List.getD_cons_zero,List.getD_cons_succ] at o0 o1
     have HO:=Lib.hid ((HO.out.two1 (.string ⟨#[]⟩) false).body (.slice none 0 0))
     unfold zeroName
     go_upto_region 12 with (fail)
     generalize ((w13.setCell ⟨w.heap.size+1,1,none⟩ (.string ⟨#[]⟩)).setCell ⟨ob,1,none⟩ (.bool false)).setCell ⟨w.heap.size+1,6,none⟩ (.slice none 0 0)=w14 at *
     clear k0 k1 k2 k3 k4 k5 k6 kf o0 o1 of0 of1
     obtain ⟨k0,k1,k2,k3,k4,k5,k6,kf⟩:=t7_of HO.out.m.t
     have o0:=HO.out.o.cell 0 (by simp)
     have o1:=HO.out.o.cell 1 (by simp)
     have of0:=HO.out.o.frozen 0
     have of1:=HO.out.o.frozen 1
     simp only [List.getD_cons_zero,List.getD_cons_succ] at o0 o1
     obtain ⟨q0,q1,q2,q3,q4,q5,q6,qf⟩:=t7_of HO.out.m.r
     go_wp2
     have hz7:=set7_blk HO.out.m.r (.string ⟨#[]⟩) (.string ⟨#[]⟩) (.int .i64 0) (.int .i64 0) (.int .i64 0) (.int .i64 0) (.slice none 0 0)
     have hb7:=set7_below HO.out.m.be (Nat.le_refl _) (Nat.le_refl _) (.string ⟨#[]⟩) (.string ⟨#[]⟩) (.int .i64 0) (.int .i64 0) (.int .i64 0) (.int .i64 0) (.slice none 0 0)
     change bodyPost _ _ _ _ _ (set7 w14 w.heap.size (.string ⟨#[]⟩) (.string ⟨#[]⟩) (.int .i64 0) (.int .i64 0) (.int .i64 0) (.int .i64 0) (.slice none 0 0))
     generalize set7 w14 w.heap.size (.string ⟨#[]⟩) (.string ⟨#[]⟩) (.int .i64 0) (.int .i64 0) (.int .i64 0) (.int .i64 0) (.slice none 0 0)=w20 at *
     obtain ⟨z0,z1,z2,z3,z4,z5,z6, -⟩:=t7_of hz7
     refine bodyPost_ret (v:=.tuple #[taskV zeroT (.slice none 0 0),.bool false]) (by simp [results,Tryz.results53,go_sem,z0,z1,z2,z3,z4,z5,z6,zeroT]) rfl ?_
     rw [HRT.out]
     exact ⟨rfl,hb7⟩
   | some cr=>
     obtain ⟨m1,body⟩:=cr
     rw [hr2] at hp
     obtain ⟨v',rfl,hv'⟩:=hp
     obtain ⟨a2,c2,rfl, -, -, -⟩:=(RdQ.toB hv').open_
     have hv':=(hv'.below (HO.out.twoB 1 (strV m1) 1 true)).below ((Below.refl w.heap.size _).setCell (p:=⟨w.heap.size+1,6,none⟩) (by simp) (.slice a2 body.length c2))
     have HV2:=Lib.hid hv'
     clear hv'
     obtain ⟨k0,k1,k2,k3,k4,k5,k6,kf⟩:=t7_of HO.out.m.t
     have o0:=HO.out.o.cell 0 (by simp)
     have o1:=HO.out.o.cell 1 (by simp)
     have of0:=HO.out.o.frozen 0
     have of1:=HO.out.o.frozen 1
     simp only [List.getD_cons_zero,List.getD_cons_succ] at o0 o1
     have HO:=Lib.hid ((HO.out.two1 (strV m1) true).body (.slice a2 body.length c2))
     have HRT:Hid (readTaskP l=if timelyB ⟨c1,m1,n0,n4,n8,b.toNat,body⟩ && decide (body.length≤4000) then some ⟨c1,m1,n0,n4,n8,b.toNat,body⟩ else none):=Lib.hid (by
      unfold readTaskP
      rw [if_neg hl13.out]
      have e13:l.drop 13=r:=by
       have:l.drop 13=(((l.drop 4).drop 4).drop 4).drop 1:=by simp [List.drop_drop]
       rw [this,HD0.out.2,HD1.out.2,HD2.out.2,HBR.out]; rfl
      have e8:l.drop 8=d8:=by
       have:l.drop 8=(l.drop 4).drop 4:=by simp [List.drop_drop]
       rw [this,HD0.out.2,HD1.out.2]
      have e12:l.getD 12 0=b:=by
       have h12:l.drop 12=b :: r:=by
        have:l.drop 12=((l.drop 4).drop 4).drop 4:=by simp [List.drop_drop]
        rw [this,HD0.out.2,HD1.out.2,HD2.out.2,HBR.out]
       have h6:=congrArg (fun l=>l.head?) h12
       simp only [List.head?_drop,List.head?_cons] at h6
       rw [List.getD_eq_getElem?_getD,h6]; rfl
      rw [e13,hr1]
      simp only
      rw [hr2]
      simp only
      rw [HD0.out.1,HD0.out.2,HD1.out.1,e8,HD2.out.1,e12])
     go_upto_region 12 with (fail)
     generalize ((w13.setCell ⟨w.heap.size+1,1,none⟩ (strV m1)).setCell ⟨ob,1,none⟩ (.bool true)).setCell ⟨w.heap.size+1,6,none⟩ (.slice a2 body.length c2)=w14 at *
     clear k0 k1 k2 k3 k4 k5 k6 kf o0 o1 of0 of1
     obtain ⟨k0,k1,k2,k3,k4,k5,k6,kf⟩:=t7_of HO.out.m.t
     have o0:=HO.out.o.cell 0 (by simp)
     have o1:=HO.out.o.cell 1 (by simp)
     have of0:=HO.out.o.frozen 0
     have of1:=HO.out.o.frozen 1
     simp only [List.getD_cons_zero,List.getD_cons_succ] at o0 o1
     have h:=Lib.hid (timely_c ⟨c1,m1,n0,n4,n8,b.toNat,body⟩ a2 body.length c2 w14)
     cases htm:timelyB ⟨c1,m1,n0,n4,n8,b.toNat,body⟩ with
     | false=>
       rw [htm] at h HRT
       simp only [Bool.false_and,Bool.false_eq_true,if_false] at HRT
       go_wp2_with fail
       refine h.out.mono ?_
       rintro e w15 ⟨rfl,hb15⟩
       have HO:=Lib.hid (HO.out.below hb15)
       clear h hb15
       clear k0 k1 k2 k3 k4 k5 k6 kf o0 o1 of0 of1
       obtain ⟨q0,q1,q2,q3,q4,q5,q6,qf⟩:=t7_of HO.out.m.r
       go_wp2
       have hz7:=set7_blk HO.out.m.r (.string ⟨#[]⟩) (.string ⟨#[]⟩) (.int .i64 0) (.int .i64 0) (.int .i64 0) (.int .i64 0) (.slice none 0 0)
       have hb7:=set7_below HO.out.m.be (Nat.le_refl _) (Nat.le_refl _) (.string ⟨#[]⟩) (.string ⟨#[]⟩) (.int .i64 0) (.int .i64 0) (.int .i64 0) (.int .i64 0) (.slice none 0 0)
       change bodyPost _ _ _ _ _ (set7 w15 w.heap.size (.string ⟨#[]⟩) (.string ⟨#[]⟩) (.int .i64 0) (.int .i64 0) (.int .i64 0) (.int .i64 0) (.slice none 0 0))
       generalize set7 w15 w.heap.size (.string ⟨#[]⟩) (.string ⟨#[]⟩) (.int .i64 0) (.int .i64 0) (.int .i64 0) (.int .i64 0) (.slice none 0 0)=w20 at *
       obtain ⟨z0,z1,z2,z3,z4,z5,z6, -⟩:=t7_of hz7
       refine bodyPost_ret (v:=.tuple #[taskV zeroT (.slice none 0 0),.bool false]) (by simp [results,Tryz.results53,go_sem,z0,z1,z2,z3,z4,z5,z6,zeroT]) rfl ?_
       rw [HRT.out]
       exact ⟨rfl,hb7⟩
     | true=>
       rw [htm] at h HRT
       go_wp2_with fail
       refine h.out.mono ?_
       rintro e w15 ⟨rfl,hb15⟩
       have HO2:=Lib.hid (HO.out.below hb15)
       have HV2:=Lib.hid (HV2.out.below (hb15.mono HO.out.m.be.size))
       have HO:=HO2
       clear h hb15 HO2
       clear k0 k1 k2 k3 k4 k5 k6 kf o0 o1 of0 of1
       obtain ⟨k0,k1,k2,k3,k4,k5,k6,kf⟩:=t7_of HO.out.m.t
       have o0:=HO.out.o.cell 0 (by simp)
       have o1:=HO.out.o.cell 1 (by simp)
       have of0:=HO.out.o.frozen 0
       have of1:=HO.out.o.frozen 1
       simp only [List.getD_cons_zero,List.getD_cons_succ] at o0 o1
       by_cases h4:body.length≤4000
       ·have t4:decide ((4000:Int) < (body.length:Int))=false:=decide_eq_false (by omega)
        simp only [Bool.true_and,decide_eq_true h4,if_true] at HRT
        clear h4
        obtain ⟨q0,q1,q2,q3,q4,q5,q6,qf⟩:=t7_of HO.out.m.r
        go_wp2
        have hz7:=set7_blk HO.out.m.r (strV c1) (strV m1) (.int .i64 (n0:Nat)) (.int .i64 (n4:Nat)) (.int .i64 (n8:Nat)) (.int .i64 b.toNat) (.slice a2 body.length c2)
        have hb7:=set7_below HO.out.m.be (Nat.le_refl _) (Nat.le_refl _) (strV c1) (strV m1) (.int .i64 (n0:Nat)) (.int .i64 (n4:Nat)) (.int .i64 (n8:Nat)) (.int .i64 b.toNat) (.slice a2 body.length c2)
        have hv7:=HV2.out.below (set7_below (Below.refl w.heap.size w15) (Nat.le_refl _) (HO.out.m.be.size) (strV c1) (strV m1) (.int .i64 (n0:Nat)) (.int .i64 (n4:Nat)) (.int .i64 (n8:Nat)) (.int .i64 b.toNat) (.slice a2 body.length c2))
        change bodyPost _ _ _ _ _ (set7 w15 w.heap.size (strV c1) (strV m1) (.int .i64 (n0:Nat)) (.int .i64 (n4:Nat)) (.int .i64 (n8:Nat)) (.int .i64 b.toNat) (.slice a2 body.length c2))
        generalize set7 w15 w.heap.size (strV c1) (strV m1) (.int .i64 (n0:Nat)) (.int .i64 (n4:Nat)) (.int .i64 (n8:Nat)) (.int .i64 b.toNat) (.slice a2 body.length c2)=w20 at *
        obtain ⟨z0,z1,z2,z3,z4,z5,z6, -⟩:=t7_of hz7
        refine bodyPost_ret (v:=.tuple #[taskV ⟨c1,m1,n0,n4,n8,b.toNat,body⟩ (.slice a2 body.length c2),.bool true]) (by simp [results,Tryz.results53,go_sem,z0,z1,z2,z3,z4,z5,z6]) rfl ?_
        rw [HRT.out]
        exact ⟨⟨a2,c2,rfl,hv7⟩,hb7⟩
       ·have t4:decide ((4000:Int) < (body.length:Int))=true:=decide_eq_true (by omega)
        simp only [Bool.true_and,decide_eq_false h4,Bool.false_eq_true,if_false] at HRT
        clear h4 HV2
        obtain ⟨q0,q1,q2,q3,q4,q5,q6,qf⟩:=t7_of HO.out.m.r
        go_wp2
        have hz7:=set7_blk HO.out.m.r (.string ⟨#[]⟩) (.string ⟨#[]⟩) (.int .i64 0) (.int .i64 0) (.int .i64 0) (.int .i64 0) (.slice none 0 0)
        have hb7:=set7_below HO.out.m.be (Nat.le_refl _) (Nat.le_refl _) (.string ⟨#[]⟩) (.string ⟨#[]⟩) (.int .i64 0) (.int .i64 0) (.int .i64 0) (.int .i64 0) (.slice none 0 0)
        change bodyPost _ _ _ _ _ (set7 w15 w.heap.size (.string ⟨#[]⟩) (.string ⟨#[]⟩) (.int .i64 0) (.int .i64 0) (.int .i64 0) (.int .i64 0) (.slice none 0 0))
        generalize set7 w15 w.heap.size (.string ⟨#[]⟩) (.string ⟨#[]⟩) (.int .i64 0) (.int .i64 0) (.int .i64 0) (.int .i64 0) (.slice none 0 0)=w20 at *
        obtain ⟨z0,z1,z2,z3,z4,z5,z6, -⟩:=t7_of hz7
        refine bodyPost_ret (v:=.tuple #[taskV zeroT (.slice none 0 0),.bool false]) (by simp [results,Tryz.results53,go_sem,z0,z1,z2,z3,z4,z5,z6,zeroT]) rfl ?_
        rw [HRT.out]
        exact ⟨rfl,hb7⟩
set_option maxRecDepth 100000 in
set_option maxHeartbeats 2000000 in
/-- Task -/
theorem taskQ_c {sb jb db mb:Nat} {p:Nat→Prop} {s:JS} (id:Int) (w:World) (h:SW w sb jb db mb p s) :
 Calls Tryz.prog 24 #[sv sb,.int .i64 id] w fun e w'=>TaskPostQ w.heap.size w'.heap.size (s.taskP id) e w'∧Below w.heap.size w w':=by
 have hun:undef=Value.tuple #[]:=rfl
 have hB0:Below w.heap.size w (w.alloc (.cells #[.string ⟨#[]⟩,.string ⟨#[]⟩,.int .i64 0,.int .i64 0,.int .i64 0,.int .i64 0,.slice none 0 0] 35)):=(Below.refl _ w).alloc (Nat.le_refl _) _
 have hX:Blk (w.alloc (.cells #[.string ⟨#[]⟩,.string ⟨#[]⟩,.int .i64 0,.int .i64 0,.int .i64 0,.int .i64 0,.slice none 0 0] 35)) w.heap.size 35 [.string ⟨#[]⟩,.string ⟨#[]⟩,.int .i64 0,.int .i64 0,.int .i64 0,.int .i64 0,.slice none 0 0]:=Blk.new w _ [.string ⟨#[]⟩,.string ⟨#[]⟩,.int .i64 0,.int .i64 0,.int .i64 0,.int .i64 0,.slice none 0 0]
 have h1:=h.below hB0
 have HR:=Lib.hid (sref_c _ h1)
 have HX:=Lib.hid hX
 have HB0:=Lib.hid hB0
 unfold refP at HR
 obtain ⟨r,hr0⟩:∃ r,s.taskP id=r:=⟨_,rfl⟩
 rw [hr0]
 cases hd:s.down with
 | true=>
   rw [hd] at HR
   have HE:Hid (r=none):=Lib.hid (by rw [← hr0]; unfold JS.taskP; rw [if_pos (Or.inl hd)])
   simp only [if_true] at HR
   clear h h1 hd hX hB0 hr0
   go_enter Tryz.func24,Tryz.ntmps24
   go_wp2_with fail
   refine HR.out.mono ?_
   rintro e w1 ⟨rfl,hb⟩
   have HX1:=Lib.hid (HX.out.below hb)
   have HB1:=Lib.hid (HB0.out.trans (hb.mono HB0.out.size))
   clear HR hb HX HB0
   obtain ⟨q0,q1,q2,q3,q4,q5,q6,qf⟩:=t7_of HX1.out
   go_wp2
   have hz7:=set7_blk HX1.out (.string ⟨#[]⟩) (.string ⟨#[]⟩) (.int .i64 0) (.int .i64 0) (.int .i64 0) (.int .i64 0) (.slice none 0 0)
   have hb7:=set7_below HB1.out (Nat.le_refl _) (Nat.le_refl _) (.string ⟨#[]⟩) (.string ⟨#[]⟩) (.int .i64 0) (.int .i64 0) (.int .i64 0) (.int .i64 0) (.slice none 0 0)
   change bodyPost _ _ _ _ _ (set7 w1 w.heap.size (.string ⟨#[]⟩) (.string ⟨#[]⟩) (.int .i64 0) (.int .i64 0) (.int .i64 0) (.int .i64 0) (.slice none 0 0))
   generalize set7 w1 w.heap.size (.string ⟨#[]⟩) (.string ⟨#[]⟩) (.int .i64 0) (.int .i64 0) (.int .i64 0) (.int .i64 0) (.slice none 0 0)=w20 at *
   obtain ⟨z0,z1,z2,z3,z4,z5,z6, -⟩:=t7_of hz7
   refine bodyPost_ret (v:=.tuple #[taskV zeroT (.slice none 0 0),.bool false]) (by simp [results,Tryz.results24,go_sem,z0,z1,z2,z3,z4,z5,z6,zeroT]) rfl ?_
   rw [HE.out]
   exact ⟨rfl,hb7⟩
 | false=>
   rw [hd] at HR
   simp only [Bool.false_eq_true,if_false] at HR
   by_cases hlo:id < 1
   ·have t1:decide (id < 1)=true:=decide_eq_true hlo
    have HE:Hid (r=none):=Lib.hid (by rw [← hr0]; unfold JS.taskP; rw [if_pos (Or.inr (Or.inl hlo))])
    clear h h1 hd hX hB0 hlo hr0
    go_enter Tryz.func24,Tryz.ntmps24
    go_wp2_with fail
    refine HR.out.mono ?_
    rintro e w1 ⟨rfl,hb⟩
    have HX1:=Lib.hid (HX.out.below hb)
    have HB1:=Lib.hid (HB0.out.trans (hb.mono HB0.out.size))
    clear HR hb HX HB0
    obtain ⟨q0,q1,q2,q3,q4,q5,q6,qf⟩:=t7_of HX1.out
    go_wp2
    have hz7:=set7_blk HX1.out (.string ⟨#[]⟩) (.string ⟨#[]⟩) (.int .i64 0) (.int .i64 0) (.int .i64 0) (.int .i64 0) (.slice none 0 0)
    have hb7:=set7_below HB1.out (Nat.le_refl _) (Nat.le_refl _) (.string ⟨#[]⟩) (.string ⟨#[]⟩) (.int .i64 0) (.int .i64 0) (.int .i64 0) (.int .i64 0) (.slice none 0 0)
    change bodyPost _ _ _ _ _ (set7 w1 w.heap.size (.string ⟨#[]⟩) (.string ⟨#[]⟩) (.int .i64 0) (.int .i64 0) (.int .i64 0) (.int .i64 0) (.slice none 0 0))
    generalize set7 w1 w.heap.size (.string ⟨#[]⟩) (.string ⟨#[]⟩) (.int .i64 0) (.int .i64 0) (.int .i64 0) (.int .i64 0) (.slice none 0 0)=w20 at *
    obtain ⟨z0,z1,z2,z3,z4,z5,z6, -⟩:=t7_of hz7
    refine bodyPost_ret (v:=.tuple #[taskV zeroT (.slice none 0 0),.bool false]) (by simp [results,Tryz.results24,go_sem,z0,z1,z2,z3,z4,z5,z6,zeroT]) rfl ?_
    rw [HE.out]
    exact ⟨rfl,hb7⟩
   by_cases hhi:9999 < id
   ·have t1:decide (id < 1)=false:=decide_eq_false hlo
    have t2:decide ((9999:Int) < id)=true:=decide_eq_true hhi
    have HE:Hid (r=none):=Lib.hid (by rw [← hr0]; unfold JS.taskP; rw [if_pos (Or.inr (Or.inr hhi))])
    clear h h1 hd hX hB0 hlo hhi hr0
    go_enter Tryz.func24,Tryz.ntmps24
    go_wp2_with fail
    refine HR.out.mono ?_
    rintro e w1 ⟨rfl,hb⟩
    have HX1:=Lib.hid (HX.out.below hb)
    have HB1:=Lib.hid (HB0.out.trans (hb.mono HB0.out.size))
    clear HR hb HX HB0
    obtain ⟨q0,q1,q2,q3,q4,q5,q6,qf⟩:=t7_of HX1.out
    go_wp2
    have hz7:=set7_blk HX1.out (.string ⟨#[]⟩) (.string ⟨#[]⟩) (.int .i64 0) (.int .i64 0) (.int .i64 0) (.int .i64 0) (.slice none 0 0)
    have hb7:=set7_below HB1.out (Nat.le_refl _) (Nat.le_refl _) (.string ⟨#[]⟩) (.string ⟨#[]⟩) (.int .i64 0) (.int .i64 0) (.int .i64 0) (.int .i64 0) (.slice none 0 0)
    change bodyPost _ _ _ _ _ (set7 w1 w.heap.size (.string ⟨#[]⟩) (.string ⟨#[]⟩) (.int .i64 0) (.int .i64 0) (.int .i64 0) (.int .i64 0) (.slice none 0 0))
    generalize set7 w1 w.heap.size (.string ⟨#[]⟩) (.string ⟨#[]⟩) (.int .i64 0) (.int .i64 0) (.int .i64 0) (.int .i64 0) (.slice none 0 0)=w20 at *
    obtain ⟨z0,z1,z2,z3,z4,z5,z6, -⟩:=t7_of hz7
    refine bodyPost_ret (v:=.tuple #[taskV zeroT (.slice none 0 0),.bool false]) (by simp [results,Tryz.results24,go_sem,z0,z1,z2,z3,z4,z5,z6,zeroT]) rfl ?_
    rw [HE.out]
    exact ⟨rfl,hb7⟩
   obtain ⟨n,rfl⟩:∃ n:Nat,id=n:=⟨id.toNat,by omega⟩
   have t1:decide ((n:Int) < 1)=false:=decide_eq_false hlo
   have t2:decide ((9999:Int) < (n:Int))=false:=decide_eq_false hhi
   have HRQ:Hid (r=(pFind s.c.ents (tkey n)).bind readTaskP):=Lib.hid (by
    rw [← hr0]; unfold JS.taskP
    rw [if_neg (by rw [hd]; simp; omega),Int.toNat_natCast]
    cases pFind s.c.ents (tkey n) <;> rfl)
   clear hr0
   have HK:=Lib.hid (fun w=>taskKey_c n w (by omega))
   have HG:=Lib.hid (fun W (hW:Below (w.alloc (.cells #[.string ⟨#[]⟩,.string ⟨#[]⟩,.int .i64 0,.int .i64 0,.int .i64 0,.int .i64 0,.slice none 0 0] 35)).heap.size (w.alloc (.cells #[.string ⟨#[]⟩,.string ⟨#[]⟩,.int .i64 0,.int .i64 0,.int .i64 0,.int .i64 0,.slice none 0 0] 35)) W)=>And.intro (h1.below hW).cell (sgetP_c (tkey n) W (h1.below hW).jw hd (by simp [tkey,digP_len])))
   clear h h1 hd hX hB0 hlo hhi
   go_enter Tryz.func24,Tryz.ntmps24
   go_wp2_with fail
   refine HR.out.mono ?_
   rintro e w1 ⟨rfl,hb⟩
   have k0:=(HG.out _ hb).1
   have B1:=hb.drew
   have HB1:=Lib.hid hb
   clear hb HR
   generalize tkey n=tk at *
   go_upto_region 3 with (fail)
   go_region_held3 (fun w'=>w'.cell? ⟨sb,0,none⟩=some (.pointer (some ⟨jb,0,none⟩))) (first | exact k0 | exact (HG.out _ B2).1 | exact (HG.out _ B3).1)
    (first
     | (go_at_call 40; refine (HG.out _ B2).2.mono ?_; rintro e w3 ⟨⟨a,c,rfl,hv⟩,b3⟩; have hlo:=B2.size; have B3:=B2.trans (b3.mono B2.size); clear b3 B2)
     | (go_at_call 52; have _t:=B1; refine (HK.out _).mono ?_; rintro e w2 ⟨rfl,b2⟩; have B2:=B1.trans (b2.mono B1.size); clear b2 B1))
   have HX3:=Lib.hid (HX.out.below B3)
   have HB3:=Lib.hid (HB0.out.trans (B3.mono HB0.out.size))
   have HV:Hid (RdQ w.heap.size w3 w3.heap.size _ _):=Lib.hid (RdP.mono hv (fun q _ hq=>⟨Nat.le_trans HB0.out.size (Nat.le_trans hlo hq.1),hq.2⟩))
   clear HX HB0 B3 HG HK hv k0 hlo
   obtain ⟨q0,q1,q2,q3,q4,q5,q6,qf⟩:=t7_of HX3.out
   cases hf:pFind s.c.ents tk with
   | none=>
     have e0:=HRQ.out
     rw [hf,Option.bind_none] at e0
     have HE:=Lib.hid e0
     simp only [Option.isSome_none,Option.getD_none]
     clear hf HV e0 HRQ
     go_wp2
     have hz7:=set7_blk HX3.out (.string ⟨#[]⟩) (.string ⟨#[]⟩) (.int .i64 0) (.int .i64 0) (.int .i64 0) (.int .i64 0) (.slice none 0 0)
     have hb7:=set7_below HB3.out (Nat.le_refl _) (Nat.le_refl _) (.string ⟨#[]⟩) (.string ⟨#[]⟩) (.int .i64 0) (.int .i64 0) (.int .i64 0) (.int .i64 0) (.slice none 0 0)
     change bodyPost _ _ _ _ _ (set7 w3 w.heap.size (.string ⟨#[]⟩) (.string ⟨#[]⟩) (.int .i64 0) (.int .i64 0) (.int .i64 0) (.int .i64 0) (.slice none 0 0))
     generalize set7 w3 w.heap.size (.string ⟨#[]⟩) (.string ⟨#[]⟩) (.int .i64 0) (.int .i64 0) (.int .i64 0) (.int .i64 0) (.slice none 0 0)=w20 at *
     obtain ⟨z0,z1,z2,z3,z4,z5,z6, -⟩:=t7_of hz7
     refine bodyPost_ret (v:=.tuple #[taskV zeroT (.slice none 0 0),.bool false]) (by simp [results,Tryz.results24,go_sem,z0,z1,z2,z3,z4,z5,z6,zeroT]) rfl ?_
     rw [HE.out]
     exact ⟨rfl,hb7⟩
   | some v=>
     rw [hf] at HV
     have e0:=HRQ.out
     rw [hf,Option.bind_some] at e0
     have HE:=Lib.hid e0
     simp only [Option.isSome_some,Option.getD_some] at HV ⊢
     clear e0 HRQ
     have HT:=Lib.hid (readTaskQ_c _ _ v w3 HV.out)
     clear hf HV
     go_wp2_with fail
     refine HT.out.mono ?_
     rintro e w4 ⟨hp,b4⟩
     have HX4:=Lib.hid (HX3.out.below b4)
     have HB4:=Lib.hid (HB3.out.trans (b4.mono HB3.out.size))
     have HS4:=Lib.hid b4.size
     clear HT b4 HX3 HB3 q0 q1 q2 q3 q4 q5 q6 qf
     obtain ⟨q0,q1,q2,q3,q4,q5,q6,qf⟩:=t7_of HX4.out
     cases hr:readTaskP v with
     | none=>
       rw [hr] at hp
       have hp:e=.returned (.tuple #[taskV zeroT (.slice none 0 0),.bool false]):=hp
       subst hp
       unfold zeroT
       go_wp2
       change bodyPost _ _ _ _ _ (set7 w4 w.heap.size (.string ⟨#[]⟩) (.string ⟨#[]⟩) (.int .i64 0) (.int .i64 0) (.int .i64 0) (.int .i64 0) (.slice none 0 0))
       have hz7:=set7_blk HX4.out (.string ⟨#[]⟩) (.string ⟨#[]⟩) (.int .i64 0) (.int .i64 0) (.int .i64 0) (.int .i64 0) (.slice none 0 0)
       have hb7:=set7_below HB4.out (Nat.le_refl _) (Nat.le_refl _) (.string ⟨#[]⟩) (.string ⟨#[]⟩) (.int .i64 0) (.int .i64 0) (.int .i64 0) (.int .i64 0) (.slice none 0 0)
       change bodyPost _ _ _ _ _ (set7 w4 w.heap.size (.string ⟨#[]⟩) (.string ⟨#[]⟩) (.int .i64 0) (.int .i64 0) (.int .i64 0) (.int .i64 0) (.slice none 0 0))
       generalize set7 w4 w.heap.size (.string ⟨#[]⟩) (.string ⟨#[]⟩) (.int .i64 0) (.int .i64 0) (.int .i64 0) (.int .i64 0) (.slice none 0 0)=w20 at *
       obtain ⟨z0,z1,z2,z3,z4,z5,z6, -⟩:=t7_of hz7
       refine bodyPost_ret (v:=.tuple #[taskV zeroT (.slice none 0 0),.bool false]) (by simp [results,Tryz.results24,go_sem,z0,z1,z2,z3,z4,z5,z6,zeroT]) rfl ?_
       rw [HE.out,hr]
       exact ⟨rfl,hb7⟩
     | some t=>
       rw [hr] at hp
       obtain ⟨a2,c2,rfl,hv2⟩:=hp
       have HV2:=Lib.hid (hv2.mono HS4.out)
       obtain ⟨cls,name,frm,due,late,tries,body⟩:=t
       simp only at HV2 ⊢
       have HE2:=Lib.hid (HE.out.trans hr)
       clear hv2 hr HE
       go_wp2
       have hz7:=set7_blk HX4.out (strV cls) (strV name) (.int .i64 frm) (.int .i64 due) (.int .i64 late) (.int .i64 tries) (.slice a2 body.length c2)
       have hb7:=set7_below HB4.out (Nat.le_refl _) (Nat.le_refl _) (strV cls) (strV name) (.int .i64 frm) (.int .i64 due) (.int .i64 late) (.int .i64 tries) (.slice a2 body.length c2)
       have hv7:=(HV2.out.skip HX4.out (fun x hx m=>by simp at hx; rcases hx with rfl | rfl | rfl | rfl | rfl | rfl | rfl <;> simp) (set7_grown w4 w.heap.size (strV cls) (strV name) (.int .i64 frm) (.int .i64 due) (.int .i64 late) (.int .i64 tries) (.slice a2 body.length c2))).mono (set7_grown w4 w.heap.size (strV cls) (strV name) (.int .i64 frm) (.int .i64 due) (.int .i64 late) (.int .i64 tries) (.slice a2 body.length c2)).size
       change bodyPost _ _ _ _ _ (set7 w4 w.heap.size (strV cls) (strV name) (.int .i64 frm) (.int .i64 due) (.int .i64 late) (.int .i64 tries) (.slice a2 body.length c2))
       generalize set7 w4 w.heap.size (strV cls) (strV name) (.int .i64 frm) (.int .i64 due) (.int .i64 late) (.int .i64 tries) (.slice a2 body.length c2)=w20 at *
       obtain ⟨z0,z1,z2,z3,z4,z5,z6, -⟩:=t7_of hz7
       refine bodyPost_ret (v:=.tuple #[taskV ⟨cls,name,frm,due,late,tries,body⟩ (.slice a2 body.length c2),.bool true]) (by simp [results,Tryz.results24,go_sem,z0,z1,z2,z3,z4,z5,z6]) rfl ?_
       rw [HE2.out]
       exact ⟨⟨a2,c2,rfl,hv7⟩,hb7⟩
end Go.Proofs.YtbcfpdlhieaepaaGreatDoor
