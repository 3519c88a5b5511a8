/- The walk of all: the iterator over a journal's entries, in increasing order of their keys. -/
import Derived.Shelf.Abstract
import Derived.Shelf.RegionOpen
import Derived.WalkKit
import Derived.OwnWalkIn
import Derived.TacticsInMore
import Derived.LoopNIn
import Derived.LoopIn
import Derived.Test.YtbcfpdlhieaepaaGreatDoorR34
import Derived.Test.YtbcfpdlhieaepaaGreatDoorR30
import Derived.Test.YtbcfpdlhieaepaaGreatDoorR26
import Derived.Test.YtbcfpdlhieaepaaGreatDoorR03
import Derived.Test.YtbcfpdlhieaepaaGreatDoorR21
import Derived.RangeFuncCalls
import Derived.OrdersIn
import Derived.Test.YtbcfpdlhieaepaaGreatDoorR04
namespace Go.Proofs.YtbcfpdlhieaepaaGreatDoor
section
open Go.RowKit SeedP Go.Maps Go.Shelf
attribute [local go_sem] Oper.semAt_some
/-- an entry, as it is handed out -/
structure EntX where
 k:List UInt8
 v:List UInt8
 a:Option Addr
 cap:Nat
def EntX.kv (x:EntX):List UInt8 × List UInt8:=(x.k,x.v)
def EntX.enc (x:EntX):Array Value:=#[strV x.k,.slice x.a x.v.length x.cap]
def EntX.Rd (x:EntX) (N:Nat) (w:World):Prop:=RdP w (fun g=>N≤g) (.slice x.a x.v.length x.cap) x.v∧x.k.length≤1000000∧x.v.length≤1000000∧1≤x.k.length
theorem find_i {P:PEnts} (hn:(keysOf P).Nodup) {j:Nat} (hj:j < P.length):pFind P (P[j]).1=some (P[j]).2:=mem_find hn (List.getElem_mem hj)
theorem keys_all (P:PEnts):(keysOf P).filter (isPref [])=P.map (·.1):=by
 unfold keysOf
 rw [List.filter_eq_self]
 intro k _
 rfl
theorem ownS_at {w:World} {B:Nat} {v:Value} {L:List (List UInt8)} (h:ownS w B v L):L=[]∨∃ g cap,v=.slice (some ⟨g,0,none⟩) L.length cap∧B≤g∧g < w.heap.size∧∀ j (hj:j < L.length),w.cell? ⟨g,j,none⟩=some (strV L[j]):=by
 rcases h.2 with ⟨-,h0⟩ | ⟨g,cap,cur,rfl,hB,hg,hn,hc,hs,ht⟩
 ·exact Or.inl (List.length_eq_zero_iff.1 h0)
 ·refine Or.inr ⟨g,cap,rfl,hB,(Array.getElem?_eq_some_iff.1 hg).1,fun j hj=>?_⟩
  have e:w.cell? ⟨g,j,none⟩=cur[j]?:=by simp [World.cell?,hg]
  rw [e]
  have h3:(cur.toList.take (L.length * 1))[j]?=(L.map strV)[j]?:=by rw [ht]
  rw [List.getElem?_take,if_pos (by omega)] at h3
  rw [← Array.getElem?_toList,h3,List.getElem?_map,List.getElem?_eq_getElem hj]
  rfl
set_option maxRecDepth 100000 in
/-- all -/
theorem all_c (jb:Nat) (w:World) :
 Calls Tryz.prog 83 #[.pointer (some ⟨jb,0,none⟩)] w fun e w'=>e=.returned (.func (.func 125) #[] #[.pointer (some ⟨w.heap.size,0,none⟩)])∧w'=w.alloc (.cells #[.pointer (some ⟨jb,0,none⟩)] 52):=by
 go_enter Tryz.func83,Tryz.ntmps83
 go_wp2
 go_ret
 exact ⟨rfl,rfl⟩
/-- what holds ahead of the i-th entry -/
structure AllM (jb db mb:Nat) (pj p1:Nat→Prop) (s:JS) (bx:Nat) (v:Value) (K:List (List UInt8)) (W:World):Prop where
 jw:JW W jb db mb pj s
 box:W.cell? ⟨bx,0,none⟩=some (.pointer (some ⟨jb,0,none⟩))
 bp:p1 bx
 row:K=[]∨∃ g cap,v=.slice (some ⟨g,0,none⟩) K.length cap∧p1 g∧∀ j (hj:j < K.length),W.cell? ⟨g,j,none⟩=some (strV K[j])
theorem AllM.grown {jb db mb:Nat} {pj p1:Nat→Prop} {s:JS} {bx:Nat} {v:Value} {K:List (List UInt8)} {W W':World} (h:AllM jb db mb pj p1 s bx v K W) (hp:p1 0∧p1 jb∧p1 db∧p1 mb∧∀ g,pj g→p1 g) (hg:Grown (fun g=>¬ p1 g) W W'):AllM jb db mb pj p1 s bx v K W':=by
 obtain ⟨h0,h1,h2,h3,h4⟩:=hp
 have hc:∀ g o x,p1 g→W.cell? ⟨g,o,none⟩=some x→W'.cell? ⟨g,o,none⟩=some x:=fun g o x hpg hc=>by
  have hlt:=World.block_lt_of_cell? W _ hc
  have hb:=hg.block g hlt (fun hn=>hn hpg)
  rw [← hc]
  unfold World.cell?
  rw [hb]
 refine ⟨h.jw.grown hg (fun hn=>hn h0) (fun hn=>hn h1) (fun hn=>hn h2) (fun hn=>hn h3) (fun g hp hn=>hn (h4 g hp)),hc _ _ _ h.bp h.box,h.bp,?_⟩
 rcases h.row with h5 | ⟨g,cap,h5,h6,h7⟩
 ·exact Or.inl h5
 ·exact Or.inr ⟨g,cap,h5,h6,fun j hj=>hc _ _ _ h6 (h7 j hj)⟩
theorem AllM.below {jb db mb:Nat} {pj p1:Nat→Prop} {s:JS} {bx:Nat} {v:Value} {K:List (List UInt8)} {W W':World} (h:AllM jb db mb pj p1 s bx v K W) (hp:p1 0∧p1 jb∧p1 db∧p1 mb∧∀ g,pj g→p1 g) (hb:Below W.heap.size W W'):AllM jb db mb pj p1 s bx v K W':=
 h.grown hp (Grown.of_below hb)
set_option maxRecDepth 100000 in
set_option maxHeartbeats 2000000 in
/-- the iterator -/
theorem all_iter {jb db mb:Nat} {pj p0:Nat→Prop} {s:JS} (w:World) (h:JW w jb db mb pj s) (hd:s.down=false) (bx:Nat) (hbx:w.cell? ⟨bx,0,none⟩=some (.pointer (some ⟨jb,0,none⟩))) (hp:p0 0∧p0 jb∧p0 db∧p0 mb∧∀ g,pj g→p0 g) (hpb:p0 bx) (n:Nat) (hn:1≤n) :
 Iter Fence.wide n Tryz.prog 125 #[.pointer (some ⟨bx,0,none⟩)] EntX.enc EntX.Rd (fun xs=>xs.map EntX.kv=s.c.ents) (fun pre=>pre.map EntX.kv <+: s.c.ents) s.c.ents.length w p0:=by
 intro l J Jx W hW hJ hJx hY h0
 have hJW:=h.below hW
 have hbx':W.cell? ⟨bx,0,none⟩=some (.pointer (some ⟨jb,0,none⟩)):=(hW.cell (p:=⟨bx,0,none⟩) (World.block_lt_of_cell? w _ hbx)).trans hbx
 have HK:=Lib.hid (keysFn_c [] W hJW (by simp))
 rw [hd] at HK
 simp only [Bool.false_eq_true,if_false,keys_all] at HK
 have hll:s.c.ents.length≤131072:=by
  have h1:=pWt_len s.c.ents
  have h2:=h.ok.wt
  have h3:=h.ok.max
  omega
 have HW:=Lib.hid hW
 have H0:=Lib.hid h0
 have HJW:=Lib.hid hJW
 refine callsIn_of_wp Tryz.func125 rfl trivial ?_ rfl
 simp only [Tryz.ntmps125,List.size_toArray,List.length_cons,List.length_nil,Nat.reduceAdd,Nat.reduceSub,Array.replicate_succ,Array.replicate_zero,List.push_toArray,List.append_toArray,List.nil_append,List.cons_append]
 obtain ⟨K,hK⟩:∃ K,s.c.ents.map (·.1)=K:=⟨_,rfl⟩
 rw [hK] at HK
 have hKl:K.length=s.c.ents.length:=by rw [← hK,List.length_map]
 have HKat:Hid (∀ j (h:j < K.length),∃ x:List UInt8 × List UInt8,x.1=K[j]∧s.c.ents.take (j+1)=s.c.ents.take j ++ [x]∧pFind s.c.ents K[j]=some x.2∧1≤x.1.length∧x.1.length≤40∧x.2.length≤4096):=Lib.hid (fun j hj=>by
  have hj2:j < s.c.ents.length:=by omega
  have e:K[j]=(s.c.ents[j]).1:=by subst hK; simp
  have hm:=h.small.key _ (List.getElem_mem hj2)
  exact ⟨s.c.ents[j],e.symm,List.take_succ_eq_append_getElem hj2,by rw [e]; exact find_i h.ok.apart hj2,hm.1,hm.2,h.small.val _ (List.getElem_mem hj2)⟩)
 have HKL:=Lib.hid hKl
 have hkl1:K.length≤131072:=by rw [hKl]; exact hll
 clear hKl hll
 gi_wp2_with (refine ⟨trivial,?_⟩; gi_at_call 48; refine (callsIn_wide.2 HK.out).mono ?_; rintro e w1 ⟨v,rfl,hv,hb1⟩; obtain ⟨av,cv,rfl⟩:=own_slice hv; clear HK)
 have J1:=hJ p0 (fun g=>p0 g∨(W.heap.size≤g∧g < w1.heap.size)) [] W w1 H0.out hb1 (fun g h=>h)
 have HM:AllM jb db mb pj (fun g=>p0 g∨(W.heap.size≤g∧g < w1.heap.size)) s bx (.slice av K.length cv) K w1:=⟨HJW.out.below hb1,(hb1.cell (p:=⟨bx,0,none⟩) (World.block_lt_of_cell? W _ hbx')).trans hbx',Or.inl hpb,(ownS_at hv).imp_right (fun ⟨g,cap,e,h1,h2,h3⟩=>⟨g,cap,e,Or.inr ⟨h1,h2⟩,h3⟩)⟩
 have hp1:(fun g=>p0 g∨(W.heap.size≤g∧g < w1.heap.size)) 0∧(fun g=>p0 g∨(W.heap.size≤g∧g < w1.heap.size)) jb∧(fun g=>p0 g∨(W.heap.size≤g∧g < w1.heap.size)) db∧(fun g=>p0 g∨(W.heap.size≤g∧g < w1.heap.size)) mb∧∀ g,pj g→(fun g=>p0 g∨(W.heap.size≤g∧g < w1.heap.size)) g:=⟨Or.inl hp.1,Or.inl hp.2.1,Or.inl hp.2.2.1,Or.inl hp.2.2.2.1,fun g hg=>Or.inl (hp.2.2.2.2 g hg)⟩
 have HP0:Hid (∀ g,p0 g→(fun g=>p0 g∨(W.heap.size≤g∧g < w1.heap.size)) g):=Lib.hid (fun g hg=>Or.inl hg)
 generalize (fun g=>p0 g∨(W.heap.size≤g∧g < w1.heap.size))=p1 at *
 have HP1:=Lib.hid hp1
 have HJJ:=Lib.hid hJ
 have HJJX:=Lib.hid hJx
 have HYY:=Lib.hid hY
 have HMM:=Lib.hid HM
 have HJ1:=Lib.hid J1
 clear hJ hJx hY h0 hJW hbx' HW H0 HJW hv hb1 J1 HM hp1 hp hpb hbx hW h
 gi_loopw [10] (fun iv wr=>∃ (j:Nat) (pre:List EntX),j≤K.length∧iv=.int .i64 j∧pre.map EntX.kv=s.c.ents.take j∧J p1 pre wr∧AllM jb db mb pj p1 s bx (.slice av K.length cv) K wr) (fun i _=>K.length - (intOf i).toNat)
 case atStart=>exact ⟨0,[],Nat.zero_le _,rfl,rfl,HJ1.out,HMM.out⟩
 case round=>
  obtain ⟨j,pre,hj,rfl,hpre,hJr,hM⟩:=hrel
  have HM:=Lib.hid hM
  have HJr:=Lib.hid hJr
  have HPRE:=Lib.hid hpre
  clear hM hJr hpre
  have HPLj:Hid (pre.length=min j s.c.ents.length):=Lib.hid (by have:=congrArg List.length HPRE.out; simpa using this)
  by_cases hlt:j < K.length
  ·have b1:decide ((j:Int) < (K.length:Int))=true:=decide_eq_true (by omega)
   have b2:(j:Int) < (K.length:Int):=by omega
   obtain ⟨g,cap,e,hpg,hcell⟩:∃ g cap,Value.slice av K.length cv=.slice (some ⟨g,0,none⟩) K.length cap∧p1 g∧∀ j (hj:j < K.length),wr.cell? ⟨g,j,none⟩=some (strV K[j]):=by
    rcases HM.out.row with h | h
    ·rw [h] at hlt; simp at hlt
    ·exact h
   simp only [Value.slice.injEq,true_and] at e
   obtain ⟨rfl,rfl⟩:=e
   have hc:=hcell j hlt
   have k0:=HM.out.box
   have HPL:Hid (pre.length < s.c.ents.length):=Lib.hid (by have h1:=HPLj.out; have h2:=HKL.out; omega)
   obtain ⟨⟨xk,xv⟩,hx1,hx2,hx3,hx4,hx5,hx6⟩:=HKat.out j hlt
   simp only at hx1 hx2 hx3 hx4 hx5 hx6
   have HG:=Lib.hid (sgetP_c K[j] wr HM.out.jw hd (by rw [← hx1]; omega))
   rw [hx3] at HG
   simp only [Option.getD_some,Option.isSome_some] at HG
   rw [← hx1] at HG hc
   have HX:=Lib.hid (And.intro hx2 (And.intro hx4 (And.intro hx5 hx6)))
   clear hcell hx1 hx2 hx3 hx4 hx5 hx6 hpg
   gi_wp2_with (refine ⟨trivial,?_⟩; gi_at_call 40; refine (callsIn_wide.2 HG.out).mono ?_; rintro e w2 ⟨⟨a2,c2,rfl,hr2⟩,hb2⟩; clear HG; obtain ⟨fn,tmps,assign,body,hy,hR⟩:=HYY.out p1 pre ⟨xk,xv,a2,c2⟩ wr w2 HJr.out HPL.out hb2 ⟨hr2.mono (fun q _ hq=>hq.1),Nat.le_trans HX.out.2.2.1 (by omega),Nat.le_trans HX.out.2.2.2 (by omega),HX.out.2.1⟩; dsimp only [EntX.enc] at hy; have HR:=Lib.hid hR; have HB2:=Lib.hid hb2; clear hr2 hb2 hR)
   refine HR.out.mono ?_
   rintro e w3 (⟨rfl,hJ3,hg3⟩ | ⟨rfl,hJx3⟩)
   ·have HJ3:=Lib.hid hJ3
    have HM3:=Lib.hid ((HM.out.below HP1.out HB2.out).grown HP1.out hg3)
    clear hJ3 hg3 HB2 HR hy
    gi_wp2
    go_roundw
    case rel=>exact ⟨j+1,_,by omega,by go_num,by rw [List.map_append,HPRE.out,HX.out.1]; rfl,HJ3.out,HM3.out⟩
    case measure=>simp [intOf]; omega
   ·have HJ3:=Lib.hid hJx3
    clear hJx3 HB2 HR hy
    gi_wp2
    refine bodyPost_ret (results_none rfl _ _ _) rfl ?_
    exact ⟨⟨_,rfl⟩,.inr ⟨_,⟨s.c.ents.drop (j+1),by rw [List.map_append,HPRE.out]; exact (congrArg (· ++ _) HX.out.1.symm).trans (List.take_append_drop _ _)⟩,HJJX.out p1 p0 _ w3 w3 HJ3.out (Below.refl _ _) (fun g hg=>Or.inl (HP0.out g hg))⟩⟩
  ·obtain rfl:j=K.length:=by omega
   have b1:decide ((K.length:Int) < (K.length:Int))=false:=by simp
   gi_wp2
   go_end0
   exact ⟨⟨_,rfl⟩,.inl ⟨pre,by rw [HPRE.out,HKL.out,List.take_length],HJJ.out p1 p0 _ wr wr HJr.out (Below.refl _ _) (fun g hg=>Or.inl (HP0.out g hg))⟩⟩
end
section
open Go.RowKit SeedP Go.Maps
end
section
section
variable {P:Program} {ops:Array Oper}
theorem asks_no {P:Program} {o:Oper} {a:Act} {w:World} {K:Act→World→Prop} {Q:Exit→Act→World→Prop} (hL:¬ LetsOut Q) (h:o.wp P a w K Q∨(o.asks P a w∧LetsOut Q)):o.wp P a w K Q:=h.elim id (fun h=>absurd h.2 hL)
/-- an operation that is no deferred call and calls no row, in a round -/
theorem opR {o:Oper} (l n:Nat) {a:Act} {w:World} {K K':Act→World→Prop} {Q:Exit→Act→World→Prop} (hd:∀ c,o.op ≠ .defer c) (hK:∀ a w,K a w→K' a w) (h:o.wp P a w K Q):o.wpIn (Fence.wide.inRound l) n P a w K' Q:=by
 refine ⟨fun f _=>trivial,?_⟩
 rw [Oper.semAt_plain (Fence.wide.inRound l) _ _ hd]
 unfold Oper.wp at h
 generalize (execOp a.eval o).run P w=r at *
 cases r with
 | ok nx w'=>
   cases nx with
   | value v=>exact hK _ _ h
   | skip=>exact hK _ _ h
   | defer d=>exact hK _ _ h
   | enter f args=>
     refine ⟨fun e=>(by cases e),CallsIn.inRound l ((callsIn_wide (n:=n - 1)).2 (Calls.mono (show Calls P f args w' _ from h) ?_))⟩
     rintro e w2 he
     cases e with
     | returned v=>exact hK _ _ he
     | panicked c=>exact he
     | outgrown=>exact he
   | row r args=>exact ⟨fun e=>(by cases e),fun c cs _=>let ⟨v,w2,r,s⟩:=(show Rows P _ _ w' _ from h) c cs; ⟨v,w2,hK _ _ r,stepsIn_wide.2 s⟩⟩
   | round _ _ _ _ _=>exact False.elim h
   | _=>exact h
 | halt o w'=>
   cases o with
   | panic v=>exact h
   | _=>exact h
theorem anyR {md:Region.Mode} {Q:Exit→Act→World→Prop} (l n:Nat) (hd:∀ (i:Nat) (o:Oper),ops[i]?=some o→∀ c,o.op ≠ .defer c) (hL:¬ LetsOut Q):∀ (fuel:Nat) (listed:Array Bool) (a:Act) (w:World),wpAny P md ops Q fuel listed a w→wpAnyIn (Fence.wide.inRound l) n P md ops Q fuel listed a w
 | 0,listed,a,w,h=>h
 | fuel+1,listed,a,w,h=>⟨h.1,fun i hi=>by
   have h2:=h.2 i hi
   unfold wpOp at h2
   unfold wpOpIn
   cases ho:ops[i]? with
   | none=>rw [ho] at h2; exact anyR l n hd hL fuel _ _ _ h2
   | some o=>
     rw [ho] at h2
     simp only at h2 ⊢
     split
     ·next hw=>
      rw [if_pos hw] at h2
      exact opR l n (hd i o ho) (fun a w h=>anyR l n hd hL fuel _ a w h) (asks_no hL h2)
     ·next hw=>
      rw [if_neg hw] at h2
      exact ⟨fun f _=>trivial,anyR l n hd hL fuel _ _ _ h2⟩⟩
def nodefB (ops:Array Oper):Bool:=ops.all fun o=>match o.op with
 | .defer _=>false
 | _=>true
theorem nodefB_spec (h:nodefB ops=true):∀ (i:Nat) (o:Oper),ops[i]?=some o→∀ c,o.op ≠ .defer c:=fun i o ho c hc=>by
 unfold nodefB at h
 have hi:=(Array.getElem?_eq_some_iff.1 ho).1
 have:=Array.all_eq_true.1 h i hi
 rw [(Array.getElem?_eq_some_iff.1 ho).2,hc] at this
 cases this
/-- a region that draws its order, in a round -/
theorem regionR {id:Nat} {Q:Exit→Act→World→Prop} {a:Act} {w:World} (hm:P.follows .mixedOrders=true) (l n:Nat) (hd:nodefB ops=true) (hL:¬ LetsOut Q)
 (h:wpAny P .any ops Q ops.size (Array.replicate ops.size false) a { w with drawn:=w.drawn+1 }):(Code.region id ops true).wpIn (Fence.wide.inRound l) n P Q a w:=
 wpIn_region_any hm (anyR l n (nodefB_spec hd) hL _ _ _ _ h)
theorem any_mix {Q:Exit→Act→World→Prop} {L:List Value} {ds:List Deferred} {w:World} {l:List Oper}
 (hB:tabB .any l.toArray=true) (hD:dstB l=true) (C:List (Option Value)) (eff:List Nat) (hC:mixB C eff l.length=true) (heff:(eff.all fun i=>decide (i < l.length))=true) (G:List Bool→List Value→World→Prop)
 (hG:G (eff.map fun _=>false) (eff.map fun _=>undef) w.drew) (hstep:EachI (MixOk P l L ds C eff G) 0 l)
 (hQ:∀ ws L',setAll l 0 (mix C ws) L=L'→∀ w,G (eff.map fun _=>true) (eff.map ws) w→Q .normal ⟨L'.toArray,ds⟩ w):wpAny P .any l.toArray Q l.toArray.size (Array.replicate l.toArray.size false) ⟨L.toArray,ds⟩ { w with drawn:=w.drawn+1 }:=by
 have heff':∀ i ∈ eff,i < l.length:=fun i hi=>by simpa using List.all_eq_true.1 heff i hi
 refine wpAny_tab hB (fun listed b' w'=>∃ ws,b'=fillAct l 0 (mix C ws) ⟨L.toArray,ds⟩∧G (eff.map fun i=>listed.getD i false) (eff.map ws) w'∧(∀ i oi,l[i]?=some oi→listed.getD i false=true→∀ e ∈ oi.after,Region.binds .any e=true→listed.getD e.on false=true)) ?_ ?_ _ _ _ (fillAct l 0 (mix C fun _=>undef) ⟨L.toArray,ds⟩) _ (by simp) (by simp) (by simpa using fill_agr l _ ⟨L.toArray,ds⟩) ⟨_,rfl,?_,fun i oi hi h=>?_⟩
 rotate_left
 rotate_left
 ·have e:(eff.map fun i=>(Array.replicate l.toArray.size false).getD i false)=eff.map fun _=>false:=List.map_congr_left fun i _=>getD_replicate_false _ _
  rw [e]; exact hG
 ·rw [getD_replicate_false] at h; cases h
 ·rintro listed i b2 w' hs hi ⟨ws,rfl,hG',hR⟩
  obtain ⟨hun,o,ho,haf⟩:=mem_ready.1 hi
  have ho':l[i]?=some o:=by simpa using ho
  have hil:i < listed.size:=by rw [hs]; exact (Array.getElem?_eq_some_iff.1 ho).1
  have hill:i < l.length:=(List.getElem?_eq_some_iff.1 ho').1
  have hst0:=hstep.at ho'
  rw [Nat.zero_add] at hst0
  have hst:=hst0.out (fun k=>listed.getD k false) ws w' hG' (fun j hj=>by
   obtain ⟨oj,hoj,e,he,hb,rfl⟩:=Region.waitsFor_spec hj
   obtain rfl:oj=o:=Option.some.inj (hoj.symm.trans ho)
   exact haf e he hb) (fun j k hjk hj=>by
   obtain ⟨oj,hoj,e,he,hb,rfl⟩:=Region.waitsFor_spec hjk
   exact hR j oj (by simpa using hoj) hj e he hb) (getD_both hun)
  have closed:∀ k ok,l[k]?=some ok→(listed.setIfInBounds i true).getD k false=true→∀ e ∈ ok.after,Region.binds .any e=true→(listed.setIfInBounds i true).getD e.on false=true:=by
   intro k ok hk hl e he hb
   by_cases hik:i=k
   ·subst hik
    obtain rfl:ok=o:=Option.some.inj (hk.symm.trans ho')
    exact getD_set_true (haf e he hb)
   ·rw [getD_set_ne false hik] at hl
    exact getD_set_true (hR k ok hk hl e he hb)
  have hput:∀ v,(fillAct l 0 (mix C ws) ⟨L.toArray,ds⟩).put o.dst v=fillAct l 0 (updV (mix C ws) i v) ⟨L.toArray,ds⟩:=fun v=>by rw [fill_put l 0 (mix C ws) _ i o v hD ho',Nat.zero_add]
  have hmap:(eff.map fun k=>(listed.setIfInBounds i true).getD k false)=eff.map fun k=>if k=i then true else listed.getD k false:=List.map_congr_left fun k hk=>by
   by_cases e:k=i
   ·subst e; rw [if_pos rfl]; simp [hil]
   ·rw [if_neg e,getD_set_ne false (fun h=>e h.symm)]
  have hmx:=mixB_spec hC hill
  unfold opN
  simp only [ho]
  by_cases hei:eff.contains i=true
  ·have ht:=(hst.1 hei).out
   rw [hei] at hmx
   have next:∀ v w'',G (eff.map fun k=>if k=i then true else listed.getD k false) (eff.map (updV ws i v)) w''→∃ ws',(fillAct l 0 (mix C ws) ⟨L.toArray,ds⟩).put o.dst v=fillAct l 0 (mix C ws') ⟨L.toArray,ds⟩∧G (eff.map fun k=>(listed.setIfInBounds i true).getD k false) (eff.map ws') w''∧(∀ k ok,l[k]?=some ok→(listed.setIfInBounds i true).getD k false=true→∀ e ∈ ok.after,Region.binds .any e=true→(listed.setIfInBounds i true).getD e.on false=true):=by
    intro v w'' h2
    exact ⟨updV ws i v,by rw [hput,mix_open hmx],by rw [hmap]; exact h2,closed⟩
   split
   ·rename_i hw
    simp only [hw,if_true] at ht
    exact Oper.gives_wp ht fun v w'' h=>next v w'' h
   ·rename_i hw
    simp only [hw] at ht
    exact next undef w' ht
  ·have hei':eff.contains i=false:=by simpa using hei
   have ht:=hst.2 hei'
   rw [hei'] at hmx
   have hne:∀ k ∈ eff,k ≠ i:=fun k hk e=>hei (by subst e; simpa using hk)
   have e1:(eff.map fun k=>(listed.setIfInBounds i true).getD k false)=eff.map fun k=>listed.getD k false:=List.map_congr_left fun k hk=>getD_set_ne false (fun h=>hne k hk h.symm)
   have next:∃ ws',(fillAct l 0 (mix C ws) ⟨L.toArray,ds⟩).put o.dst (mix C ws i)=fillAct l 0 (mix C ws') ⟨L.toArray,ds⟩∧G (eff.map fun k=>(listed.setIfInBounds i true).getD k false) (eff.map ws') w'∧(∀ k ok,l[k]?=some ok→(listed.setIfInBounds i true).getD k false=true→∀ e ∈ ok.after,Region.binds .any e=true→(listed.setIfInBounds i true).getD e.on false=true):=
    ⟨ws,by rw [hput,updV_self],by rw [e1]; exact hG',closed⟩
   rcases ht with ⟨hw,hr⟩ | ⟨hw,hv⟩
   ·simp only [hw,if_true,Go.Oper.wp,hr,Go.Oper.upon]
    exact next
   ·simp only [hw,Bool.false_eq_true,if_false]
    rw [hv]
    exact next
 ·rintro listed b2 w' hl ⟨ws,rfl,hG',hR⟩
  rw [fill_set]
  refine hQ ws _ rfl w' ?_
  have e:(eff.map fun i=>listed.getD i false)=eff.map fun _=>true:=List.map_congr_left fun i hi=>hl i (by simpa using heff' i hi)
  rw [← e]; exact hG'
theorem any_call {Q:Exit→Act→World→Prop} {a:Act} {w:World} {l:List Oper} (c:Nat) (vs:Nat→Value) (R:World→Prop) {oc:Oper}
 (hB:tabB .any l.toArray=true) (hD:dstB l=true) (hc:l[c]?=some oc)
 (hstill:∀ w',w'=w.drew∨R w'→GvAll P (yielded l.toArray (fillAct l 0 vs a).tmps) (fillAct l 0 vs a) w' vs 0 (l.take c)∧GvAll P (yielded l.toArray (fillAct l 0 vs a).tmps) (fillAct l 0 vs a) w' vs (c+1) (l.drop (c+1)))
 (hw:Region.wanted oc (yielded l.toArray (fillAct l 0 vs a).tmps)=true) (f:FuncId) (args:Array Value) (hx:(execOp (fillAct l 0 vs a).eval oc).run P w.drew=.ok (.enter f args) w.drew)
 (hcall:Calls P f args w.drew (fun e w'=>e=.returned (vs c)∧R w'))
 (hQ:∀ w',R w'→Q .normal (fillAct l 0 vs a) w'):wpAny P .any l.toArray Q l.toArray.size (Array.replicate l.toArray.size false) a { w with drawn:=w.drawn+1 }:=by
 have hA:=fill_agr l vs a
 have hput:∀ i o,l[i]?=some o→(fillAct l 0 vs a).put o.dst (vs i)=fillAct l 0 vs a:=fun i o hi=>by
  rw [fill_put l 0 vs a i o (vs i) hD hi,Nat.zero_add,updV_self]
 generalize fillAct l 0 vs a=b at *
 have hcl:c < l.length:=(List.getElem?_eq_some_iff.1 hc).1
 refine wpAny_tab hB (fun listed b' w'=>b'=b∧(listed.getD c false=false→w'=w.drew)∧(listed.getD c false=true→R w')) ?_ ?_ _ _ _ b _ (by simp) (by simp) (by simpa using hA) ⟨rfl,fun _=>rfl,fun h=>?_⟩
 rotate_left
 rotate_left
 ·rw [getD_replicate_false] at h; cases h
 ·rintro listed i b2 w' hs hi ⟨rfl,h1,h2⟩
  obtain ⟨hun,o,ho,_⟩:=mem_ready.1 hi
  have hlo:l[i]?=some o:=by simpa using ho
  by_cases e:i=c
  ·subst e
   obtain rfl:o=oc:=Option.some.inj (hlo.symm.trans hc)
   obtain rfl:=h1 (getD_both hun)
   unfold opN
   simp only [ho,hw,if_true,Oper.wp,hx,Oper.upon]
   refine hcall.mono fun e w'' he=>?_
   obtain ⟨rfl,hR⟩:=he
   refine ⟨hput i o hlo,fun h=>?_,fun _=>hR⟩
   have hi':i < listed.size:=by rw [hs]; simpa using hcl
   rw [show (listed.setIfInBounds i true).getD i false=true by simp [hi']] at h
   cases h
  ·have hst:=hstill w' (by
    cases hl:listed.getD c false with
    | false=>exact .inl (h1 hl)
    | true=>exact .inr (h2 hl))
   have hat:Gv P (yielded l.toArray b2.tmps) b2 w' o (vs i):=by
    rcases Nat.lt_or_ge i c with h | h
    ·have:=hst.1.at (i:=i) (o:=o) (by rw [List.getElem?_take,if_pos h]; exact hlo)
     rwa [Nat.zero_add] at this
    ·have:=hst.2.at (i:=i - (c+1)) (o:=o) (by rw [List.getElem?_drop,show c+1+(i - (c+1))=i by omega]; exact hlo)
     rwa [show c+1+(i - (c+1))=i by omega] at this
   exact hat.opN ho (hput i o hlo) ⟨rfl,by rw [getD_set_ne false e]; exact h1,by rw [getD_set_ne false e]; exact h2⟩
 ·rintro listed _ w' hl ⟨rfl,_,h2⟩
  exact hQ w' (h2 (hl c (by simpa using hcl)))
/-- the same, where the operations' slots lie side by side -/
theorem any_call' {Q:Exit→Act→World→Prop} {L:List Value} {ds:List Deferred} {w:World} {l:List Oper} (c d e:Nat) (vals:List Value) (R:World→Prop) {oc:Oper}
 (hB:tabB .any l.toArray=true) (hD:dstB l=true) (hc:l[c]?=some oc) (hC:contB d l=true) (hn:l.length=vals.length) (he:d+l.length=e) (hd:e≤L.length)
 (hstill:∀ w',w'=w.drew∨R w'→GvAll P (yielded l.toArray (fillAct l 0 (fun k=>vals.getD k undef) ⟨L.toArray,ds⟩).tmps) (fillAct l 0 (fun k=>vals.getD k undef) ⟨L.toArray,ds⟩) w' (fun k=>vals.getD k undef) 0 (l.take c)∧GvAll P (yielded l.toArray (fillAct l 0 (fun k=>vals.getD k undef) ⟨L.toArray,ds⟩).tmps) (fillAct l 0 (fun k=>vals.getD k undef) ⟨L.toArray,ds⟩) w' (fun k=>vals.getD k undef) (c+1) (l.drop (c+1)))
 (hw:Region.wanted oc (yielded l.toArray (fillAct l 0 (fun k=>vals.getD k undef) ⟨L.toArray,ds⟩).tmps)=true) (f:FuncId) (args:Array Value) (hx:(execOp (fillAct l 0 (fun k=>vals.getD k undef) ⟨L.toArray,ds⟩).eval oc).run P w.drew=.ok (.enter f args) w.drew)
 (hcall:Calls P f args w.drew (fun e w'=>e=.returned (vals.getD c undef)∧R w'))
 (hQ:∀ L',L.take d ++ (vals ++ L.drop e)=L'→∀ w',R w'→Q .normal ⟨L'.toArray,ds⟩ w'):wpAny P .any l.toArray Q l.toArray.size (Array.replicate l.toArray.size false) ⟨L.toArray,ds⟩ { w with drawn:=w.drawn+1 }:=
 any_call c (fun k=>vals.getD k undef) R hB hD hc hstill hw f args hx hcall (fun w' hR=>by
  have h:=hQ _ rfl w' hR
  rw [fill_cont l 0 d _ L ds hC (by omega),he,hn,map_getD]
  exact h)
end
end
section
open Go.RowKit SeedP Go.Maps
abbrev fnV (f:Nat):Value:=.func (.func f) #[] #[]
theorem keyU:Keyed Tryz.prog 5:=int_keyed Tryz.underlying5
theorem keyOf_u8 (k:UInt8):keyOf Tryz.prog 5 (.int .u8 k.toNat)=some (.int .u8 k.toNat):=keyOf_int_mk Tryz.underlying5 (by
 have:=k.toNat_lt
 simp only [Lit.wf]
 rcases k with ⟨⟨x⟩⟩
 revert x
 decide +kernel)
def putU (D:DataW Value) (a:UInt8) (v:Value):DataW Value:=D.put (.int .u8 a.toNat) (.held v)
theorem isMap_putU {D:DataW Value} (h:IsMap D) (a:UInt8) (v:Value):IsMap (putU D a v):=h.put _ _
theorem litU {a k:UInt8} (h:k ≠ a):(Lit.int .u8 (k.toNat:Int)) ≠ .int .u8 a.toNat:=fun e=>h (by
 simp only [Lit.int.injEq,true_and] at e
 exact UInt8.toNat_inj.1 (by omega))
theorem at_putU {D:DataW Value} (h:IsMap D) (a k:UInt8) (v:Value) (z:DataW Value):(putU D a v).atKey (.int .u8 k.toNat) z=if k=a then .held v else D.atKey (.int .u8 k.toNat) z:=by
 unfold putU
 by_cases e:k=a
 ·subst e; rw [if_pos rfl]; exact atKey_put_same h (by simp [WideAt.IsKeyLit]) _ _
 ·rw [if_neg e]; exact atKey_put_other (litU e) _ _
theorem has_putU {D:DataW Value} (h:IsMap D) (a k:UInt8) (v:Value):Maps.has (putU D a v) (.int .u8 k.toNat)=if k=a then true else Maps.has D (.int .u8 k.toNat):=by
 unfold putU
 by_cases e:k=a
 ·subst e; rw [if_pos rfl]; exact has_put_same h (by simp [WideAt.IsKeyLit]) _
 ·rw [if_neg e]; exact has_put_other (litU e) _
def kindsD:DataW Value:=putU (putU (putU (putU (putU (.map []) 99 (fnV 78)) 109 (fnV 79)) 116 (fnV 80)) 120 (fnV 81)) 97 (fnV 82)
/-- the method of a kind of entries -/
def kindF (k:UInt8):Option Nat:=
 if k=97 then some 82 else if k=120 then some 81 else if k=116 then some 80 else if k=109 then some 79 else if k=99 then some 78 else none
def kindV (k:UInt8):Value:=match kindF k with
 | some f=>fnV f
 | none=>.nilFunc
theorem kinds_look {w:World} {b n:Nat} (h:w.ownsMap Tryz.prog 5 tokR b n kindsD) (k:UInt8) :
 (Instr.lookup 129 (.map (some b)) (.int .u8 k.toNat) true).run Tryz.prog w=.ok (.tuple #[kindV k,.bool (kindF k).isSome]) w:=by
 obtain ⟨v,ps,hr,hv⟩:=h.look_ok keyU Tryz.underlying129 (z:=.nilFunc) (by kernel_rfl) (zd:=.held .nilFunc) (zp:=[]) rfl (keyOf_u8 k)
 have i0:IsMap (DataW.map []:DataW Value):=isMap_empty
 have i1:=isMap_putU i0 99 (fnV 78)
 have i2:=isMap_putU i1 109 (fnV 79)
 have i3:=isMap_putU i2 116 (fnV 80)
 have i4:=isMap_putU i3 120 (fnV 81)
 have ez:(DataW.map []:DataW Value).atKey (.int .u8 k.toNat) (.held .nilFunc)=.held .nilFunc:=rfl
 have eh:Maps.has (DataW.map []:DataW Value) (.int .u8 k.toNat)=false:=rfl
 have hh:Maps.has kindsD (.int .u8 k.toNat)=(kindF k).isSome:=by
  unfold kindsD kindF
  rw [has_putU i4,has_putU i3,has_putU i2,has_putU i1,has_putU i0,eh]
  repeat' split
  all_goals rfl
 have hd:kindsD.atKey (.int .u8 k.toNat) (.held .nilFunc)=.held (kindV k):=by
  unfold kindsD kindV kindF
  rw [at_putU i4,at_putU i3,at_putU i2,at_putU i1,at_putU i0,ez]
  repeat' split
  all_goals simp_all
 rw [hr,hh]
 rw [hd] at hv
 unfold tokR at hv
 simp only [Option.some.injEq,Prod.mk.injEq,DataW.held.injEq] at hv
 rw [hv.1]
theorem kinds_made {w:World} {b:Nat} (h:w.ownsMap Tryz.prog 5 tokR b 0 (.map [])) :
 ∃ w1 w2 w3 w4 w5,(Instr.mapUpdate 129 (.map (some b)) (.int .u8 99) (fnV 78)).run Tryz.prog w=.ok () w1 ∧
   (Instr.mapUpdate 129 (.map (some b)) (.int .u8 109) (fnV 79)).run Tryz.prog w1=.ok () w2 ∧
   (Instr.mapUpdate 129 (.map (some b)) (.int .u8 116) (fnV 80)).run Tryz.prog w2=.ok () w3 ∧
   (Instr.mapUpdate 129 (.map (some b)) (.int .u8 120) (fnV 81)).run Tryz.prog w3=.ok () w4 ∧
   (Instr.mapUpdate 129 (.map (some b)) (.int .u8 97) (fnV 82)).run Tryz.prog w4=.ok () w5 ∧
   w5.ownsMap Tryz.prog 5 tokR b 5 kindsD∧Grown (·=b) w w5:=by
 obtain ⟨w1,r1,h1,t1⟩:=h.store keyU Tryz.underlying129 (by unfold maxLen; omega) (keyOf_u8 99) (show tokR (fnV 78)=some (.held (fnV 78),[]) from rfl)
 obtain ⟨w2,r2,h2,t2⟩:=h1.store keyU Tryz.underlying129 (by unfold maxLen; omega) (keyOf_u8 109) (show tokR (fnV 79)=some (.held (fnV 79),[]) from rfl)
 obtain ⟨w3,r3,h3,t3⟩:=h2.store keyU Tryz.underlying129 (by unfold maxLen; omega) (keyOf_u8 116) (show tokR (fnV 80)=some (.held (fnV 80),[]) from rfl)
 obtain ⟨w4,r4,h4,t4⟩:=h3.store keyU Tryz.underlying129 (by unfold maxLen; omega) (keyOf_u8 120) (show tokR (fnV 81)=some (.held (fnV 81),[]) from rfl)
 obtain ⟨w5,r5,h5,t5⟩:=h4.store keyU Tryz.underlying129 (by unfold maxLen; omega) (keyOf_u8 97) (show tokR (fnV 82)=some (.held (fnV 82),[]) from rfl)
 exact ⟨w1,w2,w3,w4,w5,r1,r2,r3,r4,r5,h5,((((turned_grown t1).trans (turned_grown t2)).trans (turned_grown t3)).trans (turned_grown t4)).trans (turned_grown t5)⟩
end
end Go.Proofs.YtbcfpdlhieaepaaGreatDoor
