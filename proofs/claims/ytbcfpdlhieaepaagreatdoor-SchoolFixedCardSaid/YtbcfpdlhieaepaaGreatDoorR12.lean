/- The walks of Clip, cut, write. -/
import Derived.Test.YtbcfpdlhieaepaaGreatDoorR09
import Derived.ArgAppend
import Derived.Deep.RegionLaw
import Derived.Test.YtbcfpdlhieaepaaGreatDoorR10
namespace Go.Proofs.YtbcfpdlhieaepaaGreatDoor
section
open Go.RowKit SeedP Go.Maps
set_option maxRecDepth 100000 in
/-- slices.Clip -/
theorem clip_c (v:Value) (l:List UInt8) (p:Nat→Prop) (w:World) (hv:RdP w p v l) :
 Calls Tryz.prog 139 #[v] w fun e w'=>(∃ a,e=.returned (.slice a l.length l.length)∧RdP w p (.slice a l.length l.length) l)∧w=w':=by
 rcases hv with ⟨h0,rfl⟩ | ⟨g,off,cap,rfl,h1,h2,h3,h4⟩
 ·have hv:∃ a cap,v=.slice a 0 cap:=by
   rcases h0 with rfl | ⟨a,cap,rfl⟩
   ·exact ⟨_,_,rfl⟩
   ·exact ⟨_,_,rfl⟩
  obtain ⟨a,cap,rfl⟩:=hv
  clear h0
  go_enter Tryz.func139,Tryz.ntmps139
  go_wp2
  go_ret
  refine ⟨⟨a,rfl,Or.inl ⟨?_,rfl⟩⟩,rfl⟩
  cases a
  ·exact Or.inl rfl
  ·exact Or.inr ⟨_,_,rfl⟩
 ·have b0:(0:Int)≤(l.length:Int):=by omega
  have b1:(l.length:Int)≤(cap:Int):=by omega
  have HH:=Lib.hid (And.intro h2 (And.intro h3 h4))
  clear h2 h3 h4
  go_enter Tryz.func139,Tryz.ntmps139
  go_wp2
  go_ret
  exact ⟨⟨_,rfl,Or.inr ⟨g,off,l.length,rfl,Nat.le_refl _,Nat.le_trans h1 HH.out.1,HH.out.2.1,HH.out.2.2⟩⟩,rfl⟩
/-- the power has failed -/
def noPower:Ending:=.panicked [{ v:=.iface 199 (.agg #[]),recovered:=false }]
set_option maxRecDepth 100000 in
/-- cut: nothing to cut -/
theorem cut_same (jb db:Nat) (pw:Int) (f:Bool) (v0 v1:Value) (l:List UInt8) (p:Nat→Prop) (w:World) (hj:w.cell? ⟨jb,0,none⟩=some (.pointer (some ⟨db,0,none⟩))) (hd:Blk w db 29 [.int .i64 pw,v0,v1]) (hl:RdP w p (if f then v1 else v0) l) :
 Calls Tryz.prog 102 #[.pointer (some ⟨jb,0,none⟩),.int .i64 (if f then 1 else 0),.int .i64 l.length] w fun e w'=>e=.returned (.tuple #[])∧w=w':=by
 have hv:∃ a cap,(if f then v1 else v0)=.slice a l.length cap:=by obtain ⟨a,cap,h,_⟩:=hl.toB.open_; exact ⟨a,cap,h⟩
 obtain ⟨a,cap,hv⟩:=hv
 have d1:=hd.cell 1 (by simp)
 have d2:=hd.cell 2 (by simp)
 simp only [List.getD_cons_zero,List.getD_cons_succ] at d1 d2
 clear hl hd
 cases f
 all_goals
  simp only [Bool.false_eq_true,if_false,if_true] at hv
  subst hv
  go_enter Tryz.func102,Tryz.ntmps102
  go_wp2
  (try simp only [Exit.inBlock,Exit.then])
  refine bodyPost_ret (results_none rfl _ _ _) rfl ?_
  exact ⟨rfl,rfl⟩
set_option maxRecDepth 100000 in
/-- cut: the power has failed -/
theorem cut_fail (jb db:Nat) (f:Bool) (v0 v1:Value) (l:List UInt8) (n:Nat) (p:Nat→Prop) (w:World) (hj:w.cell? ⟨jb,0,none⟩=some (.pointer (some ⟨db,0,none⟩))) (hd:Blk w db 29 [.int .i64 0,v0,v1]) (hl:RdP w p (if f then v1 else v0) l) (hn:n < l.length) :
 Calls Tryz.prog 102 #[.pointer (some ⟨jb,0,none⟩),.int .i64 (if f then 1 else 0),.int .i64 n] w fun e w'=>e=noPower∧w=w':=by
 have hv:∃ a cap,(if f then v1 else v0)=.slice a l.length cap:=by obtain ⟨a,cap,h,_⟩:=hl.toB.open_; exact ⟨a,cap,h⟩
 obtain ⟨a,cap,hv⟩:=hv
 have d0:=hd.cell 0 (by simp)
 have d1:=hd.cell 1 (by simp)
 have d2:=hd.cell 2 (by simp)
 simp only [List.getD_cons_zero,List.getD_cons_succ] at d0 d1 d2
 have hne:((l.length:Int) == (n:Int))=false:=by simp; omega
 clear hl hd hn
 cases f
 all_goals
  simp only [Bool.false_eq_true,if_false,if_true] at hv
  subst hv
  go_enter Tryz.func102,Tryz.ntmps102
  go_wp2
  exact ⟨rfl,rfl,rfl⟩
theorem RdP.cut {w:World} {p:Nat→Prop} {a:Option Addr} {cap n:Nat} {l:List UInt8} (h:RdP w p (.slice a l.length cap) l) (hn:n≤l.length):RdP w p (.slice a n cap) (l.take n):=by
 rcases h with ⟨h,rfl⟩ | ⟨g,off,c,e,h1,h2,h3,h4⟩
 ·obtain rfl:n=0:=by simpa using hn
  exact Or.inl ⟨h,rfl⟩
 ·cases e
  refine Or.inr ⟨g,off,cap,by rw [List.length_take,Nat.min_eq_left hn],by rw [List.length_take]; omega,h2,h3,fun j hj=>?_⟩
  rw [List.length_take] at hj
  rw [h4 j (by omega)]
  have:j < n:=by omega
  simp [List.getD_eq_getElem?_getD,this]
theorem cut_end {w w1 w3:World} {db:Nat} {v3:Value} {r:List UInt8} {x0 x1 x2:Value} (S1:Grown (fun k=>k=db) w w1) (hb3:Below w1.drew.heap.size w1.drew w3) (hy3:w3.ownsRow w1.drew.heap.size 5 1 v3 r.length (byts r)) (D1:Blk w1 db 29 [x0,x1,x2]) (o:Nat) :
 (w3.setCell ⟨db,o,none⟩ v3).ownsRow w1.heap.size 5 1 v3 r.length (byts r)∧Grown (fun k=>k=db) w (w3.setCell ⟨db,o,none⟩ v3)∧Blk (w3.setCell ⟨db,o,none⟩ v3) db 29 ([x0,x1,x2].set o v3):=by
 have hlt:=D1.lt
 have D3:Blk w3 db 29 [x0,x1,x2]:=Blk.below (w:=w1.drew) D1.drew hb3
 have G3:Grown (fun k=>k=db) w3 (w3.setCell ⟨db,o,none⟩ v3):=Grown.setCell (S:=fun k=>k=db) (Grown.refl _ _) (a:=⟨db,o,none⟩) rfl _
 refine ⟨own_grown hy3 G3 (fun g hg _ e=>?_),(S1.drew.trans (Grown.of_below hb3)).trans G3,D3.set o v3⟩
 have hg:w1.heap.size≤g:=hg
 omega
set_option maxRecDepth 100000 in
set_option maxHeartbeats 2000000 in
/-- cut: what is left of the file lies in new memory -/
theorem cut_done (jb db:Nat) (pw:Int) (f:Bool) (v0 v1:Value) (l:List UInt8) (n:Nat) (p:Nat→Prop) (w:World) (hj:w.cell? ⟨jb,0,none⟩=some (.pointer (some ⟨db,0,none⟩))) (hd:Blk w db 29 [.int .i64 pw,v0,v1]) (hl:RdP w p (if f then v1 else v0) l) (hn:n < l.length) (hpw:pw ≠ 0) (hp0: -1≤pw) (hp1:pw≤9223372036854775807) (hpd:∀ g,p g→g ≠ db) (hll:l.length≤1073741824) :
 Calls Tryz.prog 102 #[.pointer (some ⟨jb,0,none⟩),.int .i64 (if f then 1 else 0),.int .i64 n] w fun e w'=>e=.returned (.tuple #[]) ∧
  ∃ v',w'.ownsRow w.heap.size 5 1 v' (l.take n).length (byts (l.take n))∧Grown (fun k=>k=db) w w'∧Blk w' db 29 [.int .i64 (if 0 < pw then pw - 1 else pw),if f then v0 else v',if f then v' else v1]:=by
 have hv:∃ a cap,(if f then v1 else v0)=.slice a l.length cap:=by obtain ⟨a,cap,h,_⟩:=hl.toB.open_; exact ⟨a,cap,h⟩
 obtain ⟨a,cap,hv⟩:=hv
 have hcut:=(hv ▸ hl).cut (n:=n) (by omega)
 have hcap:(n:Int)≤(cap:Int):=by
  rcases (hv ▸ hl) with ⟨_,rfl⟩ | ⟨g,off,c,e,h1,_⟩
  ·simp at hn
  ·cases e; omega
 have hn0:(0:Int)≤(n:Int):=by omega
 have d0:=hd.cell 0 (by simp)
 have d1:=hd.cell 1 (by simp)
 have d2:=hd.cell 2 (by simp)
 have f0:=hd.frozen 0
 simp only [List.getD_cons_zero,List.getD_cons_succ] at d0 d1 d2
 have hne:((l.length:Int) == (n:Int))=false:=by simp; omega
 have hne2:(pw == 0)=false:=by simpa using hpw
 have hrl:(l.take n).length=n:=by rw [List.length_take]; omega
 have hrm:(l.take n).length≤1073741824:=by omega
 generalize l.take n=r at *
 subst hrl
 have HH:=Lib.hid (And.intro hd (And.intro hcut (And.intro hpd hll)))
 clear hl hd hcut hpd hpw
 by_cases hp:0 < pw
 ·cases f
  all_goals
   simp only [Bool.false_eq_true,if_false,if_true] at hv ⊢
   subst hv
   go_enter Tryz.func102,Tryz.ntmps102
   go_upto_region 6 with (fail)
   obtain ⟨hd,hcut,hpd,_⟩:=HH.out
   have S1:Grown (fun k=>k=db) w (w.setCell ⟨db,0,none⟩ (.int .i64 (pw - 1))):=Grown.setCell (S:=fun k=>k=db) (Grown.refl _ _) (a:=⟨db,0,none⟩) rfl _
   have D1:=hd.set 0 (.int .i64 (pw - 1))
   have R1:=hcut.grown S1 (fun g hg e=>hpd g hg e)
   simp only [List.set_cons_zero] at D1
   have hz:w.heap.size=(w.setCell ⟨db,0,none⟩ (.int .i64 (pw - 1))).heap.size:=by simp
   clear hd hcut d0 d1 d2 f0 HH
   generalize w.setCell ⟨db,0,none⟩ (.int .i64 (pw - 1))=w1 at *
   have q1:=D1.cell 1 (by simp)
   have q2:=D1.cell 2 (by simp)
   simp only [List.getD_cons_zero,List.getD_cons_succ] at q1 q2
   have HD:=Lib.hid (And.intro S1 (And.intro D1 R1))
   clear S1 D1 R1
   have HCL:=Lib.hid (clone_c (.slice a r.length cap) r w1.heap.size w1.drew HD.out.2.2.toB.drew hrm (Nat.le_refl _))
  ·go_region_with
    (go_at_call 77; refine HCL.out.mono ?_; rintro e w3 ⟨⟨v3,rfl,hy3⟩,hb3⟩; obtain ⟨a3,cap3,rfl⟩:=own_slice hy3; have D3:=Blk.below (w:=w1.drew) HD.out.2.1.drew hb3; have z1:=D3.cell 1 (by simp); have y1:=D3.frozen 1; simp only [List.getD_cons_zero,List.getD_cons_succ] at z1)
   all_goals
    go_wp2
    all_goals
     first
     | (exact absurd hp ‹_›)
     | (go_end0
        exact ⟨rfl,_,cut_end HD.out.1 hb3 hy3 HD.out.2.1 1⟩)
  ·go_region_with
    (go_at_call 77; refine HCL.out.mono ?_; rintro e w3 ⟨⟨v3,rfl,hy3⟩,hb3⟩; obtain ⟨a3,cap3,rfl⟩:=own_slice hy3; have D3:=Blk.below (w:=w1.drew) HD.out.2.1.drew hb3; have z1:=D3.cell 2 (by simp); have y1:=D3.frozen 2; simp only [List.getD_cons_zero,List.getD_cons_succ] at z1)
   all_goals
    go_wp2
    all_goals
     first
     | (exact absurd hp ‹_›)
     | (go_end0
        exact ⟨rfl,_,cut_end HD.out.1 hb3 hy3 HD.out.2.1 2⟩)
 ·cases f
  all_goals
   simp only [Bool.false_eq_true,if_false,if_true,if_neg hp] at hv ⊢
   subst hv
   have HD:=Lib.hid (And.intro (Grown.refl (fun k=>k=db) w) (And.intro HH.out.1 HH.out.2.1))
   have HCL:=Lib.hid (clone_c (.slice a r.length cap) r w.heap.size w.drew HD.out.2.2.toB.drew hrm (Nat.le_refl _))
   clear HH
   go_enter Tryz.func102,Tryz.ntmps102
   go_upto_region 6 with (fail)
  ·go_region_with
    (go_at_call 77; refine HCL.out.mono ?_; rintro e w3 ⟨⟨v3,rfl,hy3⟩,hb3⟩; obtain ⟨a3,cap3,rfl⟩:=own_slice hy3; have D3:=Blk.below (w:=w.drew) HD.out.2.1.drew hb3; have z1:=D3.cell 1 (by simp); have y1:=D3.frozen 1; simp only [List.getD_cons_zero,List.getD_cons_succ] at z1)
   all_goals
    go_wp2
    all_goals
     first
     | (exact absurd ‹_› hp)
     | (go_end0
        exact ⟨rfl,_,cut_end HD.out.1 hb3 hy3 HD.out.2.1 1⟩)
  ·go_region_with
    (go_at_call 77; refine HCL.out.mono ?_; rintro e w3 ⟨⟨v3,rfl,hy3⟩,hb3⟩; obtain ⟨a3,cap3,rfl⟩:=own_slice hy3; have D3:=Blk.below (w:=w.drew) HD.out.2.1.drew hb3; have z1:=D3.cell 2 (by simp); have y1:=D3.frozen 2; simp only [List.getD_cons_zero,List.getD_cons_succ] at z1)
   all_goals
    go_wp2
    all_goals
     first
     | (exact absurd ‹_› hp)
     | (go_end0
        exact ⟨rfl,_,cut_end HD.out.1 hb3 hy3 HD.out.2.1 2⟩)
end
section
open Go.RowKit SeedP Go.Maps
theorem wpList_minJ {P:Program} (w:World) {ops:Array Oper} {rest:List Oper} {o:Oper} {a:Act} {Q:Exit→Act→World→Prop}
 (hg:o.guard=none) (s x:Operand) (t:TypeId) (hop:o.op=Op.call { callee:=Callee.builtin Builtin.min,args:=#[s,x],argTypes:=#[t,t] })
 (m n:Int) (hs:a.eval s=.int .i64 m) (hx:a.eval x=.int .i64 n)
 (hK:∀ r:Int,r≤m→r≤n→(r=m∨r=n)→wpList P ops Q rest (a.put o.dst (.int .i64 r)) w) :
 wpList P ops Q (o :: rest) a w:=by
 refine wpList_plain hg fun K hK'=>?_
 unfold Oper.wp
 simp [execOp,hop,resolve,invoke,builtin,hs,hx,Builtin.min_,Builtin.min2]
 exact hK' _ _ (hK _ (by split <;> omega) (by split <;> omega) (by split <;> simp))
/-- no cell of this block is frozen -/
def UnB (w:World) (g:Nat):Prop:=∀ o,w.frozen? ⟨g,o,none⟩=false
theorem UnB.keep {w w':World} {g:Nat} (h:UnB w g) (hk:w'.heap[g]?=w.heap[g]?):UnB w' g:=fun o=>(World.frozen?_of_block (w:=w) (a:=⟨g,o,none⟩) hk).trans (h o)
theorem RdP.ownU {w:World} {B n:Nat} {p:Nat→Prop} {v:Value} {l:List UInt8} (h:w.ownsRow B 5 1 v n (byts l)) (hp:∀ g,B≤g→g < w.heap.size→UnB w g→p g):RdP w p v l:=by
 have h':=h
 obtain ⟨hl,h2⟩:=h
 rw [Nat.mul_one,byts_length] at hl
 rcases h2 with ⟨rfl,rfl⟩ | ⟨g,cap,cur,rfl,hb,hg,hn,hc,hs,ht⟩
 ·exact Or.inl ⟨Or.inl rfl,List.eq_nil_of_length_eq_zero hl⟩
 ·refine Or.inr ⟨g,0,cap,by rw [hl],by omega,hc,hp g hb (Array.getElem?_eq_some_iff.1 hg).1 (fun o=>h'.frozenAt o),fun j hj=>?_⟩
  rw [Nat.zero_add,h'.cellAt j (by omega),byts_get l j hj]
theorem RdP.cells {w:World} {p:Nat→Prop} {b:Addr} {n c:Nat} {l:List UInt8} (h:RdP w p (.slice (some b) n c) l) (hl:l ≠ []):∀ j u,(byts l)[j]?=some u→w.cell? (b.add j)=some u:=by
 rcases h with ⟨_,rfl⟩ | ⟨g,off,cap,e,h1,h2,h3,h4⟩
 ·exact absurd rfl hl
 ·cases e
  intro j u hu
  have hj:=(List.getElem?_eq_some_iff.1 hu).1
  rw [byts_length] at hj
  have e:(⟨g,off,none⟩:Addr).add j=⟨g,off+j,none⟩:=by unfold Addr.add; split <;> simp_all
  rw [e,h4 j hj,← hu,byts_get l j hj]
theorem RdB.cells {w:World} {B:Nat} {b:Addr} {n c:Nat} {l:List UInt8} (h:RdB w B (.slice (some b) n c) l) (hl:l ≠ []):∀ j u,(byts l)[j]?=some u→w.cell? (b.add j)=some u:=
 (h.toP (p:=fun _=>True) (fun _ _=>trivial)).cells hl
theorem RdP.drew {w:World} {p:Nat→Prop} {v:Value} {l:List UInt8} (h:RdP w p v l):RdP w.drew p v l:=h
/-- append to a slice without room: what comes out holds both -/
theorem clipApp_run {w:World} (ty:TypeId) (p:Nat→Prop) (a:Option Addr) (l:List UInt8) (h:RdP w p (.slice a l.length l.length) l) {B:Nat} (vx:Value) (l2:List UInt8) (hr:RdB w B vx l2) (hm:l.length+l2.length≤4294967296) :
 ∃ v' w',(Builtin.append_ #[26,26] ty #[.slice a l.length l.length,vx]).run Tryz.prog w=.ok v' w'∧RdP w' (fun g=>p g∨(w.heap.size≤g∧UnB w' g)) v' (l ++ l2)∧Below w.heap.size w w':=by
 obtain ⟨i,hi,hz,hs1,hby⟩:=info_parts infoB
 rcases l2 with _ | ⟨x,r⟩
 ·refine ⟨.slice a l.length l.length,w,?_,by rw [List.append_nil]; exact h.mono (fun g _ hg=>Or.inl hg),Below.refl _ _⟩
  have hv:vx=.slice none 0 0∨∃ ax c,vx=.slice (some ax) 0 c:=by
   rcases hr with ⟨h0,_⟩ | ⟨g,off,cap,rfl,_⟩
   ·exact h0
   ·exact Or.inr ⟨_,_,rfl⟩
  rcases hv with rfl | ⟨ax,c,rfl⟩
  ·cases a <;> simp [Builtin.append_,run_underlying Tryz.underlying26,sizeOf,typeInfo,hi,Builtin.lenOf,Builtin.firstCells,loadCells,storeCells]
  ·cases a <;> simp [Builtin.append_,run_underlying Tryz.underlying26,sizeOf,typeInfo,hi,Builtin.lenOf,Builtin.firstCells,loadCells,loadCellsFrom,storeCells]
 ·rcases a with _ | b
  ·have hl0:l=[]:=by
    rcases h with ⟨_,e⟩ | ⟨g,off,cap,e,_⟩
    ·exact e
    ·cases e
   subst hl0
   obtain ⟨v',w',hrun,h2,h3⟩:=app_run (w:=w) ty w.heap.size (.slice none 0 0) 0 [] (by simpa [byts] using World.ownsRow_nil w w.heap.size 5 1) vx (x :: r) hr (by simpa using hm) (Nat.le_refl _)
   refine ⟨v',w',hrun,?_,(Below.refl _ _).grown h3 (Nat.le_refl _) (fun k e=>by cases e)⟩
   exact RdP.ownU (n:=0+(x :: r).length) h2 (fun g hg _ hu=>Or.inr ⟨hg,hu⟩)
  ·obtain ⟨ax,cx,rfl,_,hnone,_⟩:=hr.open_
   rcases ax with _ | ax
   ·have:=(hnone rfl).1; simp at this
   have hold:∀ j u,(byts l)[j]?=some u→w.cell? (b.add j)=some u:=by
    by_cases hl:l=[]
    ·subst hl; intro j u hu; simp [byts] at hu
    ·exact h.cells hl
   obtain ⟨v',w',hrun,h2,h3⟩:=run_append_arg_grows (P:=Tryz.prog) w 26 ty 5 i (.int .u8 0) 1 1 Tryz.underlying26 hi hz hs1 hby rfl (by decide)
    b l.length l.length (byts l) (by rw [byts_length,Nat.mul_one]) hold ax (x :: r).length cx (byts (x :: r)) (by rw [byts_length,Nat.mul_one]) (hr.cells (by simp)) (by simp) (by unfold maxLen; omega) (by omega)
   refine ⟨v',w',hrun,?_,(Below.refl _ _).grown h3 (Nat.le_refl _) (fun k e=>by cases e)⟩
   rw [← byts_append] at h2
   exact RdP.ownU h2 (fun g hg _ hu=>Or.inr ⟨hg,hu⟩)
/-- the same in a region that draws its order -/
theorem step_clip {w:World} {ops:Array Oper} {o:Oper} {a:Act} {Q:Exit→Act→World→Prop} {K:Act→World→Prop} {E:Prop} (hgd:o.guard=none) (s x:Operand) (ho:o.op=.call { callee:=.builtin .append,args:=#[s,x],argTypes:=#[26,26] })
 (p:Nat→Prop) (av:Option Addr) (l:List UInt8) (hs:a.eval s=.slice av l.length l.length) (h:RdP w p (.slice av l.length l.length) l) {B:Nat} (vx:Value) (l2:List UInt8) (hx:a.eval x=vx) (hr:RdB w B vx l2) (hm:l.length+l2.length≤4294967296)
 (hk:∀ v' w',RdP w' (fun g=>p g∨(w.heap.size≤g∧UnB w' g)) v' (l ++ l2)→Below w.heap.size w w'→K (a.put o.dst v') w') :
 if Region.wanted o (yielded ops a.tmps)=true then Oper.wp Tryz.prog o a w K Q else E:=by
 rw [if_pos (by simp [Region.wanted,hgd])]
 obtain ⟨v',w',hrun,h2,h3⟩:=clipApp_run (w:=w) o.type p av l h vx l2 hr hm
 unfold Oper.wp execOp
 simp only [ho,resolve,invoke,builtin,Sem.run_bind,Sem.run_pure,Result.andThen_ok,List.map_toArray,List.map_cons,List.map_nil,hs,hx,hrun]
 exact hk v' w' h2 h3
theorem write_end {w w1 w4:World} {db:Nat} {v4:Value} {r:List UInt8} {x0 x1 x2:Value} {p:Nat→Prop} (S1:Grown (fun k=>k=db) w w1) (hz:w1.heap.size=w.heap.size) (hb4:Below w1.drew.heap.size w1.drew w4) (hy4:RdP w4 (fun g=>p g∨(w1.drew.heap.size≤g∧UnB w4 g)) v4 r) (D1:Blk w1 db 29 [x0,x1,x2]) (hpd:∀ g,p g→g ≠ db) (o:Nat) :
 RdP (w4.setCell ⟨db,o,none⟩ v4) (fun g=>p g∨(w.heap.size≤g∧UnB (w4.setCell ⟨db,o,none⟩ v4) g)) v4 r∧Grown (fun k=>k=db) w (w4.setCell ⟨db,o,none⟩ v4)∧Blk (w4.setCell ⟨db,o,none⟩ v4) db 29 ([x0,x1,x2].set o v4):=by
 have hlt:=D1.lt
 have D4:Blk w4 db 29 [x0,x1,x2]:=Blk.below (w:=w1.drew) D1.drew hb4
 have G4:Grown (fun k=>k=db) w4 (w4.setCell ⟨db,o,none⟩ v4):=Grown.setCell (S:=fun k=>k=db) (Grown.refl _ _) (a:=⟨db,o,none⟩) rfl _
 have hz':w1.drew.heap.size=w.heap.size:=hz
 rw [hz'] at hy4
 have hy5:RdP w4 (fun g=>p g∨(w.heap.size≤g∧UnB (w4.setCell ⟨db,o,none⟩ v4) g)) v4 r:=hy4.mono (fun g hl hg=>by
  rcases hg with hg | ⟨hg,hu⟩
  ·exact Or.inl hg
  ·exact Or.inr ⟨hg,hu.keep (G4.block g hl (fun e=>by have e:g=db:=e; omega))⟩)
 refine ⟨hy5.grown G4 (fun g hg e=>?_),(S1.drew.trans (Grown.of_below hb4)).trans G4,D4.set o v4⟩
 rcases hg with hg | hg
 ·exact hpd g hg e
 ·have e:g=db:=e
  have:=hg.1
  omega
set_option maxRecDepth 100000 in
set_option maxHeartbeats 2000000 in
/-- write: the power does not fail -/
theorem write_full (jb db:Nat) (pw:Int) (f:Bool) (v0 v1 vb:Value) (l b:List UInt8) (p q:Nat→Prop) (w:World) (hj:w.cell? ⟨jb,0,none⟩=some (.pointer (some ⟨db,0,none⟩))) (hd:Blk w db 29 [.int .i64 pw,v0,v1]) (hl:RdP w p (if f then v1 else v0) l) (hb:RdP w q vb b) (hpw:pw < 0) (hpd:∀ g,p g→g ≠ db) (hll:l.length≤1073741824) (hbl:b.length≤1073741824) :
 Calls Tryz.prog 104 #[.pointer (some ⟨jb,0,none⟩),.int .i64 (if f then 1 else 0),vb] w fun e w'=>e=.returned (.tuple #[]) ∧
  ∃ v',RdP w' (fun g=>p g∨(w.heap.size≤g∧UnB w' g)) v' (l ++ b)∧Grown (fun k=>k=db) w w'∧Blk w' db 29 [.int .i64 pw,if f then v0 else v',if f then v' else v1]:=by
 have hv:∃ a cap,(if f then v1 else v0)=.slice a l.length cap:=by obtain ⟨a,cap,h,_⟩:=hl.toB.open_; exact ⟨a,cap,h⟩
 obtain ⟨a,cap,hv⟩:=hv
 obtain ⟨a2,cap2,rfl,_,_,_⟩:=hb.toB.open_
 have d0:=hd.cell 0 (by simp)
 have d1:=hd.cell 1 (by simp)
 have d2:=hd.cell 2 (by simp)
 have f0:=hd.frozen 0
 simp only [List.getD_cons_zero,List.getD_cons_succ] at d0 d1 d2
 have hcap:(b.length:Int)≤(cap2:Int):=by
  rcases hb with ⟨h,rfl⟩ | ⟨g,off,c,e,h1,_⟩
  ·simp
  ·cases e; omega
 have hb0:(0:Int)≤(b.length:Int):=by omega
 have hge:(decide (pw ≥ 0))=false:=by simp; omega
 have hlt:(decide ((b.length:Int) < (b.length:Int)))=false:=by simp
 have HCP:=Lib.hid (clip_c (.slice a l.length cap) l p w.drew (RdP.drew (hv ▸ hl)))
 have HB:=Lib.hid (RdP.drew hb).toB
 have HD:=Lib.hid (And.intro (Grown.refl (fun k=>k=db) w) (And.intro hd hpd))
 clear hd hl hb hpd f0
 cases f
 ·simp only [Bool.false_eq_true,if_false] at hv ⊢
  subst hv
  go_enter Tryz.func104,Tryz.ntmps104
  go_upto_region 4 with (fail)
  go_region_law (first | (refine step_clip rfl _ _ rfl p _ l rfl hy3 _ b rfl HB.out (by omega) ?_; intro v4 w4 hy4 hb4; obtain ⟨a4,c4,rfl,_,_,_⟩:=hy4.toB.open_; rw [List.length_append] at hy4; have D4:=Blk.below (w:=w.drew) HD.out.2.1.drew hb4; have z1:=D4.cell 1 (by simp); have y1:=D4.frozen 1; simp only [List.getD_cons_zero,List.getD_cons_succ] at z1) | (go_simp; go_at_call 139; refine HCP.out.mono ?_; rintro e w3 ⟨⟨a3,rfl,hy3⟩,rfl⟩; dsimp only))
  all_goals
   go_wp2
   go_end0
   exact ⟨rfl,_,write_end HD.out.1 rfl hb4 hy4 HD.out.2.1 HD.out.2.2 1⟩
 ·simp only [if_true] at hv ⊢
  subst hv
  go_enter Tryz.func104,Tryz.ntmps104
  go_upto_region 4 with (fail)
  go_region_law (first | (refine step_clip rfl _ _ rfl p _ l rfl hy3 _ b rfl HB.out (by omega) ?_; intro v4 w4 hy4 hb4; obtain ⟨a4,c4,rfl,_,_,_⟩:=hy4.toB.open_; rw [List.length_append] at hy4; have D4:=Blk.below (w:=w.drew) HD.out.2.1.drew hb4; have z1:=D4.cell 2 (by simp); have y1:=D4.frozen 2; simp only [List.getD_cons_zero,List.getD_cons_succ] at z1) | (go_simp; go_at_call 139; refine HCP.out.mono ?_; rintro e w3 ⟨⟨a3,rfl,hy3⟩,rfl⟩; dsimp only))
  all_goals
   go_wp2
   go_end0
   exact ⟨rfl,_,write_end HD.out.1 rfl hb4 hy4 HD.out.2.1 HD.out.2.2 2⟩
set_option maxRecDepth 100000 in
set_option maxHeartbeats 2000000 in
/-- write: there is enough power -/
theorem write_fits (jb db:Nat) (pw:Int) (f:Bool) (v0 v1 vb:Value) (l b:List UInt8) (p q:Nat→Prop) (w:World) (hj:w.cell? ⟨jb,0,none⟩=some (.pointer (some ⟨db,0,none⟩))) (hd:Blk w db 29 [.int .i64 pw,v0,v1]) (hl:RdP w p (if f then v1 else v0) l) (hb:RdP w q vb b) (hpw:(b.length:Int)≤pw) (hp1:pw≤9223372036854775807) (hpd:∀ g,p g→g ≠ db) (hqd:∀ g,q g→g ≠ db) (hll:l.length≤1073741824) (hbl:b.length≤1073741824) :
 Calls Tryz.prog 104 #[.pointer (some ⟨jb,0,none⟩),.int .i64 (if f then 1 else 0),vb] w fun e w'=>e=.returned (.tuple #[]) ∧
  ∃ v',RdP w' (fun g=>p g∨(w.heap.size≤g∧UnB w' g)) v' (l ++ b)∧Grown (fun k=>k=db) w w'∧Blk w' db 29 [.int .i64 (pw - b.length),if f then v0 else v',if f then v' else v1]:=by
 have hv:∃ a cap,(if f then v1 else v0)=.slice a l.length cap:=by obtain ⟨a,cap,h,_⟩:=hl.toB.open_; exact ⟨a,cap,h⟩
 obtain ⟨a,cap,hv⟩:=hv
 obtain ⟨a2,cap2,rfl,_,_,_⟩:=hb.toB.open_
 have d0:=hd.cell 0 (by simp)
 have d1:=hd.cell 1 (by simp)
 have d2:=hd.cell 2 (by simp)
 have f0:=hd.frozen 0
 simp only [List.getD_cons_zero,List.getD_cons_succ] at d0 d1 d2
 have hcap:(b.length:Int)≤(cap2:Int):=by
  rcases hb with ⟨h,rfl⟩ | ⟨g,off,c,e,h1,_⟩
  ·simp
  ·cases e; omega
 have hb0:(0:Int)≤(b.length:Int):=by omega
 have hge:(decide (pw ≥ 0))=true:=by simp; omega
 have hlt:(decide ((b.length:Int) < (b.length:Int)))=false:=by simp
 have HH:=Lib.hid (And.intro hd (And.intro (hv ▸ hl) (And.intro hb (And.intro hpd hqd))))
 clear hd hl hb hpd hqd
 cases f
 ·simp only [Bool.false_eq_true,if_false] at hv ⊢
  subst hv
  go_enter Tryz.func104,Tryz.ntmps104
  go_upto_region 4 with (at_builtin; refine wpList_minJ _ rfl _ _ _ rfl (b.length:Int) pw rfl rfl ?_; intro r hr1 hr2 hr3; obtain rfl:r=(b.length:Int):=by omega)
  obtain ⟨hd,hl,hb,hpd,hqd⟩:=HH.out
  have S1:Grown (fun k=>k=db) w (w.setCell ⟨db,0,none⟩ (.int .i64 (pw - b.length))):=Grown.setCell (S:=fun k=>k=db) (Grown.refl _ _) (a:=⟨db,0,none⟩) rfl _
  have D1:=hd.set 0 (.int .i64 (pw - b.length))
  have R1:=hl.grown S1 (fun g hg e=>hpd g hg e)
  have B1:=hb.grown S1 (fun g hg e=>hqd g hg e)
  simp only [List.set_cons_zero] at D1
  have hz:(w.setCell ⟨db,0,none⟩ (.int .i64 (pw - b.length))).heap.size=w.heap.size:=by simp
  have HPD:=Lib.hid hpd
  clear hd hl hb d0 d1 d2 f0 HH hpd hqd
  generalize w.setCell ⟨db,0,none⟩ (.int .i64 (pw - b.length))=w1 at *
  have q1:=D1.cell 1 (by simp)
  simp only [List.getD_cons_zero,List.getD_cons_succ] at q1
  have HCP:=Lib.hid (clip_c (.slice a l.length cap) l p w1.drew (RdP.drew R1))
  have HB:=Lib.hid (RdP.drew B1).toB
  have HD:=Lib.hid (And.intro S1 (And.intro D1 hz))
  clear S1 R1 B1 D1 hz
  go_region_law (first | (refine step_clip rfl _ _ rfl p _ l rfl hy3 _ b rfl HB.out (by omega) ?_; intro v4 w4 hy4 hb4; obtain ⟨a4,c4,rfl,_,_,_⟩:=hy4.toB.open_; rw [List.length_append] at hy4; have D4:=Blk.below (w:=w1.drew) HD.out.2.1.drew hb4; have z1:=D4.cell 1 (by simp); have y1:=D4.frozen 1; simp only [List.getD_cons_zero,List.getD_cons_succ] at z1) | (go_simp; go_at_call 139; refine HCP.out.mono ?_; rintro e w3 ⟨⟨a3,rfl,hy3⟩,rfl⟩; dsimp only))
  all_goals
   go_wp2
   go_end0
   exact ⟨rfl,_,write_end HD.out.1 HD.out.2.2 hb4 hy4 HD.out.2.1 HPD.out 1⟩
 ·simp only [if_true] at hv ⊢
  subst hv
  go_enter Tryz.func104,Tryz.ntmps104
  go_upto_region 4 with (at_builtin; refine wpList_minJ _ rfl _ _ _ rfl (b.length:Int) pw rfl rfl ?_; intro r hr1 hr2 hr3; obtain rfl:r=(b.length:Int):=by omega)
  obtain ⟨hd,hl,hb,hpd,hqd⟩:=HH.out
  have S1:Grown (fun k=>k=db) w (w.setCell ⟨db,0,none⟩ (.int .i64 (pw - b.length))):=Grown.setCell (S:=fun k=>k=db) (Grown.refl _ _) (a:=⟨db,0,none⟩) rfl _
  have D1:=hd.set 0 (.int .i64 (pw - b.length))
  have R1:=hl.grown S1 (fun g hg e=>hpd g hg e)
  have B1:=hb.grown S1 (fun g hg e=>hqd g hg e)
  simp only [List.set_cons_zero] at D1
  have hz:(w.setCell ⟨db,0,none⟩ (.int .i64 (pw - b.length))).heap.size=w.heap.size:=by simp
  have HPD:=Lib.hid hpd
  clear hd hl hb d0 d1 d2 f0 HH hpd hqd
  generalize w.setCell ⟨db,0,none⟩ (.int .i64 (pw - b.length))=w1 at *
  have q2:=D1.cell 2 (by simp)
  simp only [List.getD_cons_zero,List.getD_cons_succ] at q2
  have HCP:=Lib.hid (clip_c (.slice a l.length cap) l p w1.drew (RdP.drew R1))
  have HB:=Lib.hid (RdP.drew B1).toB
  have HD:=Lib.hid (And.intro S1 (And.intro D1 hz))
  clear S1 R1 B1 D1 hz
  go_region_law (first | (refine step_clip rfl _ _ rfl p _ l rfl hy3 _ b rfl HB.out (by omega) ?_; intro v4 w4 hy4 hb4; obtain ⟨a4,c4,rfl,_,_,_⟩:=hy4.toB.open_; rw [List.length_append] at hy4; have D4:=Blk.below (w:=w1.drew) HD.out.2.1.drew hb4; have z1:=D4.cell 2 (by simp); have y1:=D4.frozen 2; simp only [List.getD_cons_zero,List.getD_cons_succ] at z1) | (go_simp; go_at_call 139; refine HCP.out.mono ?_; rintro e w3 ⟨⟨a3,rfl,hy3⟩,rfl⟩; dsimp only))
  all_goals
   go_wp2
   go_end0
   exact ⟨rfl,_,write_end HD.out.1 HD.out.2.2 hb4 hy4 HD.out.2.1 HPD.out 2⟩
set_option maxRecDepth 100000 in
set_option maxHeartbeats 2000000 in
/-- write: there is too little power -/
theorem write_short (jb db:Nat) (k:Nat) (f:Bool) (v0 v1 vb:Value) (l b:List UInt8) (p q:Nat→Prop) (w:World) (hj:w.cell? ⟨jb,0,none⟩=some (.pointer (some ⟨db,0,none⟩))) (hd:Blk w db 29 [.int .i64 k,v0,v1]) (hl:RdP w p (if f then v1 else v0) l) (hb:RdP w q vb b) (hpw:k < b.length) (hpd:∀ g,p g→g ≠ db) (hqd:∀ g,q g→g ≠ db) (hll:l.length≤1073741824) (hbl:b.length≤1073741824) :
 Calls Tryz.prog 104 #[.pointer (some ⟨jb,0,none⟩),.int .i64 (if f then 1 else 0),vb] w fun e w'=>e=noPower ∧
  ∃ v',RdP w' (fun g=>p g∨(w.heap.size≤g∧UnB w' g)) v' (l ++ b.take k)∧Grown (fun k=>k=db) w w'∧Blk w' db 29 [.int .i64 0,if f then v0 else v',if f then v' else v1]:=by
 have hv:∃ a cap,(if f then v1 else v0)=.slice a l.length cap:=by obtain ⟨a,cap,h,_⟩:=hl.toB.open_; exact ⟨a,cap,h⟩
 obtain ⟨a,cap,hv⟩:=hv
 obtain ⟨a2,cap2,rfl,_,_,_⟩:=hb.toB.open_
 have d0:=hd.cell 0 (by simp)
 have d1:=hd.cell 1 (by simp)
 have d2:=hd.cell 2 (by simp)
 have f0:=hd.frozen 0
 simp only [List.getD_cons_zero,List.getD_cons_succ] at d0 d1 d2
 have hcap:(b.length:Int)≤(cap2:Int):=by
  rcases hb with ⟨h,rfl⟩ | ⟨g,off,c,e,h1,_⟩
  ·simp
  ·cases e; omega
 have hb0:(0:Int)≤(b.length:Int):=by omega
 have hge:(decide ((k:Int) ≥ 0))=true:=by simp
 have hlt:(decide ((k:Int) < (b.length:Int)))=true:=by simp; omega
 have hk0:(0:Int)≤(k:Int):=by omega
 have hkc:(k:Int)≤(cap2:Int):=by omega
 have hbt:=hb.cut (n:=k) (by omega)
 have hbk:(b.take k).length=k:=by rw [List.length_take]; omega
 have hkl:(b.length:Nat)≤1073741824:=hbl
 generalize b.length=bn at *
 generalize b.take k=t at *
 subst hbk
 have HH:=Lib.hid (And.intro hd (And.intro (hv ▸ hl) (And.intro hbt (And.intro hpd hqd))))
 clear hd hl hb hpd hqd hbt
 cases f
 ·simp only [Bool.false_eq_true,if_false] at hv ⊢
  subst hv
  go_enter Tryz.func104,Tryz.ntmps104
  go_upto_region 4 with (at_builtin; refine wpList_minJ _ rfl _ _ _ rfl (bn:Int) (t.length:Int) rfl rfl ?_; intro r hr1 hr2 hr3; obtain rfl:r=(t.length:Int):=by omega)
  obtain ⟨hd,hl,hb,hpd,hqd⟩:=HH.out
  have S1:Grown (fun k=>k=db) w (w.setCell ⟨db,0,none⟩ (.int .i64 (0))):=Grown.setCell (S:=fun k=>k=db) (Grown.refl _ _) (a:=⟨db,0,none⟩) rfl _
  have D1:=hd.set 0 (.int .i64 (0))
  have R1:=hl.grown S1 (fun g hg e=>hpd g hg e)
  have B1:=hb.grown S1 (fun g hg e=>hqd g hg e)
  simp only [List.set_cons_zero] at D1
  have hz:(w.setCell ⟨db,0,none⟩ (.int .i64 (0))).heap.size=w.heap.size:=by simp
  have HPD:=Lib.hid hpd
  clear hd hl hb d0 d1 d2 f0 HH hpd hqd
  generalize w.setCell ⟨db,0,none⟩ (.int .i64 (0))=w1 at *
  have q1:=D1.cell 1 (by simp)
  simp only [List.getD_cons_zero,List.getD_cons_succ] at q1
  have HCP:=Lib.hid (clip_c (.slice a l.length cap) l p w1.drew (RdP.drew R1))
  have HB:=Lib.hid (RdP.drew B1).toB
  have HD:=Lib.hid (And.intro S1 (And.intro D1 hz))
  clear S1 R1 B1 D1 hz
  go_region_law (first | (refine step_clip rfl _ _ rfl p _ l rfl hy3 _ t rfl HB.out (by omega) ?_; intro v4 w4 hy4 hb4; obtain ⟨a4,c4,rfl,_,_,_⟩:=hy4.toB.open_; rw [List.length_append] at hy4; have D4:=Blk.below (w:=w1.drew) HD.out.2.1.drew hb4; have z1:=D4.cell 1 (by simp); have y1:=D4.frozen 1; simp only [List.getD_cons_zero,List.getD_cons_succ] at z1) | (go_simp; go_at_call 139; refine HCP.out.mono ?_; rintro e w3 ⟨⟨a3,rfl,hy3⟩,rfl⟩; dsimp only))
  all_goals
   go_wp2
   exact ⟨rfl,rfl,_,write_end HD.out.1 HD.out.2.2 hb4 hy4 HD.out.2.1 HPD.out 1⟩
 ·simp only [if_true] at hv ⊢
  subst hv
  go_enter Tryz.func104,Tryz.ntmps104
  go_upto_region 4 with (at_builtin; refine wpList_minJ _ rfl _ _ _ rfl (bn:Int) (t.length:Int) rfl rfl ?_; intro r hr1 hr2 hr3; obtain rfl:r=(t.length:Int):=by omega)
  obtain ⟨hd,hl,hb,hpd,hqd⟩:=HH.out
  have S1:Grown (fun k=>k=db) w (w.setCell ⟨db,0,none⟩ (.int .i64 (0))):=Grown.setCell (S:=fun k=>k=db) (Grown.refl _ _) (a:=⟨db,0,none⟩) rfl _
  have D1:=hd.set 0 (.int .i64 (0))
  have R1:=hl.grown S1 (fun g hg e=>hpd g hg e)
  have B1:=hb.grown S1 (fun g hg e=>hqd g hg e)
  simp only [List.set_cons_zero] at D1
  have hz:(w.setCell ⟨db,0,none⟩ (.int .i64 (0))).heap.size=w.heap.size:=by simp
  have HPD:=Lib.hid hpd
  clear hd hl hb d0 d1 d2 f0 HH hpd hqd
  generalize w.setCell ⟨db,0,none⟩ (.int .i64 (0))=w1 at *
  have q2:=D1.cell 2 (by simp)
  simp only [List.getD_cons_zero,List.getD_cons_succ] at q2
  have HCP:=Lib.hid (clip_c (.slice a l.length cap) l p w1.drew (RdP.drew R1))
  have HB:=Lib.hid (RdP.drew B1).toB
  have HD:=Lib.hid (And.intro S1 (And.intro D1 hz))
  clear S1 R1 B1 D1 hz
  go_region_law (first | (refine step_clip rfl _ _ rfl p _ l rfl hy3 _ t rfl HB.out (by omega) ?_; intro v4 w4 hy4 hb4; obtain ⟨a4,c4,rfl,_,_,_⟩:=hy4.toB.open_; rw [List.length_append] at hy4; have D4:=Blk.below (w:=w1.drew) HD.out.2.1.drew hb4; have z1:=D4.cell 2 (by simp); have y1:=D4.frozen 2; simp only [List.getD_cons_zero,List.getD_cons_succ] at z1) | (go_simp; go_at_call 139; refine HCP.out.mono ?_; rintro e w3 ⟨⟨a3,rfl,hy3⟩,rfl⟩; dsimp only))
  all_goals
   go_wp2
   exact ⟨rfl,rfl,_,write_end HD.out.1 HD.out.2.2 hb4 hy4 HD.out.2.1 HPD.out 2⟩
end
section
open Go.RowKit SeedP Go.Maps
/-- block db is a disk: its files lie apart, where p holds -/
def DW (w:World) (db:Nat) (p:Nat→Prop) (d:DS):Prop:=
 ∃ v0 v1 q0 q1,Blk w db 29 [.int .i64 d.pw,v0,v1]∧RdP w q0 v0 d.f0∧RdP w q1 v1 d.f1∧(∀ g,q0 g→p g∧¬ q1 g)∧(∀ g,q1 g→p g)∧(∀ g,(q0 g∨q1 g)→g < w.heap.size∧UnB w g)
theorem DW.mono {w:World} {db:Nat} {p p':Nat→Prop} {d:DS} (h:DW w db p d) (hp:∀ g,p g→p' g):DW w db p' d:=by
 obtain ⟨v0,v1,q0,q1,h1,h2,h3,h4,h5,h6⟩:=h
 exact ⟨v0,v1,q0,q1,h1,h2,h3,fun g hg=>⟨hp g (h4 g hg).1,(h4 g hg).2⟩,fun g hg=>hp g (h5 g hg),h6⟩
theorem DW.grown {w w':World} {db:Nat} {p S:Nat→Prop} {d:DS} (h:DW w db p d) (hg:Grown S w w') (hd:¬ S db) (hp:∀ g,p g→¬ S g):DW w' db p d:=by
 obtain ⟨v0,v1,q0,q1,h1,h2,h3,h4,h5,h6⟩:=h
 exact ⟨v0,v1,q0,q1,h1.grown hg hd,h2.grown hg (fun g hq=>hp g (h4 g hq).1),h3.grown hg (fun g hq=>hp g (h5 g hq)),h4,h5,fun g hq=>⟨Nat.lt_of_lt_of_le (h6 g hq).1 hg.size,(h6 g hq).2.keep (hg.block g (h6 g hq).1 (by rcases hq with hq | hq; exact hp g (h4 g hq).1; exact hp g (h5 g hq)))⟩⟩
theorem DW.lt {w:World} {db:Nat} {p:Nat→Prop} {d:DS} (h:DW w db p d):db < w.heap.size:=by
 obtain ⟨v0,v1,q0,q1,h1,_⟩:=h; exact h1.lt
/-- a file is put: its bytes are new, or where the old ones were -/
theorem DW.put {w w':World} {db:Nat} {p q0 q1:Nat→Prop} {pw':Int} {v0 v1 v':Value} {f0 f1 l:List UInt8} {f:Bool}
 (h2:RdP w q0 v0 f0) (h3:RdP w q1 v1 f1) (h4:∀ g,q0 g→p g∧¬ q1 g) (h5:∀ g,q1 g→p g) (h6:∀ g,(q0 g∨q1 g)→g < w.heap.size∧UnB w g) (hpd:∀ g,p g→g ≠ db)
 (hr:RdP w' (fun g=>(if f then q1 g else q0 g)∨(w.heap.size≤g∧UnB w' g)) v' l) (hg:Grown (fun k=>k=db) w w') (hb:Blk w' db 29 [.int .i64 pw',if f then v0 else v',if f then v' else v1]) :
 DW w' db (fun g=>p g∨w.heap.size≤g) ((DS.mk pw' f0 f1).put f l):=by
 have hk:∀ g,(q0 g∨q1 g)→UnB w' g:=fun g hq=>(h6 g hq).2.keep (hg.block g (h6 g hq).1 (fun e=>by
  have e:g=db:=e
  rcases hq with hq | hq
  ·exact hpd g (h4 g hq).1 e
  ·exact hpd g (h5 g hq) e))
 have hl:∀ g,(q0 g∨q1 g)→g < w'.heap.size:=fun g hq=>Nat.lt_of_lt_of_le (h6 g hq).1 hg.size
 cases f with
 | false=>
   simp only [Bool.false_eq_true,if_false] at hr hb
   refine ⟨v',v1,fun g=>(q0 g∨(w.heap.size≤g∧UnB w' g))∧g < w'.heap.size,q1,hb,hr.mono (fun g hl hq=>⟨hq,hl⟩),h3.grown hg (fun g hq e=>hpd g (h5 g hq) e),?_,fun g hq=>Or.inl (h5 g hq),?_⟩
   ·intro g hq
    rcases hq.1 with hq | hq
    ·exact ⟨Or.inl (h4 g hq).1,(h4 g hq).2⟩
    ·exact ⟨Or.inr hq.1,fun h=>by have:=(h6 g (Or.inr h)).1; have:=hq.1; omega⟩
   ·intro g hq
    rcases hq with ⟨hq | hq,hlt⟩ | hq
    ·exact ⟨hlt,hk g (Or.inl hq)⟩
    ·exact ⟨hlt,hq.2⟩
    ·exact ⟨hl g (Or.inr hq),hk g (Or.inr hq)⟩
 | true=>
   simp only [if_true] at hr hb
   refine ⟨v0,v',q0,fun g=>(q1 g∨(w.heap.size≤g∧UnB w' g))∧g < w'.heap.size,hb,h2.grown hg (fun g hq e=>hpd g (h4 g hq).1 e),hr.mono (fun g hl hq=>⟨hq,hl⟩),?_,?_,?_⟩
   ·intro g hq
    refine ⟨Or.inl (h4 g hq).1,fun h=>?_⟩
    rcases h.1 with h | h
    ·exact (h4 g hq).2 h
    ·have:=(h6 g (Or.inl hq)).1
     have:=h.1
     omega
   ·intro g hq
    rcases hq.1 with hq | hq
    ·exact Or.inl (h5 g hq)
    ·exact Or.inr hq.1
   ·intro g hq
    rcases hq with hq | ⟨hq | hq,hlt⟩
    ·exact ⟨hl g (Or.inl hq),hk g (Or.inl hq)⟩
    ·exact ⟨hlt,hk g (Or.inr hq)⟩
    ·exact ⟨hlt,hq.2⟩
theorem cut_dw (jb db:Nat) (f:Bool) (n:Nat) (d:DS) (p:Nat→Prop) (w:World) (hj:w.cell? ⟨jb,0,none⟩=some (.pointer (some ⟨db,0,none⟩))) (hD:DW w db p d) (hd:d.Ok) (hn:n≤(d.get f).length) (hp:∀ g,p g→g ≠ db) :
 Calls Tryz.prog 102 #[.pointer (some ⟨jb,0,none⟩),.int .i64 (if f then 1 else 0),.int .i64 n] w fun e w'=>e=(if (dCut f n d).2 then .returned (.tuple #[]) else noPower)∧DW w' db (fun g=>p g∨w.heap.size≤g) (dCut f n d).1∧Grown (fun k=>k=db) w w':=by
 have hD':=hD
 obtain ⟨v0,v1,q0,q1,h1,h2,h3,h4,h5,h6⟩:=hD
 have hl:RdP w (fun g=>if f then q1 g else q0 g) (if f then v1 else v0) (d.get f):=by
  cases f
  ·simpa [DS.get] using h2
  ·simpa [DS.get] using h3
 have hfl:=hd.get f
 have hpd:∀ g,(if f then q1 g else q0 g)→g ≠ db:=by
  intro g hq
  cases f
  ·exact hp g (h4 g (by simpa using hq)).1
  ·exact hp g (h5 g (by simpa using hq))
 by_cases e1:(d.get f).length=n
 ·have hc:dCut f n d=(d,true):=by unfold dCut; rw [if_pos e1]
  rw [hc]
  subst e1
  refine (cut_same jb db d.pw f v0 v1 (d.get f) _ w hj h1 hl).mono ?_
  rintro e w' ⟨rfl,rfl⟩
  exact ⟨rfl,hD'.mono (fun g hg=>Or.inl hg),Grown.refl _ _⟩
 ·by_cases e2:d.pw=0
  ·have hc:dCut f n d=(d,false):=by unfold dCut; rw [if_neg e1,if_pos e2]
   rw [hc]
   refine (cut_fail jb db f v0 v1 (d.get f) n _ w hj (by rw [← e2]; exact h1) hl (by omega)).mono ?_
   rintro e w' ⟨rfl,rfl⟩
   exact ⟨rfl,hD'.mono (fun g hg=>Or.inl hg),Grown.refl _ _⟩
  ·have hc:dCut f n d=((DS.mk (if 0 < d.pw then d.pw - 1 else d.pw) d.f0 d.f1).put f ((d.get f).take n),true):=by unfold dCut; rw [if_neg e1,if_neg e2]
   rw [hc]
   refine (cut_done jb db d.pw f v0 v1 (d.get f) n _ w hj h1 hl (by omega) e2 hd.pw0 hd.pw1 hpd (by omega)).mono ?_
   rintro e w' ⟨rfl,v',hy,hg,hb⟩
   refine ⟨rfl,?_,hg⟩
   have hr:RdP w' (fun g=>(if f then q1 g else q0 g)∨(w.heap.size≤g∧UnB w' g)) v' ((d.get f).take n):=RdP.ownU hy (fun g hg _ hu=>Or.inr ⟨hg,hu⟩)
   exact DW.put h2 h3 h4 h5 h6 hp hr hg hb
theorem write_dw (jb db:Nat) (f:Bool) (vb:Value) (b:List UInt8) (d:DS) (p q:Nat→Prop) (w:World) (hj:w.cell? ⟨jb,0,none⟩=some (.pointer (some ⟨db,0,none⟩))) (hD:DW w db p d) (hd:d.Ok) (hb:RdP w q vb b) (hbl:b.length≤1073741824) (hp:∀ g,p g→g ≠ db) (hq:∀ g,q g→g ≠ db) :
 Calls Tryz.prog 104 #[.pointer (some ⟨jb,0,none⟩),.int .i64 (if f then 1 else 0),vb] w fun e w'=>e=(if (dWrite f b d).2 then .returned (.tuple #[]) else noPower)∧DW w' db (fun g=>p g∨w.heap.size≤g) (dWrite f b d).1∧Grown (fun k=>k=db) w w':=by
 obtain ⟨v0,v1,q0,q1,h1,h2,h3,h4,h5,h6⟩:=hD
 have hl:RdP w (fun g=>if f then q1 g else q0 g) (if f then v1 else v0) (d.get f):=by
  cases f
  ·simpa [DS.get] using h2
  ·simpa [DS.get] using h3
 have hfl:=hd.get f
 have hpd:∀ g,(if f then q1 g else q0 g)→g ≠ db:=by
  intro g hq
  cases f
  ·exact hp g (h4 g (by simpa using hq)).1
  ·exact hp g (h5 g (by simpa using hq))
 by_cases e1:d.pw < 0
 ·have hc:dWrite f b d=(d.put f (d.get f ++ b),true):=by unfold dWrite; rw [if_pos e1]
  rw [hc]
  refine (write_full jb db d.pw f v0 v1 vb (d.get f) b _ q w hj h1 hl hb e1 hpd (by omega) hbl).mono ?_
  rintro e w' ⟨rfl,v',hr,hg,hbk⟩
  exact ⟨rfl,DW.put h2 h3 h4 h5 h6 hp hr hg hbk,hg⟩
 ·by_cases e2:(b.length:Int)≤d.pw
  ·have hc:dWrite f b d=((DS.mk (d.pw - b.length) d.f0 d.f1).put f (d.get f ++ b),true):=by unfold dWrite; rw [if_neg e1,if_pos e2]
   rw [hc]
   refine (write_fits jb db d.pw f v0 v1 vb (d.get f) b _ q w hj h1 hl hb e2 hd.pw1 hpd hq (by omega) hbl).mono ?_
   rintro e w' ⟨rfl,v',hr,hg,hbk⟩
   exact ⟨rfl,DW.put h2 h3 h4 h5 h6 hp hr hg hbk,hg⟩
  ·have hc:dWrite f b d=((DS.mk 0 d.f0 d.f1).put f (d.get f ++ b.take d.pw.toNat),false):=by unfold dWrite; rw [if_neg e1,if_neg e2]
   rw [hc]
   have hk:d.pw=(d.pw.toNat:Int):=by omega
   refine (write_short jb db d.pw.toNat f v0 v1 vb (d.get f) b _ q w hj (by rw [← hk]; exact h1) hl hb (by omega) hpd hq (by omega) hbl).mono ?_
   rintro e w' ⟨rfl,v',hr,hg,hbk⟩
   exact ⟨rfl,DW.put h2 h3 h4 h5 h6 hp hr hg hbk,hg⟩
end
end Go.Proofs.YtbcfpdlhieaepaaGreatDoor
