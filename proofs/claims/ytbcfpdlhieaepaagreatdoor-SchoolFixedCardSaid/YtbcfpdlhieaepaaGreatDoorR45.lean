/- What the row's list gives: the steps of mixing lie where the program's text lays them. -/
import Derived.Test.YtbcfpdlhieaepaaGreatDoorCards
import Derived.Test.YtbcfpdlhieaepaaGreatDoorTie
import Derived.Test.YtbcfpdlhieaepaaGreatDoorR02
import Derived.ProofKit
import Derived.OpenShut
import Derived.LaidMore
import Derived.Deep.DeepHandedRow
import Derived.Lib.LaidTab
import Derived.SizedLaws
import Derived.Deep.Slices
import Derived.Deep.Fields
import Derived.ChangeSame
import Derived.Test.YtbcfpdlhieaepaaGreatDoorR28
import Derived.Test.YtbcfpdlhieaepaaGreatDoorR42
import Derived.Test.YtbcfpdlhieaepaaGreatDoorR04
namespace Go.Proofs.YtbcfpdlhieaepaaGreatDoor
section
section
open Go.ChangeShapes Go.WideShapes Go.ChangeAt Go.RowKit
theorem own:ownKnob Tryz.prog.godebug=none:=by kernel_rfl
theorem laidOut:laidOutB Tryz.prog=true:=by kernel_rfl
theorem gS:Tryz.prog.globalNamed "lyceum/seed.steps"=some 0:=by kernel_rfl
theorem tS:(Tryz.prog.globals[0]?).map (·.type)=some 231:=by kernel_rfl
theorem cellsA:Tryz.prog.cellsOf 231=6:=by kernel_rfl
theorem cellsS:Tryz.prog.cellsOf 230=2:=by kernel_rfl
theorem cellsU:Tryz.prog.cellsOf 142=1:=by kernel_rfl
theorem cellsW:Tryz.prog.cellsOf 99=1:=by kernel_rfl
/-- one step of mixing, read -/
theorem step_read {W:World} {H:Type} {enc:TypeId × Value→H} {base:Nat} {sp:Nat→Bool} {held:Bool} {fuel:Nat} {a b:Value} {x y:Int} {q:List MemPlace}
 (h:DataW.trod enc Tryz.prog W base sp held fuel 230 [a,b]=some (.agg [.lit (.int .u64 x),.lit (.int .u64 y)],q)):a=.int .u64 x∧b=.int .u64 y:=by
 obtain ⟨y0,y1,n,hx,_,h0,h1⟩:=trod_struct2 Tryz.underlying230 h
 simp only [cellsU,cellsW,List.drop_zero,List.take_succ_cons,List.take_zero,List.drop_succ_cons] at h0 h1
 obtain ⟨k0,e0,r0,_⟩:=DataW.trod_int Tryz.underlying142 h0
 obtain ⟨k1,e1,r1,_⟩:=DataW.trod_int Tryz.underlying99 h1
 subst r0 r1
 simp only [Prod.mk.injEq,DataW.agg.injEq,List.cons.injEq,DataW.lit.injEq,Lit.int.injEq,true_and,and_true] at hx
 obtain ⟨⟨rfl,rfl⟩,_⟩:=hx
 simp only [List.cons.injEq,and_true] at e0 e1
 exact ⟨e0,e1⟩
set_option maxRecDepth 100000 in
theorem steps_of_laid {W:World} (h:laidMetH Tryz.prog [("lyceum/seed.steps",Rows.laid_lyceum_seed_steps)] W):St W:=by
 rw [MakeChecks.laidMetH_plain _ _ _ (by kernel_rfl)] at h
 obtain ⟨ps,⟨g0,t0,cs0,f0,p0,q0,hg0,ht0,hv0,hd0,_,_⟩,_,_⟩:=h
 obtain rfl:=Option.some.inj (gS.symm.trans hg0)
 obtain rfl:=Option.some.inj (tS.symm.trans ht0)
 obtain ⟨xs,m,rfl,hx,hlen,hn3,hel⟩:=DataW.trod_array Tryz.underlying231 hd0
 rw [cellsA] at hlen
 have hc:∀ i,W.cell? ⟨0,i,none⟩=cs0[i]?:=fun i=>World.var?_cell gS hv0 i
 obtain ⟨l⟩:=cs0
 match l,hlen with
 | [a0,a1,a2,a3,a4,a5],_=>
   match xs,hn3 with
   | [x0,x1,x2],_=>
     have e0:=hel 0 (by decide)
     have e1:=hel 1 (by decide)
     have e2:=hel 2 (by decide)
     simp [cellsS] at e0 e1 e2
     unfold Rows.laid_lyceum_seed_steps at hx
     simp only [Prod.mk.injEq,DataW.agg.injEq,List.map_cons,List.map_nil,List.cons.injEq,and_true] at hx
     obtain ⟨⟨r0,r1,r2⟩,_⟩:=hx
     obtain ⟨d0,q0⟩:=x0
     obtain ⟨d1,q1⟩:=x1
     obtain ⟨d2,q2⟩:=x2
     simp only at r0 r1 r2
     subst r0 r1 r2
     obtain ⟨rfl,rfl⟩:=step_read e0
     obtain ⟨rfl,rfl⟩:=step_read e1
     obtain ⟨rfl,rfl⟩:=step_read e2
     exact ⟨hc 0,hc 1,hc 2,hc 3,hc 4,hc 5⟩
/-- A WORLD FOR THE WITNESS: the settled one, the steps (block 0) holding what their initialiser lays. -/
noncomputable def laidWorld (os:Os):World:=
 { World.holding Tryz.prog os ⟨#[],#[],[]⟩ with heap:=(World.holding Tryz.prog os ⟨#[],#[],[]⟩).heap.modify 0 fun
  | .cells _ t frozen=>.cells #[.int .u64 30,.int .u64 13787848793156543929,.int .u64 27,.int .u64 10723151780598845931,.int .u64 31,.int .u64 1] t frozen
  | o=>o }
theorem laid_met (os:Os) (args:Array Value):laidMet Tryz.prog [("lyceum/seed.steps",Rows.laid_lyceum_seed_steps)] ((laidWorld os).forCall (fun _ _=>0) ⟨#[],args,[]⟩).memory:=
 laidMet_of_run' 8 (by kernel_rfl) (by kernel_rfl)
end
end
section
section
open Go.ChangeShapes Go.WideShapes Go.ChangeAt Go.RowKit Go.Deep
theorem list_of {α:Type} {R:Nat→α→Prop}:∀ n,(∀ i,i < n→∃ x,R i x)→∃ L:List α,L.length=n∧∀ i (h:i < L.length),R i L[i]
 | 0,_=>⟨[],rfl,fun i h=>by simp at h⟩
 | n+1,h=>by
   obtain ⟨L,hl,hL⟩:=list_of n (fun i hi=>h i (by omega))
   obtain ⟨x,hx⟩:=h n (by omega)
   refine ⟨L ++ [x],by simp [hl],fun i hi=>?_⟩
   rw [List.length_append,List.length_singleton] at hi
   by_cases hlt:i < L.length
   ·rw [List.getElem_append_left hlt]; exact hL i hlt
   ·obtain rfl:i=L.length:=by omega
    rw [List.getElem_append_right (Nat.le_refl _)]
    simp only [Nat.sub_self,List.getElem_cons_zero]
    rw [hl]; exact hx
/-- the rows of a slice -/
theorem rows_of {W:World} {a:Addr} {m len c:Nat} {Q:List Value→Prop} (hc0:0 < c) (hi:∀ i,i < m→∃ cs',W.cells? 0 (a.add (i * c)) c=some cs'∧Q cs') (hl:len≤m) (h0:0 < len) :
 ∃ g off,a=⟨g,off,none⟩∧g < W.heap.size∧∀ i,i < len→∃ cs',Q cs'∧cs'.length=c∧∀ o,o < c→W.cell? ⟨g,off+i * c+o,none⟩=cs'[o]?:=by
 obtain ⟨g,off,spot⟩:=a
 have hone:∀ i,i < len→∃ cs',Q cs'∧cs'.length=c∧∀ o,o < c→W.cell? ((⟨g,off,spot⟩:Addr).add (i * c+o))=cs'[o]?:=by
  intro i hi'
  obtain ⟨cs',hc,hq⟩:=hi i (by omega)
  obtain ⟨_,hlen,hat⟩:=World.cells?_some hc
  refine ⟨cs',hq,hlen,fun o ho=>?_⟩
  rw [← add_add]
  exact hat o ho
 have hspot:spot=none:=by
  obtain ⟨cs',_,hlen,hc⟩:=hone 0 h0
  obtain ⟨v,hv⟩:∃ v,cs'[0]?=some v:=⟨cs'[0]'(by omega),List.getElem?_eq_getElem (by omega)⟩
  have:=World.cell?_spot ((hc 0 hc0).trans hv)
  simpa [Addr.add] using this
 subst hspot
 have hlt:g < W.heap.size:=by
  obtain ⟨cs',_,hlen,hc⟩:=hone 0 h0
  obtain ⟨v,hv⟩:∃ v,cs'[0]?=some v:=⟨cs'[0]'(by omega),List.getElem?_eq_getElem (by omega)⟩
  have:=World.block_lt_of_cell? W _ ((hc 0 hc0).trans hv)
  simpa [Addr.add] using this
 refine ⟨g,off,rfl,hlt,fun i hi'=>?_⟩
 obtain ⟨cs',hq,hlen,hc⟩:=hone i hi'
 refine ⟨cs',hq,hlen,fun o ho=>?_⟩
 have e:(⟨g,off,none⟩:Addr).add (i * c+o)=⟨g,off+(i * c+o),none⟩:=by unfold Addr.add; split <;> simp_all
 rw [← Nat.add_assoc] at e
 rw [← e]; exact hc o ho
section
variable {H:Type} {enc:TypeId × Value→H} {W:World} {held:Bool} {fuel:Nat}
theorem cellsB:Tryz.prog.cellsOf 5=1:=by kernel_rfl
theorem cellsI:Tryz.prog.cellsOf 3=1:=by kernel_rfl
theorem cellsStr:Tryz.prog.cellsOf 9=1:=by kernel_rfl
theorem cellsBs:Tryz.prog.cellsOf 26=1:=by kernel_rfl
theorem read_str {cs:List Value} {x:DataW H × List MemPlace} (h:DataW.trod enc Tryz.prog W 0 (fun _=>true) held fuel 9 cs=some x):∃ l:List UInt8,cs=[strV l]∧l.length≤maxLen:=by
 obtain ⟨s,rfl,_,hs⟩:=DataW.trod_string Tryz.underlying9 h
 refine ⟨s.data.toList,by cases s; simp,?_⟩
 have e:s.data.toList.length=s.size:=by rw [Array.length_toList]; rfl
 omega
set_option maxRecDepth 100000 in
theorem read_bytes {cs:List Value} {x:DataW H × List MemPlace} (h:DataW.trod enc Tryz.prog W 0 (fun _=>true) held fuel 26 cs=some x):∃ v l,cs=[v]∧RdB W W.heap.size v l:=by
 rcases open_slice Tryz.underlying26 h with ⟨rfl,_⟩ | ⟨a,len,cap,m,n,D,Pl,rfl,_,hl,hm,hmm,_,hi⟩
 ·exact ⟨_,[],rfl,Or.inl ⟨Or.inl rfl,rfl⟩⟩
 simp only [if_true] at hmm
 subst hmm
 rw [cellsB] at hi
 by_cases h0:len=0
 ·subst h0
  exact ⟨_,[],rfl,Or.inl ⟨Or.inr ⟨_,_,rfl⟩,rfl⟩⟩
 obtain ⟨g,off,rfl,hg,hr⟩:=rows_of (c:=1) (Q:=fun cs'=>∃ b:UInt8,cs'=[.int .u8 b.toNat]) (by decide) (fun i hi'=>by
  obtain ⟨cs',h1,h2⟩:=hi i hi'
  refine ⟨cs',h1,?_⟩
  obtain ⟨k,e,_,hw⟩:=DataW.trod_int Tryz.underlying5 h2
  have hb:=bounds_u8 hw
  refine ⟨UInt8.ofNat k.toNat,?_⟩
  have h3:((UInt8.ofNat k.toNat).toNat:Int)=k:=by rw [UInt8.toNat_ofNat']; omega
  rw [e,h3]) hl (by omega)
 obtain ⟨L,hL,hc⟩:=list_of (R:=fun i (b:UInt8)=>W.cell? ⟨g,off+i,none⟩=some (.int .u8 b.toNat)) len (fun i hi'=>by
  obtain ⟨cs',⟨b,rfl⟩,_,hcc⟩:=hr i hi'
  have:=hcc 0 (by omega)
  rw [Nat.mul_one,Nat.add_zero] at this
  exact ⟨b,this⟩)
 subst hL
 refine ⟨_,L,rfl,Or.inr ⟨g,off,_,rfl,hl,hm,hg,fun j hj=>?_⟩⟩
 rw [hc j hj]
 simp [List.getD_eq_getElem?_getD,hj]
theorem cellsTk:Tryz.prog.cellsOf 35=7:=by kernel_rfl
theorem cellsAc:Tryz.prog.cellsOf 37=13:=by kernel_rfl
theorem read_int {cs:List Value} {x:DataW H × List MemPlace} (h:DataW.trod enc Tryz.prog W 0 (fun _=>true) held fuel 3 cs=some x):∃ k,cs=[.int .i64 k]∧ -9223372036854775808≤k∧k≤9223372036854775807:=by
 obtain ⟨k,e,_,hw⟩:=DataW.trod_int Tryz.underlying3 h
 have hb:=bounds_i64 hw
 exact ⟨k,e,hb.1,hb.2⟩
set_option maxRecDepth 100000 in
theorem read_task {cs:List Value} {x:DataW H × List MemPlace} (h:DataW.trod enc Tryz.prog W 0 (fun _=>true) held fuel 35 cs=some x):∃ vb,∃ t:TaskP,cs=[strV t.cls,strV t.name,.int .i64 t.frm,.int .i64 t.due,.int .i64 t.late,.int .i64 t.tries,vb]∧RdB W W.heap.size vb t.body ∧
 (-9223372036854775808≤t.frm∧t.frm≤9223372036854775807)∧(-9223372036854775808≤t.due∧t.due≤9223372036854775807)∧(-9223372036854775808≤t.late∧t.late≤9223372036854775807)∧(-9223372036854775808≤t.tries∧t.tries≤9223372036854775807):=by
 obtain ⟨xs,n,rfl,rfl,hlen,hxl,hf⟩:=DataW.trod_struct Tryz.underlying35 h
 rw [cellsTk] at hlen
 match cs,hlen with
 | [c0,c1,c2,c3,c4,c5,c6],_=>
   match xs,hxl with
   | [y0,y1,y2,y3,y4,y5,y6],_=>
     have e0:=hf 0 _ rfl
     have e1:=hf 1 _ rfl
     have e2:=hf 2 _ rfl
     have e3:=hf 3 _ rfl
     have e4:=hf 4 _ rfl
     have e5:=hf 5 _ rfl
     have e6:=hf 6 _ rfl
     simp [cellsI,cellsStr,cellsBs] at e0 e1 e2 e3 e4 e5 e6
     obtain ⟨k0,q0,_⟩:=read_str e0
     obtain ⟨k1,q1,_⟩:=read_str e1
     obtain ⟨k2,q2,b2⟩:=read_int e2
     obtain ⟨k3,q3,b3⟩:=read_int e3
     obtain ⟨k4,q4,b4⟩:=read_int e4
     obtain ⟨k5,q5,b5⟩:=read_int e5
     obtain ⟨v,l,q6,hr⟩:=read_bytes e6
     simp only [List.cons.injEq,and_true] at q0 q1 q2 q3 q4 q5 q6
     subst q0 q1 q2 q3 q4 q5 q6
     exact ⟨_,⟨k0,k1,k2,k3,k4,k5,l⟩,rfl,hr,b2,b3,b4,b5⟩
set_option maxRecDepth 100000 in
theorem read_act {cs:List Value} {x:DataW H × List MemPlace} (h:DataW.trod enc Tryz.prog W 0 (fun _=>true) held fuel 37 cs=some x):∃ vb vt,∃ a:SActP,cs=actCells a vb vt∧RdB W W.heap.size vb a.task.body∧RdB W W.heap.size vt a.text∧a.Nums:=by
 obtain ⟨xs,n,rfl,rfl,hlen,hxl,hf⟩:=DataW.trod_struct Tryz.underlying37 h
 rw [cellsAc] at hlen
 match cs,hlen with
 | [c0,c1,c2,c3,c4,c5,c6,c7,c8,c9,c10,c11,c12],_=>
   match xs,hxl with
   | [y0,y1,y2,y3,y4,y5,y6],_=>
     have e0:=hf 0 _ rfl
     have e1:=hf 1 _ rfl
     have e2:=hf 2 _ rfl
     have e3:=hf 3 _ rfl
     have e4:=hf 4 _ rfl
     have e5:=hf 5 _ rfl
     have e6:=hf 6 _ rfl
     simp [cellsI,cellsStr,cellsBs,cellsTk] at e0 e1 e2 e3 e4 e5 e6
     obtain ⟨k0,q0,b0⟩:=read_int e0
     obtain ⟨k1,q1,_⟩:=read_str e1
     obtain ⟨k2,q2,_⟩:=read_str e2
     obtain ⟨vb,t,q3,hr3,b3,b4,b5,b6⟩:=read_task e3
     obtain ⟨k4,q4,c4⟩:=read_int e4
     obtain ⟨k5,q5,c5⟩:=read_int e5
     obtain ⟨vt,l,q6,hr6⟩:=read_bytes e6
     simp only [List.cons.injEq,and_true] at q0 q1 q2 q3 q4 q5 q6
     obtain ⟨rfl,rfl,rfl,rfl,rfl,rfl,rfl⟩:=q3
     subst q0 q1 q2 q4 q5 q6
     exact ⟨_,_,⟨k0,k1,k2,t,k4,k5,l⟩,rfl,hr3,hr6,⟨b0.1,b0.2,c4.1,c4.2,c5.1,c5.2,b3.1,b3.2,b4.1,b4.2,b5.1,b5.2,b6.1,b6.2⟩⟩
set_option maxRecDepth 100000 in
/-- a slice of acts -/
theorem open_acts {base:Nat} {v:Value} {d:DataW H} {ps:List MemPlace} (hval:Value.okWide Tryz.prog W .any base 22 v) (h:DataW.Trod enc Tryz.prog W 0 (fun _=>true) true 22 v d ps) :
 ∃ L:List SActP,SActsAt W W.heap.size v L∧∀ a ∈ L,a.Nums:=by
 obtain ⟨a0,len,cap,rfl⟩:=okWide_slice Tryz.underlying22 hval
 obtain ⟨fuel,hf⟩:=h
 rcases open_slice Tryz.underlying22 hf with ⟨hcs,_⟩ | ⟨a,len',cap',m,n,D,Pl,hcs,_,hl,hm,hmm,_,hi⟩
 ·simp [Value.cells] at hcs
  obtain ⟨rfl,rfl,rfl⟩:=hcs
  exact ⟨[],⟨none,0,rfl,Nat.le_refl _,Nat.zero_le _,Or.inl rfl⟩,fun s hs=>by cases hs⟩
 simp [Value.cells] at hcs
 obtain ⟨rfl,rfl,rfl⟩:=hcs
 simp only [if_true] at hmm
 subst hmm
 rw [cellsAc] at hi
 by_cases h0:len=0
 ·subst h0
  exact ⟨[],⟨_,_,rfl,Nat.zero_le _,hm,Or.inl rfl⟩,fun s hs=>by cases hs⟩
 obtain ⟨g,off,rfl,hg,hr⟩:=rows_of (c:=13) (Q:=fun cs'=>∃ vb vt,∃ a:SActP,cs'=actCells a vb vt∧RdB W W.heap.size vb a.task.body∧RdB W W.heap.size vt a.text∧a.Nums) (by decide) (fun i hi'=>by
  obtain ⟨cs',h1,h2⟩:=hi i hi'
  exact ⟨cs',h1,read_act h2⟩) hl (by omega)
 obtain ⟨L,hL,hc⟩:=list_of (R:=fun i (a:SActP)=>SActIn W W.heap.size g (off+i * 13) a∧a.Nums) len (fun i hi'=>by
  obtain ⟨cs',⟨vb,vt,a,rfl,h1,h2,h3⟩,_,hcc⟩:=hr i hi'
  exact ⟨a,⟨vb,vt,hcc,h1,h2⟩,h3⟩)
 subst hL
 refine ⟨L,⟨_,_,rfl,hl,hm,Or.inr ⟨g,off,rfl,hg,fun j hj=>(hc j hj).1⟩⟩,fun s hs=>?_⟩
 obtain ⟨i,hi',rfl⟩:=List.mem_iff_getElem.1 hs
 exact (hc i hi').2
end
end
end
section
open Go.RowKit SeedP Go.Maps
set_option linter.unusedSectionVars false
set_option linter.unusedSimpArgs false
set_option linter.unusedVariables false
section
variable (ρ:Operand→Value) (d:Option Tmp) (ty:TypeId) (pos:String) (af:Array Edge) (gd:Option (Nat × Bool)) (w:World)
theorem yr_lds (x:Operand) (ad:Addr) (v:Value) (hx:ρ x=.pointer (some ad)) (hc:w.cell? ad=some v) :
 (execOp ρ ⟨d,.load 9 x,ty,pos,af,gd⟩).run Tryz.prog w=.ok (.value v) w:=by
 simp [go_sem,hx,hc]
theorem yr_nes (x y:Operand) (l:List UInt8) (hx:ρ x=strV l) (hy:ρ y=strV l) :
 (execOp ρ ⟨d,.binOp .neq 9 x y 9,ty,pos,af,gd⟩).run Tryz.prog w=.ok (.value (.bool false)) w:=by
 simp [go_sem,hx,hy]
theorem yr_att (x y:Operand) (g n c i:Nat) (hx:ρ x=.slice (some ⟨g,0,none⟩) n c) (hy:ρ y=.int .i64 (i:Int)) (hi:i < n) :
 (execOp ρ ⟨d,.indexAddr 67 x y,ty,pos,af,gd⟩).run Tryz.prog w=.ok (.value (.pointer (some ⟨g,i * 7,none⟩))) w:=by
 have b1:(i:Int) < n:=by omega
 simp [go_sem,hx,hy,b1]
end
end
end Go.Proofs.YtbcfpdlhieaepaaGreatDoor
