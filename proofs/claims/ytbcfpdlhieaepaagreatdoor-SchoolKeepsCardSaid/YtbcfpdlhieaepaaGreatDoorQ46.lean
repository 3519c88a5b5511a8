/- What a row's lists of acts give: acts lie in memory as the walks read them. -/
import Derived.Test.YtbcfpdlhieaepaaGreatDoorQ45
import Derived.Test.YtbcfpdlhieaepaaGreatDoorQ28
import Derived.Test.YtbcfpdlhieaepaaGreatDoorQ43
namespace Go.Proofs.YtbcfpdlhieaepaaGreatDoor
section
section
open Go.ChangeShapes Go.WideShapes Go.ChangeAt Go.RowKit Go.Deep
theorem list_of {α:Type} {R:Nat→α→Prop}:∀ n,(∀ i,i < n→∃ x,R i x)→∃ L:List α,L.length=n∧∀ i (h:i < L.length),R i L[i]
 | 0,_=>⟨[],rfl,fun i h=>by simp at h⟩
 | n+1,h=>by
   obtain ⟨L,hl,hL⟩:=list_of n (fun i hi=>h i (by omega))
   obtain ⟨x,hx⟩:=h n (by omega)
   refine ⟨L ++ [x],by simp [hl],fun i hi=>?_⟩
   rw [List.length_append,List.length_singleton] at hi
   by_cases hlt:i < L.length
   ·rw [List.getElem_append_left hlt]; exact hL i hlt
   ·obtain rfl:i=L.length:=by omega
    rw [List.getElem_append_right (Nat.le_refl _)]
    simp only [Nat.sub_self,List.getElem_cons_zero]
    rw [hl]; exact hx
/-- the rows of a slice -/
theorem rows_of {W:World} {a:Addr} {m len c:Nat} {Q:List Value→Prop} (hc0:0 < c) (hi:∀ i,i < m→∃ cs',W.cells? 0 (a.add (i * c)) c=some cs'∧Q cs') (hl:len≤m) (h0:0 < len) :
 ∃ g off,a=⟨g,off,none⟩∧g < W.heap.size∧∀ i,i < len→∃ cs',Q cs'∧cs'.length=c∧∀ o,o < c→W.cell? ⟨g,off+i * c+o,none⟩=cs'[o]?:=by
 obtain ⟨g,off,spot⟩:=a
 have hone:∀ i,i < len→∃ cs',Q cs'∧cs'.length=c∧∀ o,o < c→W.cell? ((⟨g,off,spot⟩:Addr).add (i * c+o))=cs'[o]?:=by
  intro i hi'
  obtain ⟨cs',hc,hq⟩:=hi i (by omega)
  obtain ⟨_,hlen,hat⟩:=World.cells?_some hc
  refine ⟨cs',hq,hlen,fun o ho=>?_⟩
  rw [← add_add]
  exact hat o ho
 have hspot:spot=none:=by
  obtain ⟨cs',_,hlen,hc⟩:=hone 0 h0
  obtain ⟨v,hv⟩:∃ v,cs'[0]?=some v:=⟨cs'[0]'(by omega),List.getElem?_eq_getElem (by omega)⟩
  have:=World.cell?_spot ((hc 0 hc0).trans hv)
  simpa [Addr.add] using this
 subst hspot
 have hlt:g < W.heap.size:=by
  obtain ⟨cs',_,hlen,hc⟩:=hone 0 h0
  obtain ⟨v,hv⟩:∃ v,cs'[0]?=some v:=⟨cs'[0]'(by omega),List.getElem?_eq_getElem (by omega)⟩
  have:=World.block_lt_of_cell? W _ ((hc 0 hc0).trans hv)
  simpa [Addr.add] using this
 refine ⟨g,off,rfl,hlt,fun i hi'=>?_⟩
 obtain ⟨cs',hq,hlen,hc⟩:=hone i hi'
 refine ⟨cs',hq,hlen,fun o ho=>?_⟩
 have e:(⟨g,off,none⟩:Addr).add (i * c+o)=⟨g,off+(i * c+o),none⟩:=by unfold Addr.add; split <;> simp_all
 rw [← Nat.add_assoc] at e
 rw [← e]; exact hc o ho
section
variable {H:Type} {enc:TypeId × Value→H} {W:World} {held:Bool} {fuel:Nat}
theorem cellsB:Tryz.prog.cellsOf 5=1:=by kernel_rfl
theorem cellsI:Tryz.prog.cellsOf 3=1:=by kernel_rfl
theorem cellsStr:Tryz.prog.cellsOf 9=1:=by kernel_rfl
theorem cellsBs:Tryz.prog.cellsOf 26=1:=by kernel_rfl
theorem read_str {cs:List Value} {x:DataW H × List MemPlace} (h:DataW.trod enc Tryz.prog W 0 (fun _=>true) held fuel 9 cs=some x):∃ l:List UInt8,cs=[strV l]∧l.length≤maxLen:=by
 obtain ⟨s,rfl,_,hs⟩:=DataW.trod_string Tryz.underlying9 h
 refine ⟨s.data.toList,by cases s; simp,?_⟩
 have e:s.data.toList.length=s.size:=by rw [Array.length_toList]; rfl
 omega
set_option maxRecDepth 100000 in
theorem read_bytes {cs:List Value} {x:DataW H × List MemPlace} (h:DataW.trod enc Tryz.prog W 0 (fun _=>true) held fuel 26 cs=some x):∃ v l,cs=[v]∧RdB W W.heap.size v l:=by
 rcases open_slice Tryz.underlying26 h with ⟨rfl,_⟩ | ⟨a,len,cap,m,n,D,Pl,rfl,_,hl,hm,hmm,_,hi⟩
 ·exact ⟨_,[],rfl,Or.inl ⟨Or.inl rfl,rfl⟩⟩
 simp only [if_true] at hmm
 subst hmm
 rw [cellsB] at hi
 by_cases h0:len=0
 ·subst h0
  exact ⟨_,[],rfl,Or.inl ⟨Or.inr ⟨_,_,rfl⟩,rfl⟩⟩
 obtain ⟨g,off,rfl,hg,hr⟩:=rows_of (c:=1) (Q:=fun cs'=>∃ b:UInt8,cs'=[.int .u8 b.toNat]) (by decide) (fun i hi'=>by
  obtain ⟨cs',h1,h2⟩:=hi i hi'
  refine ⟨cs',h1,?_⟩
  obtain ⟨k,e,_,hw⟩:=DataW.trod_int Tryz.underlying5 h2
  have hb:=bounds_u8 hw
  refine ⟨UInt8.ofNat k.toNat,?_⟩
  have h3:((UInt8.ofNat k.toNat).toNat:Int)=k:=by rw [UInt8.toNat_ofNat']; omega
  rw [e,h3]) hl (by omega)
 obtain ⟨L,hL,hc⟩:=list_of (R:=fun i (b:UInt8)=>W.cell? ⟨g,off+i,none⟩=some (.int .u8 b.toNat)) len (fun i hi'=>by
  obtain ⟨cs',⟨b,rfl⟩,_,hcc⟩:=hr i hi'
  have:=hcc 0 (by omega)
  rw [Nat.mul_one,Nat.add_zero] at this
  exact ⟨b,this⟩)
 subst hL
 refine ⟨_,L,rfl,Or.inr ⟨g,off,_,rfl,hl,hm,hg,fun j hj=>?_⟩⟩
 rw [hc j hj]
 simp [List.getD_eq_getElem?_getD,hj]
theorem cellsTk:Tryz.prog.cellsOf 35=7:=by kernel_rfl
theorem cellsAc:Tryz.prog.cellsOf 37=13:=by kernel_rfl
theorem read_int {cs:List Value} {x:DataW H × List MemPlace} (h:DataW.trod enc Tryz.prog W 0 (fun _=>true) held fuel 3 cs=some x):∃ k,cs=[.int .i64 k]∧ -9223372036854775808≤k∧k≤9223372036854775807:=by
 obtain ⟨k,e,_,hw⟩:=DataW.trod_int Tryz.underlying3 h
 have hb:=bounds_i64 hw
 exact ⟨k,e,hb.1,hb.2⟩
set_option maxRecDepth 100000 in
theorem read_task {cs:List Value} {x:DataW H × List MemPlace} (h:DataW.trod enc Tryz.prog W 0 (fun _=>true) held fuel 35 cs=some x):∃ vb,∃ t:TaskP,cs=[strV t.cls,strV t.name,.int .i64 t.frm,.int .i64 t.due,.int .i64 t.late,.int .i64 t.tries,vb]∧RdB W W.heap.size vb t.body ∧
 (-9223372036854775808≤t.frm∧t.frm≤9223372036854775807)∧(-9223372036854775808≤t.due∧t.due≤9223372036854775807)∧(-9223372036854775808≤t.late∧t.late≤9223372036854775807)∧(-9223372036854775808≤t.tries∧t.tries≤9223372036854775807):=by
 obtain ⟨xs,n,rfl,rfl,hlen,hxl,hf⟩:=DataW.trod_struct Tryz.underlying35 h
 rw [cellsTk] at hlen
 match cs,hlen with
 | [c0,c1,c2,c3,c4,c5,c6],_=>
   match xs,hxl with
   | [y0,y1,y2,y3,y4,y5,y6],_=>
     have e0:=hf 0 _ rfl
     have e1:=hf 1 _ rfl
     have e2:=hf 2 _ rfl
     have e3:=hf 3 _ rfl
     have e4:=hf 4 _ rfl
     have e5:=hf 5 _ rfl
     have e6:=hf 6 _ rfl
     simp [cellsI,cellsStr,cellsBs] at e0 e1 e2 e3 e4 e5 e6
     obtain ⟨k0,q0,_⟩:=read_str e0
     obtain ⟨k1,q1,_⟩:=read_str e1
     obtain ⟨k2,q2,b2⟩:=read_int e2
     obtain ⟨k3,q3,b3⟩:=read_int e3
     obtain ⟨k4,q4,b4⟩:=read_int e4
     obtain ⟨k5,q5,b5⟩:=read_int e5
     obtain ⟨v,l,q6,hr⟩:=read_bytes e6
     simp only [List.cons.injEq,and_true] at q0 q1 q2 q3 q4 q5 q6
     subst q0 q1 q2 q3 q4 q5 q6
     exact ⟨_,⟨k0,k1,k2,k3,k4,k5,l⟩,rfl,hr,b2,b3,b4,b5⟩
set_option maxRecDepth 100000 in
theorem read_act {cs:List Value} {x:DataW H × List MemPlace} (h:DataW.trod enc Tryz.prog W 0 (fun _=>true) held fuel 37 cs=some x):∃ vb vt,∃ a:SActP,cs=actCells a vb vt∧RdB W W.heap.size vb a.task.body∧RdB W W.heap.size vt a.text∧a.Nums:=by
 obtain ⟨xs,n,rfl,rfl,hlen,hxl,hf⟩:=DataW.trod_struct Tryz.underlying37 h
 rw [cellsAc] at hlen
 match cs,hlen with
 | [c0,c1,c2,c3,c4,c5,c6,c7,c8,c9,c10,c11,c12],_=>
   match xs,hxl with
   | [y0,y1,y2,y3,y4,y5,y6],_=>
     have e0:=hf 0 _ rfl
     have e1:=hf 1 _ rfl
     have e2:=hf 2 _ rfl
     have e3:=hf 3 _ rfl
     have e4:=hf 4 _ rfl
     have e5:=hf 5 _ rfl
     have e6:=hf 6 _ rfl
     simp [cellsI,cellsStr,cellsBs,cellsTk] at e0 e1 e2 e3 e4 e5 e6
     obtain ⟨k0,q0,b0⟩:=read_int e0
     obtain ⟨k1,q1,_⟩:=read_str e1
     obtain ⟨k2,q2,_⟩:=read_str e2
     obtain ⟨vb,t,q3,hr3,b3,b4,b5,b6⟩:=read_task e3
     obtain ⟨k4,q4,c4⟩:=read_int e4
     obtain ⟨k5,q5,c5⟩:=read_int e5
     obtain ⟨vt,l,q6,hr6⟩:=read_bytes e6
     simp only [List.cons.injEq,and_true] at q0 q1 q2 q3 q4 q5 q6
     obtain ⟨rfl,rfl,rfl,rfl,rfl,rfl,rfl⟩:=q3
     subst q0 q1 q2 q4 q5 q6
     exact ⟨_,_,⟨k0,k1,k2,t,k4,k5,l⟩,rfl,hr3,hr6,⟨b0.1,b0.2,c4.1,c4.2,c5.1,c5.2,b3.1,b3.2,b4.1,b4.2,b5.1,b5.2,b6.1,b6.2⟩⟩
set_option maxRecDepth 100000 in
/-- a slice of acts -/
theorem open_acts {base:Nat} {v:Value} {d:DataW H} {ps:List MemPlace} (hval:Value.okWide Tryz.prog W .any base 22 v) (h:DataW.Trod enc Tryz.prog W 0 (fun _=>true) true 22 v d ps) :
 ∃ L:List SActP,SActsAt W W.heap.size v L∧∀ a ∈ L,a.Nums:=by
 obtain ⟨a0,len,cap,rfl⟩:=okWide_slice Tryz.underlying22 hval
 obtain ⟨fuel,hf⟩:=h
 rcases open_slice Tryz.underlying22 hf with ⟨hcs,_⟩ | ⟨a,len',cap',m,n,D,Pl,hcs,_,hl,hm,hmm,_,hi⟩
 ·simp [Value.cells] at hcs
  obtain ⟨rfl,rfl,rfl⟩:=hcs
  exact ⟨[],⟨none,0,rfl,Nat.le_refl _,Nat.zero_le _,Or.inl rfl⟩,fun s hs=>by cases hs⟩
 simp [Value.cells] at hcs
 obtain ⟨rfl,rfl,rfl⟩:=hcs
 simp only [if_true] at hmm
 subst hmm
 rw [cellsAc] at hi
 by_cases h0:len=0
 ·subst h0
  exact ⟨[],⟨_,_,rfl,Nat.zero_le _,hm,Or.inl rfl⟩,fun s hs=>by cases hs⟩
 obtain ⟨g,off,rfl,hg,hr⟩:=rows_of (c:=13) (Q:=fun cs'=>∃ vb vt,∃ a:SActP,cs'=actCells a vb vt∧RdB W W.heap.size vb a.task.body∧RdB W W.heap.size vt a.text∧a.Nums) (by decide) (fun i hi'=>by
  obtain ⟨cs',h1,h2⟩:=hi i hi'
  exact ⟨cs',h1,read_act h2⟩) hl (by omega)
 obtain ⟨L,hL,hc⟩:=list_of (R:=fun i (a:SActP)=>SActIn W W.heap.size g (off+i * 13) a∧a.Nums) len (fun i hi'=>by
  obtain ⟨cs',⟨vb,vt,a,rfl,h1,h2,h3⟩,_,hcc⟩:=hr i hi'
  exact ⟨a,⟨vb,vt,hcc,h1,h2⟩,h3⟩)
 subst hL
 refine ⟨L,⟨_,_,rfl,hl,hm,Or.inr ⟨g,off,rfl,hg,fun j hj=>(hc j hj).1⟩⟩,fun s hs=>?_⟩
 obtain ⟨i,hi',rfl⟩:=List.mem_iff_getElem.1 hs
 exact (hc i hi').2
end
end
end
section
open Go.RowKit SeedP Go.Maps
/-- a school all of whose memory lies in blocks of which P holds -/
structure SG (P:Nat→Prop) (w:World) (sb db jb mb:Nat) (s:JS):Prop where
 n0:¬ P 0
 sP:P sb
 dP:P db
 jP:P jb
 mP:P mb
 mem:∃ p:Nat→Prop,(∀ g,p g→P g)∧SW w sb jb db mb p s
section
variable {n0:Nat} {P Q:Nat→Prop} {w w':World} {sb db jb mb:Nat} {s:JS}
theorem SX.sg (h:SX n0 w sb db jb mb s):SG (fun g=>n0≤g∧g < w.heap.size) w sb db jb mb s:=by
 have hl:=h.lt
 have h3:=h.sle; have h4:=h.dle; have h5:=h.jle; have h6:=h.mle; have h7:=h.pos
 obtain ⟨p,h1,h2⟩:=h.low
 exact ⟨fun e=>by omega,⟨h3,hl.1⟩,⟨h4,hl.2.2.1⟩,⟨h5,hl.2.1⟩,⟨h6,hl.2.2.2⟩,p,h1,h2⟩
theorem SG.sx (h:SG P w sb db jb mb s) (hn:0 < n0) (hP:∀ g,P g→n0≤g):SX n0 w sb db jb mb s:=by
 obtain ⟨p,h1,h2⟩:=h.mem
 exact ⟨hn,hP _ h.sP,hP _ h.dP,hP _ h.jP,hP _ h.mP,p,fun g hg=>hP _ (h1 g hg),h2⟩
theorem SG.mono (h:SG P w sb db jb mb s) (hPQ:∀ g,P g→Q g) (h0:¬ Q 0):SG Q w sb db jb mb s:=by
 obtain ⟨p,h1,h2⟩:=h.mem
 exact ⟨h0,hPQ _ h.sP,hPQ _ h.dP,hPQ _ h.jP,hPQ _ h.mP,p,fun g hg=>hPQ _ (h1 g hg),h2⟩
theorem SG.st (h:SG P w sb db jb mb s):St w:=by obtain ⟨p, -,h2⟩:=h.mem; exact h2.jw.st
theorem SG.grown {S:Nat→Prop} (h:SG P w sb db jb mb s) (hg:Grown S w w') (hS:∀ g,S g→g < w.heap.size→¬ P g) (h0:¬ S 0):SG P w' sb db jb mb s:=by
 obtain ⟨p,h1,h2⟩:=h.mem
 have hlt:=h2.jw.lt
 have hl:=h2.lt
 refine ⟨h.n0,h.sP,h.dP,h.jP,h.mP,_,fun g hg=>h1 g hg.1,h2.jw.low.grown hg h0 (fun e=>hS _ e (by omega) h.jP) (fun e=>hS _ e (by omega) h.dP) (fun e=>hS _ e (by omega) h.mP) (fun g hp e=>hS _ e hp.2 (h1 g hp.1)),h2.sc.grown hg (fun e=>hS _ e (by omega) h.sP)⟩
theorem SG.below (h:SG P w sb db jb mb s) (hb:Below w.heap.size w w'):SG P w' sb db jb mb s:=by
 obtain ⟨p,h1,h2⟩:=h.mem
 exact ⟨h.n0,h.sP,h.dP,h.jP,h.mP,p,h1,h2.below hb⟩
end
end
end Go.Proofs.YtbcfpdlhieaepaaGreatDoor
