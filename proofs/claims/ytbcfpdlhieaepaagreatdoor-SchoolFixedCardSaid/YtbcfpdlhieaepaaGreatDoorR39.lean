/- What holds while isSchool reads entries. Plain law. -/
import Derived.Test.YtbcfpdlhieaepaaGreatDoorR35
import Derived.Test.YtbcfpdlhieaepaaGreatDoorR38
namespace Go.Proofs.YtbcfpdlhieaepaaGreatDoor
open Go.RowKit SeedP Go.Maps
/-- what does not change: the map of methods, three variables -/
structure SchK (w:World) (n0 kc S:Nat) (W:World):Prop where
 kin:W.ownsMap Tryz.prog 5 tokR (n0+1) 5 kindsD
 kce:Blk W kc 129 [.map (some (n0+1))]
 res:Blk W n0 4 [.bool false]
 ptr:Blk W (S+4) 128 [.pointer (some ⟨S+3,0,none⟩)]
 bel:Below n0 w W
 kb:n0+2≤kc
 kS:kc < S
theorem SchK.grown {w:World} {n0 kc S:Nat} {T:Nat→Prop} {W W':World} (h:SchK w n0 kc S W) (hg:Grown T W W') (hT:∀ g,g < S→¬ T g) (h4:¬ T (S+4)):SchK w n0 kc S W':=by
 have h1:=h.kb
 have h2:=h.kS
 have hlt:=h.ptr.lt
 have hk:∀ g,g < S→W'.heap[g]?=W.heap[g]?:=fun g hg2=>hg.block g (by omega) (hT g hg2)
 refine ⟨?_,(hk kc h2).trans h.kce,(hk n0 (by omega)).trans h.res,(hg.block _ hlt h4).trans h.ptr,h.bel.trans (hg.below (fun k hs=>by rcases Nat.lt_or_ge k n0 with h3 | h3; exact absurd hs (hT k (by omega)); exact h3) (by omega)),h1,h2⟩
 obtain ⟨es,clock,hb,r⟩:=h.kin
 exact ⟨es,clock,(hk _ (by omega)).trans hb,r⟩
/-- what was read, D and D + 1 being the loop's own blocks -/
structure SchC (S D:Nat) (P:PEnts) (p:Nat→Prop) (W:World) (c:ContP) (f:Nat→Lab):Prop where
 go:entsGo contZ P=some c
 cw:CW W S (S+3) (3 * P.length) c f
 pn:∀ g,p g→g < W.heap.size∧f g=.no
 d0:f D=.no
 d1:f (D+1)=.no
 s4:f (S+4)=.no
theorem SchC.fr {S D:Nat} {P:PEnts} {p:Nat→Prop} {W:World} {c:ContP} {f:Nat→Lab} (h:SchC S D P p W c f):∀ g,W.heap.size≤g→f g=.no:=by
 obtain ⟨_,_,_,_,_,_,hv⟩:=h.cw
 exact hv.fr
theorem SchC.below {S D:Nat} {P:PEnts} {p p':Nat→Prop} {W W':World} {c:ContP} {f:Nat→Lab} (h:SchC S D P p W c f) (hb:Below W.heap.size W W') (hp:∀ g,p' g→p g∨(W.heap.size≤g∧g < W'.heap.size)):SchC S D P p' W' c f:=
 ⟨h.go,h.cw.below hb,fun g hg=>(hp g hg).elim (fun h2=>⟨Nat.lt_of_lt_of_le (h.pn g h2).1 hb.size,(h.pn g h2).2⟩) (fun h2=>⟨h2.2,h.fr g h2.1⟩),h.d0,h.d1,h.s4⟩
theorem SchC.put {S D:Nat} {P:PEnts} {p:Nat→Prop} {W:World} {c:ContP} {f:Nat→Lab} (h:SchC S D P p W c f) {k:Nat} (hk:k=D∨k=D+1) (o:Obj):SchC S D P p (W.putObj k o) c f:=by
 have hf:f k=.no:=by rcases hk with rfl | rfl; exact h.d0; exact h.d1
 obtain ⟨m0,m4,m5,v1,v2,v3,hv⟩:=h.cw
 exact ⟨h.go,⟨m0,m4,m5,v1,v2,v3,hv.putN hf o⟩,fun g hg=>⟨by simpa using (h.pn g hg).1,(h.pn g hg).2⟩,h.d0,h.d1,h.s4⟩
/-- an entry has been read well -/
theorem SchC.next {S D:Nat} {P:PEnts} {p:Nat→Prop} {W W':World} {c:ContP} {f f':Nat→Lab} (h:SchC S D P p W c f) (hD:D+1 < W.heap.size) (hS:S+4 < W.heap.size) (e:List UInt8 × List UInt8) (hs:(entStep c e).2=true) (hc:CW W' S (S+3) (3 * P.length+3) (entStep c e).1 f') (hk:Kp W W' f f' (fun x=>x ≠ .no)):SchC S D (P ++ [e]) p W' (entStep c e).1 f':=by
 have hf:∀ g,g < W.heap.size→f g=.no→f' g=.no:=fun g hg hn=>(hk.fk g hg (fun e=>e hn)).trans hn
 refine ⟨by rw [entsGo_app,h.go]; show entsGo c [e]=_; rw [entsGo_one,if_pos hs],?_,fun g hg=>⟨Nat.lt_of_lt_of_le (h.pn g hg).1 hk.gr.size,hf g (h.pn g hg).1 (h.pn g hg).2⟩,hf _ (by omega) h.d0,hf _ hD h.d1,hf _ hS h.s4⟩
 rw [List.length_append,List.length_singleton,Nat.mul_add,Nat.mul_one]
 exact hc
/-- the invariant, and what holds if an entry was not read well -/
def SchI (w:World) (n0 kc S D:Nat) (p:Nat→Prop) (pre:List EntX) (W:World):Prop:=SchK w n0 kc S W∧∃ c f,SchC S D (pre.map EntX.kv) p W c f
def SchX (w:World) (n0 kc S:Nat) (_p:Nat→Prop) (pre:List EntX) (W:World):Prop:=SchK w n0 kc S W∧entsGo contZ (pre.map EntX.kv)=none
theorem SchK.putL {w:World} {n0 kc S D k:Nat} {W:World} (h:SchK w n0 kc S W) (hD:S+4 < D) (hk:k=D∨k=D+1) (o:Obj):SchK w n0 kc S (W.putObj k o):=
 h.grown (T:=fun g=>g=k) ⟨rfl,rfl,rfl,by simp,fun j _ hj=>World.putObj_heap_other (fun e=>hj e)⟩ (fun g hg e=>by omega) (fun e=>by omega)
theorem SchI.ab (w:World) (n0 kc S D:Nat) (hD:S+4 < D):LoopAb D (SchI w n0 kc S D):=
 ⟨fun _ _ _ _ _ ⟨h1,c,f,h2⟩ hb hp=>⟨h1.grown (T:=fun _=>False) (Grown.of_below hb) (fun _ _ h=>h) (fun h=>h),c,f,h2.below hb hp⟩,
  fun _ _ _ _ _ o' ⟨h1,c,f,h2⟩ hk _ _=>⟨h1.putL hD hk o',c,f,h2.put hk o'⟩⟩
theorem SchX.ab (w:World) (n0 kc S D:Nat) (hD:S+4 < D):LoopAb D (SchX w n0 kc S):=
 ⟨fun _ _ _ _ _ ⟨h1,h2⟩ hb _=>⟨h1.grown (T:=fun _=>False) (Grown.of_below hb) (fun _ _ h=>h) (fun h=>h),h2⟩,
  fun _ _ _ _ _ o' ⟨h1,h2⟩ hk _ _=>⟨h1.putL hD hk o',h2⟩⟩
theorem RdP.putN {w:World} {p:Nat→Prop} {v:Value} {l:List UInt8} (h:RdP w p v l) {k:Nat} {o:Obj} (ho:w.heap[k]?=some o) (hc:o.isCells=false) (o':Obj):RdP (w.putObj k o') p v l:=by
 rcases h with h | ⟨g,off,cap,e,h1,h2,h3,h4⟩
 ·exact Or.inl h
 ·refine Or.inr ⟨g,off,cap,e,h1,h2,h3,fun j hj=>?_⟩
  have hcell:=h4 j hj
  have hne:g ≠ k:=by
   rintro rfl
   unfold World.cell? at hcell
   simp only [ho] at hcell
   cases o <;> simp_all [Obj.isCells]
  rw [← hcell]
  unfold World.cell?
  simp only
  rw [World.putObj_heap_other hne]
theorem SchI.round {w:World} {n0 kc S D:Nat} {p:Nat→Prop} {pre:List EntX} {x:EntX} {W0 W1 W:World} (h:SchI w n0 kc S D p pre W0) (hD:S+4 < D) (hb:Below W0.heap.size W0 W1) (hx:x.Rd W0.heap.size W1) (hW:∃ o o',W1.heap[D+1]?=some o∧o.isCells=false∧W=W1.putObj (D+1) o') :
 SchK w n0 kc S W∧∃ c f,SchC S D (pre.map EntX.kv) p W c f∧RdP W (fun g=>f g=.no) (.slice x.a x.v.length x.cap) x.v:=by
 obtain ⟨o,o',ho,hc,rfl⟩:=hW
 obtain ⟨h1,c,f,h2⟩:=h
 have h3:=h2.below (p':=p) hb (fun g hg=>Or.inl hg)
 refine ⟨(h1.grown (T:=fun _=>False) (Grown.of_below hb) (fun _ _ h=>h) (fun h=>h)).putL hD (Or.inr rfl) o',c,f,h3.put (Or.inr rfl) o',?_⟩
 exact (hx.1.mono (fun g _ hg=>h2.fr g hg)).putN ho hc o'
theorem SchK.setF {w:World} {n0 kc S:Nat} {W:World} (h:SchK w n0 kc S W) (hn:n0=w.heap.size):SchK w n0 kc S (W.setCell ⟨n0,0,none⟩ (.bool false)):=by
 have h1:=h.kb
 have h2:=h.kS
 have hg:Grown (fun g=>g=n0) W (W.setCell ⟨n0,0,none⟩ (.bool false)):=Grown.setCell (S:=fun g=>g=n0) (Grown.refl _ W) (a:=⟨n0,0,none⟩) rfl _
 refine ⟨?_,h.kce.grown hg (by omega),h.res.set 0 _,h.ptr.grown hg (by omega),h.bel.trans (hg.below (fun k e=>by omega) (by have:=h.bel.size; omega)),h1,h2⟩
 obtain ⟨es,clock,hb,r⟩:=h.kin
 exact ⟨es,clock,(hg.block _ (Array.getElem?_eq_some_iff.1 hb).1 (by omega)).trans hb,r⟩
theorem ret_boolC {fn:Func} {p:Tmp} (h:fn.results=#[.cell p 4]) (tmps:Array Value) (w:World) (ad:Addr) (b:Bool) (hp:tmps.getD p undef=.pointer (some ad)) (hc:w.cell? ad=some (.bool b)):(results fn tmps).run Tryz.prog w=.ok (.bool b) w:=by
 rw [Array.getD_eq_getD_getElem?] at hp
 simp [results,h,go_sem,hp,hc]
section
variable {ρ:Operand→Value} {d:Option Tmp} {ty:TypeId} {pos:String} {af:Array Edge} {gd:Option (Nat × Bool)}
theorem xi_ldp (x:Operand) (ad:Addr) (v:Value) (w:World) (hx:ρ x=.pointer (some ad)) (hc:w.cell? ad=some v) :
 (execOp ρ ⟨d,.load 128 x,ty,pos,af,gd⟩).run Tryz.prog w=.ok (.value v) w:=by
 simp [go_sem,hx,hc]
theorem xi_slice (hρ:∀ v,ρ (.const v)=v) (x:Operand) (s t:ByteArray) (w:World) (hx:ρ x=.string s) (h1:1≤s.size) (ht:s.extract 1 s.size=t) :
 (execOp ρ ⟨d,.slice 9 x (some (.const (.int .i64 1))) none none,ty,pos,af,gd⟩).run Tryz.prog w=.ok (.value (.string t)) w:=by
 subst ht
 have h2:(1:Int)≤(s.size:Int):=by omega
 simp [go_sem,hx,hρ,h2]
theorem xi_not (x:Operand) (b:Bool) (w:World) (hx:ρ x=.bool b) :
 (execOp ρ ⟨d,.unOp .not 4 x,ty,pos,af,gd⟩).run Tryz.prog w=.ok (.value (.bool (!b))) w:=by
 simp [go_sem,hx]
theorem xi_pick (x y z:Operand) (v:Value) (w:World) (hx:ρ x=.bool false) (hz:ρ z=v) :
 (execOp ρ ⟨d,.pick x y z,ty,pos,af,gd⟩).run Tryz.prog w=.ok (.value v) w:=by
 simp [go_sem,hx,hz]
end
end Go.Proofs.YtbcfpdlhieaepaaGreatDoor
