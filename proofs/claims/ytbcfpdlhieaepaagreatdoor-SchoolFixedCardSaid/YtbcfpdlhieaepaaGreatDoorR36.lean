/- What was read of entries, as it lies in memory. Plain law, no program's walk. -/
import Derived.Test.YtbcfpdlhieaepaaGreatDoorR29
import Derived.Test.YtbcfpdlhieaepaaGreatDoorR30
import Derived.Test.YtbcfpdlhieaepaaGreatDoorR04
import Derived.Test.YtbcfpdlhieaepaaGreatDoorR17
namespace Go.Proofs.YtbcfpdlhieaepaaGreatDoor
open Go.RowKit SeedP Go.Maps
/-- what a block is part of -/
inductive Lab where
 | no | cell | m0 | m4 | m5 | v1 | v2 | v3 | ent (k:List UInt8)
def Ow (f:Nat→Lab) (l:Lab) (v:Value):Prop:=∀ g,v.ownBlock=some g→f g=l
/-- only blocks of some parts have changed -/
structure Kp (w w':World) (f f':Nat→Lab) (T:Lab→Prop):Prop where
 gr:Grown (fun g=>T (f g)) w w'
 fk:∀ g,g < w.heap.size→¬ T (f g)→f' g=f g
 fn:∀ g,w'.heap.size≤g→f' g=.no
section
variable {w w':World} {f f':Nat→Lab} {T:Lab→Prop}
theorem Kp.row (k:Kp w w' f f' T) {B m n:Nat} {e:TypeId} {v:Value} {xs:List Value} (hr:w.ownsRow B e m v n xs) {l:Lab} (ho:Ow f l v) (hl:¬ T l):w'.ownsRow B e m v n xs∧Ow f' l v:=by
 obtain ⟨h1,h2⟩:=hr
 rcases h2 with ⟨rfl,h0⟩ | ⟨g,cap,cur,rfl,hB,hg,r⟩
 ·exact ⟨⟨h1,Or.inl ⟨rfl,h0⟩⟩,fun g hg=>by cases hg⟩
 ·have hlt:g < w.heap.size:=(Array.getElem?_eq_some_iff.1 hg).1
  have hf:f g=l:=ho g rfl
  have hn:¬ T (f g):=by rw [hf]; exact hl
  refine ⟨⟨h1,Or.inr ⟨g,cap,cur,rfl,hB,(k.gr.block g hlt hn).trans hg,r⟩⟩,fun q hq=>?_⟩
  cases hq
  rw [k.fk g hlt hn,hf]
theorem Kp.blk (k:Kp w w' f f' T) {g:Nat} {e:TypeId} {l:List Value} (h:Blk w g e l) (hl:¬ T (f g)):Blk w' g e l:=(k.gr.block g h.lt hl).trans h
theorem Kp.map (k:Kp w w' f f' T) {b n:Nat} {R:Value→Option (DataW Value × List MemPlace)} {D:DataW Value} (h:w.ownsMap Tryz.prog 9 R b n D) (hl:¬ T (f b)):w'.ownsMap Tryz.prog 9 R b n D∧f' b=f b:=by
 have hlt:=h.lt
 obtain ⟨es,clock,hb,r⟩:=h
 exact ⟨⟨es,clock,(k.gr.block b hlt hl).trans hb,r⟩,k.fk b hlt hl⟩
theorem Kp.seen (k:Kp w w' f f' T) {b n:Nat} {ks:List (List UInt8)} (h:Seen w b ks n) (hl:¬ T (f b)):Seen w' b ks n∧f' b=f b:=by
 obtain ⟨L,hm,h2,h3⟩:=h.own
 exact ⟨⟨L,(k.map hm hl).1,h2,h3⟩,(k.map hm hl).2⟩
end
/-- the content at cb, whose blocks all lie from B on; f tells what each block is part of -/
structure CV (w:World) (B cb n:Nat) (c:ContP) (f:Nat→Lab) (m0 m4 m5:Nat) (v1 v2 v3:Value):Prop where
 blk:Blk w cb 134 [.map (some m0),v1,v2,v3,.map (some m4),.map (some m5)]
 base:B≤cb∧B≤m0∧B≤m4∧B≤m5
 lab:f cb=.cell∧f m0=.m0∧f m4=.m4∧f m5=.m5
 fr:∀ g,w.heap.size≤g→f g=.no
 lo:∀ g,f g ≠ .no→B≤g
 o1:Ow f .v1 v1
 o2:Ow f .v2 v2
 o3:Ow f .v3 v3
 seen:∃ q,q≤n∧Seen w m0 c.classes q
 tasks:c.tasks.length≤n∧∃ xs,w.ownsRow B 35 7 v1 c.tasks.length xs∧∀ j (h:j < c.tasks.length),xs[j * 7+5]?=some (.int .i64 c.tasks[j].tries)
 inC:c.inClass.length≤n∧ownS w B v2 c.inClass
 ofT:c.ofTask.length≤n∧ownI w B v3 c.ofTask
 atts:∃ L:List Ent,L.length≤n∧w.ownsMap Tryz.prog 9 tokR m4 L.length (toD L)∧(∀ e ∈ L,ownI w B e.val (c.atts e.key)∧Ow f (.ent e.key) e.val)∧∀ k,(∀ e ∈ L,e.key ≠ k)→c.atts k=[]
 attn:∀ k,(c.atts k).length≤n
 tries:∃ L:List Ent,L.length≤n∧w.ownsMap Tryz.prog 9 tokR m5 L.length (toD L)∧(∀ e ∈ L,∃ m:Nat,e.val=.int .i64 (m:Nat))∧∀ k m,(k,m) ∈ c.tries ↔ ∃ e ∈ L,e.key=k∧e.val=.int .i64 (m:Nat)
/-- the content, as a method takes it -/
def CW (w:World) (B cb n:Nat) (c:ContP) (f:Nat→Lab):Prop:=∃ m0 m4 m5 v1 v2 v3,CV w B cb n c f m0 m4 m5 v1 v2 v3
section
variable {w w':World} {B cb n:Nat} {c:ContP} {f f':Nat→Lab} {m0 m4 m5:Nat} {v1 v2 v3:Value}
theorem CV.mono (h:CV w B cb n c f m0 m4 m5 v1 v2 v3) {n':Nat} (hn:n≤n'):CV w B cb n' c f m0 m4 m5 v1 v2 v3:=by
 obtain ⟨q,h1,h2⟩:=h.seen
 obtain ⟨h3,h4⟩:=h.tasks
 obtain ⟨h5,h6⟩:=h.inC
 obtain ⟨h7,h8⟩:=h.ofT
 obtain ⟨L,h9,h10⟩:=h.atts
 obtain ⟨M,h11,h12⟩:=h.tries
 exact ⟨h.blk,h.base,h.lab,h.fr,h.lo,h.o1,h.o2,h.o3,⟨q,Nat.le_trans h1 hn,h2⟩,⟨Nat.le_trans h3 hn,h4⟩,⟨Nat.le_trans h5 hn,h6⟩,⟨Nat.le_trans h7 hn,h8⟩,⟨L,Nat.le_trans h9 hn,h10⟩,fun k=>Nat.le_trans (h.attn k) hn,⟨M,Nat.le_trans h11 hn,h12⟩⟩
theorem CW.mono (h:CW w B cb n c f) {n':Nat} (hn:n≤n'):CW w B cb n' c f:=by
 obtain ⟨m0,m4,m5,v1,v2,v3,hv⟩:=h
 exact ⟨m0,m4,m5,v1,v2,v3,hv.mono hn⟩
/-- where a new value lies -/
def putF (f:Nat→Lab) (v:Value) (l:Lab):Nat→Lab:=fun g=>if v.ownBlock=some g then l else f g
theorem putF_lo (h:CV w B cb n c f m0 m4 m5 v1 v2 v3) {w2:World} {e:TypeId} {m k:Nat} {v':Value} {xs:List Value} (hr:w2.ownsRow B e m v' k xs) {l:Lab}:∀ g,putF f v' l g ≠ .no→B≤g:=fun g hg=>by
 unfold putF at hg
 split at hg
 ·next e=>exact (hr.lt g e).1
 ·exact h.lo g hg
theorem CV.szB (h:CV w B cb n c f m0 m4 m5 v1 v2 v3):B≤w.heap.size:=Nat.le_trans h.base.1 (Nat.le_of_lt h.blk.lt)
theorem CV.kpB (h:CV w B cb n c f m0 m4 m5 v1 v2 v3) {T:Lab→Prop} (k:Kp w w' f f' T) (hT:¬ T .no):Below B w w':=k.gr.below (fun g hs=>h.lo g (fun e=>hT (by have hs:T (f g):=hs; rw [e] at hs; exact hs))) h.szB
/-- a row of a part is grown -/
theorem Kp.app (h:CV w B cb n c f m0 m4 m5 v1 v2 v3) {w1 w2:World} (hb:Below w.heap.size w w1) {v v':Value} {l:Lab} (hl:Ow f l v) (hg:w1.grownBy w2 v.ownBlock) (hv:v'.ownBlock=v.ownBlock∨v'.ownBlock=some w1.heap.size) (h2:∀ g,v'.ownBlock=some g→g < w2.heap.size) :
 Kp w w2 f (putF f v' l) (fun x=>x=l)∧Ow (putF f v' l) l v':=by
 refine ⟨⟨(Grown.of_below hb).trans (Grown.of_row hg (fun k e=>hl k e)),fun g hg1 hn=>?_,fun g hg1=>?_⟩,fun g hg1=>by unfold putF; rw [if_pos hg1]⟩
 ·unfold putF
  rw [if_neg]
  intro e
  rcases hv with hv | hv
  ·rw [hv] at e; exact hn (hl g e)
  ·rw [hv] at e; cases e; have:=hb.size; omega
 ·unfold putF
  rw [if_neg]
  ·exact h.fr g (Nat.le_trans (Nat.le_trans hb.size hg.size) hg1)
  ·intro e; have:=h2 g e; omega
/-- a cell of the content is set -/
theorem Kp.cell {T:Lab→Prop} (k:Kp w w' f f' T) (hc:f cb=.cell) (j:Nat) (v:Value):Kp w (w'.setCell ⟨cb,j,none⟩ v) f f' (fun x=>T x∨x=.cell):=
 ⟨Grown.setCell (S:=fun g=>T (f g)∨f g=.cell) (k.gr.mono (fun _ _ hs=>Or.inl hs)) (a:=⟨cb,j,none⟩) (Or.inr hc) v,fun g h1 h2=>k.fk g h1 (fun e=>h2 (Or.inl e)),fun g hg=>k.fn g (by simpa using hg)⟩
theorem own_set {w:World} {B m n:Nat} {e:TypeId} {v:Value} {xs:List Value} (h:w.ownsRow B e m v n xs) {a:Addr} (hn:v.ownBlock ≠ some a.block) (x:Value):(w.setCell a x).ownsRow B e m v n xs:=by
 obtain ⟨h1,h2⟩:=h
 rcases h2 with ⟨rfl,h0⟩ | ⟨g,cap,cur,rfl,hB,hg,r⟩
 ·exact ⟨h1,Or.inl ⟨rfl,h0⟩⟩
 ·exact ⟨h1,Or.inr ⟨g,cap,cur,rfl,hB,(Below.heap_setCell w a x g (fun e=>hn (by rw [e]; rfl))).trans hg,r⟩⟩
theorem Kp.atts {T:Lab→Prop} (k:Kp w w' f f' T) {L:List Ent} {g:List UInt8→List Nat} (h:∀ e ∈ L,ownI w B e.val (g e.key)∧Ow f (.ent e.key) e.val) (hT:∀ x,¬ T (.ent x)) :
 ∀ e ∈ L,ownI w' B e.val (g e.key)∧Ow f' (.ent e.key) e.val:=fun e he=>k.row (h e he).1 (h e he).2 (hT _)
/-- nothing of the content has changed -/
theorem CV.below (h:CV w B cb n c f m0 m4 m5 v1 v2 v3) (hb:Below w.heap.size w w'):CV w' B cb n c f m0 m4 m5 v1 v2 v3:=by
 have k:Kp w w' f f (fun _=>False):=⟨Grown.of_below hb,fun _ _ _=>rfl,fun g hg=>h.fr g (Nat.le_trans hb.size hg)⟩
 have hF:¬ False:=id
 obtain ⟨q,h1,h2⟩:=h.seen
 obtain ⟨h3,xs,h4,h4'⟩:=h.tasks
 obtain ⟨h5,h6⟩:=h.inC
 obtain ⟨h7,h8⟩:=h.ofT
 obtain ⟨L,h9,h10,h11,h12⟩:=h.atts
 obtain ⟨M,h13,h14,h15⟩:=h.tries
 exact ⟨k.blk h.blk hF,h.base,h.lab,k.fn,h.lo,h.o1,h.o2,h.o3,⟨q,h1,(k.seen h2 hF).1⟩,⟨h3,xs,(k.row h4 h.o1 hF).1,h4'⟩,⟨h5,(k.row h6 h.o2 hF).1⟩,⟨h7,(k.row h8 h.o3 hF).1⟩,⟨L,h9,(k.map h10 hF).1,k.atts h11 (fun _=>hF),h12⟩,h.attn,⟨M,h13,(k.map h14 hF).1,h15⟩⟩
theorem CW.below (h:CW w B cb n c f) (hb:Below w.heap.size w w'):CW w' B cb n c f:=by
 obtain ⟨m0,m4,m5,v1,v2,v3,hv⟩:=h
 exact ⟨m0,m4,m5,v1,v2,v3,hv.below hb⟩
/-- a class is read -/
theorem CV.cls (h:CV w B cb n c f m0 m4 m5 v1 v2 v3) (x:List UInt8) {q:Nat} (hq:q≤n) (hs:Seen w' m0 (x :: c.classes) (q+1)) (hg:Grown (·=m0) w w'):CV w' B cb (n+1) { c with classes:=x :: c.classes } f m0 m4 m5 v1 v2 v3:=by
 obtain ⟨l0,l1,l2,l3⟩:=h.lab
 have k:Kp w w' f f (fun x=>x=.m0):=⟨hg.mono (fun g _ e=>by rw [e]; exact l1),fun _ _ _=>rfl,fun g hg2=>h.fr g (Nat.le_trans hg.size hg2)⟩
 obtain ⟨h3,xs,h4,h4'⟩:=h.tasks
 obtain ⟨h5,h6⟩:=h.inC
 obtain ⟨h7,h8⟩:=h.ofT
 obtain ⟨L,h9,h10,h11,h12⟩:=h.atts
 obtain ⟨M,h13,h14,h15⟩:=h.tries
 exact ⟨k.blk h.blk (by rw [l0]; exact Lab.noConfusion),h.base,h.lab,k.fn,h.lo,h.o1,h.o2,h.o3,⟨q+1,by omega,hs⟩,⟨by simp only; omega,xs,(k.row h4 h.o1 Lab.noConfusion).1,h4'⟩,⟨by simp only; omega,(k.row h6 h.o2 Lab.noConfusion).1⟩,⟨by simp only; omega,(k.row h8 h.o3 Lab.noConfusion).1⟩,⟨L,by omega,(k.map h10 (by rw [l2]; exact Lab.noConfusion)).1,k.atts h11 (fun _=>Lab.noConfusion),h12⟩,fun k=>Nat.le_succ_of_le (h.attn k),⟨M,by omega,(k.map h14 (by rw [l3]; exact Lab.noConfusion)).1,h15⟩⟩
/-- a name of a class is read -/
theorem CV.inPut (h:CV w B cb n c f m0 m4 m5 v1 v2 v3) (x:List UInt8) {w1 w2:World} (hb:Below w.heap.size w w1) {v':Value} (hr:w2.ownsRow B 9 1 v' (c.inClass.length+1) (c.inClass.map strV ++ [strV x])) (hg:w1.grownBy w2 v2.ownBlock) (hv:v'.ownBlock=v2.ownBlock∨v'.ownBlock=some w1.heap.size) :
 CV (w2.setCell ⟨cb,2,none⟩ v') B cb (n+1) { c with inClass:=c.inClass ++ [x] } (putF f v' .v2) m0 m4 m5 v1 v' v3∧Kp w (w2.setCell ⟨cb,2,none⟩ v') f (putF f v' .v2) (fun x=>x=.v2∨x=.cell):=by
 obtain ⟨l0,l1,l2,l3⟩:=h.lab
 obtain ⟨k0,ho⟩:=Kp.app h hb h.o2 hg hv (fun g e=>(hr.lt g e).2)
 have hbk:=k0.blk h.blk (by rw [l0]; exact Lab.noConfusion)
 have k:=k0.cell l0 2 v'
 obtain ⟨q,h1,h2⟩:=h.seen
 obtain ⟨h3,xs,h4,h4'⟩:=h.tasks
 obtain ⟨h5,h6⟩:=h.inC
 obtain ⟨h7,h8⟩:=h.ofT
 obtain ⟨L,h9,h10,h11,h12⟩:=h.atts
 obtain ⟨M,h13,h14,h15⟩:=h.tries
 have hcb:putF f v' .v2 cb=.cell:=(k0.fk cb h.blk.lt (by rw [l0]; exact Lab.noConfusion)).trans l0
 have hne:v'.ownBlock ≠ some cb:=fun e=>by rw [ho cb e] at hcb; exact Lab.noConfusion hcb
 have n1:∀ {l:Lab},l ≠ .v2→l ≠ .cell→¬ (l=.v2∨l=.cell):=fun h1 h2 e=>e.elim h1 h2
 obtain ⟨s1,s2⟩:=k.seen h2 (by rw [l1]; exact n1 Lab.noConfusion Lab.noConfusion)
 obtain ⟨s3,s4⟩:=k.map h10 (by rw [l2]; exact n1 Lab.noConfusion Lab.noConfusion)
 obtain ⟨s5,s6⟩:=k.map h14 (by rw [l3]; exact n1 Lab.noConfusion Lab.noConfusion)
 obtain ⟨r1,r2⟩:=k.row h4 h.o1 (n1 Lab.noConfusion Lab.noConfusion)
 obtain ⟨r3,r4⟩:=k.row h8 h.o3 (n1 Lab.noConfusion Lab.noConfusion)
 refine ⟨?_,k⟩
 refine ⟨hbk.set 2 v',h.base,⟨hcb,s2.trans l1,s4.trans l2,s6.trans l3⟩,k.fn,putF_lo h hr,r2,ho,r4,⟨q,by omega,s1⟩,⟨by simp only; omega,xs,r1,h4'⟩,⟨by simp; omega,?_⟩,⟨by simp only; omega,r3⟩,⟨L,by omega,s3,k.atts h11 (fun _=>n1 Lab.noConfusion Lab.noConfusion),h12⟩,fun k=>Nat.le_succ_of_le (h.attn k),⟨M,by omega,s5,h15⟩⟩
 have:=own_set (a:=⟨cb,2,none⟩) hr hne v'
 unfold ownS
 rw [List.length_append,List.map_append]
 exact this
/-- a number of a task is read -/
theorem CV.ofPut (h:CV w B cb n c f m0 m4 m5 v1 v2 v3) (x:Nat) {w1 w2:World} (hb:Below w.heap.size w w1) {v':Value} (hr:w2.ownsRow B 3 1 v' (c.ofTask.length+1) ((c.ofTask.map fun n:Nat=>.int .i64 (n:Int)) ++ [.int .i64 (x:Nat)])) (hg:w1.grownBy w2 v3.ownBlock) (hv:v'.ownBlock=v3.ownBlock∨v'.ownBlock=some w1.heap.size) :
 CV (w2.setCell ⟨cb,3,none⟩ v') B cb (n+1) { c with ofTask:=c.ofTask ++ [x] } (putF f v' .v3) m0 m4 m5 v1 v2 v'∧Kp w (w2.setCell ⟨cb,3,none⟩ v') f (putF f v' .v3) (fun x=>x=.v3∨x=.cell):=by
 obtain ⟨l0,l1,l2,l3⟩:=h.lab
 obtain ⟨k0,ho⟩:=Kp.app h hb h.o3 hg hv (fun g e=>(hr.lt g e).2)
 have hbk:=k0.blk h.blk (by rw [l0]; exact Lab.noConfusion)
 have k:=k0.cell l0 3 v'
 obtain ⟨q,h1,h2⟩:=h.seen
 obtain ⟨h3,xs,h4,h4'⟩:=h.tasks
 obtain ⟨h5,h6⟩:=h.inC
 obtain ⟨h7,h8⟩:=h.ofT
 obtain ⟨L,h9,h10,h11,h12⟩:=h.atts
 obtain ⟨M,h13,h14,h15⟩:=h.tries
 have hcb:putF f v' .v3 cb=.cell:=(k0.fk cb h.blk.lt (by rw [l0]; exact Lab.noConfusion)).trans l0
 have hne:v'.ownBlock ≠ some cb:=fun e=>by rw [ho cb e] at hcb; exact Lab.noConfusion hcb
 have n1:∀ {l:Lab},l ≠ .v3→l ≠ .cell→¬ (l=.v3∨l=.cell):=fun h1 h2 e=>e.elim h1 h2
 obtain ⟨s1,s2⟩:=k.seen h2 (by rw [l1]; exact n1 Lab.noConfusion Lab.noConfusion)
 obtain ⟨s3,s4⟩:=k.map h10 (by rw [l2]; exact n1 Lab.noConfusion Lab.noConfusion)
 obtain ⟨s5,s6⟩:=k.map h14 (by rw [l3]; exact n1 Lab.noConfusion Lab.noConfusion)
 obtain ⟨r1,r2⟩:=k.row h4 h.o1 (n1 Lab.noConfusion Lab.noConfusion)
 obtain ⟨r3,r4⟩:=k.row h6 h.o2 (n1 Lab.noConfusion Lab.noConfusion)
 refine ⟨?_,k⟩
 refine ⟨hbk.set 3 v',h.base,⟨hcb,s2.trans l1,s4.trans l2,s6.trans l3⟩,k.fn,putF_lo h hr,r2,r4,ho,⟨q,by omega,s1⟩,⟨by simp only; omega,xs,r1,h4'⟩,⟨by simp only; omega,r3⟩,⟨by simp; omega,?_⟩,⟨L,by omega,s3,k.atts h11 (fun _=>n1 Lab.noConfusion Lab.noConfusion),h12⟩,fun k=>Nat.le_succ_of_le (h.attn k),⟨M,by omega,s5,h15⟩⟩
 have:=own_set (a:=⟨cb,3,none⟩) hr hne v'
 unfold ownI
 rw [List.length_append,List.map_append]
 exact this
/-- a task is read -/
theorem CV.tkPut (h:CV w B cb n c f m0 m4 m5 v1 v2 v3) (t:TaskP) {w1 w2:World} (hb:Below w.heap.size w w1) {v':Value} {xs ys:List Value} (hx:∀ j (h:j < c.tasks.length),xs[j * 7+5]?=some (.int .i64 c.tasks[j].tries)) (hxl:xs.length=c.tasks.length * 7) (hy:ys[5]?=some (.int .i64 t.tries))
 (hr:w2.ownsRow B 35 7 v' (c.tasks.length+1) (xs ++ ys)) (hg:w1.grownBy w2 v1.ownBlock) (hv:v'.ownBlock=v1.ownBlock∨v'.ownBlock=some w1.heap.size) :
 CV (w2.setCell ⟨cb,1,none⟩ v') B cb (n+1) { c with tasks:=c.tasks ++ [t] } (putF f v' .v1) m0 m4 m5 v' v2 v3∧Kp w (w2.setCell ⟨cb,1,none⟩ v') f (putF f v' .v1) (fun x=>x=.v1∨x=.cell):=by
 obtain ⟨l0,l1,l2,l3⟩:=h.lab
 obtain ⟨h3,xs0,h4,h4'⟩:=h.tasks
 obtain ⟨k0,ho⟩:=Kp.app h hb h.o1 hg hv (fun g e=>(hr.lt g e).2)
 have hbk:=k0.blk h.blk (by rw [l0]; exact Lab.noConfusion)
 have k:=k0.cell l0 1 v'
 obtain ⟨q,h1,h2⟩:=h.seen
 obtain ⟨h5,h6⟩:=h.inC
 obtain ⟨h7,h8⟩:=h.ofT
 obtain ⟨L,h9,h10,h11,h12⟩:=h.atts
 obtain ⟨M,h13,h14,h15⟩:=h.tries
 have hcb:putF f v' .v1 cb=.cell:=(k0.fk cb h.blk.lt (by rw [l0]; exact Lab.noConfusion)).trans l0
 have hne:v'.ownBlock ≠ some cb:=fun e=>by rw [ho cb e] at hcb; exact Lab.noConfusion hcb
 have n1:∀ {l:Lab},l ≠ .v1→l ≠ .cell→¬ (l=.v1∨l=.cell):=fun h1 h2 e=>e.elim h1 h2
 obtain ⟨s1,s2⟩:=k.seen h2 (by rw [l1]; exact n1 Lab.noConfusion Lab.noConfusion)
 obtain ⟨s3,s4⟩:=k.map h10 (by rw [l2]; exact n1 Lab.noConfusion Lab.noConfusion)
 obtain ⟨s5,s6⟩:=k.map h14 (by rw [l3]; exact n1 Lab.noConfusion Lab.noConfusion)
 obtain ⟨r1,r2⟩:=k.row h6 h.o2 (n1 Lab.noConfusion Lab.noConfusion)
 obtain ⟨r3,r4⟩:=k.row h8 h.o3 (n1 Lab.noConfusion Lab.noConfusion)
 refine ⟨?_,k⟩
 refine ⟨hbk.set 1 v',h.base,⟨hcb,s2.trans l1,s4.trans l2,s6.trans l3⟩,k.fn,putF_lo h hr,ho,r2,r4,⟨q,by omega,s1⟩,⟨by simp; omega,xs ++ ys,?_,fun j hj=>?_⟩,⟨by simp only; omega,r1⟩,⟨by simp only; omega,r3⟩,⟨L,by omega,s3,k.atts h11 (fun _=>n1 Lab.noConfusion Lab.noConfusion),h12⟩,fun k=>Nat.le_succ_of_le (h.attn k),⟨M,by omega,s5,h15⟩⟩
 ·have:=own_set (a:=⟨cb,1,none⟩) hr hne v'
  rw [List.length_append]
  exact this
 ·rw [List.length_append,List.length_singleton] at hj
  rcases Nat.lt_or_ge j c.tasks.length with hlt | hge
  ·rw [List.getElem?_append_left (by omega),hx j hlt,List.getElem_append_left hlt]
  ·obtain rfl:j=c.tasks.length:=by omega
   rw [List.getElem?_append_right (by omega),List.getElem_append_right (by omega)]
   rw [show c.tasks.length * 7+5 - xs.length=5 by omega,hy]
   simp
theorem setT_memB (l:List (List UInt8 × Nat)) (k:List UInt8) (n:Nat) (q:List UInt8) (m:Nat):(q,m) ∈ setT l k n ↔ (q=k∧m=n)∨((q,m) ∈ l∧q ≠ k):=by
 unfold setT
 by_cases h:l.any (fun e=>e.1 == k)=true
 ·rw [if_pos h]
  rw [List.mem_map]
  constructor
  ·rintro ⟨⟨a,b⟩,h1,h2⟩
   by_cases e:a=k
   ·simp [e] at h2; exact Or.inl ⟨h2.1.symm,h2.2.symm⟩
   ·simp [e] at h2; obtain ⟨rfl,rfl⟩:=h2; exact Or.inr ⟨h1,e⟩
  ·rintro (⟨rfl,rfl⟩ | ⟨h1,h2⟩)
   ·obtain ⟨⟨a,b⟩,h3,h4⟩:=List.any_eq_true.1 h
    exact ⟨(a,b),h3,by simp at h4; simp [h4]⟩
   ·exact ⟨(q,m),h1,by simp [h2]⟩
 ·rw [if_neg h]
  rw [List.mem_append,List.mem_singleton]
  have hn:∀ m,(k,m) ∉ l:=fun m hm=>h (List.any_eq_true.2 ⟨_,hm,by simp⟩)
  constructor
  ·rintro (h1 | h1)
   ·exact Or.inr ⟨h1,fun e=>hn m (e ▸ h1)⟩
   ·cases h1; exact Or.inl ⟨rfl,rfl⟩
  ·rintro (⟨rfl,rfl⟩ | ⟨h1,_⟩)
   ·exact Or.inr rfl
   ·exact Or.inl h1
/-- a look into the attempts of a student -/
theorem CV.att (h:CV w B cb n c f m0 m4 m5 v1 v2 v3) (k:List UInt8) (hk:k.length≤maxLen) :
 ∃ v,(Instr.lookup 131 (.map (some m4)) (strV k) false).run Tryz.prog w=.ok v w∧ownI w B v (c.atts k)∧Ow f (.ent k) v:=by
 obtain ⟨L,h9,h10,h11,h12⟩:=h.atts
 obtain ⟨v,ps,hr,hv⟩:=h10.lookup keyed Tryz.underlying131 (z:=.slice none 0 0) (by kernel_rfl) (zd:=.held (.slice none 0 0)) (zp:=[]) rfl (keyOf_str k hk)
 refine ⟨v,hr,?_⟩
 rw [toD_at] at hv
 unfold tokR at hv
 simp only [Option.some.injEq,Prod.mk.injEq] at hv
 have:=hv.1
 cases hf:eFind L k with
 | none=>
   rw [hf] at this; simp only [DataW.held.injEq] at this; subst this
   have hn:c.atts k=[]:=h12 k (fun e he hk2=>by
    unfold eFind at hf
    rw [List.find?_eq_none] at hf
    exact hf e he (by simp [hk2]))
   rw [hn]
   exact ⟨by simpa [ownI] using World.ownsRow_nil w B 3 1,fun g hg=>by cases hg⟩
 | some e=>
   rw [hf] at this; simp only [DataW.held.injEq] at this; subst this
   obtain ⟨he,rfl⟩:=eFind_mem hf
   exact h11 e he
/-- a look into the classes -/
theorem CV.cLook (h:CV w B cb n c f m0 m4 m5 v1 v2 v3) (k:List UInt8) (hk:k.length≤maxLen) :
 (Instr.lookup 130 (.map (some m0)) (strV k) false).run Tryz.prog w=.ok (.bool (c.classes.contains k)) w:=by
 obtain ⟨q,h1,h2⟩:=h.seen
 exact h2.look k hk
/-- the attempts of a student have grown by one, and are put into the map -/
theorem CV.attPut (h:CV w B cb n c f m0 m4 m5 v1 v2 v3) (k:List UInt8) (x:Nat) {w1 w2:World} (hb:Below w.heap.size w w1) {v v':Value} (ho:Ow f (.ent k) v)
 (hr:w2.ownsRow B 3 1 v' ((c.atts k).length+1) (((c.atts k).map fun n:Nat=>.int .i64 (n:Int)) ++ [.int .i64 (x:Nat)])) (hg:w1.grownBy w2 v.ownBlock) (hv:v'.ownBlock=v.ownBlock∨v'.ownBlock=some w1.heap.size) :
 ∃ L:List Ent,L.length≤n∧w2.ownsMap Tryz.prog 9 tokR m4 L.length (toD L)∧∀ w3,w3.ownsMap Tryz.prog 9 tokR m4 (L.length+1) ((toD L).put (.string k) (.held v'))→w2.mapTurned w3 m4 →
   CV w3 B cb (n+1) { c with atts:=updA c.atts k (c.atts k ++ [x]) } (putF f v' (.ent k)) m0 m4 m5 v1 v2 v3∧Kp w w3 f (putF f v' (.ent k)) (fun x=>x=.ent k∨x=.m4):=by
 obtain ⟨l0,l1,l2,l3⟩:=h.lab
 obtain ⟨k0,hov⟩:=Kp.app h hb ho hg hv (fun g e=>(hr.lt g e).2)
 obtain ⟨q,h1,h2⟩:=h.seen
 obtain ⟨h3,xs0,h4,h4'⟩:=h.tasks
 obtain ⟨h5,h6⟩:=h.inC
 obtain ⟨h7,h8⟩:=h.ofT
 obtain ⟨L,h9,h10,h11,h12⟩:=h.atts
 obtain ⟨M,h13,h14,h15⟩:=h.tries
 obtain ⟨a1,a2⟩:=k0.map h10 (by rw [l2]; exact Lab.noConfusion)
 have hm4:putF f v' (.ent k) m4=.m4:=a2.trans l2
 refine ⟨L,h9,a1,fun w3 hm ht=>?_⟩
 rw [show (toD L).put (.string k) (.held v')=toD (ePut L ⟨k,v',[]⟩) from toD_put L ⟨k,v',[]⟩] at hm
 have hple:(ePut L ⟨k,v',[]⟩).length≤L.length+1:=by
  have h1:∀ M:List Ent,(eIns ⟨k,v',[]⟩ M).length=M.length+1:=fun M=>by
   induction M with
   | nil=>rfl
   | cons y r ih=>
     unfold eIns
     split
     ·rfl
     ·rw [List.length_cons,ih,List.length_cons]
  unfold ePut
  rw [h1]
  exact Nat.succ_le_succ (List.length_filter_le _ _)
 have hm:=own_exact hm
 have hG:Grown (·=m4) w2 w3:=turned_grown ht
 have kk:Kp w w3 f (putF f v' (.ent k)) (fun x=>x=.ent k∨x=.m4):=
  ⟨(k0.gr.mono (fun _ _ hs=>Or.inl hs)).trans (hG.mono (fun g _ e=>by subst e; exact Or.inr l2)),fun g h1 h2=>k0.fk g h1 (fun e=>h2 (Or.inl e)),fun g hg2=>k0.fn g (Nat.le_trans hG.size hg2)⟩
 have n1:∀ {l:Lab},l ≠ .ent k→l ≠ .m4→¬ (l=.ent k∨l=.m4):=fun h1 h2 e=>e.elim h1 h2
 have s0:=kk.fk cb h.blk.lt (by rw [l0]; exact n1 Lab.noConfusion Lab.noConfusion)
 have hb2:=kk.blk h.blk (by rw [l0]; exact n1 Lab.noConfusion Lab.noConfusion)
 obtain ⟨s1,s2⟩:=kk.seen h2 (by rw [l1]; exact n1 Lab.noConfusion Lab.noConfusion)
 obtain ⟨s5,s6⟩:=kk.map h14 (by rw [l3]; exact n1 Lab.noConfusion Lab.noConfusion)
 obtain ⟨r1,r2⟩:=kk.row h4 h.o1 (n1 Lab.noConfusion Lab.noConfusion)
 obtain ⟨r3,r4⟩:=kk.row h6 h.o2 (n1 Lab.noConfusion Lab.noConfusion)
 obtain ⟨r5,r6⟩:=kk.row h8 h.o3 (n1 Lab.noConfusion Lab.noConfusion)
 have hne:v'.ownBlock ≠ some m4:=fun e=>by rw [hov m4 e] at hm4; exact Lab.noConfusion hm4
 have hown:ownI w3 B v' (c.atts k ++ [x]):=by
  unfold ownI
  rw [List.length_append,List.map_append]
  obtain ⟨y1,y2⟩:=hr
  refine ⟨y1,?_⟩
  rcases y2 with y2 | ⟨g,cap,cur,rfl,y3,y4,y5⟩
  ·exact Or.inl y2
  ·refine Or.inr ⟨g,cap,cur,rfl,y3,(hG.block g (Array.getElem?_eq_some_iff.1 y4).1 (fun e=>hne (by rw [← e]; rfl))).trans y4,y5⟩
 refine ⟨?_,kk⟩
 refine ⟨hb2,h.base,⟨s0.trans l0,s2.trans l1,hm4,s6.trans l3⟩,kk.fn,putF_lo h hr,r2,r4,r6,⟨q,by omega,s1⟩,⟨by simp only; omega,xs0,r1,h4'⟩,⟨by simp only; omega,r3⟩,⟨by simp only; omega,r5⟩,⟨_,by omega,hm,fun e he=>?_,fun y hy=>?_⟩,fun y=>?_,⟨M,by omega,s5,h15⟩⟩
 ·simp only
  rcases (ePut_mem _ _ _).1 he with rfl | ⟨h16,h17⟩
  ·unfold updA
   rw [if_pos rfl]
   exact ⟨hown,hov⟩
  ·unfold updA
   rw [if_neg h17]
   exact kk.row (h11 e h16).1 (h11 e h16).2 (n1 (fun e2=>h17 (by cases e2; rfl)) Lab.noConfusion)
 ·have hyk:y ≠ k:=fun e=>hy _ ((ePut_mem _ _ _).2 (Or.inl rfl)) e.symm
  simp only
  unfold updA
  rw [if_neg hyk]
  refine h12 y (fun e he hey=>hy e ((ePut_mem _ _ _).2 (Or.inr ⟨he,?_⟩)) hey)
  rw [hey]; exact hyk
 ·simp only
  unfold updA
  split
  ·rw [List.length_append,List.length_singleton]; have:=h.attn k; omega
  ·exact Nat.le_succ_of_le (h.attn y)
/-- the task of the attempts of a student is put into the map -/
theorem CV.trPut (h:CV w B cb n c f m0 m4 m5 v1 v2 v3) (k:List UInt8) (x:Nat) :
 ∃ L:List Ent,L.length≤n∧w.ownsMap Tryz.prog 9 tokR m5 L.length (toD L)∧∀ w3,w3.ownsMap Tryz.prog 9 tokR m5 (L.length+1) ((toD L).put (.string k) (.held (.int .i64 (x:Nat))))→w.mapTurned w3 m5 →
   CV w3 B cb (n+1) { c with tries:=setT c.tries k x } f m0 m4 m5 v1 v2 v3∧Kp w w3 f f (fun x=>x=.m5):=by
 obtain ⟨l0,l1,l2,l3⟩:=h.lab
 obtain ⟨q,h1,h2⟩:=h.seen
 obtain ⟨h3,xs0,h4,h4'⟩:=h.tasks
 obtain ⟨h5,h6⟩:=h.inC
 obtain ⟨h7,h8⟩:=h.ofT
 obtain ⟨L,h9,h10,h11,h12⟩:=h.atts
 obtain ⟨M,h13,h14,h15,h16⟩:=h.tries
 refine ⟨M,h13,h14,fun w3 hm ht=>?_⟩
 rw [show (toD M).put (.string k) (.held (.int .i64 (x:Nat)))=toD (ePut M ⟨k,.int .i64 (x:Nat),[]⟩) from toD_put M ⟨k,.int .i64 (x:Nat),[]⟩] at hm
 have hple:(ePut M ⟨k,.int .i64 (x:Nat),[]⟩).length≤M.length+1:=by
  have h1:∀ K:List Ent,(eIns ⟨k,.int .i64 (x:Nat),[]⟩ K).length=K.length+1:=fun K=>by
   induction K with
   | nil=>rfl
   | cons y r ih=>
     unfold eIns
     split
     ·rfl
     ·rw [List.length_cons,ih,List.length_cons]
  unfold ePut
  rw [h1]
  exact Nat.succ_le_succ (List.length_filter_le _ _)
 have hm:=own_exact hm
 have hG:Grown (·=m5) w w3:=turned_grown ht
 have kk:Kp w w3 f f (fun x=>x=.m5):=⟨hG.mono (fun g _ e=>by rw [e]; exact l3),fun _ _ _=>rfl,fun g hg2=>h.fr g (Nat.le_trans hG.size hg2)⟩
 have hb2:=kk.blk h.blk (by rw [l0]; exact Lab.noConfusion)
 obtain ⟨s1,s2⟩:=kk.seen h2 (by rw [l1]; exact Lab.noConfusion)
 obtain ⟨s5,s6⟩:=kk.map h10 (by rw [l2]; exact Lab.noConfusion)
 refine ⟨?_,kk⟩
 refine ⟨hb2,h.base,h.lab,kk.fn,h.lo,h.o1,h.o2,h.o3,⟨q,by omega,s1⟩,⟨by simp only; omega,xs0,(kk.row h4 h.o1 Lab.noConfusion).1,h4'⟩,⟨by simp only; omega,(kk.row h6 h.o2 Lab.noConfusion).1⟩,⟨by simp only; omega,(kk.row h8 h.o3 Lab.noConfusion).1⟩,⟨L,by omega,s5,kk.atts h11 (fun _=>Lab.noConfusion),h12⟩,fun y=>Nat.le_succ_of_le (h.attn y),⟨_,by omega,hm,fun e he=>?_,fun y m=>?_⟩⟩
 ·rcases (ePut_mem _ _ _).1 he with rfl | ⟨h17,_⟩
  ·exact ⟨x,rfl⟩
  ·exact h15 e h17
 ·simp only
  rw [setT_memB,h16]
  constructor
  ·rintro (⟨rfl,rfl⟩ | ⟨⟨e,he,h17,h18⟩,h19⟩)
   ·exact ⟨_,(ePut_mem _ _ _).2 (Or.inl rfl),rfl,rfl⟩
   ·exact ⟨e,(ePut_mem _ _ _).2 (Or.inr ⟨he,by rw [h17]; exact h19⟩),h17,h18⟩
  ·rintro ⟨e,he,h17,h18⟩
   rcases (ePut_mem _ _ _).1 he with rfl | ⟨h19,h20⟩
   ·simp only at h17 h18
    cases h18
    exact Or.inl ⟨h17.symm,rfl⟩
   ·exact Or.inr ⟨⟨e,h19,h17,h18⟩,by rw [← h17]; exact h20⟩
/-- blocks that are not the content's have changed -/
theorem CV.keepN (h:CV w B cb n c f m0 m4 m5 v1 v2 v3) (k:Kp w w' f f (fun x=>x=.no)):CV w' B cb n c f m0 m4 m5 v1 v2 v3:=by
 obtain ⟨l0,l1,l2,l3⟩:=h.lab
 obtain ⟨q,h1,h2⟩:=h.seen
 obtain ⟨h3,xs,h4,h4'⟩:=h.tasks
 obtain ⟨h5,h6⟩:=h.inC
 obtain ⟨h7,h8⟩:=h.ofT
 obtain ⟨L,h9,h10,h11,h12⟩:=h.atts
 obtain ⟨M,h13,h14,h15⟩:=h.tries
 exact ⟨k.blk h.blk (by rw [l0]; exact Lab.noConfusion),h.base,h.lab,k.fn,h.lo,(k.row h4 h.o1 Lab.noConfusion).2,(k.row h6 h.o2 Lab.noConfusion).2,(k.row h8 h.o3 Lab.noConfusion).2,⟨q,h1,(k.seen h2 (by rw [l1]; exact Lab.noConfusion)).1⟩,⟨h3,xs,(k.row h4 h.o1 Lab.noConfusion).1,h4'⟩,⟨h5,(k.row h6 h.o2 Lab.noConfusion).1⟩,⟨h7,(k.row h8 h.o3 Lab.noConfusion).1⟩,⟨L,h9,(k.map h10 (by rw [l2]; exact Lab.noConfusion)).1,k.atts h11 (fun _=>Lab.noConfusion),h12⟩,h.attn,⟨M,h13,(k.map h14 (by rw [l3]; exact Lab.noConfusion)).1,h15⟩⟩
/-- one block that is not the content's is turned -/
theorem CV.putN (h:CV w B cb n c f m0 m4 m5 v1 v2 v3) {g:Nat} (hg:f g=.no) (o:Obj):CV (w.putObj g o) B cb n c f m0 m4 m5 v1 v2 v3:=
 h.keepN ⟨⟨rfl,rfl,rfl,by simp,fun k _ hk=>World.putObj_heap_other (fun e=>hk (by rw [e]; exact hg))⟩,fun _ _ _=>rfl,fun k hk=>h.fr k (by simpa using hk)⟩
/-- from one world to the next, by a call that reads an entry into the content -/
structure KQ (B:Nat) (f f':Nat→Lab) (w w':World):Prop where
 bl:Below B w w'
 kp:Kp w w' f f' (fun x=>x ≠ .no)
theorem Kp.mono {T T':Lab→Prop} (k:Kp w w' f f' T) (h:∀ x,T x→T' x):Kp w w' f f' T':=⟨k.gr.mono (fun _ _=>h _),fun g hg hn=>k.fk g hg (fun e=>hn (h _ e)),k.fn⟩
theorem Kp.of_below {T:Lab→Prop} (hb:Below w.heap.size w w') (hf:∀ g,w.heap.size≤g→f g=.no):Kp w w' f f T:=⟨Grown.of_below hb,fun _ _ _=>rfl,fun g hg=>hf g (Nat.le_trans hb.size hg)⟩
theorem Kp.trans {T:Lab→Prop} {w2:World} {f2:Nat→Lab} (k:Kp w w' f f' T) (k2:Kp w' w2 f' f2 T):Kp w w2 f f2 T:=by
 refine ⟨⟨k2.gr.os.trans k.gr.os,k2.gr.tape.trans k.gr.tape,k2.gr.output.trans k.gr.output,Nat.le_trans k.gr.size k2.gr.size,fun g hg hn=>?_⟩,fun g hg hn=>?_,k2.fn⟩
 ·have e:=k.fk g hg hn
  exact (k2.gr.block g (Nat.lt_of_lt_of_le hg k.gr.size) (by rw [e]; exact hn)).trans (k.gr.block g hg hn)
 ·have e:=k.fk g hg hn
  exact (k2.fk g (Nat.lt_of_lt_of_le hg k.gr.size) (by rw [e]; exact hn)).trans e
theorem CV.kq (h:CV w B cb n c f m0 m4 m5 v1 v2 v3) {T:Lab→Prop} (k:Kp w w' f f' T) (hT:¬ T .no):KQ B f f' w w':=⟨h.kpB k hT,k.mono (fun _ hx e=>hT (e ▸ hx))⟩
theorem CV.kqB (h:CV w B cb n c f m0 m4 m5 v1 v2 v3) (hb:Below w.heap.size w w'):KQ B f f w w':=⟨hb.mono h.szB,Kp.of_below hb h.fr⟩
theorem KQ.trans {w2:World} {f2:Nat→Lab} (k:KQ B f f' w w') (k2:KQ B f' f2 w' w2):KQ B f f2 w w2:=⟨k.bl.trans k2.bl,k.kp.trans k2.kp⟩
theorem KQ.below {w2:World} (k:KQ B f f' w w') (h:B≤w'.heap.size) (hb:Below w'.heap.size w' w2):KQ B f f' w w2:=⟨k.bl.trans (hb.mono h),k.kp.trans (Kp.of_below hb k.kp.fn)⟩
theorem KQ.both (k:KQ B f f' w w') (hc:CW w' B cb n c f'):(CW w' B cb n c f'∧Kp w w' f f' (fun x=>x ≠ .no))∧Below B w w':=⟨⟨hc,k.kp⟩,k.bl⟩
theorem CW.szB (h:CW w B cb n c f):B≤w.heap.size:=by
 obtain ⟨m0,m4,m5,v1,v2,v3,hv⟩:=h
 exact hv.szB
end
end Go.Proofs.YtbcfpdlhieaepaaGreatDoor
