/- A journal and its disk beside a reference's journal: their memory named. -/
import Derived.Test.YtondomklkapogaaGreatDoorM17
import Derived.Test.YtondomklkapogaaGreatDoorM35
import Derived.Test.YtondomklkapogaaGreatDoorM33
import Derived.Test.YtondomklkapogaaGreatDoorM20
import Derived.Test.YtondomklkapogaaGreatDoorM18
import Derived.IntWalk
import Derived.BigQuiet
import Derived.StillTailTactics
namespace Go.Proofs.YtondomklkapogaaGreatDoor
section
open Go.RowKit SeedP Go.Maps
/-- the blocks that an act of the journal turns -/
def Sj (db jb mb:Nat):Nat→Prop:=fun k=>k=jb∨k=db∨k=mb
/-- the journal's memory: its three blocks, and the blocks of which p holds -/
structure JZ (B:Nat) (p:Nat→Prop) (w:World) (db jb mb:Nat) (s:JS):Prop where
 pos:0 < B
 jle:B≤jb
 dle:B≤db
 mle:B≤mb
 lie:∀ g,p g→B≤g∧g < w.heap.size
 jw:JW w jb db mb p s
/-- the disk's memory: its block, and the blocks of which p holds -/
structure DZ (B:Nat) (p:Nat→Prop) (w:World) (db:Nat) (d:DS):Prop where
 st:St w
 pos:0 < B
 dle:B≤db
 lie:∀ g,p g→B≤g∧g < w.heap.size
 ne:∀ g,p g→g ≠ db
 dw:DW w db p d
/-- the memory behind an act -/
def pNext (p:Nat→Prop) (w w':World):Nat→Prop:=fun g=>(p g∨w.heap.size≤g)∧g < w'.heap.size
theorem JZ.jl {B:Nat} {p:Nat→Prop} {w:World} {db jb mb:Nat} {s:JS} (h:JZ B p w db jb mb s):JL B w db jb s:=
 ⟨h.pos,h.jle,h.dle,mb,h.mle,h.jw.mono (fun g hg=>⟨(h.lie g hg).1,(h.jw.away g hg).1,(h.jw.away g hg).2.1,(h.jw.away g hg).2.2.1⟩) (fun g hg=>⟨hg.2.1,hg.2.2.1,hg.2.2.2,by have:=h.pos; omega⟩)⟩
theorem JZ.size {B:Nat} {p:Nat→Prop} {w:World} {db jb mb:Nat} {s:JS} (h:JZ B p w db jb mb s):B < w.heap.size:=h.jl.size
theorem JZ.dz {B:Nat} {p:Nat→Prop} {w:World} {db jb mb:Nat} {s:JS} (h:JZ B p w db jb mb s):DZ B p w db s.d:=
 ⟨h.jw.st,h.pos,h.dle,h.lie,fun g hg=>(h.jw.away g hg).2.1,h.jw.disk⟩
theorem JZ.act {B:Nat} {p:Nat→Prop} {w w':World} {db jb mb:Nat} {s s':JS} (h:JZ B p w db jb mb s) (h':JW w' jb db mb (fun g=>p g∨w.heap.size≤g) s'):JZ B (pNext p w w') w' db jb mb s':=
 ⟨h.pos,h.jle,h.dle,h.mle,fun g hg=>⟨by have:=h.size; rcases hg.1 with hp | hp; exact (h.lie g hp).1; omega,hg.2⟩,h'.low⟩
/-- whatever is none of the journal's memory may turn -/
theorem JZ.grown {B:Nat} {p S:Nat→Prop} {w w':World} {db jb mb:Nat} {s:JS} (h:JZ B p w db jb mb s) (hg:Grown S w w') (hS:∀ g,S g→¬ p g∧¬ Sj db jb mb g∧g ≠ 0):JZ B p w' db jb mb s:=
 ⟨h.pos,h.jle,h.dle,h.mle,fun g hp=>⟨(h.lie g hp).1,Nat.lt_of_lt_of_le (h.lie g hp).2 hg.size⟩,h.jw.grown hg (fun e=>(hS 0 e).2.2 rfl) (fun e=>(hS _ e).2.1 (Or.inl rfl)) (fun e=>(hS _ e).2.1 (Or.inr (Or.inl rfl))) (fun e=>(hS _ e).2.1 (Or.inr (Or.inr rfl))) (fun g hp e=>(hS g e).1 hp)⟩
theorem JZ.below {B:Nat} {p:Nat→Prop} {w w':World} {db jb mb:Nat} {s:JS} (h:JZ B p w db jb mb s) (hb:Below w.heap.size w w'):JZ B p w' db jb mb s:=
 h.grown (Grown.of_below hb (S:=fun _=>False)) (fun _ h=>h.elim)
theorem JZ.cut {B:Nat} {p:Nat→Prop} {w w':World} {db jb mb:Nat} {s:JS} (h:JZ B p w db jb mb s) (hg:Grown (Sj db jb mb) w w'):Below B w w':=
 hg.below (fun k e=>by have:=h.jle; have:=h.dle; have:=h.mle; unfold Sj at e; omega) (by have:=h.size; omega)
theorem pNext.not {p:Nat→Prop} {w w':World} {g:Nat} (h:¬ p g) (hl:g < w.heap.size):¬ pNext p w w' g:=fun e=>by
 rcases e.1 with e | e
 ·exact h e
 ·omega
/-- a cell that is a byte or a string is none of the journal's three blocks -/
theorem JZ.out {B:Nat} {p:Nat→Prop} {w:World} {db jb mb:Nat} {s:JS} (h:JZ B p w db jb mb s) {g o:Nat} {v:Value} (hc:w.cell? ⟨g,o,none⟩=some v) (hv:(∃ m:Int,v=.int .u8 m)∨∃ t,v=.string t):¬ Sj db jb mb g:=by
 rintro (rfl | rfl | rfl)
 ·have:=h.jw.blk.cell_some hc
  rcases hv with ⟨m,rfl⟩ | ⟨t,rfl⟩ <;> simp at this
 ·obtain ⟨v0,v1,q0,q1,h1,r0,r1,_⟩:=h.jw.disk
  have:=h1.cell_some hc
  obtain ⟨_,_,rfl,_⟩:=r0.toB.open_
  obtain ⟨_,_,rfl,_⟩:=r1.toB.open_
  rcases hv with ⟨m,rfl⟩ | ⟨t,rfl⟩ <;> simp at this
 ·obtain ⟨L,hM,_⟩:=h.jw.map
  obtain ⟨es,clock,hb,_⟩:=hM.own
  simp [World.cell?,hb] at hc
theorem RdB.act {B C:Nat} {p:Nat→Prop} {w w':World} {db jb mb:Nat} {s:JS} {v:Value} {l:List UInt8} (hr:RdB w C v l) (h:JZ B p w db jb mb s) (hg:Grown (Sj db jb mb) w w'):RdB w' C v l:=by
 rcases hr with hr | ⟨g,off,cap,e,h1,h2,h3,h4⟩
 ·exact Or.inl hr
 ·refine Or.inr ⟨g,off,cap,e,h1,h2,h3,fun j hj=>?_⟩
  have hc:=h4 j hj
  exact (World.cell?_of_block (hg.block g (World.block_lt_of_cell? w _ hc) (h.out hc (Or.inl ⟨_,rfl⟩)))).trans hc
theorem RD.act {B:Nat} {p:Nat→Prop} {w w':World} {db jb mb:Nat} {s:JS} {v0 v1:Value} {d:DS} (hr:RD w v0 v1 d) (h:JZ B p w db jb mb s) (hg:Grown (Sj db jb mb) w w'):RD w' v0 v1 d:=
 ⟨(hr.r0.act h hg).mono hg.size,(hr.r1.act h hg).mono hg.size⟩
theorem EntsAt.act {B C:Nat} {p:Nat→Prop} {w w':World} {db jb mb:Nat} {s:JS} {v:Value} {P:PEnts} (hr:EntsAt w C v P) (h:JZ B p w db jb mb s) (hg:Grown (Sj db jb mb) w w'):EntsAt w' C v P:=by
 obtain ⟨a,cap,e,h1,h2,h3⟩:=hr
 refine ⟨a,cap,e,h1,h2,?_⟩
 rcases h3 with h3 | ⟨g,off,e2,hlt,h4⟩
 ·exact Or.inl h3
 ·refine Or.inr ⟨g,off,e2,hlt,fun j hj=>?_⟩
  obtain ⟨vv,k0,k1,k2⟩:=h4 j hj
  have hn:=h.out k0 (Or.inr ⟨_,rfl⟩)
  exact ⟨vv,(World.cell?_of_block (hg.block g (World.block_lt_of_cell? w _ k0) hn)).trans k0,(World.cell?_of_block (hg.block g (World.block_lt_of_cell? w _ k1) hn)).trans k1,k2.act h hg⟩
theorem ChgsAt.act {B C:Nat} {p:Nat→Prop} {w w':World} {db jb mb:Nat} {s:JS} {v:Value} {cs:List Chg} (hr:ChgsAt w C v cs) (h:JZ B p w db jb mb s) (hg:Grown (Sj db jb mb) w w'):ChgsAt w' C v cs:=by
 obtain ⟨a,cap,e,h1,h2,h3⟩:=hr
 refine ⟨a,cap,e,h1,h2,?_⟩
 rcases h3 with h3 | ⟨g,off,e2,hlt,h4⟩
 ·exact Or.inl h3
 ·refine Or.inr ⟨g,off,e2,hlt,fun j hj=>?_⟩
  obtain ⟨vv,k0,k1,k2,k3⟩:=h4 j hj
  have hn:=h.out k0 (Or.inr ⟨_,rfl⟩)
  exact ⟨vv,(World.cell?_of_block (hg.block g (World.block_lt_of_cell? w _ k0) hn)).trans k0,(World.cell?_of_block (hg.block g (World.block_lt_of_cell? w _ k1) hn)).trans k1,(World.cell?_of_block (hg.block g (World.block_lt_of_cell? w _ k2) hn)).trans k2,k3.act h hg⟩
theorem commit_z {B:Nat} {p:Nat→Prop} {w:World} {db jb mb:Nat} {s:JS} (h:JZ B p w db jb mb s) (v:Value) (cs:List Chg) (hc:ChgsP w (fun g=>g ≠ jb∧g ≠ db∧g ≠ mb) v cs) (hn:cs.length≤1000000) (hb:∀ c ∈ cs,c.key.length≤1073741824∧c.val.length≤1073741824) :
 Calls Tryz.prog 13 #[.pointer (some ⟨jb,0,none⟩),v] w fun e w'=>e=.returned (.int .i64 (jCommit cs s).2)∧JZ B (pNext p w w') w' db jb mb (jCommit cs s).1∧Grown (Sj db jb mb) w w':=by
 refine (commit_c v cs w h.jw hc hn hb).mono ?_
 rintro e w' ⟨rfl,hJ',hg⟩
 exact ⟨rfl,h.act hJ',hg⟩
theorem set_z {B:Nat} {p:Nat→Prop} {w:World} {db jb mb:Nat} {s:JS} (h:JZ B p w db jb mb s) (k val:List UInt8) (v:Value) (hv:RdP w (fun g=>g ≠ jb∧g ≠ db∧g ≠ mb) v val) (hk:k.length≤1073741824) (hl:val.length≤1073741824) :
 Calls Tryz.prog 25 #[.pointer (some ⟨jb,0,none⟩),strV k,v] w fun e w'=>e=.returned (.int .i64 (jCommit [⟨k,val,false⟩] s).2)∧JZ B (pNext p w w') w' db jb mb (jCommit [⟨k,val,false⟩] s).1∧Grown (Sj db jb mb) w w':=by
 refine (set_c k val v w h.jw hv hk hl).mono ?_
 rintro e w' ⟨rfl,hJ',hg⟩
 exact ⟨rfl,h.act hJ',hg⟩
theorem drop_z {B:Nat} {p:Nat→Prop} {w:World} {db jb mb:Nat} {s:JS} (h:JZ B p w db jb mb s) (k:List UInt8) (hk:k.length≤1073741824) :
 Calls Tryz.prog 26 #[.pointer (some ⟨jb,0,none⟩),strV k] w fun e w'=>e=.returned (.int .i64 (jCommit [⟨k,[],true⟩] s).2)∧JZ B (pNext p w w') w' db jb mb (jCommit [⟨k,[],true⟩] s).1∧Grown (Sj db jb mb) w w':=by
 refine (drop_c k w h.jw hk).mono ?_
 rintro e w' ⟨rfl,hJ',hg⟩
 exact ⟨rfl,h.act hJ',hg⟩
theorem compact_z {B:Nat} {p:Nat→Prop} {w:World} {db jb mb:Nat} {s:JS} (h:JZ B p w db jb mb s) :
 Calls Tryz.prog 12 #[.pointer (some ⟨jb,0,none⟩)] w fun e w'=>e=.returned (.int .i64 (jCompactOp s).2)∧JZ B (pNext p w w') w' db jb mb (jCompactOp s).1∧Grown (Sj db jb mb) w w':=by
 refine (compactOp_c w h.jw).mono ?_
 rintro e w' ⟨rfl,hJ',hg⟩
 exact ⟨rfl,h.act hJ',hg⟩
/-- a disk is opened -/
theorem open_z {B:Nat} {p:Nat→Prop} {w:World} {db:Nat} {d:DS} (h:DZ B p w db d) (hok:d.Ok) :
 Calls Tryz.prog 10 #[.pointer (some ⟨db,0,none⟩)] w fun e w'=>∃ jb2 mb2,e=.returned (.tuple #[.pointer (some ⟨jb2,0,none⟩),.int .i64 0])∧w.heap.size≤jb2∧w.heap.size≤mb2∧(∃ p2:Nat→Prop,(∀ g,p2 g→p g∨w.heap.size≤g)∧JZ B p2 w' db jb2 mb2 (jOpen d))∧Below w.heap.size w w':=by
 have hlt:=h.dw.lt
 have hdle:=h.dle
 have hpos:=h.pos
 refine (open_c db p d w h.st h.dw hok (fun g hg=>⟨h.ne g hg,by have:=(h.lie g hg).1; omega⟩)).mono ?_
 rintro e w' ⟨jb2,mb2,rfl,h1,h2,hJ,hb⟩
 have hlt:=hJ.lt
 refine ⟨jb2,mb2,rfl,h1,h2,⟨_,fun g hg=>?_,h.pos,by omega,h.dle,by omega,fun g hg=>⟨?_,hg.2⟩,hJ.low⟩,hb⟩
 ·rcases hg.1 with hp | hp
  ·exact Or.inl hp.1
  ·exact Or.inr hp.1
 ·rcases hg.1 with hp | hp
  ·exact (h.lie g hp.1).1
  ·omega
/-- the power is set -/
theorem DZ.power {B:Nat} {p:Nat→Prop} {w:World} {db:Nat} {d:DS} (h:DZ B p w db d) (pw:Int):DZ B p (w.setCell ⟨db,0,none⟩ (.int .i64 pw)) db ⟨pw,d.f0,d.f1⟩∧Grown (fun k=>k=db) w (w.setCell ⟨db,0,none⟩ (.int .i64 pw)):=by
 obtain ⟨hs,h0,h1,hl,hne,v0,v1,q0,q1,hb,hr0,hr1,hq0,hq1,hun⟩:=h
 have hg:Grown (fun k=>k=db) w (w.setCell ⟨db,0,none⟩ (.int .i64 pw)):=Grown.setCell (S:=fun k=>k=db) (Grown.refl _ _) (a:=⟨db,0,none⟩) rfl _
 exact ⟨⟨hs.block (hg.block 0 hs.pos (fun e=>by omega)),h0,h1,fun g hp=>⟨(hl g hp).1,Nat.lt_of_lt_of_le (hl g hp).2 hg.size⟩,hne,v0,v1,q0,q1,hb.set 0 _,hr0.grown hg (fun g hq=>hne g (hq0 g hq).1),hr1.grown hg (fun g hq=>hne g (hq1 g hq)),hq0,hq1,fun g hq=>⟨Nat.lt_of_lt_of_le (hun g hq).1 hg.size,(hun g hq).2.keep (hg.block g (hun g hq).1 (hne g (by rcases hq with hq | hq; exact (hq0 g hq).1; exact hq1 g hq)))⟩⟩,hg⟩
end
section
/-- the first k of n are done -/
def preB (n k:Nat):List Bool:=(List.range n).map fun j=>decide (j < k)
theorem preB_get {n k j:Nat} (hj:j < n):(preB n k)[j]?=some (decide (j < k)):=by unfold preB; rw [List.getElem?_map,List.getElem?_range hj]; rfl
theorem preB_inj {n k k':Nat} (hk:k≤n) (hk':k'≤n) (h:preB n k=preB n k'):k=k':=by
 rcases Nat.lt_trichotomy k k' with h1 | h1 | h1
 ·have e:=congrArg (·[k]?) h
  simp only [preB_get (show k < n by omega),Option.some.injEq,decide_eq_decide] at e
  omega
 ·exact h1
 ·have e:=congrArg (·[k']?) h
  simp only [preB_get (show k' < n by omega),Option.some.injEq,decide_eq_decide] at e
  omega
/-- the state behind k effects -/
def SeqG (S:Nat→List Value→World→Prop) (n:Nat) (ds:List Bool) (vs:List Value) (w:World):Prop:=∃ k,k≤n∧ds=preB n k∧S k vs w
theorem SeqG.start {S:Nat→List Value→World→Prop} {eff:List Nat} {vs:List Value} {w:World} (h:S 0 vs w):SeqG S eff.length (eff.map fun _=>false) vs w:=by
 refine ⟨0,Nat.zero_le _,?_,h⟩
 refine List.ext_getElem? fun j=>?_
 by_cases hj:j < eff.length
 ·rw [preB_get hj,List.getElem?_map,List.getElem?_eq_getElem hj]; rfl
 ·rw [List.getElem?_eq_none (by simpa using hj),List.getElem?_eq_none (by unfold preB; simpa using hj)]
theorem SeqG.fin {S:Nat→List Value→World→Prop} {eff:List Nat} {vs:List Value} {w:World} (h:SeqG S eff.length (eff.map fun _=>true) vs w):S eff.length vs w:=by
 obtain ⟨k,hk,e,h⟩:=h
 have e2:(eff.map fun _=>true)=preB eff.length eff.length:=by
  refine List.ext_getElem? fun j=>?_
  by_cases hj:j < eff.length
  ·rw [preB_get hj,List.getElem?_map,List.getElem?_eq_getElem hj]; simp [hj]
  ·rw [List.getElem?_eq_none (by simpa using hj),List.getElem?_eq_none (by unfold preB; simpa using hj)]
 obtain rfl:=preB_inj (Nat.le_refl _) hk (e2.symm.trans e)
 exact h
theorem SeqG.turn {S:Nat→List Value→World→Prop} {eff:List Nat} {d:Nat→Bool} {vs:List Value} {w:World} (hnd:eff.Nodup) {k i:Nat} (hk:eff[k]?=some i) (hp:∀ q,k=q+1→d (eff.getD q 0)=true) (hni:d i=false) (h:SeqG S eff.length (eff.map d) vs w) :
 S k vs w∧∀ vs' w',S (k+1) vs' w'→SeqG S eff.length (eff.map fun q=>if q=i then true else d q) vs' w':=by
 obtain ⟨k',hk',e,h⟩:=h
 have hlt:=(List.getElem?_eq_some_iff.1 hk).1
 have hd:∀ j (hj:j < eff.length),d eff[j]=decide (j < k'):=fun j hj=>by
  have h1:=congrArg (·[j]?) e
  simp only [preB_get hj,List.getElem?_map,List.getElem?_eq_getElem hj,Option.map_some,Option.some.injEq] at h1
  exact h1
 have hik:eff[k]=i:=(List.getElem?_eq_some_iff.1 hk).2
 have h1:=hd k hlt
 rw [hik,hni] at h1
 have h1:¬ k < k':=of_decide_eq_false h1.symm
 have h2:k≤k':=by
  cases k with
  | zero=>omega
  | succ q=>
    have h3:=hp q rfl
    rw [List.getD_eq_getElem?_getD,List.getElem?_eq_getElem (show q < eff.length by omega),Option.getD_some,hd q (by omega)] at h3
    have:=of_decide_eq_true h3
    omega
 obtain rfl:k=k':=by omega
 refine ⟨h,fun vs' w' h'=>⟨k+1,hlt,?_,h'⟩⟩
 refine List.ext_getElem? fun j=>?_
 by_cases hj:j < eff.length
 ·rw [preB_get hj,List.getElem?_map,List.getElem?_eq_getElem hj,Option.map_some]
  congr 1
  by_cases hjk:j=k
  ·subst hjk; rw [if_pos hik]; simp
  ·rw [if_neg (fun h4=>hjk ((List.getElem_inj hnd).1 (h4.trans hik.symm))),hd j hj]
   exact decide_eq_decide.2 (by omega)
 ·rw [List.getElem?_eq_none (by simpa using hj),List.getElem?_eq_none (by unfold preB; simpa using hj)]
theorem Oper.gives_mono {P:Program} {o:Oper} {a:Act} {w:World} {R R':Value→World→Prop} (h:Oper.gives P o a w R) (hm:∀ v w',R v w'→R' v w'):Oper.gives P o a w R':=by
 unfold Oper.gives at *
 generalize (execOp a.eval o).run P w=r at *
 cases r with
 | ok n w'=>
   cases n with
   | value v=>exact hm _ _ h
   | skip=>exact hm _ _ h
   | enter f args=>
     refine Calls.mono h ?_
     rintro e w'' ⟨v,he,hr⟩
     exact ⟨v,he,hm _ _ hr⟩
   | _=>exact h
 | _=>exact h
theorem TurnOk.mono {P:Program} {Y:Nat→Option Bool} {b:Act} {w:World} {o:Oper} {C C':Value→World→Prop} (h:TurnOk P Y b w o C) (hm:∀ v w',C v w'→C' v w'):TurnOk P Y b w o C':=by
 refine ⟨?_⟩
 have h1:=h.out
 split
 ·rename_i hw
  rw [if_pos hw] at h1
  exact Oper.gives_mono h1 hm
 ·rename_i hw
  rw [if_neg hw] at h1
  exact hm _ _ h1
section
variable {P:Program} {l l':List Oper} {L:List Value} {ds:List Deferred} {C:List (Option Value)} {eff:List Nat} {S:Nat→List Value→World→Prop} {i:Nat} {o:Oper}
def upB (l:List Oper) (eff:List Nat) (i:Nat):Nat→Bool
 | 0=>true
 | q+1=>Region.waitsFor .any l.toArray i (eff.getD q 0)
theorem MixOkL.chain (he:eff.contains i=true) (k:Nat) (hk:eff[k]?=some i) (hp:upB l eff i k=true) (hnd:eff.Nodup)
 (h:∀ ws w,S k (eff.map ws) w→TurnOk P (yielded l.toArray (fillAct l' 0 (mix C ws) ⟨L.toArray,ds⟩).tmps) (fillAct l' 0 (mix C ws) ⟨L.toArray,ds⟩) w o (fun v w'=>S (k+1) (eff.map (updV ws i v)) w')):MixOkL P l l' L ds C eff (SeqG S eff.length) i o:=
 MixOkL.turn he fun d ws w hG hdep _ hni=>by
  obtain ⟨h1,h2⟩:=SeqG.turn hnd hk (fun q e=>by subst e; exact hdep _ hp) hni hG
  exact (h ws w h1).mono fun v w' h3=>h2 _ _ h3
theorem MixOkL.read (he:eff.contains i=false) (hw:∀ ws,Region.wanted o (yielded l.toArray (fillAct l' 0 (mix C ws) ⟨L.toArray,ds⟩).tmps)=true) (I:World→Prop) (hI:∀ k vs w,S k vs w→I w)
 (hr:∀ ws w,I w→(execOp (fillAct l' 0 (mix C ws) ⟨L.toArray,ds⟩).eval o).run P w=.ok (.value (mix C ws i)) w):MixOkL P l l' L ds C eff (SeqG S eff.length) i o:=
 MixOkL.look he hw fun _ ws w hG _ _ _=>by obtain ⟨k,_,_,h⟩:=hG; exact hr ws w (hI _ _ _ h)
theorem MixOk.chain (he:eff.contains i=true) (k:Nat) (hk:eff[k]?=some i) (hp:upB l eff i k=true) (hnd:eff.Nodup)
 (h:∀ ws w,S k (eff.map ws) w→TurnOk P (yielded l.toArray (fillAct l 0 (mix C ws) ⟨L.toArray,ds⟩).tmps) (fillAct l 0 (mix C ws) ⟨L.toArray,ds⟩) w o (fun v w'=>S (k+1) (eff.map (updV ws i v)) w')):MixOk P l L ds C eff (SeqG S eff.length) i o:=
 MixOk.turn he fun d ws w hG hdep _ hni=>by
  obtain ⟨h1,h2⟩:=SeqG.turn hnd hk (fun q e=>by subst e; exact hdep _ hp) hni hG
  exact (h ws w h1).mono fun v w' h3=>h2 _ _ h3
theorem MixOk.read (he:eff.contains i=false) (hw:∀ ws,Region.wanted o (yielded l.toArray (fillAct l 0 (mix C ws) ⟨L.toArray,ds⟩).tmps)=true) (I:World→Prop) (hI:∀ k vs w,S k vs w→I w)
 (hr:∀ ws w,I w→(execOp (fillAct l 0 (mix C ws) ⟨L.toArray,ds⟩).eval o).run P w=.ok (.value (mix C ws i)) w):MixOk P l L ds C eff (SeqG S eff.length) i o:=
 MixOk.look he hw fun _ ws w hG _ _ _=>by obtain ⟨k,_,_,h⟩:=hG; exact hr ws w (hI _ _ _ h)
end
end
section
open Go.RowKit SeedP Go.Maps
set_option maxRecDepth 100000 in
/-- CopyBytes -/
theorem copyBytes_c (v:Value) (l:List UInt8) (B:Nat) (w:World) (hv:RdB w B v l) (hl:l.length≤1073741824) :
 Calls Tryz.prog 17 #[v] w fun e w'=>(∃ v',e=.returned v'∧w'.ownsRow w.heap.size 5 1 v' l.length (byts l))∧Below w.heap.size w w':=by
 have HV:=Lib.hid hv
 obtain ⟨a,c,rfl,_⟩:=hv.open_
 clear hv
 go_enter Tryz.func17,Tryz.ntmps17
 go_wp2_with (at_builtin; go_must (refine wpList_app rfl _ _ rfl w.heap.size _ 0 [] rfl (World.ownsRow_nil w w.heap.size _ 1) _ l rfl HV.out (by omega) (Nat.le_refl _) ?_); intro v2 w2 hy2 hb2)
 have HF:=Lib.hid (And.intro (show w2.ownsRow w.heap.size 5 1 v2 l.length (byts l) by rw [Nat.zero_add,List.nil_append] at hy2; exact hy2) hb2)
 clear hy2 hb2
 go_ret
 exact ⟨⟨v2,rfl,HF.out.1⟩,HF.out.2⟩
/-- Pick -/
theorem pick_c (x n:Int) (w:World) (n0:1≤n) (n1:n≤9223372036854775807) :
 Calls Tryz.prog 11 #[.int .i64 x,.int .i64 n] w fun e w'=>e=.returned (.int .i64 (x % n))∧w=w':=by
 have m0:=Int.emod_nonneg x (show n ≠ 0 by omega)
 have m1:=Int.emod_lt_of_pos x (show 0 < n by omega)
 by_cases h:x.tmod n < 0
 ·have H:=Lib.hid (pick_low x n n0 h)
  have b:0≤x.tmod n+n∧x.tmod n+n < n:=by rw [H.out]; exact ⟨m0,m1⟩
  have b1:=b.1
  have b2:=b.2
  clear b m0 m1
  go_enter Tryz.func11,Tryz.ntmps11
  go_wp2
  go_ret
  exact ⟨ret_int H.out,rfl⟩
 ·have H:=Lib.hid (pick_high x n n0 (by omega))
  clear m0 m1
  go_enter Tryz.func11,Tryz.ntmps11
  go_wp2
  go_ret
  exact ⟨ret_int H.out,rfl⟩
end
section
open Go.RowKit SeedP Go.Maps
set_option maxRecDepth 100000 in
/-- mark -/
theorem mark_c (k i:Int) (w:World) (hk:0≤k) (hk1:k≤100) (h0:0≤i) (h1:i≤4611686018427387904) :
 Calls Tryz.prog 84 #[.int .i64 k,.int .i64 i] w fun e w'=>e=.returned (.int .i64 (1000003 * (k+7)+i))∧w=w':=by
 go_enter Tryz.func84,Tryz.ntmps84
 go_wp2
 go_ret
 exact ⟨rfl,rfl⟩
/-- a mark as a byte -/
def mkB (k i:Int):UInt8:=UInt8.ofNat ((IntKind.u64.wrap ((1000003 * (k+7)+i) * 11400714819323198485) / 72057594037927936 % 256).toNat)
theorem mkB_eq (k i:Int):IntKind.u64.wrap ((1000003 * (k+7)+i) * 11400714819323198485) / 72057594037927936 % 256=((mkB k i).toNat:Int):=by
 unfold mkB
 generalize IntKind.u64.wrap ((1000003 * (k+7)+i) * 11400714819323198485) / 72057594037927936=x
 rw [UInt8.toNat_ofNat']
 omega
set_option maxRecDepth 100000 in
/-- markByte -/
theorem markByte_c (k i:Int) (w:World) (hk:0≤k) (hk1:k≤100) (h0:0≤i) (h1:i≤4611686018427387904) :
 Calls Tryz.prog 60 #[.int .i64 k,.int .i64 i] w fun e w'=>e=.returned (.int .u8 (mkB k i).toNat)∧w=w':=by
 have HE:=Lib.hid (mkB_eq k i)
 go_enter Tryz.func60,Tryz.ntmps60
 go_wp2_with fail
 refine (mark_c k i w hk hk1 h0 h1).mono ?_
 rintro e w1 ⟨rfl,rfl⟩
 go_wp2
 go_ret
 refine ⟨?_,rfl⟩
 show Ending.returned (Value.int IntKind.u8 (IntKind.u64.wrap ((1000003 * (k+7)+i) * 11400714819323198485) / 72057594037927936 % 256))=_
 rw [HE.out]
theorem markByte_q (k i:Int) (w:World) (hk:0≤k) (hk1:k≤100) (h0:0≤i) (h1:i≤4611686018427387904) :
 Calls Tryz.prog 60 #[.int .i64 k,.int .i64 i] w fun e w'=>e=.returned (.int .u8 (mkB k i).toNat)∧w'=w:=(markByte_c k i w hk hk1 h0 h1).mono fun _ _ ⟨h,h'⟩=>⟨h,h'.symm⟩
def bmarks (k:Int) (n:Nat):List UInt8:=(List.range n).map fun j:Nat=>mkB k (j:Int)
theorem bmarks_length (k:Int) (n:Nat):(bmarks k n).length=n:=by simp [bmarks]
theorem bmarks_snoc (k:Int) (n:Nat):bmarks k (n+1)=bmarks k n ++ [mkB k (n:Int)]:=by simp [bmarks,List.range_succ]
theorem bmarks_getD (k:Int) (n j:Nat) (h:j < n):(bmarks k n).getD j 0=mkB k (j:Int):=by simp [bmarks,List.getD_eq_getElem?_getD,h]
/-- what LentBytes leaves in block g: the bytes and twelve marks -/
def LentB (w:World) (g:Nat) (l:List UInt8):Prop:=Blk w g 5 (byts (l ++ bmarks 1 12))
theorem LentB.cell {w:World} {g:Nat} {l:List UInt8} (h:LentB w g l) (j:Nat) (hj:j < l.length+12):w.cell? ⟨g,j,none⟩=some (.int .u8 ((l ++ bmarks 1 12).getD j 0).toNat):=by
 have hl:j < (byts (l ++ bmarks 1 12)).length:=by rw [byts_length,List.length_append,bmarks_length]; exact hj
 rw [Blk.cell h j hl]
 have h2:=byts_get (l ++ bmarks 1 12) j (by rw [List.length_append,bmarks_length]; exact hj)
 rw [List.getD_eq_getElem?_getD,h2]; rfl
theorem LentB.rd {w:World} {g:Nat} {l:List UInt8} (h:LentB w g l) (hm:l.length+12≤maxLen):RdB w w.heap.size (.slice (some ⟨g,0,none⟩) l.length (l.length+12)) l:=by
 refine Or.inr ⟨g,0,l.length+12,rfl,by omega,hm,Blk.lt h,fun j hj=>?_⟩
 rw [Nat.zero_add,h.cell j (by omega)]
 simp [List.getD_eq_getElem?_getD,List.getElem?_append,hj]
theorem owns_full {w:World} {base g n:Nat} {e:TypeId} {xs:List Value} (h:w.ownsRow base e 1 (.slice (some ⟨g,0,none⟩) n n) n xs):Blk w g e xs:=by
 obtain ⟨hl,h2⟩:=h
 rcases h2 with ⟨h,_⟩ | ⟨g',cap,cur,h,_,hg,_,_,hs,ht⟩
 ·cases h
 ·simp only [Value.slice.injEq,Option.some.injEq,Addr.mk.injEq,and_true,true_and] at h
  obtain ⟨rfl,rfl⟩:=h
  rw [List.take_of_length_le (by rw [Array.length_toList,hs]; exact Nat.le_refl _)] at ht
  subst ht
  exact hg
set_option maxRecDepth 100000 in
set_option maxHeartbeats 1000000 in
/-- LentBytes -/
theorem lent_c (v:Value) (l:List UInt8) (B:Nat) (w:World) (hv:RdB w B v l) (hl:l.length≤1073741824) :
 Calls Tryz.prog 24 #[v] w fun e w'=>(∃ g,e=.returned (.slice (some ⟨g,0,none⟩) l.length (l.length+12))∧w.heap.size≤g∧LentB w' g l)∧Below w.heap.size w w':=by
 obtain ⟨ib,hib,hz1,hz2,hz3⟩:=info_parts infoB
 obtain ⟨a,c,rfl,_,hnone,hcell⟩:=hv.open_
 have hcell:∀ ad,a=some ad→∀ j u,(byts l)[j]?=some u→w.cell? (ad.add j)=some u:=fun ad e j u hu=>by
  have hj:=(List.getElem?_eq_some_iff.1 hu).1
  rw [byts_length] at hj
  rcases hcell with rfl | ⟨g,off,e2,_,_,_,hc⟩
  ·simp at hj
  ·rw [e] at e2
   obtain rfl:=Option.some.inj e2
   have e3:(⟨g,off,none⟩:Addr).add j=⟨g,off+j,none⟩:=by unfold Addr.add; split <;> simp_all
   rw [e3,hc j hj,← hu,byts_get l j hj]
 have hl12:l.length≤17592186043904:=by omega
 go_enter Tryz.func24,Tryz.ntmps24
 go_wp2_with (at_make; refine wpList_make_own _ rfl _ _ 25 rfl w.heap.size 5 ib (.int .u8 0) 1 Tryz.underlying25 hib hz1 hz2 .i64 .i64 _ (l.length+12) rfl rfl (by omega) ?b1 ?b2 ?b3 ?_)
 case b1=>rw [hz3]; omega
 case b2=>unfold maxLen; omega
 case b3=>exact Nat.le_refl _
 intro w1 hown1 hg1
 have B1:Below w.heap.size w w1:=(Below.refl _ _).grown hg1 (Nat.le_refl _) (fun k h=>by cases h)
 have hcell1:∀ ad,a=some ad→∀ j u,(byts l)[j]?=some u→w1.cell? (ad.add j)=some u:=fun ad h j u hu=>(B1.cell (World.block_lt_of_cell? w _ (hcell ad h j u hu))).trans (hcell ad h j u hu)
 have HC:=Lib.hid hcell1
 have HN:=Lib.hid hnone
 clear hcell hcell1 hnone hg1 hv
 go_wp2_with (at_builtin; refine wpList_append_fits_any _ rfl _ _ 25 rfl w.heap.size 5 ib 1 Tryz.underlying25 hib hz2 w.heap.size 0 (l.length+12) [] rfl hown1 a l.length c (byts l) rfl (by rw [byts_length,Nat.mul_one]) HN.out HC.out ?c1 ?c2 ?_)
 case c1=>intro u hu; simp only [byts,List.mem_map] at hu; obtain ⟨_,_,rfl⟩:=hu; rfl
 case c2=>omega
 intro w2 hown2 hg2
 have B2:=B1.grown hg2 B1.size (fun k h=>by cases h; exact Nat.le_refl _)
 clear hown1 hg2 B1 HC HN
 go_wp2
 go_loopw [3,4] (fun o i wr=>∃ k:Nat,k≤12∧i=.int .i64 k∧o=.slice (some ⟨w.heap.size,0,none⟩) (l.length+k) (l.length+12)∧wr.ownsRow w.heap.size 5 1 (.slice (some ⟨w.heap.size,0,none⟩) (l.length+k) (l.length+12)) (l.length+k) (byts (l ++ bmarks 1 k))∧Below w.heap.size w wr) (fun _ i _=>12 - (intOf i).toNat)
 case atStart=>exact ⟨0,by omega,rfl,rfl,by simpa [bmarks] using hown2,B2⟩
 case round=>
  obtain ⟨k,hk,rfl,rfl,hown,hB⟩:=hrel
  clear hown2 B2
  by_cases hlt:k < 12
  ·have HS:=Lib.hid (bmarks_snoc 1 k)
   go_wp2_with fail
   refine (markByte_c 1 k _ (by omega) (by omega) (by omega) (by omega)).mono ?_
   rintro e w3 ⟨rfl,rfl⟩
   generalize mkB 1 (k:Int)=mb at *
   go_wp2_with (at_builtin; refine wpList_append_fits _ rfl _ _ 25 rfl w.heap.size 5 ib 1 Tryz.underlying25 hib hz2 w.heap.size (l.length+k) (l.length+12) (byts (l ++ bmarks 1 k)) rfl (hown.alloc _) ⟨wr.heap.size,0,none⟩ 1 1 [.int .u8 mb.toNat] rfl rfl ?d1 ?d2 ?d3 ?_)
   case d1=>exact cell_one_new _ _ _
   case d2=>simp [Value.oneCell']
   case d3=>omega
   intro w4 hown4 hg4
   have B4:=(hB.alloc hB.size (.cells #[.int .u8 mb.toNat] 5)).grown hg4 (by have:=hB.size; simp; omega) (fun j h=>by cases h; exact Nat.le_refl _)
   have hown5:w4.ownsRow w.heap.size 5 1 (.slice (some ⟨w.heap.size,0,none⟩) (l.length+(k+1)) (l.length+12)) (l.length+(k+1)) (byts (l ++ bmarks 1 (k+1))):=by
    rw [HS.out,← List.append_assoc,byts_append]; exact hown4
   clear hown hg4 hown4 hB
   go_wp2
   go_roundw
   case rel=>exact ⟨k+1,by omega,by go_num,by congr 1,hown5,B4⟩
   case measure=>simp [intOf]; omega
  ·obtain rfl:k=12:=by omega
   have hb:=owns_full hown
   go_wp2
   go_ret
   exact ⟨⟨_,rfl,Nat.le_refl _,hb⟩,hB⟩
end
end Go.Proofs.YtondomklkapogaaGreatDoor
