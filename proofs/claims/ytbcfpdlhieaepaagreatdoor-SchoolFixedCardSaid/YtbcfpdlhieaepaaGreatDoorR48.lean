/- The walks of the law's all and holds. -/
import Derived.Test.YtbcfpdlhieaepaaGreatDoorR47
import Derived.Test.YtbcfpdlhieaepaaGreatDoorR37
import Derived.Test.YtbcfpdlhieaepaaGreatDoorR41
import Derived.Deep.CutBlock
import Derived.Test.YtbcfpdlhieaepaaGreatDoorR42
import Derived.Test.YtbcfpdlhieaepaaGreatDoorR08
namespace Go.Proofs.YtbcfpdlhieaepaaGreatDoor
section
open Go.RowKit SeedP Go.Maps
def rowT (xs:List (TaskP × Value)):List Value:=xs.flatMap fun x=>[strV x.1.cls,strV x.1.name,.int .i64 x.1.frm,.int .i64 x.1.due,.int .i64 x.1.late,.int .i64 x.1.tries,x.2]
theorem rowT_append (a b:List (TaskP × Value)):rowT (a ++ b)=rowT a ++ rowT b:=by simp [rowT]
theorem rowT_get:∀ (xs:List (TaskP × Value)) (j:Nat) (h:j < xs.length),(rowT xs)[j * 7]?=some (strV xs[j].1.cls)∧(rowT xs)[j * 7+1]?=some (strV xs[j].1.name)∧(rowT xs)[j * 7+2]?=some (.int .i64 xs[j].1.frm)∧(rowT xs)[j * 7+3]?=some (.int .i64 xs[j].1.due)∧(rowT xs)[j * 7+4]?=some (.int .i64 xs[j].1.late)∧(rowT xs)[j * 7+5]?=some (.int .i64 xs[j].1.tries)∧(rowT xs)[j * 7+6]?=some xs[j].2
 | x :: xs,0,_=>⟨rfl,rfl,rfl,rfl,rfl,rfl,rfl⟩
 | x :: xs,j+1,h=>by
   have ih:=rowT_get xs j (by simpa using h)
   rw [show (j+1) * 7=j * 7+1+1+1+1+1+1+1 by omega]
   exact ih
/-- tasks in memory, by their cells -/
structure TskAt (w:World) (v:Value) (L:List TaskP):Prop where
 form:∃ a c,v=.slice a L.length c
 get:∀ j (hj:j < L.length),∃ g cap a c,v=.slice (some ⟨g,0,none⟩) L.length cap∧g < w.heap.size∧(w.cell? ⟨g,j * 7,none⟩=some (strV L[j].cls)∧w.cell? ⟨g,j * 7+1,none⟩=some (strV L[j].name)∧w.cell? ⟨g,j * 7+2,none⟩=some (.int .i64 L[j].frm)∧w.cell? ⟨g,j * 7+3,none⟩=some (.int .i64 L[j].due)∧w.cell? ⟨g,j * 7+4,none⟩=some (.int .i64 L[j].late)∧w.cell? ⟨g,j * 7+5,none⟩=some (.int .i64 L[j].tries)∧w.cell? ⟨g,j * 7+6,none⟩=some (.slice a L[j].body.length c)) ∧
    RdB w w.heap.size (.slice a L[j].body.length c) L[j].body
theorem TskAt.below {w w':World} {v:Value} {L:List TaskP} (h:TskAt w v L) (hb:Below w.heap.size w w'):TskAt w' v L:=
 ⟨h.form,fun j hj=>by
  obtain ⟨g,cap,a,c,e,hg,⟨h0,h1,h2,h3,h4,h5,h6⟩,hr⟩:=h.get j hj
  have k:∀ o x,w.cell? ⟨g,o,none⟩=some x→w'.cell? ⟨g,o,none⟩=some x:=fun o x hx=>(hb.cell (p:=⟨g,o,none⟩) hg).trans hx
  exact ⟨g,cap,a,c,e,Nat.lt_of_lt_of_le hg hb.size,⟨k _ _ h0,k _ _ h1,k _ _ h2,k _ _ h3,k _ _ h4,k _ _ h5,k _ _ h6⟩,(hr.below hb).mono hb.size⟩⟩
/-- what holds while tasks are listed: k of them have come -/
structure AlM (W0:World) (L:List TaskP) (k:Nat) (v:Value) (w:World):Prop where
 be:Below W0.heap.size W0 w
 le:k≤L.length
 ex:∃ xs:List (TaskP × Value),w.ownsRow W0.heap.size 35 7 v xs.length (rowT xs)∧xs.length=k∧xs.map (·.1)=L.take k∧∀ x ∈ xs,RdP w (fun q=>v.ownBlock ≠ some q∧q < w.heap.size) x.2 x.1.body
theorem AlM.start (W0:World) (L:List TaskP):AlM W0 L 0 (.slice none 0 0) W0:=
 ⟨Below.refl _ _,Nat.zero_le _,[],by simpa [rowT] using World.ownsRow_nil W0 W0.heap.size 35 7,rfl,by simp,fun x hx=>by cases hx⟩
theorem AlM.below {W0 w w':World} {L:List TaskP} {k:Nat} {v:Value} (h:AlM W0 L k v w) (hb:Below w.heap.size w w'):AlM W0 L k v w':=by
 obtain ⟨xs,h1,h2,h3,h4⟩:=h.ex
 exact ⟨h.be.trans (hb.mono h.be.size),h.le,xs,own_below h1 hb,h2,h3,fun x hx=>((h4 x hx).grown (Grown.of_below hb (S:=fun _=>False)) (fun _ _ h=>h)).mono (fun g _ hg=>⟨hg.1,Nat.lt_of_lt_of_le hg.2 hb.size⟩)⟩
theorem AlM.done {W0 w:World} {L:List TaskP} {v:Value} (h:AlM W0 L L.length v w):TskAt w v L:=by
 obtain ⟨xs,hr,h2,h3,h4⟩:=h.ex
 rw [List.take_length] at h3
 obtain ⟨a0,c0,e0⟩:=own_slice hr
 refine ⟨⟨a0,c0,by rw [e0,h2]⟩,fun j hj=>?_⟩
 have hjx:j < xs.length:=by omega
 have hLj:L[j]=xs[j].1:=by simp [← h3]
 obtain ⟨g0,g1,g2,g3,g4,g5,g6⟩:=rowT_get xs j hjx
 rcases hr.2 with ⟨-,h0⟩ | ⟨g,cap,cur,rfl,hB,hg,hn,hc,hs,ht⟩
 ·omega
 have cellAt:∀ o,o < xs.length * 7→w.cell? ⟨g,o,none⟩=(rowT xs)[o]?:=fun o ho=>by
  have e:w.cell? ⟨g,o,none⟩=cur[o]?:=by simp [World.cell?,hg]
  rw [e,← ht,List.getElem?_take,if_pos ho,← Array.getElem?_toList]
 have hr2:=h4 _ (List.getElem_mem hjx)
 obtain ⟨a,c,hv, -, -, -⟩:=hr2.toB.open_
 rw [hLj]
 refine ⟨g,cap,a,c,by rw [h2],(Array.getElem?_eq_some_iff.1 hg).1,⟨?_,?_,?_,?_,?_,?_,?_⟩,by rw [← hv]; exact hr2.toB⟩
 ·rw [cellAt _ (by omega),g0]
 ·rw [cellAt _ (by omega),g1]
 ·rw [cellAt _ (by omega),g2]
 ·rw [cellAt _ (by omega),g3]
 ·rw [cellAt _ (by omega),g4]
 ·rw [cellAt _ (by omega),g5]
 ·rw [cellAt _ (by omega),g6,hv]
/-- one more -/
theorem AlM.next {W0 w w2 w3:World} {L:List TaskP} {k:Nat} {v v':Value} (h:AlM W0 L k v w) {t:TaskP} (hk:k < L.length) (ht:L[k]=t)
 (hb:Below w.heap.size w w2) {tv:Value} (hb2:RdP w2 (fun q=>w.heap.size≤q∧q < w2.heap.size) tv t.body)
 (hown:w3.ownsRow W0.heap.size 35 7 v' (k+1) (rowT (h.ex.choose) ++ [strV t.cls,strV t.name,.int .i64 t.frm,.int .i64 t.due,.int .i64 t.late,.int .i64 t.tries,tv])) (hg:w2.grownBy w3 v.ownBlock) (hid:v'.ownBlock=v.ownBlock∨∃ q,v'.ownBlock=some q∧w2.heap.size≤q) :
 AlM W0 L (k+1) v' w3:=by
 have hm:=h.below hb
 obtain ⟨h1,h2,h3,h4⟩:=h.ex.choose_spec
 generalize h.ex.choose=xs at *
 have hlt:∀ q,v.ownBlock=some q→q < w.heap.size:=fun q hq=>own_lt h1 hq
 have hg2:Grown (fun q=>v.ownBlock=some q) w2 w3:=Grown.of_row hg (fun k e=>e)
 refine ⟨hm.be.trans (hg2.below (fun q e=>(h1.lt q e).1) hm.be.size),hk,xs ++ [(t,tv)],?_,by rw [List.length_append,h2]; rfl,?_,?_⟩
 ·rw [List.length_append,h2,rowT_append]; exact hown
 ·rw [List.map_append,h3,List.take_succ_eq_append_getElem hk,ht]; rfl
 ·intro x hx
  rcases List.mem_append.1 hx with hx | hx
  ·have h5:=((h4 x hx).grown (Grown.of_below hb (S:=fun _=>False)) (fun _ _ h=>h))
   refine (h5.grown hg2 (fun q hq e=>hq.1 e)).mono (fun q _ hq=>?_)
   refine ⟨?_,by have:=hb.size; have:=hg2.size; omega⟩
   rcases hid with e | ⟨q',e,hle⟩
   ·rw [e]; exact hq.1
   ·rw [e]; intro e2; have:=hb.size; cases e2; omega
  ·obtain rfl:=List.mem_singleton.1 hx
   refine (hb2.grown hg2 (fun q hq e=>by have:=hlt q e; omega)).mono (fun q _ hq=>?_)
   refine ⟨?_,by have:=hg2.size; omega⟩
   rcases hid with e | ⟨q',e,hle⟩
   ·rw [e]; intro e2; have:=hlt q e2; omega
   ·rw [e]; intro e2; cases e2; omega
theorem SFull.all_get {s:JS} {g:Nat} (h:SFull s g) {k:Nat} (hk:k < s.allP.length):s.taskP (k+1:Nat)=some s.allP[k]:=by
 rw [← h.all_at (by rw [← h.all_len]; exact hk),List.getElem?_eq_getElem hk]
theorem SFull.all_end {s:JS} {g:Nat} (h:SFull s g):s.taskP (s.allP.length+1:Nat)=none:=by
 cases ht:s.taskP (s.allP.length+1:Nat) with
 | none=>rfl
 | some t=>
   have:=((h.task_iff _).1 (by rw [ht]; rfl)).2
   rw [h.all_len] at this
   omega
theorem taskQ_x {n0:Nat} {w:World} {sb db jb mb:Nat} {s:JS} (id:Int) (h:SX n0 w sb db jb mb s):Calls Tryz.prog 24 #[sv sb,.int .i64 id] w fun e w'=>TaskPostQ w.heap.size w'.heap.size (s.taskP id) e w'∧Below w.heap.size w w':=by
 obtain ⟨p,h1,h2⟩:=h.mem
 exact taskQ_c id w h2
set_option maxRecDepth 100000 in
set_option maxHeartbeats 4000000 in
/-- all -/
theorem all_x {n0:Nat} {w:World} {sb db jb mb:Nat} {s:JS} {g:Nat} (h:SX n0 w sb db jb mb s) (hF:SFull s g) :
 Calls Tryz.prog 29 #[sv sb] w fun e w'=>(∃ v,e=.returned v∧TskAt w' v s.allP)∧Below w.heap.size w w':=by
 have hun:undef=Value.tuple #[]:=rfl
 have HT:=Lib.hid (fun i W (hW:Below w.heap.size w W)=>taskQ_x i (h.below hW))
 have HG:=Lib.hid (fun k (hk:k < s.allP.length)=>hF.all_get hk)
 have HE:=Lib.hid hF.all_end
 have hll:s.allP.length≤9999:=by rw [hF.all_len]; exact hF.ok.tasksN_le (ordKeys_nodup hF.live.ord)
 clear h hF
 generalize s.allP=L at *
 go_enter Tryz.func29,Tryz.ntmps29
 go_wp2
 go_loopw [3,4] (fun v nv wr=>∃ k:Nat,nv=.int .i64 ((k:Int)+1)∧AlM w L k v wr) (fun _ nv _=>L.length+1 - (intOf nv).toNat)
 case atStart=>exact ⟨0,rfl,AlM.start _ _⟩
 case round=>
  obtain ⟨k,rfl,hM⟩:=hrel
  have HM:=Lib.hid hM
  have hle:=hM.le
  have HC:=Lib.hid (HT.out ((k:Int)+1) wr hM.be)
  clear hM
  by_cases hk:k < L.length
  ·have ht:=HG.out k hk
   rw [show ((k+1:Nat):Int)=(k:Int)+1 by omega] at ht
   rw [ht] at HC
   have HLk:=Lib.hid (show L[k]=L[k] from rfl)
   generalize hLk:L[k]=t at *
   have HLK:=Lib.hid hLk
   obtain ⟨cls,name,frm,due,late,tries,body⟩:=t
   clear ht hLk HLk
   go_wp2_with fail
   refine HC.out.mono ?_
   rintro e w6 ⟨⟨ab,cb,rfl,hv⟩,b6⟩
   have HR6:=Lib.hid b6
   have HTV:=Lib.hid hv
   clear HC hv b6
   go_upto_region 7 with (fail)
   have hba:=(Below.refl w6.heap.size w6).alloc (Nat.le_refl _) (.cells #[strV cls,strV name,.int .i64 frm,.int .i64 due,.int .i64 late,.int .i64 tries,.slice ab body.length cb] 35)
   have HYT:=Lib.hid (Blk.new w6 35 [strV cls,strV name,.int .i64 frm,.int .i64 due,.int .i64 late,.int .i64 tries,.slice ab body.length cb])
   have HR7:=Lib.hid (HR6.out.trans (hba.mono HR6.out.size))
   have HTV7:=Lib.hid (((show RdP w6 (fun q=>wr.heap.size≤q∧q < w6.heap.size) _ _ from HTV.out).grown (Grown.of_below hba (S:=fun _=>False)) (fun _ _ h=>h)).mono (p':=fun q=>wr.heap.size≤q∧q < w6.heap.size+1) (fun q _ hq=>⟨hq.1,by have:=hq.2; omega⟩))
   change Code.wp _ _ _ _ (w6.alloc (.cells #[strV cls,strV name,.int .i64 frm,.int .i64 due,.int .i64 late,.int .i64 tries,.slice ab body.length cb] 35))
   have hs7:(w6.alloc (.cells #[strV cls,strV name,.int .i64 frm,.int .i64 due,.int .i64 late,.int .i64 tries,.slice ab body.length cb] 35)).heap.size=w6.heap.size+1:=by simp
   rw [← hs7] at HTV7
   change Hid (Blk (w6.alloc (.cells #[strV cls,strV name,.int .i64 frm,.int .i64 due,.int .i64 late,.int .i64 tries,.slice ab body.length cb] 35)) _ _ _) at HYT
   generalize w6.alloc (.cells #[strV cls,strV name,.int .i64 frm,.int .i64 due,.int .i64 late,.int .i64 tries,.slice ab body.length cb] 35)=w7 at *
   generalize w6.heap.size=gt at HYT hs7 ⊢
   clear hba hs7 HTV HR6
   obtain ⟨t0,t1,t2,t3,t4,t5,t6, -⟩:=t7_of HYT.out
   obtain ⟨R,hR⟩:∃ R,rowT HM.out.ex.choose=R:=⟨_,rfl⟩
   have hown:=own_below HM.out.ex.choose_spec.1 HR7.out
   rw [HM.out.ex.choose_spec.2.1,hR] at hown
   have HRR:=Lib.hid hR
   clear hR
   have HB0:=Lib.hid (Nat.le_trans HM.out.be.size HR7.out.size)
   have hb0:=HB0.out
   go_wp2_with (at_builtin; go_must (refine wpList_apG 67 35 _ 7 88 infoT Tryz.underlying67 rfl (by decide) rfl _ _ rfl w.heap.size _ k R rfl (hown.alloc _) w7.heap.size 1 [strV cls,strV name,.int .i64 frm,.int .i64 due,.int .i64 late,.int .i64 tries,.slice ab body.length cb] rfl rfl (Blk.new w7 _ _) (by simp [Value.oneCell']) (by unfold maxLen; omega) (by omega) (by simp; omega) ?_); intro v' w8 hn8 hg8 hi8)
   have hba:=(Below.refl w7.heap.size w7).alloc (Nat.le_refl _) (.cells #[strV cls,strV name,.int .i64 frm,.int .i64 due,.int .i64 late,.int .i64 tries,.slice ab body.length cb] 35)
   have HNX:=Lib.hid (HM.out.next (t:=⟨cls,name,frm,due,late,tries,body⟩) hk HLK.out (HR7.out.trans (hba.mono HR7.out.size)) ((HTV7.out.grown (Grown.of_below hba (S:=fun _=>False)) (fun _ _ h=>h)).mono (fun q _ hq=>⟨hq.1,Nat.lt_of_lt_of_le hq.2 hba.size⟩)) (by rw [HRR.out]; exact hn8) hg8 (by rcases hi8 with e | e; exact Or.inl e; exact Or.inr ⟨_,e,Nat.le_refl _⟩))
   clear hn8 hg8 hi8 hba hown HRR HM hb0 HB0 t0 t1 t2 t3 t4 t5 t6
   go_wp2
   go_roundw
   case rel=>(repeat apply Exists.intro); exact ⟨⟨k+1,by go_num,HNX.out⟩,rfl⟩
   case measure=>simp [intOf]; omega
  ·obtain rfl:k=L.length:=by omega
   have ht:=HE.out
   rw [show ((L.length+1:Nat):Int)=(L.length:Int)+1 by omega] at ht
   rw [ht] at HC
   clear ht
   go_wp2_with fail
   refine HC.out.mono ?_
   rintro e w6 ⟨hp,b6⟩
   have hp:e=.returned (.tuple #[taskV zeroT (.slice none 0 0),.bool false]):=hp
   subst hp
   unfold zeroT
   have HR6:=Lib.hid b6
   have hba:=(Below.refl w6.heap.size w6).alloc (Nat.le_refl _) (.cells #[.string ⟨#[]⟩,.string ⟨#[]⟩,.int .i64 0,.int .i64 0,.int .i64 0,.int .i64 0,.slice none 0 0] 35)
   have HR7:=Lib.hid (HR6.out.trans (hba.mono HR6.out.size))
   clear b6 hba HC
   go_wp2
   go_ret
   exact ⟨⟨_,rfl,(HM.out.below HR7.out).done⟩,HM.out.be.trans (HR7.out.mono HM.out.be.size)⟩
end
section
open Go.RowKit SeedP Go.Maps
section
variable {n0:Nat} {w w':World} {sb db jb mb:Nat} {s:JS} {g o:Nat} {v:Value}
theorem SX.not_jb (h:SX n0 w sb db jb mb s) (hc:w.cell? ⟨g,o,none⟩=some v) (hv:(∃ m:Int,v=.int .u8 m)∨(∃ t,v=.string t)∨∃ a n c,v=.slice a n c):g ≠ jb:=by
 rintro rfl
 obtain ⟨p, -,h2⟩:=h.mem
 have:=h2.jw.blk.cell_mem hc
 rcases hv with ⟨m,rfl⟩ | ⟨t,rfl⟩ | ⟨a,n,c,rfl⟩ <;> simp at this
theorem SX.not_db (h:SX n0 w sb db jb mb s) (hc:w.cell? ⟨g,o,none⟩=some v) (hv:(∃ m:Int,v=.int .u8 m)∨(∃ t,v=.string t)∨∃ b,v=.bool b):g ≠ db:=by
 rintro rfl
 obtain ⟨p, -,h2⟩:=h.mem
 obtain ⟨v0,v1,q0,q1,h1,r0,r1,_⟩:=h2.jw.disk
 have:=h1.cell_mem hc
 obtain ⟨_,_,rfl,_⟩:=r0.toB.open_
 obtain ⟨_,_,rfl,_⟩:=r1.toB.open_
 rcases hv with ⟨m,rfl⟩ | ⟨t,rfl⟩ | ⟨b,rfl⟩ <;> simp at this
theorem SX.not_mb (h:SX n0 w sb db jb mb s) (hc:w.cell? ⟨g,o,none⟩=some v):g ≠ mb:=by
 rintro rfl
 obtain ⟨p, -,h2⟩:=h.mem
 obtain ⟨L,hM,_⟩:=h2.jw.map
 obtain ⟨es,clock,hb,_⟩:=hM.own
 simp [World.cell?,hb] at hc
theorem SX.outC (h:SX n0 w sb db jb mb s) (hc:w.cell? ⟨g,o,none⟩=some v) (hv:(∃ m:Int,v=.int .u8 m)∨(∃ t,v=.string t)):¬ Sj jb db mb g:=by
 rintro (e | e | e)
 ·exact h.not_jb hc (hv.imp_right Or.inl) e
 ·exact h.not_db hc (hv.imp_right Or.inl) e
 ·exact h.not_mb hc e
theorem keep_act (hg:Grown (Sj jb db mb) w w') (hn:¬ Sj jb db mb g) (hc:w.cell? ⟨g,o,none⟩=some v):w'.cell? ⟨g,o,none⟩=some v:=
 (World.cell?_of_block (hg.block g (World.block_lt_of_cell? w _ hc) hn)).trans hc
theorem RdB.actX {C:Nat} {l:List UInt8} (hr:RdB w C v l) (h:SX n0 w sb db jb mb s) (hg:Grown (Sj jb db mb) w w'):RdB w' C v l:=by
 rcases hr with hr | ⟨g,off,cap,e,h1,h2,h3,h4⟩
 ·exact Or.inl hr
 ·exact Or.inr ⟨g,off,cap,e,h1,h2,h3,fun j hj=>keep_act hg (h.outC (h4 j hj) (Or.inl ⟨_,rfl⟩)) (h4 j hj)⟩
theorem LstAt.actX {L:List (List UInt8)} (hr:LstAt strV w v L) (h:SX n0 w sb db jb mb s) (hg:Grown (Sj jb db mb) w w'):LstAt strV w' v L:=
 ⟨hr.form,hr.at_.imp_right (fun ⟨g,cap,e,hgl,hc⟩=>⟨g,cap,e,Nat.lt_of_lt_of_le hgl hg.size,fun j hj=>keep_act hg (h.outC (hc j hj) (Or.inr ⟨_,rfl⟩)) (hc j hj)⟩)⟩
theorem AtsAt.actX {due:Int} {L:List (Nat × List UInt8)} (hr:AtsAt w v due L) (h:SX n0 w sb db jb mb s) (hg:Grown (Sj jb db mb) w w'):AtsAt w' v due L:=
 ⟨hr.form,fun j hj=>by
  obtain ⟨g,cap,a,c,e,hgl,h0,h1,h2,hrd⟩:=hr.get j hj
  have hn:¬ Sj jb db mb g:=by
   rintro (x | x | x)
   ·exact h.not_jb h2 (Or.inr (Or.inr ⟨_,_,_,rfl⟩)) x
   ·exact h.not_db h1 (Or.inr (Or.inr ⟨_,rfl⟩)) x
   ·exact h.not_mb h0 x
  exact ⟨g,cap,a,c,e,Nat.lt_of_lt_of_le hgl hg.size,keep_act hg hn h0,keep_act hg hn h1,keep_act hg hn h2,(hrd.actX h hg).mono hg.size⟩⟩
theorem TskAt.actX {L:List TaskP} (hr:TskAt w v L) (h:SX n0 w sb db jb mb s) (hg:Grown (Sj jb db mb) w w'):TskAt w' v L:=
 ⟨hr.form,fun j hj=>by
  obtain ⟨g,cap,a,c,e,hgl,⟨h0,h1,h2,h3,h4,h5,h6⟩,hrd⟩:=hr.get j hj
  have hn:=h.outC h0 (Or.inr ⟨_,rfl⟩)
  exact ⟨g,cap,a,c,e,Nat.lt_of_lt_of_le hgl hg.size,⟨keep_act hg hn h0,keep_act hg hn h1,keep_act hg hn h2,keep_act hg hn h3,keep_act hg hn h4,keep_act hg hn h5,keep_act hg hn h6⟩,(hrd.actX h hg).mono hg.size⟩⟩
/-- a task of the list, by its number -/
theorem TskAt.at_ {a0:Option Addr} {n c0:Nat} {L:List TaskP} (h:TskAt w (.slice a0 n c0) L) {j:Nat} (hj:j < L.length) {t:TaskP} (ht:L[j]=t) :
 ∃ g a c,a0=some ⟨g,0,none⟩∧g < w.heap.size∧(w.cell? ⟨g,j * 7,none⟩=some (strV t.cls)∧w.cell? ⟨g,j * 7+1,none⟩=some (strV t.name)∧w.cell? ⟨g,j * 7+2,none⟩=some (.int .i64 t.frm)∧w.cell? ⟨g,j * 7+3,none⟩=some (.int .i64 t.due)∧w.cell? ⟨g,j * 7+4,none⟩=some (.int .i64 t.late)∧w.cell? ⟨g,j * 7+5,none⟩=some (.int .i64 t.tries)∧w.cell? ⟨g,j * 7+6,none⟩=some (.slice a t.body.length c))∧RdB w w.heap.size (.slice a t.body.length c) t.body:=by
 subst ht
 obtain ⟨g,cap,a,c,e,hg,hh,hr⟩:=h.get j hj
 simp only [Value.slice.injEq] at e
 exact ⟨g,a,c,e.1,hg,hh,hr⟩
/-- what a law has listed ahead of an act -/
structure Listed (w:World) (vC vT vA vS:Value) (D:Int) (C:List (List UInt8)) (T:List TaskP) (A:List (Nat × List UInt8)) (S:List (List UInt8)):Prop where
 c:LstAt strV w vC C
 t:TskAt w vT T
 a:AtsAt w vA D A
 s:LstAt strV w vS S
theorem Listed.below {vC vT vA vS:Value} {D:Int} {C S:List (List UInt8)} {T:List TaskP} {A:List (Nat × List UInt8)} (h:Listed w vC vT vA vS D C T A S) (hb:Below w.heap.size w w'):Listed w' vC vT vA vS D C T A S:=⟨h.c.below hb,h.t.below hb,h.a.below hb,h.s.below hb⟩
theorem Listed.actX {vC vT vA vS:Value} {D:Int} {C S:List (List UInt8)} {T:List TaskP} {A:List (Nat × List UInt8)} (hr:Listed w vC vT vA vS D C T A S) (h:SX n0 w sb db jb mb s) (hg:Grown (Sj jb db mb) w w'):Listed w' vC vT vA vS D C T A S:=⟨hr.c.actX h hg,hr.t.actX h hg,hr.a.actX h hg,hr.s.actX h hg⟩
theorem all_len {g:Nat} (h:SFull s g):s.allP.length≤9999:=by rw [h.all_len]; exact h.ok.tasksN_le (ordKeys_nodup h.live.ord)
theorem atts_len {g:Nat} (h:SFull s g) (id:Int) (st:List UInt8):(s.attsP id st).length≤99:=by
 unfold JS.attsP
 cases ht:s.taskP id with
 | none=>simp
 | some t=>
   obtain ⟨_,_,hf,_⟩:=JS.taskP_some h.ok ht
   have h5:=hf.t1
   simp only
   split
   ·simp
   ·have:=attsFrom_le s.c.ents id.toNat st t.tries.toNat 1
    omega
/-- what SchoolFixed asks, of what the law has listed -/
structure FixL (s1:JS) (a:SActP) (C:List (List UInt8)) (T:List TaskP) (A:List (Nat × List UInt8)) (S:List (List UInt8)) (D:Int):Prop where
 cls:∀ x ∈ C,x ∈ s1.classesP
 ord:s1.classesP.Pairwise (fun a b=>bytesBefore a b=true)
 num:T.length≤s1.allP.length
 tsk:∀ i t,T[i]?=some t→s1.taskP (i+1:Nat)=some t
 att:∃ q,s1.attsP a.id a.stu=A ++ q
 stu:a.kind % 10 ≠ 2→∀ x ∈ S,x ∈ s1.studentsP a.cls
 sord:(s1.studentsP a.cls).Pairwise (fun a b=>bytesBefore a b=true)
 due:a.kind % 10 ≠ 4→A ≠ []→s1.dueP a.id a.stu=D
theorem FixL.of {s1:JS} {a:SActP} (h:FixedStep s s1 a):FixL s1 a s.classesP s.allP (s.attsP a.id a.stu) (s.studentsP a.cls) (s.dueP a.id a.stu):=by
 refine ⟨h.cls,h.ord,h.num,h.tsk,h.att,h.stu,h.sord,fun h4 hA=>?_⟩
 have hd:=h.due
 unfold JS.attsP at hA
 unfold JS.dueP
 rw [h.ext h4]
 cases ht:s.taskP a.id with
 | none=>rw [ht] at hA; simp at hA
 | some t=>rw [hd t ht]
end
end
section
open Go.RowKit SeedP Go.Maps
theorem LstAt.cells {w:World} {a:Option Addr} {n c:Nat} {L:List (List UInt8)} (h:LstAt strV w (.slice a n c) L) (h0:0 < L.length):∃ g,a=some ⟨g,0,none⟩∧g < w.heap.size∧∀ j (hj:j < L.length),w.cell? ⟨g,j,none⟩=some (strV L[j]):=by
 rcases h.at_ with e | ⟨g,cap,e,hg,hc⟩
 ·rw [e] at h0; simp at h0
 ·simp only [Value.slice.injEq] at e
  exact ⟨g,e.1,hg,hc⟩
theorem before_facts {x y:List UInt8} (h:bytesBefore x y=true):Op.bytesLess x y=true∧Op.bytesLess y x=false∧(x == y)=false∧(y == x)=false:=by
 have hne:x ≠ y:=fun e=>by rw [e,blt_irrefl] at h; cases h
 refine ⟨by rw [bl_eq]; exact h,?_,by simpa using hne,by simpa using (fun e=>hne e.symm)⟩
 rw [bl_eq]
 cases hb:bytesBefore y x with
 | false=>rfl
 | true=>exact absurd (blt_trans _ _ _ h hb) (by rw [blt_irrefl]; simp)
theorem any_succ {L:List (List UInt8)} (x:List UInt8) {k:Nat} (h:k < L.length):(L.take (k+1)).any (· == x)=((L.take k).any (· == x) || (L[k] == x)):=by
 rw [List.take_succ_eq_append_getElem h,List.any_append]
 simp
set_option maxRecDepth 100000 in
set_option maxHeartbeats 4000000 in
/-- holds -/
theorem holds_c (va vb:Value) (la lb:List (List UInt8)) (w:World) (ha:LstAt strV w va la) (hb:LstAt strV w vb lb) (hla:la.length≤1000000) (hlb:lb.length≤1000000) (ho:la.Pairwise (fun a b=>bytesBefore a b=true)) (hm:∀ x ∈ lb,x ∈ la) :
 Calls Tryz.prog 30 #[va,vb] w fun e w'=>e=.returned (.bool true)∧Below w.heap.size w w':=by
 have hun:undef=Value.tuple #[]:=rfl
 obtain ⟨aa,ca,rfl⟩:=ha.form
 obtain ⟨ab,cb,rfl⟩:=hb.form
 have HA:=Lib.hid ha
 have HB:=Lib.hid hb
 have HO:=Lib.hid ho
 have HM:=Lib.hid hm
 clear ha hb ho hm
 go_enter Tryz.func30,Tryz.ntmps30
 go_upto_block 0 with (fail)
 go_cut [5] from 9 to 24 (fun iv wx=>iv=iv∧Below w.heap.size w wx)
 case first=>
  go_wp2
  go_loopw [5] (fun iv wr=>∃ i:Nat,1≤i∧iv=.int .i64 i∧(i≤la.length∨i=1)∧Below w.heap.size w wr) (fun iv _=>la.length - (intOf iv).toNat)
  case atStart=>exact ⟨1,Nat.le_refl _,rfl,Or.inr rfl,Below.refl _ _⟩
  case round=>
   obtain ⟨i,h1,rfl,hi,hbr⟩:=hrel
   have HBR:=Lib.hid hbr
   by_cases hlt:i < la.length
   ·obtain ⟨j,rfl⟩:∃ j,i=j+1:=⟨i - 1,by omega⟩
    obtain ⟨g,rfl,hg,hc⟩:=HA.out.cells (by omega)
    have c0:=keep_cell hbr (hc j (by omega))
    have c1:=keep_cell hbr (hc (j+1) hlt)
    obtain ⟨f0,f1,f2,f3⟩:=before_facts (List.pairwise_iff_getElem.1 HO.out j (j+1) (by omega) hlt (by omega))
    generalize la[j]=x at *
    generalize la[j+1]=y at *
    clear hc hg
    generalize la.length=n at *
    obtain ⟨m,hmj⟩:∃ m,j+1=m:=⟨_,rfl⟩
    rw [hmj] at c1 hlt
    have hmj2:((j+1:Nat):Int)=(m:Int):=by rw [hmj]
    rw [hmj2]
    have b1:decide ((m:Int) < (n:Int))=true:=decide_eq_true (by omega)
    have b1':decide (m < n)=true:=decide_eq_true (by omega)
    have p1:wrap64 ((m:Int) - 1)=(j:Int):=by unfold wrap64; omega
    have p1':IntKind.i64.wrap ((m:Int) - 1)=(j:Int):=by rw [IntKind.wrap_i64]; omega
    have p2:(j:Int) < (n:Int):=by omega
    have p3:(m:Int) < (n:Int):=by omega
    have p4:j < n:=by omega
    have HLT:=Lib.hid hlt
    have HMJ:=Lib.hid hmj
    have HLA:=Lib.hid hla
    clear hi h1 hmj hmj2 hbr
    go_upto_region 4 with (fail)
    go_quiet (fail)
    all_goals
     go_wp2
     go_roundw
     case rel=>exact ⟨m+1,by omega,by have:=HLA.out; have:=HLT.out; go_num,Or.inl HLT.out,below_drewN HBR.out _⟩
     case measure=>have:=HLA.out; have:=HLT.out; simp [intOf]; omega
   ·have b1:decide ((i:Int) < (la.length:Int))=false:=decide_eq_false (by omega)
    go_wp2
    go_meet
    exact ⟨trivial,HBR.out⟩
 case rest=>
  obtain ⟨-,hb0⟩:=hcut
  generalize wc=w0 at *
  have HA0:=Lib.hid hb0
  clear hb0
  go_wp2
  go_loopw [6] (fun iv wr=>∃ i:Nat,i≤lb.length∧iv=.int .i64 i∧Below w.heap.size w wr) (fun iv _=>lb.length - (intOf iv).toNat)
  case atStart=>exact ⟨0,Nat.zero_le _,rfl,HA0.out⟩
  case round=>
   obtain ⟨i,hi,rfl,hbr⟩:=hrel
   have HBR:=Lib.hid hbr
   by_cases hlt:i < lb.length
   ·have b1:decide ((i:Int) < (lb.length:Int))=true:=decide_eq_true (by omega)
    have b2:(i:Int) < (lb.length:Int):=by omega
    have HMX:=Lib.hid (HM.out _ (List.getElem_mem hlt))
    obtain ⟨gb,rfl,hgb,hcb⟩:=HB.out.cells (by omega)
    have HCB:=Lib.hid (hcb i hlt)
    clear hcb hgb hbr
    generalize lb[i]=x at *
    go_upto_block 4 with (fail)
    go_cut [7,8] from 31 to 48 (fun tv kv wx=>kv=kv∧tv=.bool true∧Below w.heap.size w wx)
    case first=>
     go_wp2
     go_loopw [7,8] (fun tv kv wr=>∃ k:Nat,k≤la.length∧kv=.int .i64 k∧tv=.bool ((la.take k).any (· == x))∧Below w.heap.size w wr) (fun _ kv _=>la.length - (intOf kv).toNat)
     case atStart=>exact ⟨0,Nat.zero_le _,rfl,rfl,HBR.out⟩
     case round=>
      obtain ⟨k,hk,rfl,rfl,hbk⟩:=hrel
      have HBK:=Lib.hid hbk
      by_cases hkl:k < la.length
      ·have b3:decide ((k:Int) < (la.length:Int))=true:=decide_eq_true (by omega)
       have b4:(k:Int) < (la.length:Int):=by omega
       obtain ⟨ga,rfl,hga,hca⟩:=HA.out.cells (by omega)
       have c0:=keep_cell hbk (hca k hkl)
       have c1:=keep_cell hbk HCB.out
       have HAS:=Lib.hid (any_succ x hkl)
       have HKL:=Lib.hid hkl
       clear hca hga hbk
       generalize la[k]=y at *
       generalize hbi:(la.take k).any (· == x)=bi at *
       generalize hbx:(y == x)=bx at *
       clear hbi hkl
       cases bi with
       | true=>
         go_upto_region 13 with (fail)
         go_quiet (fail)
         all_goals
          go_wp2
          go_roundw
          case rel=>exact ⟨k+1,HKL.out,by go_num,by rw [HAS.out]; rfl,below_drewN HBK.out _⟩
          case measure=>have:=HKL.out; simp [intOf]; omega
       | false=>
         go_upto_region 13 with (fail)
         go_quiet (fail)
         all_goals
          go_wp2
          go_roundw
          case rel=>exact ⟨k+1,HKL.out,by go_num,by rw [HAS.out]; cases bx <;> rfl,below_drewN HBK.out _⟩
          case measure=>have:=HKL.out; simp [intOf]; omega
      ·obtain rfl:k=la.length:=by omega
       have b3:decide ((la.length:Int) < (la.length:Int))=false:=by simp
       have HT:Hid ((la.take la.length).any (· == x)=true):=Lib.hid (by
        rw [List.take_length]; exact List.any_eq_true.2 ⟨x,HMX.out,by simp⟩)
       go_wp2
       go_meet
       exact ⟨trivial,by rw [HT.out],HBK.out⟩
    case rest=>
     obtain ⟨-,rfl,hbc⟩:=hcut
     have HBC:=Lib.hid hbc
     have HLT:=Lib.hid hlt
     clear hbc
     go_wp2
     go_roundw
     case rel=>exact ⟨i+1,HLT.out,by go_num,HBC.out⟩
     case measure=>have:=HLT.out; simp [intOf]; omega
   ·obtain rfl:i=lb.length:=by omega
    have b1:decide ((lb.length:Int) < (lb.length:Int))=false:=by simp
    go_wp2
    go_ret
    exact ⟨rfl,HBR.out⟩
end
end Go.Proofs.YtbcfpdlhieaepaaGreatDoor
