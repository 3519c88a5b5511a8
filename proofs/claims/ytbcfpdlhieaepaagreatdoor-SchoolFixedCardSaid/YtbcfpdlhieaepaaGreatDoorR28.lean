/- What the readers of a school list. No program in sight. -/
import Derived.Test.YtbcfpdlhieaepaaGreatDoorR27
import Derived.Test.YtbcfpdlhieaepaaGreatDoorR24
import Derived.Test.YtbcfpdlhieaepaaGreatDoorR26
import Derived.Test.YtbcfpdlhieaepaaGreatDoorR18
import Derived.Test.YtbcfpdlhieaepaaGreatDoorR17
namespace Go.Proofs.YtbcfpdlhieaepaaGreatDoor
section
open Go.RowKit SeedP Go.Maps
def behindP (p:List UInt8) (P:PEnts):List (List UInt8):=((keysOf P).filter (isPref p)).map (·.drop p.length)
def JS.classesP (s:JS):List (List UInt8):=if s.down then [] else behindP [99] s.c.ents
def JS.studentsP (c:List UInt8) (s:JS):List (List UInt8):=if s.down∨isNameP c=false then [] else behindP (mkey c []) s.c.ents
/-- every task, in the order of their numbers, as the law's loop finds them -/
def JS.allP (s:JS):List TaskP:=(List.range (tasksN s.c.ents)).filterMap (fun i=>s.taskP (i+1:Nat))
theorem isPref_iff {p k:List UInt8}:isPref p k=true ↔ ∃ x,k=p ++ x:=by
 unfold isPref
 simp only [Bool.and_eq_true,decide_eq_true_eq,beq_iff_eq]
 constructor
 ·rintro ⟨_,h⟩
  exact ⟨k.drop p.length,by conv=>lhs; rw [← List.take_append_drop p.length k,h]⟩
 ·rintro ⟨x,rfl⟩
  exact ⟨by rw [List.length_append]; omega,List.take_left⟩
theorem mem_behind {p x:List UInt8} {P:PEnts}:x ∈ behindP p P ↔ (pFind P (p ++ x)).isSome=true:=by
 unfold behindP
 rw [List.mem_map,find_keys]
 constructor
 ·rintro ⟨k,hk,rfl⟩
  rw [List.mem_filter] at hk
  obtain ⟨y,rfl⟩:=isPref_iff.1 hk.2
  rw [List.drop_left]; exact hk.1
 ·intro h
  exact ⟨p ++ x,List.mem_filter.2 ⟨h,isPref_iff.2 ⟨x,rfl⟩⟩,List.drop_left⟩
theorem behind_stays {s s':JS} {p:List UInt8} (h:∀ k,isPref p k=true→StaysAt s s' k) {x:List UInt8} (hx:x ∈ behindP p s.c.ents):x ∈ behindP p s'.c.ents:=by
 rw [mem_behind] at hx ⊢
 obtain ⟨v,hv⟩:=Option.isSome_iff_exists.1 hx
 rw [h _ (isPref_iff.2 ⟨x,rfl⟩) v hv]; rfl
theorem mem_students {s:JS} {c st:List UInt8} (hd:s.down=false) (hc:isNameP c=true):st ∈ s.studentsP c ↔ (pFind s.c.ents (mkey c st)).isSome=true:=by
 unfold JS.studentsP
 rw [hd,hc,if_neg (by simp),mem_behind]
 rw [show mkey c [] ++ st=mkey c st by simp [mkey]]
theorem SchoolOk.tasksN_le {P:PEnts} (h:SchoolOk P) (hn:(keysOf P).Nodup):tasksN P≤9999:=by
 have hle:=List.Nodup.length_le_of_subset (hn.filter (isPref [116])) (l₂:=(List.range 9999).map (fun i=>tkey (i+1))) (fun k hk=>by
  rw [List.mem_filter,isPref_t] at hk
  obtain ⟨j,hj1,hj2,rfl⟩:=h.t_key hk.1 hk.2
  exact List.mem_map.2 ⟨j - 1,List.mem_range.2 (by omega),by rw [Nat.sub_add_cancel hj1]⟩)
 rw [List.length_map,List.length_range] at hle
 exact hle
theorem SFull.task_iff {s:JS} {g:Nat} (h:SFull s g) (id:Int):(s.taskP id).isSome=true ↔ 1≤id∧id≤tasksN s.c.ents:=by
 have hn:=ordKeys_nodup h.live.ord
 have hle:=h.ok.tasksN_le hn
 constructor
 ·intro hs
  obtain ⟨t,ht⟩:=Option.isSome_iff_exists.1 hs
  obtain ⟨i0,i1,_,_,hf,_⟩:=JS.taskP_some h.ok ht
  have:=(h.ok.t_count hn (id:=id.toNat) (by omega) (by omega)).1 (by rw [hf]; rfl)
  omega
 ·rintro ⟨h1,h2⟩
  have hf:=(h.ok.t_count hn (id:=id.toNat) (by omega) (by omega)).2 (by omega)
  obtain ⟨v,hv⟩:=Option.isSome_iff_exists.1 hf
  obtain ⟨t,_,_,_,h4,_⟩:=h.ok.task_at hv
  unfold JS.taskP
  rw [h.live.up,if_neg (by simp; omega),hv]
  simp only [h4,Option.isSome_some]
theorem tasksN_stays {s s':JS} {g g':Nat} (h:SFull s g) (h':SFull s' g') (hs:∀ k,k.head?=some 116→StaysAt s s' k):tasksN s.c.ents≤tasksN s'.c.ents:=by
 by_cases h0:tasksN s.c.ents=0
 ·omega
 have h1:=(h.task_iff (tasksN s.c.ents:Nat)).2 ⟨by omega,Int.le_refl _⟩
 obtain ⟨t,ht⟩:=Option.isSome_iff_exists.1 h1
 have h2:=task_stays h.live.up h'.live.up hs ht
 have:=((h'.task_iff _).1 (by rw [h2]; rfl)).2
 omega
theorem SFull.all_len {s:JS} {g:Nat} (h:SFull s g):s.allP.length=tasksN s.c.ents:=by
 unfold JS.allP
 have:∀ n,n≤tasksN s.c.ents→((List.range n).filterMap (fun i=>s.taskP (i+1:Nat))).length=n:=by
  intro n
  induction n with
  | zero=>intro _; rfl
  | succ n ih=>
    intro hn
    obtain ⟨t,ht⟩:=Option.isSome_iff_exists.1 ((h.task_iff (n+1:Nat)).2 ⟨by omega,by omega⟩)
    rw [List.range_succ,List.filterMap_append,List.length_append,ih (by omega)]
    simp only [List.filterMap_cons,ht,List.filterMap_nil,List.length_cons,List.length_nil]
 exact this _ (Nat.le_refl _)
theorem filterMap_at {α:Type} {f:Nat→Option α}:∀ n,(∀ i,i < n→(f i).isSome=true)→∀ i,i < n→((List.range n).filterMap f)[i]?=f i∧((List.range n).filterMap f).length=n
 | 0,_,i,hi=>absurd hi (by omega)
 | n+1,h,i,hi=>by
   have hl:((List.range n).filterMap f).length=n:=by
    cases n with
    | zero=>rfl
    | succ n=>exact (filterMap_at (n+1) (fun i hi=>h i (by omega)) 0 (by omega)).2
   obtain ⟨x,hx⟩:=Option.isSome_iff_exists.1 (h n (by omega))
   have e:(List.range (n+1)).filterMap f=(List.range n).filterMap f ++ [x]:=by
    rw [List.range_succ,List.filterMap_append]
    simp only [List.filterMap_cons,hx,List.filterMap_nil]
   rw [e,List.length_append,hl]
   refine ⟨?_,rfl⟩
   by_cases hlt:i < n
   ·rw [List.getElem?_append_left (by omega)]
    exact (filterMap_at n (fun i hi=>h i (by omega)) i hlt).1
   ·rw [List.getElem?_append_right (by omega),hl,show i - n=0 by omega,show i=n by omega,hx]; rfl
theorem SFull.all_at {s:JS} {g:Nat} (h:SFull s g) {i:Nat} (hi:i < tasksN s.c.ents):s.allP[i]?=s.taskP (i+1:Nat):=
 (filterMap_at _ (fun i hi=>(h.task_iff (i+1:Nat)).2 ⟨by omega,by omega⟩) i hi).1
/-! ### the lists are in order -/
theorem before_left:∀ (p x y:List UInt8),bytesBefore (p ++ x) (p ++ y)=bytesBefore x y
 | [],_,_=>rfl
 | a :: p,x,y=>by
   rw [List.cons_append,List.cons_append,bytesBefore]
   simp [before_left p x y]
theorem behind_ord {p:List UInt8} {P:PEnts} (h:Ordered P):(behindP p P).Pairwise (fun a b=>bytesBefore a b=true):=by
 unfold behindP
 rw [List.pairwise_map]
 have hk:(keysOf P).Pairwise (fun a b=>bytesBefore a b=true):=by
  unfold keysOf
  rw [List.pairwise_map]; exact h
 refine List.Pairwise.imp_of_mem ?_ (hk.filter _)
 intro a b ha hb hab
 obtain ⟨x,rfl⟩:=isPref_iff.1 (List.mem_filter.1 ha).2
 obtain ⟨y,rfl⟩:=isPref_iff.1 (List.mem_filter.1 hb).2
 rw [List.drop_left,List.drop_left]
 rwa [before_left] at hab
end
section
open Go.RowKit SeedP Go.Maps
/-- block sb is a school over the journal jb -/
structure SW (w:World) (sb jb db mb:Nat) (p:Nat→Prop) (s:JS):Prop where
 jw:JW w jb db mb p s
 sc:Blk w sb 54 [.pointer (some ⟨jb,0,none⟩)]
/-- the blocks that an act of a journal turns -/
abbrev Sj (jb db mb:Nat):Nat→Prop:=fun k=>k=jb∨k=db∨k=mb
theorem SW.out {w:World} {sb jb db mb:Nat} {p:Nat→Prop} {s:JS} (h:SW w sb jb db mb p s):¬ Sj jb db mb sb:=fun e=>by
 have:=h.jw.other h.sc (by decide) (by decide)
 rcases e with e | e | e
 ·exact this.1 e
 ·exact this.2.1 e
 ·exact this.2.2 e
theorem SW.below {w w':World} {sb jb db mb:Nat} {p:Nat→Prop} {s:JS} (h:SW w sb jb db mb p s) (hb:Below w.heap.size w w'):SW w' sb jb db mb p s:=⟨h.jw.below hb,h.sc.below hb⟩
theorem SW.act {w w':World} {sb jb db mb:Nat} {p p':Nat→Prop} {s s':JS} (h:SW w sb jb db mb p s) (h':JW w' jb db mb p' s') (hg:Grown (Sj jb db mb) w w'):SW w' sb jb db mb p' s':=⟨h',h.sc.grown hg h.out⟩
theorem SW.cell {w:World} {sb jb db mb:Nat} {p:Nat→Prop} {s:JS} (h:SW w sb jb db mb p s):w.cell? ⟨sb,0,none⟩=some (.pointer (some ⟨jb,0,none⟩)):=h.sc.cell 0 (by simp)
theorem SW.lt {w:World} {sb jb db mb:Nat} {p:Nat→Prop} {s:JS} (h:SW w sb jb db mb p s):sb < w.heap.size:=h.sc.lt
abbrev sv (sb:Nat):Value:=.pointer (some ⟨sb,0,none⟩)
def refP (s:JS):Int:=if s.down then 360 else 0
set_option maxRecDepth 100000 in
/-- refused -/
theorem sref_c {sb jb db mb:Nat} {p:Nat→Prop} {s:JS} (w:World) (h:SW w sb jb db mb p s) :
 Calls Tryz.prog 44 #[sv sb] w fun e w'=>e=.returned (.int .i64 (refP s))∧Below w.heap.size w w':=by
 have hun:undef=Value.tuple #[]:=rfl
 have k0:=h.cell
 have HC:=Lib.hid (commit_early (.slice none 0 0) [] w h.jw ⟨none,0,rfl,Nat.le_refl _,Nat.zero_le _,Or.inl rfl⟩ (by simp) (fun c hc=>by cases hc) (Or.inr (Or.inl rfl)))
 have HP:Hid ((jCommit [] s).2=if s.down then 360 else 5):=Lib.hid (by
  unfold jCommit
  cases s.down <;> simp)
 unfold refP
 rw [HP.out] at HC
 clear h HP
 generalize s.down=d at *
 cases d with
 | true=>
   simp only [if_true] at HC ⊢
   go_enter Tryz.func44,Tryz.ntmps44
   go_wp2_with fail
   refine HC.out.mono ?_
   rintro e w1 ⟨rfl, -,hb⟩
   go_wp2
   go_ret
   exact ⟨rfl,hb⟩
 | false=>
   simp only [Bool.false_eq_true,if_false] at HC ⊢
   go_enter Tryz.func44,Tryz.ntmps44
   go_wp2_with fail
   refine HC.out.mono ?_
   rintro e w1 ⟨rfl, -,hb⟩
   go_wp2
   go_ret
   exact ⟨rfl,hb⟩
/-- Get, while the power lasts -/
theorem sget_c {jb db mb:Nat} {p:Nat→Prop} {s:JS} (k:List UInt8) (w:World) (h:JW w jb db mb p s) (hd:s.down=false) (hk:k.length≤140737488351232) :
 Calls Tryz.prog 40 #[.pointer (some ⟨jb,0,none⟩),strV k] w fun e w'=>(∃ a c,e=.returned (.tuple #[.slice a ((pFind s.c.ents k).getD []).length c,.bool (pFind s.c.ents k).isSome])∧RdB w' w'.heap.size (.slice a ((pFind s.c.ents k).getD []).length c) ((pFind s.c.ents k).getD []))∧Below w.heap.size w w':=by
 refine (get_c k w h hk).mono ?_
 rintro e w' ⟨⟨v,rfl,hv⟩,hb⟩
 rw [hd] at hv ⊢
 simp only [Bool.false_eq_true,if_false] at hv
 have hr:=RdB.of_own hv
 obtain ⟨a,c,rfl,_,_,_⟩:=hr.open_
 exact ⟨⟨a,c,rfl,hr⟩,hb⟩
set_option maxRecDepth 100000 in
/-- there -/
theorem there_c {sb jb db mb:Nat} {p:Nat→Prop} {s:JS} (k:List UInt8) (w:World) (h:SW w sb jb db mb p s) (hd:s.down=false) (hk:k.length≤140737488351232) :
 Calls Tryz.prog 57 #[sv sb,strV k] w fun e w'=>e=.returned (.bool (pFind s.c.ents k).isSome)∧Below w.heap.size w w':=by
 have k0:=h.cell
 have HG:=Lib.hid (sget_c k w h.jw hd hk)
 clear h hd
 generalize (pFind s.c.ents k).isSome=b at *
 generalize (pFind s.c.ents k).getD []=l at *
 go_enter Tryz.func57,Tryz.ntmps57
 go_wp2_with fail
 refine HG.out.mono ?_
 rintro e w1 ⟨⟨a,c,rfl, -⟩,hb⟩
 go_wp2
 go_ret
 exact ⟨rfl,hb⟩
/-- names in memory, of the call's own -/
def ownS (w:World) (B:Nat) (v:Value) (L:List (List UInt8)):Prop:=w.ownsRow B 9 1 v L.length (L.map strV)
set_option maxRecDepth 100000 in
set_option maxHeartbeats 1000000 in
/-- behind -/
theorem behind_c {sb jb db mb:Nat} {p:Nat→Prop} {s:JS} (pf:List UInt8) (w:World) (h:SW w sb jb db mb p s) (hd:s.down=false) (hpf:pf.length≤1000000) :
 Calls Tryz.prog 45 #[sv sb,strV pf] w fun e w'=>(∃ v,e=.returned v∧ownS w' w.heap.size v (behindP pf s.c.ents))∧Below w.heap.size w w':=by
 obtain ⟨i0,hi,hz0,hz1,hz2⟩:=info_parts infoS
 have k0:=h.cell
 have hsz:=str_size pf
 have hk:=Lib.hid (keysFn_c pf w h.jw (by omega))
 have HLEN:Hid (∀ k ∈ (keysOf s.c.ents).filter (isPref pf),pf.length≤k.length):=Lib.hid (fun k hk=>by
  rw [List.mem_filter] at hk
  obtain ⟨x,rfl⟩:=isPref_iff.1 hk.2
  rw [List.length_append]; omega)
 have hll:((keysOf s.c.ents).filter (isPref pf)).length≤131072:=by
  have h1:=pWt_len s.c.ents
  have h2:=h.jw.ok.wt
  have h3:=h.jw.ok.max
  have h4:=List.length_filter_le (isPref pf) (keysOf s.c.ents)
  have h5:(keysOf s.c.ents).length=s.c.ents.length:=by unfold keysOf; rw [List.length_map]
  omega
 unfold behindP
 rw [hd] at hk
 simp only [Bool.false_eq_true,if_false] at hk
 clear h hd
 generalize (keysOf s.c.ents).filter (isPref pf)=K at *
 go_enter Tryz.func45,Tryz.ntmps45
 go_wp2_with fail
 refine hk.out.mono ?_
 rintro e w1 ⟨v1,rfl,hv1,hb1⟩
 have hz:=hb1.size
 rcases hv1.2 with ⟨rfl,hx⟩ | ⟨g,cap,cur,rfl,hbase,hb,h1,h2,h3,h4⟩
 ·have hK:K=[]:=by simpa using hx
  subst hK
  have W0:=Lib.hid hb1
  clear hk HLEN hv1 hx hb1
  go_wp2
  go_loopw [5,15] (fun v i wr=>v=.slice none 0 0∧i=.int .i64 0∧wr=w1) (fun _ i _=>0)
  case atStart=>exact ⟨rfl,rfl,rfl⟩
  case round=>
   obtain ⟨rfl,rfl,rfl⟩:=hrel
   go_wp2
   go_ret
   exact ⟨⟨_,rfl,by simpa [ownS] using World.ownsRow_nil wr w.heap.size 9 1⟩,W0.out⟩
 ·have hgl:g < w1.heap.size:=(Array.getElem?_eq_some_iff.1 hb).1
  have HC:Hid (∀ j,j < K.length→w1.cell? ⟨g,j,none⟩=some (strV (K.getD j []))):=Lib.hid (fun j hj=>by
   have:=hv1.cellAt j (by omega)
   rw [this]
   simp [List.getD_eq_getElem?_getD,hj])
  clear hk hv1 hbase hb h2 h3 h4
  go_wp2
  go_loopw [5,15] (fun v i wr=>∃ j:Nat,j≤K.length∧i=.int .i64 j∧ownS wr w1.heap.size v ((K.take j).map (·.drop pf.length))∧Below w1.heap.size w1 wr) (fun _ i _=>K.length - (intOf i).toNat)
  case atStart=>exact ⟨0,Nat.zero_le _,rfl,by simpa [ownS] using World.ownsRow_nil w1 w1.heap.size 9 1,Below.refl _ _⟩
  case round=>
   obtain ⟨j,hj,rfl,hrow,hbr⟩:=hrel
   have HR:=Lib.hid hrow
   have HB:=Lib.hid hbr
   by_cases hlt:j < K.length
   ·have t1:decide ((j:Int) < (K.length:Int))=true:=decide_eq_true (by omega)
    have t2:(j:Int) < (K.length:Int):=by omega
    have c1:=(hbr.cell (p:=⟨g,j,none⟩) hgl).trans (HC.out j hlt)
    have hle:=HLEN.out (K.getD j []) (by rw [List.getD_eq_getElem?_getD,List.getElem?_eq_getElem hlt]; exact List.getElem_mem hlt)
    have HX:Hid ((K.take (j+1)).map (·.drop pf.length)=(K.take j).map (·.drop pf.length) ++ [(K.getD j []).drop pf.length]):=Lib.hid (by
     rw [List.take_succ_eq_append_getElem hlt,List.map_append,List.getD_eq_getElem?_getD,List.getElem?_eq_getElem hlt]; rfl)
    have hrl:((K.take j).map (·.drop pf.length)).length=j:=by rw [List.length_map,List.length_take]; omega
    unfold ownS at hrow
    rw [hrl] at hrow
    generalize K.getD j []=k at *
    have hks:=str_size k
    have hkl:(pf.length:Int)≤(k.length:Int):=by omega
    have e2:=extr k pf.length k.length
    rw [List.take_length] at e2
    have hsz2:=hbr.size
    clear hbr
    go_wp2_with (at_builtin; go_must (refine wpList_append_own _ rfl _ _ 42 rfl w1.heap.size 9 i0 (.string ⟨#[]⟩) 1 16 Tryz.underlying42 hi hz0 hz1 hz2 rfl (by decide) _ _ _ rfl (hrow.alloc _) ⟨wr.heap.size,0,none⟩ 1 1 [strV (k.drop pf.length)] rfl rfl (cell_one_new _ _ _) (by simp [Value.oneCell']) (by unfold maxLen; omega) (by omega) (by simp; omega) ?_); intro v' w3 hown' hg3 hnil3)
    go_roundw
    case rel=>
     refine ⟨j+1,by omega,by go_num,?_,(HB.out.alloc HB.out.size _).grown hg3 (by simp; omega) (fun q hq=>(hrow.lt q hq).1)⟩
     rw [HX.out]
     unfold ownS
     rw [List.length_append,hrl,List.map_append]
     exact hown'
    case measure=>simp [intOf]; omega
   ·obtain rfl:j=K.length:=by omega
    have t1:decide ((K.length:Int) < (K.length:Int))=false:=by simp
    have HL:=Lib.hid (show K.take K.length=K from List.take_length)
    clear hrow
    go_wp2
    go_ret
    refine ⟨⟨_,rfl,?_⟩,hb1.trans (hbr.mono hz)⟩
    have:=HR.out
    rw [HL.out] at this
    exact own_up this hz
end
section
open Go.RowKit SeedP Go.Maps
/-- the cells of an act -/
def actCells (a:SActP) (vb vt:Value):List Value:=
 [.int .i64 a.kind,strV a.cls,strV a.stu,strV a.task.cls,strV a.task.name,.int .i64 a.task.frm,.int .i64 a.task.due,.int .i64 a.task.late,.int .i64 a.task.tries,vb,.int .i64 a.id,.int .i64 a.n,vt]
def SActIn (w:World) (B g off:Nat) (a:SActP):Prop:=∃ vb vt,(∀ o,o < 13→w.cell? ⟨g,off+o,none⟩=(actCells a vb vt)[o]?)∧RdB w B vb a.task.body∧RdB w B vt a.text
def SActsAt (w:World) (B:Nat) (v:Value) (L:List SActP):Prop:=
 ∃ a cap,v=.slice a L.length cap∧L.length≤cap∧cap≤maxLen∧(L=[]∨∃ g off,a=some ⟨g,off,none⟩∧g < B∧∀ j (h:j < L.length),SActIn w B g (off+j * 13) L[j])
theorem SActIn.below {w w':World} {B g off:Nat} {a:SActP} (h:SActIn w B g off a) (hg:g < B) (hb:Below B w w'):SActIn w' B g off a:=by
 obtain ⟨vb,vt,h0,h1,h2⟩:=h
 exact ⟨vb,vt,fun o ho=>(hb.cell (p:=⟨g,off+o,none⟩) hg).trans (h0 o ho),h1.below hb,h2.below hb⟩
theorem SActsAt.below {w w':World} {B:Nat} {v:Value} {L:List SActP} (h:SActsAt w B v L) (hb:Below B w w'):SActsAt w' B v L:=by
 obtain ⟨a,cap,e,h1,h2,h3⟩:=h
 refine ⟨a,cap,e,h1,h2,?_⟩
 rcases h3 with h3 | ⟨g,off,e2,hg,h4⟩
 ·exact Or.inl h3
 ·exact Or.inr ⟨g,off,e2,hg,fun j hj=>(h4 j hj).below hg hb⟩
theorem SActsAt.raise {w:World} {B B':Nat} {v:Value} {L:List SActP} (h:SActsAt w B v L) (hB:B≤B'):SActsAt w B' v L:=by
 obtain ⟨a,cap,e,h1,h2,h3⟩:=h
 refine ⟨a,cap,e,h1,h2,?_⟩
 rcases h3 with h3 | ⟨g,off,e2,hg,h4⟩
 ·exact Or.inl h3
 ·refine Or.inr ⟨g,off,e2,by omega,fun j hj=>?_⟩
  obtain ⟨vb,vt,k0,k1,k2⟩:=h4 j hj
  exact ⟨vb,vt,k0,k1.mono hB,k2.mono hB⟩
/-- an act's numbers are those of a machine -/
structure SActP.Nums (a:SActP):Prop where
 k0: -9223372036854775808≤a.kind
 k1:a.kind≤9223372036854775807
 i0: -9223372036854775808≤a.id
 i1:a.id≤9223372036854775807
 n0: -9223372036854775808≤a.n
 n1:a.n≤9223372036854775807
 f0: -9223372036854775808≤a.task.frm
 f1:a.task.frm≤9223372036854775807
 d0: -9223372036854775808≤a.task.due
 d1:a.task.due≤9223372036854775807
 l0: -9223372036854775808≤a.task.late
 l1:a.task.late≤9223372036854775807
 t0: -9223372036854775808≤a.task.tries
 t1:a.task.tries≤9223372036854775807
/-- an act that is examined -/
structure SActP.Small (a:SActP):Prop where
 cls:a.cls.length≤40
 stu:a.stu.length≤40
 tcls:a.task.cls.length≤40
 tname:a.task.name.length≤40
 body:a.task.body.length≤4010
 text:a.text.length≤4010
/-- the j-th act's cells -/
theorem SActsAt.at {w:World} {B:Nat} {v:Value} {L:List SActP} (h:SActsAt w B v L) {j:Nat} (hj:j < L.length) :
 ∃ g off cap ab cb ax cx,v=.slice (some ⟨g,off,none⟩) L.length cap∧L.length≤cap∧cap≤maxLen∧g < B ∧
   (w.cell? ⟨g,off+j * 13,none⟩=some (.int .i64 L[j].kind)∧w.cell? ⟨g,off+j * 13+1,none⟩=some (strV L[j].cls)∧w.cell? ⟨g,off+j * 13+2,none⟩=some (strV L[j].stu) ∧
    w.cell? ⟨g,off+j * 13+3,none⟩=some (strV L[j].task.cls)∧w.cell? ⟨g,off+j * 13+4,none⟩=some (strV L[j].task.name)∧w.cell? ⟨g,off+j * 13+5,none⟩=some (.int .i64 L[j].task.frm)∧w.cell? ⟨g,off+j * 13+6,none⟩=some (.int .i64 L[j].task.due)∧w.cell? ⟨g,off+j * 13+7,none⟩=some (.int .i64 L[j].task.late)∧w.cell? ⟨g,off+j * 13+8,none⟩=some (.int .i64 L[j].task.tries) ∧
    w.cell? ⟨g,off+j * 13+9,none⟩=some (.slice ab L[j].task.body.length cb)∧w.cell? ⟨g,off+j * 13+10,none⟩=some (.int .i64 L[j].id)∧w.cell? ⟨g,off+j * 13+11,none⟩=some (.int .i64 L[j].n)∧w.cell? ⟨g,off+j * 13+12,none⟩=some (.slice ax L[j].text.length cx)) ∧
   RdB w B (.slice ab L[j].task.body.length cb) L[j].task.body∧RdB w B (.slice ax L[j].text.length cx) L[j].text:=by
 obtain ⟨a,cap,rfl,h1,h2,h3⟩:=h
 rcases h3 with rfl | ⟨g,off,rfl,hg,h4⟩
 ·simp at hj
 obtain ⟨vb,vt,h0,hb,ht⟩:=h4 j hj
 obtain ⟨ab,cb,rfl, -, -, -⟩:=hb.open_
 obtain ⟨ax,cx,rfl, -, -, -⟩:=ht.open_
 exact ⟨g,off,cap,ab,cb,ax,cx,rfl,h1,h2,hg,⟨h0 0 (by omega),h0 1 (by omega),h0 2 (by omega),h0 3 (by omega),h0 4 (by omega),h0 5 (by omega),h0 6 (by omega),h0 7 (by omega),h0 8 (by omega),h0 9 (by omega),h0 10 (by omega),h0 11 (by omega),h0 12 (by omega)⟩,hb,ht⟩
end
section
open Go.RowKit SeedP Go.Maps
theorem snumV_inj:∀ {a b:List UInt8},a.length=b.length→numV a=numV b→a=b
 | [],[],_,_=>rfl
 | [],_ :: _,h,_=>by cases h
 | _ :: _,[],h,_=>by cases h
 | x :: r,y :: t,h,e=>by
   have hl:r.length=t.length:=by simpa using h
   rw [numV_cons,numV_cons,hl] at e
   have h1:=numV_lt r
   have h2:=numV_lt t
   rw [hl] at h1
   have h3:x.toNat=y.toNat:=by
    rcases Nat.lt_trichotomy x.toNat y.toNat with g | g | g
    ·have:=Nat.mul_le_mul_right (256 ^ t.length) (show x.toNat+1≤y.toNat from g)
     rw [Nat.add_mul] at this; omega
    ·exact g
    ·have:=Nat.mul_le_mul_right (256 ^ t.length) (show y.toNat+1≤x.toNat from g)
     rw [Nat.add_mul] at this; omega
   rw [h3] at e
   rw [UInt8.toNat_inj.1 h3,snumV_inj hl (by omega)]
theorem numB_numV (l:List UInt8):numB (numV l) l.length=l:=by
 refine snumV_inj (numB_length _ _) ?_
 rw [numV_numB]
 exact Nat.mod_eq_of_lt (numV_lt l)
theorem num4 {l:List UInt8} (h:l.length=4):numB (numV l) 4=l:=by
 have:=numB_numV l
 rwa [h] at this
theorem rName_inv {b n r:List UInt8} (h:rName b=some (n,r)):b=UInt8.ofNat n.length :: (n ++ r):=by
 unfold rName at h
 cases b with
 | nil=>cases h
 | cons x q=>
   simp only at h
   split at h
   ·cases h
   ·rename_i hl
    simp only [Option.some.injEq,Prod.mk.injEq] at h
    obtain ⟨rfl,rfl⟩:=h
    rw [List.take_append_drop,List.length_take,Nat.min_eq_left (by omega)]
    simp
theorem readTask_inv {v:List UInt8} {t:TaskP} (h:readTaskP v=some t):t.Fine∧t.body.length≤4000∧v=taskVal t:=by
 unfold readTaskP at h
 split at h
 ·cases h
 rename_i hlen
 cases h1:rName (v.drop 13) with
 | none=>rw [h1] at h; cases h
 | some p=>
   obtain ⟨c,r⟩:=p
   rw [h1] at h
   simp only at h
   cases h2:rName r with
   | none=>rw [h2] at h; cases h
   | some q=>
     obtain ⟨n,body⟩:=q
     rw [h2] at h
     simp only at h
     split at h
     ·rename_i hc
      simp only [Bool.and_eq_true,decide_eq_true_eq] at hc
      cases Option.some.inj h
      refine ⟨(timelyB_iff _).1 hc.1,hc.2,?_⟩
      have e1:=rName_inv h1
      have e2:=rName_inv h2
      have d12:v.drop 12=v.getD 12 0 :: v.drop 13:=by
       rw [List.getD_eq_getElem?_getD,List.getElem?_eq_getElem (by omega),Option.getD_some]
       exact List.drop_eq_getElem_cons (by omega)
      have d8:v.drop 8=(v.drop 8).take 4 ++ v.drop 12:=by
       conv=>lhs; rw [← List.take_append_drop 4 (v.drop 8)]
       rw [List.drop_drop]
      have d4:v.drop 4=(v.drop 4).take 4 ++ v.drop 8:=by
       conv=>lhs; rw [← List.take_append_drop 4 (v.drop 4)]
       rw [List.drop_drop]
      have d0:v=v.take 4 ++ v.drop 4:=(List.take_append_drop 4 v).symm
      have n0:=num4 (l:=v.take 4) (by rw [List.length_take]; omega)
      have n4:=num4 (l:=(v.drop 4).take 4) (by rw [List.length_take,List.length_drop]; omega)
      have n8:=num4 (l:=(v.drop 8).take 4) (by rw [List.length_take,List.length_drop]; omega)
      have hb:UInt8.ofNat (v.getD 12 0).toNat=v.getD 12 0:=by simp
      unfold taskVal
      simp only [Int.toNat_natCast,n0,n4,n8,hb]
      conv=>lhs; rw [d0,d4,d8,d12,e1,e2]
      simp [List.append_assoc]
     ·cases h
end
end Go.Proofs.YtbcfpdlhieaepaaGreatDoor
