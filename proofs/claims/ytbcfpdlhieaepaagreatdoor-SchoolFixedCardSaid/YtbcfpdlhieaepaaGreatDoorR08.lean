/- The walk of readState. -/
import Derived.Test.YtbcfpdlhieaepaaGreatDoorR07
import Derived.Test.YtbcfpdlhieaepaaGreatDoorR06
namespace Go.Proofs.YtbcfpdlhieaepaaGreatDoor
section
open Go.RowKit SeedP Go.Maps
def leB (a b:List UInt8):Bool:=Op.bytesLess a b || a == b
def rEnts:Nat→RSt→Option (PEnts × List UInt8 × Int × RSt)
 | 0,s=>some ([],[],0,s)
 | n+1,s=>match rEnts n s with
   | none=>none
   | some (P,last,wt,s')=>if (rVal (rKey s').2).2.2=true∨leB (rKey s').1 last=true then none else some (pPut P ((rKey s').1,(rVal (rKey s').2).1),(rKey s').1,wt+(3+((rKey s').1.length:Int)+(rVal (rKey s').2).1.length),(rVal (rKey s').2).2)
def rState (code:List UInt8):Option (Nat × PEnts × Int):=
 if (rNum 4 (rNum 8 (code,false)).2).2.2=true∨(rNum 8 (code,false)).1 < 1∨4611686018427387904 < (rNum 8 (code,false)).1 then none
 else match rEnts (rNum 4 (rNum 8 (code,false)).2).1 (rNum 4 (rNum 8 (code,false)).2).2 with
  | none=>none
  | some (P,_,wt,s)=>if s.2=false∧s.1=[]∧wt≤131072 then some ((rNum 8 (code,false)).1,P,wt) else none
theorem rEnts_none {s:RSt} {j:Nat}:∀ n,j≤n→rEnts j s=none→rEnts n s=none:=by
 intro n h hj
 induction n with
 | zero=>obtain rfl:j=0:=by omega
         exact hj
 | succ n ih=>
   by_cases he:j=n+1
   ·rw [← he]; exact hj
   ·rw [rEnts,ih (by omega)]
def conV (gen:Int) (m:Option Nat) (wt sum ed:Int):Value:=.agg #[.int .i64 gen,.map m,.int .i64 wt,.int .u64 sum,.int .i64 ed]
theorem MapAt.mono' {w:World} {mb:Nat} {p p':Nat→Prop} {L:List Ent} (h:MapAt w mb p L) (hp:∀ g,p g→p' g):MapAt w mb p' L:=⟨h.own,fun e he=>(h.val e he).mono (fun g _ hg=>hp g hg)⟩
/-- what readState returns -/
def StateRes (w:World) (B:Nat) (R:Option (Nat × PEnts × Int)) (e:Ending):Prop:=
 match R with
 | none=>∃ gen m wt,e=.returned (.tuple #[conV gen m wt 0 0,.bool false])
 | some (gen,P,wt)=>∃ mb,e=.returned (.tuple #[conV gen (some mb) wt 0 0,.bool true])∧B≤mb∧∃ L,MapAt w mb (fun g=>B≤g∧g ≠ mb) L∧EB L=P
theorem StateRes.none {w:World} {B:Nat} {R:Option (Nat × PEnts × Int)} (h:R=none) (gen:Int) (m:Option Nat) (wt:Int):StateRes w B R (.returned (.tuple #[.agg #[.int .i64 gen,.map m,.int .i64 wt,.int .u64 0,.int .i64 0],.bool false])):=by subst h; exact ⟨gen,m,wt,rfl⟩
/-- 'm[k] = v' -/
theorem wpList_put {w:World} {ops:Array Oper} {rest:List Oper} {o:Oper} {a:Act} {Q:Exit→Act→World→Prop} (hg:o.guard=none) (m x v:Operand) (hop:o.op=Op.mapUpdate 98 m x v)
 {mb:Nat} {p:Nat→Prop} {L:List Ent} (h:MapAt w mb p L) (hm:a.eval m=.map (some mb)) (k:List UInt8) (y:Value) (bs:List UInt8) (hx:a.eval x=.string ⟨k.toArray⟩) (hv:a.eval v=y) (hk:k.length≤maxLen) (hn:L.length < maxLen) (hy:RdP w p y bs) (hp:∀ g,p g→g ≠ mb)
 (hK:∀ w',MapAt w' mb p (ePut L ⟨k,y,bs⟩)→Grown (·=mb) w w'→wpList Tryz.prog ops Q rest (a.put o.dst undef) w'):wpList Tryz.prog ops Q (o :: rest) a w:=by
 refine wpList_mapUpdate_in w hg m x v 98 hop 9 26 keyed Tryz.underlying98 tokR mb L.length (toD L) hm h.own hn (strV k) y (Lit.string k) hx hv (keyOf_str k hk) (.held y) [] rfl ?_
 intro w' h4 h5
 have e:(toD L).put (.string k) (.held y)=toD (ePut L ⟨k,y,bs⟩):=toD_put L ⟨k,y,bs⟩
 rw [e] at h4
 have hgr:=turned_grown h5
 refine hK w' ⟨own_exact h4,fun e he=>?_⟩ hgr
 rcases (ePut_mem L _ e).1 he with rfl | ⟨h1,_⟩
 ·exact hy.grown hgr hp
 ·exact (h.val e h1).grown hgr hp
theorem ret_cont {fn:Func} {p u:Tmp} (h:fn.results=#[.cell p 101,.tmp u]) (tmps:Array Value) (w:World) (g:Nat) (cs:List Value) (hp:tmps.getD p undef=.pointer (some ⟨g,0,none⟩)) (hg:Blk w g 101 cs) (hl:cs.length=5) :
 (results fn tmps).run Tryz.prog w=.ok (.tuple #[.agg cs.toArray,tmps.getD u undef]) w:=by
 have hi:(Tryz.prog.info? 101).map (·.size)=some 5:=by kernel_rfl
 have hr:=run_loadVar_row (P:=Tryz.prog) w g 101 101 cs.toArray (0,0) _ hg Tryz.underlying101 rfl (by rw [hi]; simp [hl])
 rw [results_cell_tmp h,hp]
 simp only [asAddr,Sem.run_pure,Result.andThen_ok,hr]
/-- a content is stored -/
theorem Blk.set5 {w:World} {g:Nat} {e:TypeId} {x0 x1 x2 x3 x4:Value} (h:Blk w g e [x0,x1,x2,x3,x4]) (y0 y1 y2 y3 y4:Value) :
 Blk (((((w.setCell ⟨g,0,none⟩ y0).setCell ⟨g,1,none⟩ y1).setCell ⟨g,2,none⟩ y2).setCell ⟨g,3,none⟩ y3).setCell ⟨g,4,none⟩ y4) g e [y0,y1,y2,y3,y4]:=((((h.set 0 y0).set 1 y1).set 2 y2).set 3 y3).set 4 y4
theorem Grown.set5 {S:Nat→Prop} {w w':World} (h:Grown S w w') {g:Nat} (hg:S g) (y0 y1 y2 y3 y4:Value) :
 Grown S w (((((w'.setCell ⟨g,0,none⟩ y0).setCell ⟨g,1,none⟩ y1).setCell ⟨g,2,none⟩ y2).setCell ⟨g,3,none⟩ y3).setCell ⟨g,4,none⟩ y4):=
 ((((h.setCell (a:=⟨g,0,none⟩) hg y0).setCell (a:=⟨g,1,none⟩) hg y1).setCell (a:=⟨g,2,none⟩) hg y2).setCell (a:=⟨g,3,none⟩) hg y3).setCell (a:=⟨g,4,none⟩) hg y4
theorem pPut_length (P:PEnts) (x:List UInt8 × List UInt8):(pPut P x).length≤P.length+1:=by
 unfold pPut; rw [pIns_length]; have:=pDel_length P x.1; omega
set_option maxRecDepth 100000 in
set_option maxHeartbeats 8000000 in
/-- readState -/
theorem readState_c (v:Value) (code:List UInt8) (B:Nat) (w:World) (hv:RdB w B v code) (hB:B≤w.heap.size) :
 Calls Tryz.prog 90 #[v] w fun e w'=>StateRes w' w.heap.size (rState code) e∧Below w.heap.size w w':=by
 have hmm:=@run_makeMap Tryz.prog
 have H8:=Lib.hid (fun W r (h:RdrAt W r B (code,false)) (hr:B≤r)=>rnum_c r B 8 8 rfl (code,false) W h hr (by decide))
 have h8:(rNum 8 (code,false)).1 < 256 ^ 8:=rNum_lt 8 _
 have hR:rState code=rState code:=rfl
 conv at hR=>rhs; unfold rState
 generalize rNum 8 (code,false)=N8 at *
 obtain ⟨gen,s1⟩:=N8
 simp only at h8 hR
 have H4:=Lib.hid (fun W r (h:RdrAt W r B s1) (hr:B≤r)=>rnum_c r B 4 4 rfl s1 W h hr (by decide))
 have h4:(rNum 4 s1).1 < 256 ^ 4:=rNum_lt 4 _
 generalize rNum 4 s1=N4 at *
 obtain ⟨n,s2,bad⟩:=N4
 simp only at h4 hR
 have h8:gen < 18446744073709551616:=h8
 have h4:n < 4294967296:=h4
 obtain ⟨a,cap,rfl,hmx,_,_⟩:=hv.open_
 unfold maxLen at hmx
 have F1:Blk (w.alloc (.cells #[.int .i64 0,.map none,.int .i64 0,.int .u64 0,.int .i64 0] 101)) w.heap.size 101 [.int .i64 0,.map none,.int .i64 0,.int .u64 0,.int .i64 0]:=Blk.new _ _ _
 have G1:Below w.heap.size w (w.alloc (.cells #[.int .i64 0,.map none,.int .i64 0,.int .u64 0,.int .i64 0] 101)):=(Below.refl _ _).alloc (Nat.le_refl _) _
 have z1:(w.alloc (.cells #[.int .i64 0,.map none,.int .i64 0,.int .u64 0,.int .i64 0] 101)).heap.size=w.heap.size+1:=by simp
 generalize hw1:w.alloc (.cells #[.int .i64 0,.map none,.int .i64 0,.int .u64 0,.int .i64 0] 101)=w1 at *
 have F2:=F1.alloc (.map #[] 0)
 have M2:=MapAt.made w1 (fun g=>w.heap.size+4≤g)
 have G2:=G1.alloc G1.size (.map #[] 0)
 have z2:(w1.alloc (.map #[] 0)).heap.size=w.heap.size+1+1:=by simp [z1]
 rw [z1] at M2
 generalize hw2:w1.alloc (.map #[] 0)=w2 at *
 have F3:=F2.alloc (.cells #[.int .i64 0,.map (some (w.heap.size+1)),.int .i64 0,.int .u64 0,.int .i64 0] 101)
 have C3:=Blk.new w2 101 [.int .i64 0,.map (some (w.heap.size+1)),.int .i64 0,.int .u64 0,.int .i64 0]
 have M3:=M2.grown (S:=fun _=>False) (Grown.of_below ((Below.refl _ w2).alloc (Nat.le_refl _) (.cells #[.int .i64 0,.map (some (w.heap.size+1)),.int .i64 0,.int .u64 0,.int .i64 0] 101))) (fun h=>h) (fun _ _ h=>h)
 have G3:=G2.alloc G2.size (.cells #[.int .i64 0,.map (some (w.heap.size+1)),.int .i64 0,.int .u64 0,.int .i64 0] 101)
 have z3:(w2.alloc (.cells #[.int .i64 0,.map (some (w.heap.size+1)),.int .i64 0,.int .u64 0,.int .i64 0] 101)).heap.size=w.heap.size+1+1+1:=by simp [z2]
 rw [z2] at C3
 have C3:Blk (w2.alloc (.cells #[.int .i64 0,.map (some (w.heap.size+1)),.int .i64 0,.int .u64 0,.int .i64 0] 101)) (w.heap.size+1+1) 101 [.int .i64 0,.map (some (w.heap.size+1)),.int .i64 0,.int .u64 0,.int .i64 0]:=C3
 generalize hw3:w2.alloc (.cells #[.int .i64 0,.map (some (w.heap.size+1)),.int .i64 0,.int .u64 0,.int .i64 0] 101)=w3 at *
 have F4:=F3.alloc (.cells #[.slice a code.length cap,.bool false] 191)
 have C4:=C3.alloc (.cells #[.slice a code.length cap,.bool false] 191)
 have M4:=M3.grown (S:=fun _=>False) (Grown.of_below ((Below.refl _ w3).alloc (Nat.le_refl _) (.cells #[.slice a code.length cap,.bool false] 191))) (fun h=>h) (fun _ _ h=>h)
 have G4:=G3.alloc G3.size (.cells #[.slice a code.length cap,.bool false] 191)
 have R4:RdrAt (w3.alloc (.cells #[.slice a code.length cap,.bool false] 191)) (w.heap.size+1+1+1) B (code,false):=⟨_,by rw [← z3]; exact Blk.new w3 191 [.slice a code.length cap,.bool false],(hv.below (G4.mono hB))⟩
 have z4:(w3.alloc (.cells #[.slice a code.length cap,.bool false] 191)).heap.size=w.heap.size+4:=by simp [z3]
 generalize hw4:w3.alloc (.cells #[.slice a code.length cap,.bool false] 191)=w4 at *
 have HALL:=Lib.hid (And.intro F4 (And.intro C4 (And.intro M4 (And.intro G4 R4))))
 have HEQ:=Lib.hid (And.intro hw1 (And.intro hw2 (And.intro hw3 hw4)))
 have HZ:=Lib.hid (And.intro z4 (And.intro z1 (And.intro z2 z3)))
 clear F1 F2 F3 F4 G1 G2 G3 G4 M2 M3 M4 C3 C4 R4 z1 z2 z3 z4 hw1 hw2 hw3 hw4 hv
 by_cases hbad:bad=true∨gen < 1∨4611686018427387904 < gen
 ·rw [if_pos hbad] at hR
  have HRR:=Lib.hid hR
  clear hR
  have ht:bad=true∨(bad=false∧gen < 1)∨(bad=false∧¬ gen < 1∧4611686018427387904 < gen):=by
   cases bad
   ·simp only [Bool.false_eq_true,false_or] at hbad; simp; omega
   ·simp
  clear hbad
  rcases ht with rfl | ⟨rfl,t1⟩ | ⟨rfl,t1,t2⟩
  all_goals
   go_enter Tryz.func90,Tryz.ntmps90
   go_upto_region 3 with (fail)
   obtain ⟨e1,e2,e3,e4⟩:=HEQ.out
   rw [e1,e2,e3,e4]
   clear e1 e2 e3 e4 HEQ hmm
   go_wp2_with fail
   refine (H8.out _ _ HALL.out.2.2.2.2 (by omega)).mono ?_
   rintro e w5 ⟨rfl,hr5,hg5⟩
   have F5:=HALL.out.1.grown (grown_one hg5) (by omega)
   have C5:=HALL.out.2.1.grown (grown_one hg5) (by omega)
   have G5:=HALL.out.2.2.2.1.trans (below_of_grown hg5 (by omega) (by have:=HZ.out.1; omega))
   clear H8 hg5
   go_wp2_with fail
   refine (H4.out _ _ hr5 (by omega)).mono ?_
   rintro e w6 ⟨rfl,⟨v6,hb6,hv6⟩,hg6⟩
   have F6:=F5.grown (grown_one hg6) (by omega)
   have G6:=G5.trans (below_of_grown hg6 (by omega) G5.size)
   have cr:=hb6.cell 1 (by simp)
   simp only [List.getD_cons_zero,List.getD_cons_succ] at cr
   clear H4 hg6 hr5 hv6 hb6 C5 F5
   have x0:=F6.cell 0 (by simp)
   have x1:=F6.cell 1 (by simp)
   have x2:=F6.cell 2 (by simp)
   have x3:=F6.cell 3 (by simp)
   have x4:=F6.cell 4 (by simp)
   have y0:=F6.frozen 0
   have y1:=F6.frozen 1
   have y2:=F6.frozen 2
   have y3:=F6.frozen 3
   have y4:=F6.frozen 4
   simp only [List.getD_cons_zero,List.getD_cons_succ] at x0 x1 x2 x3 x4
   go_wp2
   (try simp only [Exit.inBlock,Exit.then])
   refine bodyPost_ret (ret_cont rfl _ _ w.heap.size _ rfl (F6.set5 _ _ _ _ _) rfl) rfl ⟨StateRes.none HRR.out 0 none 0,G6.trans (((Grown.refl (fun k=>k=w.heap.size) _).set5 rfl _ _ _ _ _).below (fun k e=>by omega) G6.size)⟩
 ·rw [if_neg hbad] at hR
  have hbf:bad=false:=by cases bad <;> simp at hbad ⊢
  subst hbf
  have t1:¬ gen < 1:=by omega
  have t2:¬ 4611686018427387904 < gen:=by omega
  have HRR:=Lib.hid hR
  clear hR hbad
  go_enter Tryz.func90,Tryz.ntmps90
  go_upto_region 3 with (fail)
  obtain ⟨e1,e2,e3,e4⟩:=HEQ.out
  rw [e1,e2,e3,e4]
  clear e1 e2 e3 e4 HEQ hmm
  go_wp2_with fail
  refine (H8.out _ _ HALL.out.2.2.2.2 (by omega)).mono ?_
  rintro e w5 ⟨rfl,hr5,hg5⟩
  have F5:=HALL.out.1.grown (grown_one hg5) (by omega)
  have C5:=HALL.out.2.1.grown (grown_one hg5) (by omega)
  have M5:=HALL.out.2.2.1.grown (grown_one hg5) (by omega) (fun g hg=>by omega)
  have G5:=HALL.out.2.2.2.1.trans (below_of_grown hg5 (by omega) (by have:=HZ.out.1; omega))
  have z5:w.heap.size+4≤w5.heap.size:=by have:=hg5.size; have:=HZ.out.1; omega
  clear H8 hg5 HALL HZ C3
  go_wp2_with fail
  refine (H4.out _ _ hr5 (by omega)).mono ?_
  rintro e w6 ⟨rfl,hr6,hg6⟩
  have F6:=F5.grown (grown_one hg6) (by omega)
  have C6:=C5.grown (grown_one hg6) (by omega)
  have M6:=M5.grown (grown_one hg6) (by omega) (fun g hg=>by omega)
  have G6:=G5.trans (below_of_grown hg6 (by omega) G5.size)
  have z6:w.heap.size+4≤w6.heap.size:=by have:=hg6.size; omega
  have HR6:=Lib.hid hr6
  obtain ⟨v6,hb6,hv6⟩:=hr6
  have cr:=hb6.cell 1 (by simp)
  simp only [List.getD_cons_zero,List.getD_cons_succ] at cr
  clear H4 hg6 hr5 hv6 hb6 C5 F5 M5 G5
  have f0:=C6.frozen 0
  have c0:=C6.cell 0 (by simp)
  simp only [List.getD_cons_zero] at c0
  go_upto_region 7 with (fail)
  have S7:Grown (fun k=>k=w.heap.size+1+1) w6 (w6.setCell ⟨w.heap.size+1+1,0,none⟩ (.int .i64 gen)):=Grown.setCell (S:=fun k=>k=w.heap.size+1+1) (Grown.refl _ _) (a:=⟨w.heap.size+1+1,0,none⟩) rfl _
  have F7:=F6.grown S7 (by omega)
  have C7:=C6.set 0 (.int .i64 gen)
  have M7:=M6.grown S7 (by omega) (fun g hg=>by omega)
  have G7:=G6.trans (S7.below (B:=w.heap.size) (fun k e=>by omega) G6.size)
  have R7:=HR6.out.grown S7 (by omega) (Nat.le_trans hB G6.size) (fun g hg e=>by omega)
  have z7:w.heap.size+4≤(w6.setCell ⟨w.heap.size+1+1,0,none⟩ (.int .i64 gen)).heap.size:=by have:=S7.size; omega
  simp only [List.set_cons_zero] at C7
  generalize w6.setCell ⟨w.heap.size+1+1,0,none⟩ (.int .i64 gen)=w7 at *
  clear f0 c0 cr C6 F6 M6 G6 HR6 S7 z5 z6
  go_wp2
  go_loopw [8,37] (fun last i wr=>∃ (j:Nat) (L:List Ent) (lst:List UInt8) (wt:Int) (s:RSt),j≤n∧i=.int .u64 j∧last=.string ⟨lst.toArray⟩∧rEnts j (s2,false)=some (EB L,lst,wt,s)∧L.length≤j∧0≤wt∧wt≤(j:Int) * 70000∧lst.length≤255∧MapAt wr (w.heap.size+1) (fun g=>w.heap.size+4≤g) L∧Blk wr (w.heap.size+1+1) 101 [.int .i64 gen,.map (some (w.heap.size+1)),.int .i64 wt,.int .u64 0,.int .i64 0]∧Blk wr w.heap.size 101 [.int .i64 0,.map none,.int .i64 0,.int .u64 0,.int .i64 0]∧RdrAt wr (w.heap.size+1+1+1) B s∧Below w.heap.size w wr∧w.heap.size+4≤wr.heap.size) (fun _ i _=>n - (intOf i).toNat)
  case atStart=>exact ⟨0,[],[],0,(s2,false),Nat.zero_le _,rfl,rfl,rfl,Nat.le_refl _,by omega,by omega,by decide,M7,C7,F7,R7,G7,z7⟩
  case round=>
   obtain ⟨j,L,lst,wt,s,hj,rfl,rfl,hE,hLl,w0,w1',hll,M,C,F,R,G,z⟩:=hrel
   clear M7 C7 F7 R7 G7 z7
   by_cases hlt:j < n
   ·have b1:(j:Int) < n:=by omega
    have hstep:rEnts (j+1) (s2,false)=if (rVal (rKey s).2).2.2=true∨leB (rKey s).1 lst=true then none else some (pPut (EB L) ((rKey s).1,(rVal (rKey s).2).1),(rKey s).1,wt+(3+((rKey s).1.length:Int)+(rVal (rKey s).2).1.length),(rVal (rKey s).2).2):=by rw [rEnts,hE]
    have HK:=Lib.hid (fun W (h:RdrAt W (w.heap.size+1+1+1) B s)=>rkey_c (w.heap.size+1+1+1) B s W h (by omega))
    have hkl:=rKey_len s
    generalize rKey s=K at *
    obtain ⟨key,s3⟩:=K
    simp only at hstep hkl
    have HV:=Lib.hid (fun W (h:RdrAt W (w.heap.size+1+1+1) B s3)=>rval_c (w.heap.size+1+1+1) B s3 W h (by omega))
    have hvl:=rVal_len s3
    generalize rVal s3=V at *
    obtain ⟨val,s4,bad⟩:=V
    simp only at hstep hvl
    have HS:=Lib.hid hstep
    clear hstep hE
    go_wp2_with fail
    refine (HK.out _ R).mono ?_
    rintro e w8 ⟨rfl,R8,g8⟩
    have F8:=F.grown (grown_one g8) (by omega)
    have C8:=C.grown (grown_one g8) (by omega)
    have M8:=M.grown (grown_one g8) (by omega) (fun g hg=>by omega)
    have G8:=G.trans (below_of_grown g8 (by omega) G.size)
    have z8:w.heap.size+4≤w8.heap.size:=by have:=g8.size; omega
    clear F C M G z g8 R HK
    go_wp2_with fail
    refine (HV.out _ R8).mono ?_
    rintro e w9 ⟨⟨v9,rfl,hy9⟩,R9,g9⟩
    obtain ⟨a9,cap9,rfl⟩:=own_slice hy9
    have F9:=F8.grown (grown_one g9) (by omega)
    have C9:=C8.grown (grown_one g9) (by omega)
    have M9:=M8.grown (grown_one g9) (by omega) (fun g hg=>by omega)
    have G9:=G8.trans (below_of_grown g9 (by omega) G8.size)
    have z9:w.heap.size+4≤w9.heap.size:=by have:=g9.size; omega
    have HP:=Lib.hid (RdP.own (p:=fun g=>w.heap.size+4≤g) hy9 (fun g hg _=>by omega))
    clear F8 C8 M8 G8 z8 g9 R8 HV hy9
    have HR9:=Lib.hid R9
    obtain ⟨v10,hb10,_⟩:=R9
    have cr:=hb10.cell 1 (by simp)
    simp only [List.getD_cons_zero,List.getD_cons_succ] at cr
    clear hb10
    have hle:leB key lst=(Op.bytesLess key lst || key == lst):=rfl
    generalize hq1:Op.bytesLess key lst=q1 at *
    generalize hq2:(key == lst)=q2 at *
    generalize leB key lst=lb at *
    have HFIN:=Lib.hid (And.intro F9 (And.intro G9 (And.intro HR9.out HP.out)))
    cases bad with
    | true=>
      have HS2:=Lib.hid (HS.out.trans (if_pos (Or.inl rfl)))
      have x0:=F9.cell 0 (by simp)
      have x1:=F9.cell 1 (by simp)
      have x2:=F9.cell 2 (by simp)
      have x3:=F9.cell 3 (by simp)
      have x4:=F9.cell 4 (by simp)
      have y0:=F9.frozen 0
      have y1:=F9.frozen 1
      have y2:=F9.frozen 2
      have y3:=F9.frozen 3
      have y4:=F9.frozen 4
      simp only [List.getD_cons_zero,List.getD_cons_succ] at x0 x1 x2 x3 x4
      clear HS C9 M9
      go_wp2
      (try simp only [Exit.inBlock,Exit.then])
      refine bodyPost_ret (ret_cont rfl _ _ w.heap.size _ rfl (F9.set5 _ _ _ _ _) rfl) rfl ⟨StateRes.none (HRR.out.trans ?_) 0 none 0,G9.trans (((Grown.refl (fun k=>k=w.heap.size) _).set5 rfl _ _ _ _ _).below (fun k e=>by omega) G9.size)⟩
      rw [rEnts_none n (by omega) HS2.out]
    | false=>
      cases lb with
      | true=>
        have hqs:(q1=true∧q2=false)∨(q1=true∧q2=true)∨(q1=false∧q2=true):=by cases q1 <;> cases q2 <;> simp at hle ⊢
        have HS2:=Lib.hid (HS.out.trans (if_pos (Or.inr rfl)))
        have x0:=F9.cell 0 (by simp)
        have x1:=F9.cell 1 (by simp)
        have x2:=F9.cell 2 (by simp)
        have x3:=F9.cell 3 (by simp)
        have x4:=F9.cell 4 (by simp)
        have y0:=F9.frozen 0
        have y1:=F9.frozen 1
        have y2:=F9.frozen 2
        have y3:=F9.frozen 3
        have y4:=F9.frozen 4
        simp only [List.getD_cons_zero,List.getD_cons_succ] at x0 x1 x2 x3 x4
        clear HS C9 M9
        have hqs:(q1=true∧q2=false)∨key=lst:=by
         rcases hqs with h | ⟨_,rfl⟩ | ⟨_,rfl⟩
         ·exact Or.inl h
         ·exact Or.inr (by simpa using hq2)
         ·exact Or.inr (by simpa using hq2)
        rcases hqs with ⟨rfl,rfl⟩ | hqs
        rotate_left
        ·clear hq1 hq2 hle
         subst hqs
         go_wp2
         (try simp only [Exit.inBlock,Exit.then])
         refine bodyPost_ret (ret_cont rfl _ _ w.heap.size _ rfl (F9.set5 _ _ _ _ _) rfl) rfl ⟨StateRes.none (HRR.out.trans ?_) 0 none 0,G9.trans (((Grown.refl (fun k=>k=w.heap.size) _).set5 rfl _ _ _ _ _).below (fun k e=>by omega) G9.size)⟩
         rw [rEnts_none n (by omega) HS2.out]
        ·clear hle
         go_wp2
         (try simp only [Exit.inBlock,Exit.then])
         refine bodyPost_ret (ret_cont rfl _ _ w.heap.size _ rfl (F9.set5 _ _ _ _ _) rfl) rfl ⟨StateRes.none (HRR.out.trans ?_) 0 none 0,G9.trans (((Grown.refl (fun k=>k=w.heap.size) _).set5 rfl _ _ _ _ _).below (fun k e=>by omega) G9.size)⟩
         rw [rEnts_none n (by omega) HS2.out]
      | false=>
        obtain rfl:q1=false:=by cases q1 <;> cases q2 <;> simp at hle ⊢
        obtain rfl:q2=false:=by cases q2 <;> simp at hle ⊢
        have HS2:=Lib.hid (HS.out.trans (if_neg (by simp)))
        clear HS hle
        have d1:=C9.cell 1 (by simp)
        simp only [List.getD_cons_zero,List.getD_cons_succ] at d1
        go_wp2_with (at_mapUpdate; go_must (refine wpList_put rfl _ _ _ rfl M9 rfl key (.slice a9 val.length cap9) val rfl rfl (by unfold maxLen; omega) (by unfold maxLen; omega) HP.out (fun g hg=>by omega) ?_); intro w11 M11 G11)
        have C11:=C9.grown (w':=w11) (show Grown (fun k=>k=w.heap.size+1) _ w11 from G11) (by omega)
        have F11:=F9.grown (w':=w11) (show Grown (fun k=>k=w.heap.size+1) _ w11 from G11) (by omega)
        have R11:=HR9.out.grown (show Grown (fun k=>k=w.heap.size+1) _ w11 from G11) (by omega) (Nat.le_trans hB G9.size) (fun g hg e=>by omega)
        have G12:=G9.trans (G11.below (B:=w.heap.size) (fun k e=>by omega) G9.size)
        have z12:w.heap.size+4≤w11.heap.size:=by have:=G11.size; omega
        have c2:=C11.cell 2 (by simp)
        have f2:=C11.frozen 2
        simp only [List.getD_cons_zero,List.getD_cons_succ] at c2
        have hks:(⟨key.toArray⟩:ByteArray).size=key.length:=by show key.toArray.size=_; simp
        have HH:=Lib.hid (And.intro C11 (And.intro F11 (And.intro R11 (And.intro G12 (And.intro M11 z12)))))
        clear C11 F11 R11 G12 M11 z12 hks d1 cr C9 F9 G9 M9 HFIN G11
        go_region_with (go_at_call 133; refine (weigh_c ⟨key.toArray⟩ a9 val.length cap9 _ (by show key.toArray.size≤_; simp; omega) (by omega)).mono ?_; rintro e w13 ⟨rfl,rfl⟩)
        all_goals
         obtain ⟨C11,F11,R11,G12,M11,z12⟩:=HH.out
         have hwr:IntKind.i64.wrap (wt+(3+(key.length:Int)+val.length))=wt+(3+(key.length:Int)+val.length):=wrap_small _ (by omega) (by omega)
         rw [hwr]
         have S13:Grown (fun k=>k=w.heap.size+1+1) w11 (w11.setCell ⟨w.heap.size+1+1,2,none⟩ (.int .i64 (wt+(3+(key.length:Int)+val.length)))).drew:=(Grown.setCell (S:=fun k=>k=w.heap.size+1+1) (Grown.refl _ w11) (a:=⟨w.heap.size+1+1,2,none⟩) rfl _).drew
         have F13:=F11.grown S13 (by omega)
         have C13:=(C11.set 2 (.int .i64 (wt+(3+(key.length:Int)+val.length)))).drew
         have M13:=M11.grown S13 (by omega) (fun g hg=>by omega)
         have G13:=G12.trans (S13.below (B:=w.heap.size) (fun k e=>by omega) G12.size)
         have R13:=R11.grown S13 (by omega) (Nat.le_trans hB G12.size) (fun g hg e=>by omega)
         have z13:w.heap.size+4≤(w11.setCell ⟨w.heap.size+1+1,2,none⟩ (.int .i64 (wt+(3+(key.length:Int)+val.length)))).drew.heap.size:=by have:=S13.size; omega
         simp only [List.set_cons_zero,List.set_cons_succ] at C13
         clear C11 F11 R11 G12 M11 z12 HH c2 f2 hwr S13
         generalize (w11.setCell ⟨w.heap.size+1+1,2,none⟩ (.int .i64 (wt+(3+(key.length:Int)+val.length)))).drew=w13 at *
         have HH:=Lib.hid (And.intro C13 (And.intro F13 (And.intro R13 (And.intro G13 (And.intro M13 z13)))))
         clear C13 F13 R13 G13 M13 z13
         go_wp2
         go_roundw
         case rel=>
          obtain ⟨C13,F13,R13,G13,M13,z13⟩:=HH.out
          have hl:=pPut_length (EB L) (key,val)
          have hl2:=EB_length (ePut L ⟨key,.slice a9 val.length cap9,val⟩)
          have he:=EB_put L ⟨key,.slice a9 val.length cap9,val⟩
          rw [EB_length] at hl
          rw [he] at hl2
          have hl3:(ePut L ⟨key,.slice a9 val.length cap9,val⟩).length=(pPut (EB L) (key,val)).length:=hl2.symm
          refine ⟨j+1,ePut L ⟨key,.slice a9 val.length cap9,val⟩,key,wt+(3+(key.length:Int)+val.length),(s4,false),by omega,by go_num,rfl,?_,by omega,by omega,by omega,hkl,M13,C13,F13,R13,G13,z13⟩
          rw [HS2.out,he]
         case measure=>simp [intOf]; omega
   ·obtain rfl:j=n:=by omega
    have hrr:=HRR.out
    rw [hE] at hrr
    simp only at hrr
    have HD:=Lib.hid (rdone_c (w.heap.size+1+1+1) B s wr.drew R)
    have x0:=F.cell 0 (by simp)
    have x1:=F.cell 1 (by simp)
    have x2:=F.cell 2 (by simp)
    have x3:=F.cell 3 (by simp)
    have x4:=F.cell 4 (by simp)
    have y0:=F.frozen 0
    have y1:=F.frozen 1
    have y2:=F.frozen 2
    have y3:=F.frozen 3
    have y4:=F.frozen 4
    have k0:=C.cell 0 (by simp)
    have k1:=C.cell 1 (by simp)
    have k2:=C.cell 2 (by simp)
    have k3:=C.cell 3 (by simp)
    have k4:=C.cell 4 (by simp)
    simp only [List.getD_cons_zero,List.getD_cons_succ] at x0 x1 x2 x3 x4 k0 k1 k2 k3 k4
    have HH:=Lib.hid (And.intro F (And.intro G (And.intro M (And.intro z hrr))))
    clear HRR hrr F C M G z R hE
    go_upto_region 17 with (fail)
    have hdn:(!s.2 && s.1.isEmpty)=true ↔ s.2=false∧s.1=[]:=by cases s.2 <;> simp
    have HDN:=Lib.hid hdn
    clear hdn
    generalize (!s.2 && s.1.isEmpty)=dn at *
    obtain ⟨F,G,M,z,hrr⟩:=HH.out
    have SE:Grown (fun k=>k=w.heap.size) wr (((((wr.setCell ⟨w.heap.size,0,none⟩ (.int .i64 gen)).setCell ⟨w.heap.size,1,none⟩ (.map (some (w.heap.size+1)))).setCell ⟨w.heap.size,2,none⟩ (.int .i64 wt)).setCell ⟨w.heap.size,3,none⟩ (.int .u64 0)).setCell ⟨w.heap.size,4,none⟩ (.int .i64 0)).drew:=(Grown.set5 (S:=fun k=>k=w.heap.size) (Grown.refl _ wr) rfl _ _ _ _ _).drew
    have FE:Hid (Blk (((((wr.setCell ⟨w.heap.size,0,none⟩ (.int .i64 gen)).setCell ⟨w.heap.size,1,none⟩ (.map (some (w.heap.size+1)))).setCell ⟨w.heap.size,2,none⟩ (.int .i64 wt)).setCell ⟨w.heap.size,3,none⟩ (.int .u64 0)).setCell ⟨w.heap.size,4,none⟩ (.int .i64 0)).drew w.heap.size 101 [.int .i64 gen,.map (some (w.heap.size+1)),.int .i64 wt,.int .u64 0,.int .i64 0]):=Lib.hid (F.set5 _ _ _ _ _).drew
    have GE:Hid (Below w.heap.size w (((((wr.setCell ⟨w.heap.size,0,none⟩ (.int .i64 gen)).setCell ⟨w.heap.size,1,none⟩ (.map (some (w.heap.size+1)))).setCell ⟨w.heap.size,2,none⟩ (.int .i64 wt)).setCell ⟨w.heap.size,3,none⟩ (.int .u64 0)).setCell ⟨w.heap.size,4,none⟩ (.int .i64 0)).drew):=Lib.hid (G.trans (SE.below (fun k e=>by omega) G.size))
    have ME:Hid (MapAt (((((wr.setCell ⟨w.heap.size,0,none⟩ (.int .i64 gen)).setCell ⟨w.heap.size,1,none⟩ (.map (some (w.heap.size+1)))).setCell ⟨w.heap.size,2,none⟩ (.int .i64 wt)).setCell ⟨w.heap.size,3,none⟩ (.int .u64 0)).setCell ⟨w.heap.size,4,none⟩ (.int .i64 0)).drew (w.heap.size+1) (fun g=>w.heap.size≤g∧g ≠ w.heap.size+1) L):=Lib.hid ((M.grown SE (by omega) (fun g hg=>by omega)).mono' (fun g hg=>by omega))
    clear SE F G M z HH
    by_cases hw:dn=true∧wt≤131072
    ·obtain ⟨rfl,hw⟩:=hw
     have hwt:decide (wt≤131072)=true:=decide_eq_true hw
     have HRR:=Lib.hid (hrr.trans (if_pos ⟨(HDN.out.1 rfl).1,(HDN.out.1 rfl).2,hw⟩))
     clear hrr
     first
      | (go_region_with (go_at_call 134; refine HD.out.mono ?_; rintro e w13 ⟨rfl,rfl⟩))
      | fail
     all_goals
      go_wp2
      (try simp only [Exit.inBlock,Exit.then])
      refine bodyPost_ret (ret_cont rfl _ _ w.heap.size _ rfl FE.out rfl) rfl ⟨?_,GE.out⟩
      rw [HRR.out]
      exact ⟨w.heap.size+1,rfl,by omega,L,ME.out,rfl⟩
    ·have HRR:=Lib.hid (hrr.trans (if_neg (fun h=>hw ⟨HDN.out.2 ⟨h.1,h.2.1⟩,h.2.2⟩)))
     have hww:dn=false∨(dn=true∧decide (wt≤131072)=false):=by
      cases dn
      ·exact Or.inl rfl
      ·exact Or.inr ⟨rfl,decide_eq_false (fun h=>hw ⟨rfl,h⟩)⟩
     clear hw hrr
     rcases hww with rfl | ⟨rfl,hwt⟩
     all_goals
      first
       | (go_region_with (go_at_call 134; refine HD.out.mono ?_; rintro e w13 ⟨rfl,rfl⟩))
       | fail
      all_goals
       go_wp2
       (try simp only [Exit.inBlock,Exit.then])
       exact bodyPost_ret (ret_cont rfl _ _ w.heap.size _ rfl FE.out rfl) rfl ⟨StateRes.none HRR.out _ _ _,GE.out⟩
end
section
open Go.RowKit SeedP Go.Maps
theorem bl_eq:∀ (x y:List UInt8),Op.bytesLess x y=bytesBefore x y
 | [],[]=>rfl
 | _ :: _,[]=>rfl
 | [],_ :: _=>rfl
 | a :: x,b :: y=>by rw [Op.bytesLess,bytesBefore,bl_eq x y]
theorem blt_irrefl:∀ (a:List UInt8),bytesBefore a a=false
 | []=>rfl
 | x :: r=>by simp [bytesBefore,blt_irrefl r]
theorem blt_trans:∀ (a b c:List UInt8),bytesBefore a b=true→bytesBefore b c=true→bytesBefore a c=true
 | [],[],_,h,_=>by simp [bytesBefore] at h
 | [],_ :: _,[],_,h=>by simp [bytesBefore] at h
 | [],_ :: _,_ :: _,_,_=>rfl
 | _ :: _,[],_,h,_=>by simp [bytesBefore] at h
 | _ :: _,_ :: _,[],_,h=>by simp [bytesBefore] at h
 | x :: r,y :: s,z :: t,h1,h2=>by
   simp only [bytesBefore,Bool.or_eq_true,decide_eq_true_eq,Bool.and_eq_true,beq_iff_eq,UInt8.lt_iff_toNat_lt] at h1 h2 ⊢
   rcases h1 with h1 | ⟨rfl,h1⟩
   ·rcases h2 with h2 | ⟨rfl,h2⟩
    ·exact Or.inl (by omega)
    ·exact Or.inl h1
   ·rcases h2 with h2 | ⟨rfl,h2⟩
    ·exact Or.inl h2
    ·exact Or.inr ⟨rfl,blt_trans r s t h1 h2⟩
theorem blt_total:∀ (a b:List UInt8),a ≠ b→bytesBefore a b=true∨bytesBefore b a=true
 | [],[],h=>absurd rfl h
 | [],_ :: _,_=>.inl rfl
 | _ :: _,[],_=>.inr rfl
 | x :: r,y :: s,h=>by
   simp only [bytesBefore,Bool.or_eq_true,decide_eq_true_eq,Bool.and_eq_true,beq_iff_eq,UInt8.lt_iff_toNat_lt]
   by_cases hxy:x=y
   ·subst hxy
    rcases blt_total r s (fun e=>h (by rw [e])) with h1 | h1
    ·exact Or.inl (Or.inr ⟨rfl,h1⟩)
    ·exact Or.inr (Or.inr ⟨rfl,h1⟩)
   ·rcases Nat.lt_trichotomy x.toNat y.toNat with h1 | h1 | h1
    ·exact Or.inl (Or.inl h1)
    ·exact absurd (UInt8.toNat_inj.1 h1) hxy
    ·exact Or.inr (Or.inl h1)
theorem leB_iff (a b:List UInt8):leB a b=true ↔ bytesBefore a b=true∨a=b:=by unfold leB; rw [bl_eq]; simp
theorem leB_not (a b:List UInt8) (h:leB a b=false):bytesBefore b a=true:=by
 have h2:¬ (bytesBefore a b=true∨a=b):=fun h3=>by rw [← leB_iff] at h3; rw [h3] at h; cases h
 rcases blt_total a b (fun e=>h2 (Or.inr e)) with h3 | h3
 ·exact absurd (Or.inl h3) h2
 ·exact h3
theorem keys_pPut (P:PEnts) (x:List UInt8 × List UInt8) (k:List UInt8):k ∈ keysOf (pPut P x) ↔ k=x.1∨(k ∈ keysOf P∧k ≠ x.1):=by
 unfold pPut
 have h:=(keys_perm (pIns_perm x (pDel P x.1))).mem_iff (a:=k)
 rw [h]
 show k ∈ x.1 :: keysOf (pDel P x.1) ↔ _
 rw [List.mem_cons,keys_pDel]; simp
theorem rEnts_ok {s:RSt}:∀ n {P:PEnts} {last:List UInt8} {wt:Int} {s':RSt},rEnts n s=some (P,last,wt,s')→(keysOf P).Nodup∧wt=pWt P∧(∀ k ∈ keysOf P,leB k last=true)∧P.length=n:=by
 intro n
 induction n with
 | zero=>
   intro P last wt s' h
   simp only [rEnts,Option.some.injEq,Prod.mk.injEq] at h
   obtain ⟨rfl,rfl,rfl,rfl⟩:=h
   exact ⟨by simp [keysOf],by simp [pWt],by simp [keysOf],rfl⟩
 | succ n ih=>
   intro P last wt s' h
   rw [rEnts] at h
   cases hE:rEnts n s with
   | none=>rw [hE] at h; cases h
   | some T=>
     obtain ⟨Q,l0,w0,s0⟩:=T
     rw [hE] at h
     simp only at h
     split at h
     ·cases h
     ·rename_i hc
      simp only [Option.some.injEq,Prod.mk.injEq] at h
      obtain ⟨rfl,rfl,rfl,rfl⟩:=h
      obtain ⟨h1,h2,h3,h4⟩:=ih hE
      have hle:leB (rKey s0).1 l0=false:=by cases hq:leB (rKey s0).1 l0 <;> simp_all
      have hlt:=leB_not _ _ hle
      have hno:(rKey s0).1 ∉ keysOf Q:=fun hin=>by rw [h3 _ hin] at hle; cases hle
      have hf:=(pFind_none Q (rKey s0).1).2 hno
      refine ⟨pPut_nodup _ _ h1,?_,?_,?_⟩
      ·rw [pPut_wt _ _ h1]
       simp only [hf]
       rw [h2]; unfold eWt; simp only; omega
      ·intro k hk
       rcases (keys_pPut _ _ _).1 hk with rfl | ⟨hk,_⟩
       ·exact (leB_iff _ _).2 (Or.inr rfl)
       ·rcases (leB_iff _ _).1 (h3 k hk) with h5 | h5
        ·exact (leB_iff _ _).2 (Or.inl (blt_trans _ _ _ h5 hlt))
        ·rw [h5]; exact (leB_iff _ _).2 (Or.inl hlt)
      ·unfold pPut; rw [pIns_length,pDel_not Q _ hno,h4]
theorem rState_ok {code:List UInt8} {gen:Nat} {P:PEnts} {wt:Int} (h:rState code=some (gen,P,wt)):(keysOf P).Nodup∧wt=pWt P∧wt≤131072∧1≤gen∧gen≤4611686018427387904:=by
 unfold rState at h
 split at h
 ·cases h
 ·rename_i hc
  split at h
  ·cases h
  ·rename_i Q l0 w0 s0 hE
   split at h
   ·rename_i hd
    simp only [Option.some.injEq,Prod.mk.injEq] at h
    obtain ⟨rfl,rfl,rfl⟩:=h
    have:=rEnts_ok _ hE
    exact ⟨this.1,this.2.1,hd.2.2,by omega,by omega⟩
   ·cases h
theorem rChgs_len {s:RSt}:∀ n {l:List Chg} {s':RSt},rChgs n s=some (l,s')→l.length=n:=by
 intro n
 induction n with
 | zero=>
   intro l s' h
   simp only [rChgs,Option.some.injEq,Prod.mk.injEq] at h
   obtain ⟨rfl,_⟩:=h; rfl
 | succ n ih=>
   intro l s' h
   rw [rChgs] at h
   split at h
   ·cases h
   ·rename_i l0 s0 hE
    split at h
    ·cases h
    ·simp only [Option.some.injEq,Prod.mk.injEq] at h
     obtain ⟨rfl,_⟩:=h
     rw [List.length_append,ih hE]; rfl
theorem rComm_ok {code:List UInt8} {cs:List Chg} (h:rComm code=some cs):Valid cs∧1≤cs.length∧cs.length≤64∧code.length≤65536:=by
 unfold rComm at h
 split at h
 ·cases h
 ·rename_i hc
  split at h
  ·cases h
  ·rename_i l s hE
   split at h
   ·rename_i hd
    simp only [Option.some.injEq] at h
    subst h
    have:=rChgs_len _ hE
    exact ⟨(valid_zero _).1 hd.2.2,by omega,by omega,by omega⟩
   ·cases h
/-! ### blocks -/
def bLen (l:List UInt8):Nat:=numV (l.take 4)
def bCode (l:List UInt8):List UInt8:=(l.drop 12).take (bLen l)
def bSum (l:List UInt8):Nat:=numV ((l.drop 4).take 8)
theorem rTake_ok {n:Nat} {l:List UInt8} (h:n≤l.length):rTake n (l,false)=(l.take n,l.drop n,false):=by
 unfold rTake; rw [if_neg (by simp; omega)]
theorem rTake_bad (n:Nat) (l:List UInt8):rTake n (l,true)=([],l,true):=by unfold rTake; rw [if_pos (Or.inl rfl)]
theorem rTake_short {n:Nat} {l:List UInt8} (h:l.length < n) (b:Bool):rTake n (l,b)=([],l,true):=by unfold rTake; rw [if_pos (Or.inr h)]
theorem nextB_eq (l:List UInt8) (x:Int):nextB l x=if 12≤l.length∧12+bLen l≤l.length∧subI x (bCode l)=(bSum l:Int) then some (bCode l,(bSum l:Int)) else none:=by
 unfold nextB
 by_cases h4:4≤l.length
 ·have e4:rNum 4 (l,false)=(bLen l,l.drop 4,false):=by unfold rNum; rw [rTake_ok h4]; rfl
  rw [e4]
  by_cases h8:12≤l.length
  ·have e8:rNum 8 (l.drop 4,false)=(bSum l,l.drop 12,false):=by
    unfold rNum; rw [rTake_ok (by rw [List.length_drop]; omega),List.drop_drop]; rfl
   simp only [e8]
   by_cases hn:12+bLen l≤l.length
   ·rw [rTake_ok (by rw [List.length_drop]; omega)]
    simp only [Bool.false_eq_true,false_or]
    by_cases hs:subI x (bCode l)=(bSum l:Int)
    ·rw [if_neg (by intro h; exact h hs),if_pos ⟨h8,hn,hs⟩]; rfl
    ·have e2:¬ (12≤l.length∧12+bLen l≤l.length∧subI x (bCode l)=(bSum l:Int)):=fun h=>hs h.2.2
     rw [if_neg e2]
     have e3:subI x ((l.drop 12).take (bLen l)) ≠ (bSum l:Int):=hs
     rw [if_pos e3]
   ·rw [rTake_short (by rw [List.length_drop]; omega),if_pos (Or.inl rfl),if_neg (by omega)]
  ·have e8:(rNum 8 (l.drop 4,false)).2=(l.drop 4,true):=by
    unfold rNum; rw [rTake_short (by rw [List.length_drop]; omega)]
   simp only [e8]
   rw [rTake_bad,if_pos (Or.inl rfl),if_neg (by omega)]
 ·have e4:rNum 4 (l,false)=(0,l,true):=by unfold rNum; rw [rTake_short (by omega)]; rfl
  have e8:rNum 8 (l,true)=(0,l,true):=by unfold rNum; rw [rTake_bad]; rfl
  simp only [e4,e8]
  rw [rTake_bad,if_pos (Or.inl rfl),if_neg (by omega)]
theorem nextB_some {l:List UInt8} {x:Int} {code:List UInt8} {sum:Int} (h:nextB l x=some (code,sum)):12+code.length≤l.length∧code.length=bLen l∧code=bCode l∧sum=(bSum l:Int)∧subI x code=sum:=by
 rw [nextB_eq] at h
 split at h
 ·rename_i hc
  simp only [Option.some.injEq,Prod.mk.injEq] at h
  obtain ⟨rfl,rfl⟩:=h
  have hl:(bCode l).length=bLen l:=by unfold bCode; rw [List.length_take,List.length_drop]; omega
  exact ⟨by omega,hl,rfl,rfl,hc.2.2⟩
 ·cases h
end
end Go.Proofs.YtbcfpdlhieaepaaGreatDoor
