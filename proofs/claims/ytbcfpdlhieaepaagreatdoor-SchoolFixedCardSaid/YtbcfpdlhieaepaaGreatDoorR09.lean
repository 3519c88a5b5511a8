/- The walk of read. -/
import Derived.Test.YtbcfpdlhieaepaaGreatDoorR08
namespace Go.Proofs.YtbcfpdlhieaepaaGreatDoor
open Go.RowKit SeedP Go.Maps
/-- what a good file says -/
structure Cont where
 gen:Nat
 ents:PEnts
 wt:Int
 sum:Int
 ed:Nat
def readGo (file:List UInt8):Nat→Cont→Cont
 | 0,c=>c
 | n+1,c=>match nextB (file.drop c.ed) c.sum with
   | none=>c
   | some (code,s)=>match rComm code with
     | none=>c
     | some cs=>if pPoss c.ents c.wt cs=true then readGo file n ⟨c.gen,pChgs c.ents cs,pWAfter c.ents c.wt cs,s,c.ed+12+code.length⟩ else c
def readF (file:List UInt8):Option Cont:=
 match nextB file 0 with
 | none=>none
 | some (code,s)=>match rState code with
   | none=>none
   | some (gen,P,wt)=>some (readGo file file.length ⟨gen,P,wt,s,12+code.length⟩)
structure Cont.Good (c:Cont) (file:List UInt8):Prop where
 apart:(keysOf c.ents).Nodup
 wt:c.wt=pWt c.ents
 max:c.wt≤131072
 gen:1≤c.gen∧c.gen≤4611686018427387904
 ed:12≤c.ed∧c.ed≤file.length
 sum:0≤c.sum∧c.sum≤18446744073709551615
theorem bSum_lt (l:List UInt8):bSum l < 18446744073709551616:=by
 have h1:=numV_lt ((l.drop 4).take 8)
 have h2:((l.drop 4).take 8).length≤8:=by rw [List.length_take]; omega
 exact Nat.lt_of_lt_of_le h1 (Nat.pow_le_pow_right (by decide) h2)
theorem pPoss_ok {P:PEnts} {wt:Int} {cs:List Chg} (h:pPoss P wt cs=true):pWAfter P wt cs≤131072:=by
 unfold pPoss at h; simp only [Bool.and_eq_true,decide_eq_true_eq] at h; exact h.2
theorem Good.next {c:Cont} {file code:List UInt8} {s:Int} {cs:List Chg} (hc:c.Good file) (hn:nextB (file.drop c.ed) c.sum=some (code,s)) (hr:rComm code=some cs) (hp:pPoss c.ents c.wt cs=true) :
 Cont.Good ⟨c.gen,pChgs c.ents cs,pWAfter c.ents c.wt cs,s,c.ed+12+code.length⟩ file:=by
 have h1:=nextB_some hn
 have h2:=rComm_ok hr
 have h3:=pChgs_wt c.ents cs hc.apart h2.1.apart
 have h4:=h1.1
 rw [List.length_drop] at h4
 have h5:=hc.ed
 have h6:=bSum_lt (file.drop c.ed)
 refine ⟨h3.1,?_,pPoss_ok hp,hc.gen,⟨by show 12≤_+12+_; omega,by show _+12+_≤_; omega⟩,?_⟩
 ·show pWAfter c.ents c.wt cs=_
  rw [h3.2,← hc.wt]
 ·show 0≤s∧s≤_
  rw [h1.2.2.2.1]; omega
theorem readGo_good {file:List UInt8}:∀ n {c:Cont},c.Good file→(readGo file n c).Good file:=by
 intro n
 induction n with
 | zero=>intro c h; exact h
 | succ n ih=>
   intro c h
   rw [readGo]
   split
   ·exact h
   ·rename_i code s hn
    split
    ·exact h
    ·rename_i cs hr
     split
     ·rename_i hp
      exact ih (Good.next h hn hr hp)
     ·exact h
theorem Good.start {file code:List UInt8} {s:Int} {gen:Nat} {P:PEnts} {wt:Int} (hn:nextB file 0=some (code,s)) (hr:rState code=some (gen,P,wt)):Cont.Good ⟨gen,P,wt,s,12+code.length⟩ file:=by
 have h1:=nextB_some hn
 have h2:=rState_ok hr
 have h6:=bSum_lt file
 refine ⟨h2.1,h2.2.1,h2.2.2.1,h2.2.2.2,⟨by show 12≤12+_; omega,by show 12+_≤_; omega⟩,?_⟩
 show 0≤s∧s≤_
 rw [h1.2.2.2.1]; omega
theorem readF_good {file:List UInt8} {c:Cont} (h:readF file=some c):c.Good file:=by
 unfold readF at h
 split at h
 ·cases h
 ·rename_i code s hn
  split at h
  ·cases h
  ·rename_i gen P wt hr
   simp only [Option.some.injEq] at h
   subst h
   exact readGo_good _ (Good.start hn hr)
theorem readGo_stop {file:List UInt8} {n:Nat} {c:Cont} (h:nextB (file.drop c.ed) c.sum=none):readGo file (n+1) c=c:=by rw [readGo,h]
theorem readGo_stop2 {file code:List UInt8} {n:Nat} {c:Cont} {s:Int} (h:nextB (file.drop c.ed) c.sum=some (code,s)) (h2:rComm code=none):readGo file (n+1) c=c:=by rw [readGo,h]; simp only [h2]
theorem readGo_stop3 {file code:List UInt8} {n:Nat} {c:Cont} {s:Int} {cs:List Chg} (h:nextB (file.drop c.ed) c.sum=some (code,s)) (h2:rComm code=some cs) (h3:pPoss c.ents c.wt cs=false):readGo file (n+1) c=c:=by rw [readGo,h]; simp only [h2,h3,Bool.false_eq_true,if_false]
theorem readGo_step {file code:List UInt8} {n:Nat} {c:Cont} {s:Int} {cs:List Chg} (h:nextB (file.drop c.ed) c.sum=some (code,s)) (h2:rComm code=some cs) (h3:pPoss c.ents c.wt cs=true):readGo file (n+1) c=readGo file n ⟨c.gen,pChgs c.ents cs,pWAfter c.ents c.wt cs,s,c.ed+12+code.length⟩:=by rw [readGo,h]; simp only [h2,h3,if_true]
def cellN (w:World) (a:Addr):Nat:=match w.cell? a with
 | some (.int _ n)=>n.toNat
 | _=>0
/-- what read returns -/
def ReadRes (w:World) (B:Nat) (R:Option Cont) (e:Ending):Prop:=
 match R with
 | none=>e=.returned (.tuple #[conV 0 none 0 0 0,.bool false])
 | some c=>∃ mb,e=.returned (.tuple #[conV c.gen (some mb) c.wt c.sum c.ed,.bool true])∧B≤mb∧∃ L,MapAt w mb (fun g=>B≤g∧g ≠ mb) L∧EB L=c.ents
theorem ReadRes.none {w:World} {B:Nat} {R:Option Cont} (h:R=none):ReadRes w B R (.returned (.tuple #[.agg #[.int .i64 0,.map none,.int .i64 0,.int .u64 0,.int .i64 0],.bool false])):=by subst h; rfl
theorem ents_small {L:List Ent} {c:Cont} {file:List UInt8} (h:c.Good file) (hE:EB L=c.ents):L.length≤131072∧∀ e ∈ L,e.bytes.length≤131072:=by
 have h1:=pWt_len (EB L)
 rw [EB_length] at h1
 have h2:=h.wt
 have h3:=h.max
 rw [← hE] at h2
 refine ⟨by omega,fun e he=>?_⟩
 have h4:=pWt_mem (P:=EB L) (e:=(e.key,e.bytes)) (List.mem_map.2 ⟨e,he,rfl⟩)
 have h5:eWt (e.key,e.bytes)=3+(e.key.length:Int)+e.bytes.length:=rfl
 omega
set_option maxRecDepth 100000 in
set_option maxHeartbeats 4000000 in
/-- read -/
theorem read_c (v:Value) (file:List UInt8) (B:Nat) (w:World) (hs:St w) (hv:RdB w B v file) (hB:B≤w.heap.size) (hfl:file.length≤1048576) :
 Calls Tryz.prog 59 #[v] w fun e w'=>ReadRes w' w.heap.size (readF file) e∧Below w.heap.size w w':=by
 have F0:=Blk.new w 101 [.int .i64 0,.map none,.int .i64 0,.int .u64 0,.int .i64 0]
 have G0:Below w.heap.size w (w.alloc (.cells #[.int .i64 0,.map none,.int .i64 0,.int .u64 0,.int .i64 0] 101)):=(Below.refl _ _).alloc (Nat.le_refl _) _
 have z0:(w.alloc (.cells #[.int .i64 0,.map none,.int .i64 0,.int .u64 0,.int .i64 0] 101)).heap.size=w.heap.size+1:=by simp
 have F0:Blk (w.alloc (.cells #[.int .i64 0,.map none,.int .i64 0,.int .u64 0,.int .i64 0] 101)) w.heap.size 101 [.int .i64 0,.map none,.int .i64 0,.int .u64 0,.int .i64 0]:=F0
 generalize hw0:w.alloc (.cells #[.int .i64 0,.map none,.int .i64 0,.int .u64 0,.int .i64 0] 101)=w0 at *
 have HW:=Lib.hid hw0
 have HV0:=Lib.hid (hv.below (G0.mono hB))
 have hs0:=hs.below G0 hs.pos
 have HN:=Lib.hid (next_c v file 0 B w0 hs0 HV0.out (by omega))
 have HR:Hid (readF file=_):=Lib.hid (by unfold readF; rfl)
 clear hw0
 cases hN:nextB file 0 with
 | none=>
   rw [hN] at HN HR
   have HR:Hid (readF file=none):=HR
   clear hN
   obtain ⟨a,cap,rfl,_,_,_⟩:=hv.open_
   clear hv
   go_enter Tryz.func59,Tryz.ntmps59
   go_upto_region 1 with (fail)
   rw [HW.out]
   go_wp2_with fail
   refine HN.out.mono ?_
   rintro e w1 ⟨hres,hb1⟩
   obtain rfl:e=_:=hres
   have F1:=F0.below hb1
   have x0:=F1.cell 0 (by simp)
   have x1:=F1.cell 1 (by simp)
   have x2:=F1.cell 2 (by simp)
   have x3:=F1.cell 3 (by simp)
   have x4:=F1.cell 4 (by simp)
   have y0:=F1.frozen 0
   have y1:=F1.frozen 1
   have y2:=F1.frozen 2
   have y3:=F1.frozen 3
   have y4:=F1.frozen 4
   simp only [List.getD_cons_zero,List.getD_cons_succ] at x0 x1 x2 x3 x4
   go_wp2
   (try simp only [Exit.inBlock,Exit.then])
   exact bodyPost_ret (ret_cont rfl _ _ w.heap.size _ rfl (F1.set5 _ _ _ _ _) rfl) rfl ⟨ReadRes.none HR.out,(G0.trans (hb1.mono (by omega))).trans ((Grown.set5 (S:=fun k=>k=w.heap.size) (Grown.refl _ _) rfl _ _ _ _ _).below (fun k e=>by omega) (by have:=F1.lt; omega))⟩
 | some T=>
   obtain ⟨code,s⟩:=T
   rw [hN] at HN HR
   have HR:Hid (readF file=match rState code with
    | none=>none
    | some (gen,P,wt)=>some (readGo file file.length ⟨gen,P,wt,s,12+code.length⟩)):=HR
   have hcl:=(nextB_some hN).1
   have HNN:=Lib.hid hN
   clear hN
   obtain ⟨a,cap,rfl,_,_,hc⟩:=hv.open_
   have hopen:∃ g off,a=some ⟨g,off,none⟩:=by
    rcases hc with rfl | ⟨g,off,rfl,_⟩
    ·simp at hcl
    ·exact ⟨g,off,rfl⟩
   obtain ⟨g,off,rfl⟩:=hopen
   have hcap:file.length≤cap∧cap≤maxLen∧g < B∧∀ j,j < file.length→w.cell? ⟨g,off+j,none⟩=some (.int .u8 (file.getD j 0).toNat):=by
    rcases hc with rfl | ⟨g',off',e,h1,h2,h3,h4⟩
    ·simp at hcl
    ·cases e; exact ⟨h1,h2,h3,h4⟩
   obtain ⟨h1,h2,h3,h4⟩:=hcap
   have HF:=Lib.hid (And.intro h2 (And.intro h3 h4))
   unfold maxLen at h2
   clear hv hc h3 h4
   go_enter Tryz.func59,Tryz.ntmps59
   go_upto_region 1 with (fail)
   rw [HW.out]
   go_wp2_with fail
   refine HN.out.mono ?_
   rintro e w1 ⟨hres,hb1⟩
   obtain ⟨v1,rfl,hv1⟩:=hres
   have F1:=F0.below hb1
   have G1:=G0.trans (hb1.mono (by omega))
   have z1:w.heap.size+1≤w1.heap.size:=by have:=hb1.size; omega
   obtain ⟨a1,cap1,rfl,_,_,_⟩:=hv1.open_
   have HRS:=Lib.hid (readState_c _ code B w1 hv1 (by omega))
   have HV1:=Lib.hid hv1
   clear F0 G0 z0 hb1 HN hv1 HV0
   cases hS:rState code with
   | none=>
     rw [hS] at HRS HR
     have HR:Hid (readF file=none):=HR
     clear hS
     go_wp2_with fail
     refine HRS.out.mono ?_
     rintro e w2 ⟨hres,hb2⟩
     obtain ⟨q0,q1,q2,rfl⟩:=hres
     unfold conV
     have F2:=(F1.below hb2).alloc (.cells #[.int .i64 q0,.map q1,.int .i64 q2,.int .u64 0,.int .i64 0] 101)
     have G2:=(G1.trans (hb2.mono (by omega))).alloc (by have:=hb2.size; omega) (.cells #[.int .i64 q0,.map q1,.int .i64 q2,.int .u64 0,.int .i64 0] 101)
     have x0:=F2.cell 0 (by simp)
     have x1:=F2.cell 1 (by simp)
     have x2:=F2.cell 2 (by simp)
     have x3:=F2.cell 3 (by simp)
     have x4:=F2.cell 4 (by simp)
     have y0:=F2.frozen 0
     have y1:=F2.frozen 1
     have y2:=F2.frozen 2
     have y3:=F2.frozen 3
     have y4:=F2.frozen 4
     simp only [List.getD_cons_zero,List.getD_cons_succ] at x0 x1 x2 x3 x4
     go_wp2
     (try simp only [Exit.inBlock,Exit.then])
     exact bodyPost_ret (ret_cont rfl _ _ w.heap.size _ rfl (F2.set5 _ _ _ _ _) rfl) rfl ⟨ReadRes.none HR.out,G2.trans ((Grown.set5 (S:=fun k=>k=w.heap.size) (Grown.refl _ _) rfl _ _ _ _ _).below (fun k e=>by omega) (by have:=F2.lt; omega))⟩
   | some T=>
     obtain ⟨gen,P,wt⟩:=T
     have HG:=Lib.hid (Good.start HNN.out hS)
     rw [hS] at HRS HR
     have HR:Hid (readF file=some (readGo file file.length ⟨gen,P,wt,s,12+code.length⟩)):=HR
     clear hS
     go_wp2_with fail
     refine HRS.out.mono ?_
     rintro e w2 ⟨hres,hb2⟩
     obtain ⟨mb,rfl,hmb,L,hM,hE⟩:=hres
     unfold conV
     have F2:=F1.below hb2
     have G2:=G1.trans (hb2.mono (by omega))
     have z2:w1.heap.size≤w2.heap.size:=hb2.size
     have hmb2:=hM.lt
     have M2:MapAt w2 mb (fun g=>w1.heap.size≤g∧g ≠ mb∧g ≠ w2.heap.size) L:=⟨hM.own,fun e he=>(hM.val e he).mono (fun g hg h=>⟨h.1,h.2,by omega⟩)⟩
     have BA:=(Below.refl _ w2).alloc (Nat.le_refl _) (.cells #[.int .i64 gen,.map (some mb),.int .i64 wt,.int .u64 s,.int .i64 (12+code.length)] 101)
     have C5:Blk (w2.alloc (.cells #[.int .i64 gen,.map (some mb),.int .i64 wt,.int .u64 s,.int .i64 (12+code.length)] 101)) w2.heap.size 101 [.int .i64 gen,.map (some mb),.int .i64 wt,.int .u64 s,.int .i64 (12+code.length)]:=Blk.new w2 101 [.int .i64 gen,.map (some mb),.int .i64 wt,.int .u64 s,.int .i64 (12+code.length)]
     have F5:=F2.below BA
     have M5:=M2.grown (S:=fun _=>False) (Grown.of_below BA) (fun h=>h) (fun _ _ h=>h)
     have G5:=G2.trans (BA.mono (by omega))
     have z5:=C5.lt
     clear F2 G2 M2 BA hM hb2 F1 G1 HRS
     have hcll:code.length≤1048576:=by omega
     go_wp2
     have e12:(12:Int)+code.length=((12+code.length:Nat):Int):=by omega
     rw [e12] at C5 F5 M5 G5 z5 ⊢
     generalize w2.alloc (.cells #[.int .i64 gen,.map (some mb),.int .i64 wt,.int .u64 s,.int .i64 ((12+code.length:Nat):Int)] 101)=w5 at *
     have hws:w.heap.size+1≤w2.heap.size:=by omega
     have hpz:∀ g,w1.heap.size≤g∧g ≠ mb∧g ≠ w2.heap.size→g ≠ w2.heap.size∧g ≠ mb:=fun g h=>⟨h.2.2,h.2.1⟩
     generalize w2.heap.size=cb at *
     have HC0:=Lib.hid (And.intro HG.out (And.intro hE (And.intro M5 (And.intro C5 (And.intro F5 (And.intro G5 z5))))))
     clear e12 M5 C5 F5 G5 z5 hE HG
     go_loopw [3] (fun _ wr=>∃ (c:Cont) (fuel:Nat) (L:List Ent),readGo file file.length ⟨gen,P,wt,s,12+code.length⟩=readGo file fuel c∧file.length < fuel+c.ed∧c.Good file∧EB L=c.ents∧MapAt wr mb (fun g=>w1.heap.size≤g∧g ≠ mb∧g ≠ cb) L∧Blk wr cb 101 [.int .i64 c.gen,.map (some mb),.int .i64 c.wt,.int .u64 c.sum,.int .i64 c.ed]∧Blk wr w.heap.size 101 [.int .i64 0,.map none,.int .i64 0,.int .u64 0,.int .i64 0]∧Below w.heap.size w wr) (fun _ wr=>file.length - cellN wr ⟨cb,4,none⟩)
     case atStart=>
      obtain ⟨hg,hE,M5,C5,F5,G5,z5⟩:=HC0.out
      exact ⟨_,file.length,L,rfl,by show file.length < file.length+(12+code.length); omega,hg,hE,M5,C5,F5,G5⟩
     case round=>
      obtain ⟨⟨gn,Q,wq,sm,ed⟩,fuel,L',hgo,hfu,hg,hE',M,C,F,G⟩:=hrel
      simp only at hfu hE' C
      have hed:12≤ed∧ed≤file.length:=hg.ed
      have hsm:0≤sm∧sm≤18446744073709551615:=hg.sum
      obtain ⟨n,rfl⟩:∃ n,fuel=n+1:=⟨fuel - 1,by omega⟩
      have k3:=C.cell 3 (by simp)
      have k4:=C.cell 4 (by simp)
      simp only [List.getD_cons_zero,List.getD_cons_succ] at k3 k4
      have hst:Hid (St wr.drew):=Lib.hid (hs.below G hs.pos).drew
      have HGO:=Lib.hid (And.intro hgo (And.intro hg (And.intro hE' (And.intro M (And.intro C (And.intro F G))))))
      have hvd:Hid (RdB wr.drew B (if cap=ed then .slice (some ⟨g,off,none⟩) (file.length - ed) 0 else .slice (some ⟨g,off+ed,none⟩) (file.length - ed) (cap - ed)) (file.drop ed)):=by
       refine Lib.hid ?_
       split
       ·have e0:file.length - ed=0:=by omega
        rw [e0]; exact Or.inl ⟨Or.inr ⟨_,_,rfl⟩,List.drop_eq_nil_of_le (by omega)⟩
       ·exact RdB.drop (w:=wr.drew) hed.2 h1 HF.out.1 HF.out.2.1 (fun j hj=>(World.cell?_of_block (G.block g (by have:=HF.out.2.1; omega))).trans (HF.out.2.2 j hj))
      have hwr:w.heap.size≤wr.drew.heap.size:=G.size
      have HNX:=Lib.hid (fun v' (h':RdB wr.drew B v' (file.drop ed))=>next_c v' (file.drop ed) sm B wr.drew hst.out h' (by omega))
      clear hgo hg hE' M C F G hst HC0
      have hcapd:cap=ed∨(¬ cap=ed∧ed < cap):=by omega
      cases hN:nextB (file.drop ed) sm with
      | none=>
        rw [hN] at HNX
        have HST:=Lib.hid (readGo_stop (n:=n) (c:=⟨gn,Q,wq,sm,ed⟩) hN)
        clear hN
        rcases hcapd with hcapd | ⟨hcapd,hcapd2⟩
        all_goals
         (first | rw [if_pos hcapd] at hvd | rw [if_neg hcapd] at hvd)
         have b0:(0:Int)≤(ed:Int):=by omega
         have b1:(ed:Int)≤(file.length:Int):=by omega
         go_upto_region 8 with (fail)
         go_region_held3 (fun w'=>w'.cell? ⟨cb,4,none⟩=some (.int .i64 ed)∧w'.cell? ⟨cb,3,none⟩=some (.int .u64 sm))
          (first | exact ⟨q4,q3⟩ | exact ⟨k4,k3⟩)
          (first | (go_at_call 89; go_must (refine Calls.mono (HNX.out _ hvd.out) ?_); rintro e w6 ⟨hres,hb6⟩
                    obtain rfl:e=_:=hres
                    have q4:=keep_cell (W:=wr.drew) hb6 k4
                    have q3:=keep_cell (W:=wr.drew) hb6 k3))
         have C6:=Blk.below (w:=wr.drew) HGO.out.2.2.2.2.1.drew hb6
         have F6:=Blk.below (w:=wr.drew) HGO.out.2.2.2.2.2.1.drew hb6
         have M6:=(Grown.map_drew HGO.out.2.2.2.1).grown (S:=fun _=>False) (Grown.of_below hb6) (fun h=>h) (fun _ _ h=>h)
         have G6:Below w.heap.size w w6:=HGO.out.2.2.2.2.2.2.drew.trans (hb6.mono hwr)
         have t0:=C6.cell 0 (by simp)
         have t1:=C6.cell 1 (by simp)
         have t2:=C6.cell 2 (by simp)
         have t3:=C6.cell 3 (by simp)
         have t4:=C6.cell 4 (by simp)
         have x0:=F6.cell 0 (by simp)
         have x1:=F6.cell 1 (by simp)
         have x2:=F6.cell 2 (by simp)
         have x3:=F6.cell 3 (by simp)
         have x4:=F6.cell 4 (by simp)
         have y0:=F6.frozen 0
         have y1:=F6.frozen 1
         have y2:=F6.frozen 2
         have y3:=F6.frozen 3
         have y4:=F6.frozen 4
         simp only [List.getD_cons_zero,List.getD_cons_succ] at t0 t1 t2 t3 t4 x0 x1 x2 x3 x4
         go_wp2
         (try simp only [Exit.inBlock,Exit.then])
         refine bodyPost_ret (ret_cont rfl _ _ w.heap.size _ rfl (F6.set5 _ _ _ _ _) rfl) rfl ⟨?_,G6.trans ((Grown.set5 (S:=fun k=>k=w.heap.size) (Grown.refl _ _) rfl _ _ _ _ _).below (fun k e=>by omega) G6.size)⟩
         rw [HR.out,HGO.out.1,HST.out]
         exact ⟨mb,rfl,by omega,L',(M6.grown (Grown.set5 (S:=fun k=>k=w.heap.size) (Grown.refl _ _) rfl _ _ _ _ _) (by omega) (fun g hg=>by omega)).mono' (fun g hg=>by omega),HGO.out.2.2.1⟩
      | some T=>
        obtain ⟨code',s'⟩:=T
        rw [hN] at HNX
        have HNN2:=Lib.hid hN
        clear hN
        obtain ⟨hcapd,hcapd2⟩:¬ cap=ed∧ed < cap:=by have h9:=(nextB_some HNN2.out).1; rw [List.length_drop] at h9; omega
        all_goals
         (first | rw [if_pos hcapd] at hvd | rw [if_neg hcapd] at hvd)
         have b0:(0:Int)≤(ed:Int):=by omega
         have b1:(ed:Int)≤(file.length:Int):=by omega
         go_upto_region 8 with (fail)
         go_region_held3 (fun w'=>w'.cell? ⟨cb,4,none⟩=some (.int .i64 ed)∧w'.cell? ⟨cb,3,none⟩=some (.int .u64 sm))
          (first | exact ⟨q4,q3⟩ | exact ⟨k4,k3⟩)
          (first | (go_at_call 89; go_must (refine Calls.mono (HNX.out _ hvd.out) ?_); rintro e w6 ⟨hres,hb6⟩
                    obtain ⟨v6,rfl,hv6⟩:=hres
                    have q4:=keep_cell (W:=wr.drew) hb6 k4
                    have q3:=keep_cell (W:=wr.drew) hb6 k3))
         have C6:=Blk.below (w:=wr.drew) HGO.out.2.2.2.2.1.drew hb6
         have F6:=Blk.below (w:=wr.drew) HGO.out.2.2.2.2.2.1.drew hb6
         have M6:=(Grown.map_drew HGO.out.2.2.2.1).grown (S:=fun _=>False) (Grown.of_below hb6) (fun h=>h) (fun _ _ h=>h)
         have G6:Below w.heap.size w w6:=HGO.out.2.2.2.2.2.2.drew.trans (hb6.mono hwr)
         have hz6:=C6.lt
         have hm6:=M6.lt
         clear hb6 q4 q3 k3 k4 HNX b0 b1 hvd hwr
         obtain ⟨a6,cap6,rfl,_,_,_⟩:=hv6.open_
         have HRC:=Lib.hid (readCommit_c _ code' B w6 hv6 (by have:=G6.size; omega))
         clear hv6
         cases hC:rComm code' with
         | none=>
           rw [hC] at HRC
           have HST:=Lib.hid (readGo_stop2 (n:=n) (c:=⟨gn,Q,wq,sm,ed⟩) HNN2.out hC)
           clear hC
           go_wp2_with fail
           refine HRC.out.mono ?_
           rintro e w7 ⟨hres,hb7⟩
           obtain ⟨v7,rfl⟩:=hres
           have C7:=C6.below hb7
           have F7:=F6.below hb7
           have M7:=M6.grown (S:=fun _=>False) (Grown.of_below hb7) (fun h=>h) (fun _ _ h=>h)
           have G7:=G6.trans (hb7.mono G6.size)
           have t0:=C7.cell 0 (by simp)
           have t1:=C7.cell 1 (by simp)
           have t2:=C7.cell 2 (by simp)
           have t3:=C7.cell 3 (by simp)
           have t4:=C7.cell 4 (by simp)
           have x0:=F7.cell 0 (by simp)
           have x1:=F7.cell 1 (by simp)
           have x2:=F7.cell 2 (by simp)
           have x3:=F7.cell 3 (by simp)
           have x4:=F7.cell 4 (by simp)
           have y0:=F7.frozen 0
           have y1:=F7.frozen 1
           have y2:=F7.frozen 2
           have y3:=F7.frozen 3
           have y4:=F7.frozen 4
           simp only [List.getD_cons_zero,List.getD_cons_succ] at t0 t1 t2 t3 t4 x0 x1 x2 x3 x4
           go_wp2
           (try simp only [Exit.inBlock,Exit.then])
           refine bodyPost_ret (ret_cont rfl _ _ w.heap.size _ rfl (F7.set5 _ _ _ _ _) rfl) rfl ⟨?_,G7.trans ((Grown.set5 (S:=fun k=>k=w.heap.size) (Grown.refl _ _) rfl _ _ _ _ _).below (fun k e=>by omega) G7.size)⟩
           rw [HR.out,HGO.out.1,HST.out]
           exact ⟨mb,rfl,by omega,L',(M7.grown (Grown.set5 (S:=fun k=>k=w.heap.size) (Grown.refl _ _) rfl _ _ _ _ _) (by omega) (fun g hg=>by omega)).mono' (fun g hg=>by omega),HGO.out.2.2.1⟩
         | some cs=>
           rw [hC] at HRC
           go_wp2_with fail
           refine HRC.out.mono ?_
           rintro e w7 ⟨hres,hb7⟩
           obtain ⟨v7,rfl,hP,hlen,hbd⟩:=hres
           have C7:=C6.below hb7
           have F7:=F6.below hb7
           have M7:=M6.grown (S:=fun _=>False) (Grown.of_below hb7) (fun h=>h) (fun _ _ h=>h)
           have G7:=G6.trans (hb7.mono G6.size)
           have hz7:=hb7.size
           have HP:=Lib.hid hP
           obtain ⟨a7,cap7,rfl,_,_,_⟩:=hP
           have hsm7:=ents_small HGO.out.2.1 HGO.out.2.2.1
           have hgd:=HGO.out.2.1
           have hwq1:wq≤131072:=hgd.max
           have hwq0:0≤wq:=by have:=pWt_nonneg Q; have h2:wq=pWt Q:=hgd.wt; omega
           have hPO:=Lib.hid (possible_c cb 0 mb wq _ cs L' _ w7 (C7.cell 1 (by simp)) (C7.cell 2 (by simp)) M7 HP.out.toB (by omega) (fun c hc=>by have:=hbd c hc; omega) (fun e he=>by have:=hsm7.2 e he; omega) (by omega) (by omega))
           rw [EB_poss,HGO.out.2.2.1] at hPO
           clear C6 F6 M6 G6 hb7 HRC hgd
           cases hPS:pPoss Q wq cs with
           | false=>
             have hPO:=hPO
             have HST:=Lib.hid (readGo_stop3 (n:=n) (c:=⟨gn,Q,wq,sm,ed⟩) HNN2.out hC hPS)
             replace hPO:Hid (Calls Tryz.prog 92 #[.pointer (some ⟨cb,0,none⟩),.slice a7 cs.length cap7] w7 fun e w'=>e=.returned (.bool false)∧Below w7.heap.size w7 w'):=by rw [← hPS]; exact hPO
             clear hPS hC
             go_wp2_with fail
             refine hPO.out.mono ?_
             rintro e w8 ⟨rfl,hb8⟩
             have C8:=C7.below hb8
             have F8:=F7.below hb8
             have M8:=M7.grown (S:=fun _=>False) (Grown.of_below hb8) (fun h=>h) (fun _ _ h=>h)
             have G8:=G7.trans (hb8.mono G7.size)
             have t0:=C8.cell 0 (by simp)
             have t1:=C8.cell 1 (by simp)
             have t2:=C8.cell 2 (by simp)
             have t3:=C8.cell 3 (by simp)
             have t4:=C8.cell 4 (by simp)
             have x0:=F8.cell 0 (by simp)
             have x1:=F8.cell 1 (by simp)
             have x2:=F8.cell 2 (by simp)
             have x3:=F8.cell 3 (by simp)
             have x4:=F8.cell 4 (by simp)
             have y0:=F8.frozen 0
             have y1:=F8.frozen 1
             have y2:=F8.frozen 2
             have y3:=F8.frozen 3
             have y4:=F8.frozen 4
             simp only [List.getD_cons_zero,List.getD_cons_succ] at t0 t1 t2 t3 t4 x0 x1 x2 x3 x4
             go_wp2
             (try simp only [Exit.inBlock,Exit.then])
             refine bodyPost_ret (ret_cont rfl _ _ w.heap.size _ rfl (F8.set5 _ _ _ _ _) rfl) rfl ⟨?_,G8.trans ((Grown.set5 (S:=fun k=>k=w.heap.size) (Grown.refl _ _) rfl _ _ _ _ _).below (fun k e=>by omega) G8.size)⟩
             rw [HR.out,HGO.out.1,HST.out]
             exact ⟨mb,rfl,by omega,L',(M8.grown (Grown.set5 (S:=fun k=>k=w.heap.size) (Grown.refl _ _) rfl _ _ _ _ _) (by omega) (fun g hg=>by omega)).mono' (fun g hg=>by omega),HGO.out.2.2.1⟩
           | true=>
             have HST:=Lib.hid (readGo_step (n:=n) (c:=⟨gn,Q,wq,sm,ed⟩) HNN2.out hC hPS)
             have HGN:=Lib.hid (Good.next (c:=⟨gn,Q,wq,sm,ed⟩) HGO.out.2.1 HNN2.out hC hPS)
             have hcl65:=(rComm_ok hC).2.2.2
             replace hPO:Hid (Calls Tryz.prog 92 #[.pointer (some ⟨cb,0,none⟩),.slice a7 cs.length cap7] w7 fun e w'=>e=.returned (.bool true)∧Below w7.heap.size w7 w'):=by rw [← hPS]; exact hPO
             clear hPS hC
             go_wp2_with fail
             refine hPO.out.mono ?_
             rintro e w8 ⟨rfl,hb8⟩
             have C8:=C7.below hb8
             have F8:=F7.below hb8
             have M8:=M7.grown (S:=fun _=>False) (Grown.of_below hb8) (fun h=>h) (fun _ _ h=>h)
             have G8:=G7.trans (hb8.mono G7.size)
             have P8:=HP.out.grown (S:=fun _=>False) (Grown.of_below hb8) (fun _ _ h=>h)
             have hz8:=hb8.size
             have HCH:=Lib.hid (change_c cb 0 mb wq _ cs L' (fun g=>w1.heap.size≤g∧g ≠ mb∧g ≠ cb) (fun g=>w6.heap.size≤g) w8 (C8.cell 1 (by simp)) (C8.cell 2 (by simp)) (C8.frozen 2) M8 P8 (by omega) (fun c hc=>by have:=hbd c hc; omega) (fun e he=>by have:=hsm7.2 e he; omega) (by omega) (by omega) (by omega) (fun g hg=>by omega) (fun g hg=>by omega) (fun g hg=>by omega) (by omega))
             rw [EB_wAfter,HGO.out.2.2.1] at HCH
             have HFM:=Lib.hid (And.intro C8 (And.intro F8 (And.intro G8 M8)))
             clear C7 F7 M7 G7 hb8 hPO P8 C8 F8 G8 M8
             go_wp2_with fail
             refine HCH.out.mono ?_
             rintro e w9 ⟨rfl,hg9,hcb9,L9,M9,hE9⟩
             have C9:=((HFM.out.1.set 2 (.int .i64 (pWAfter Q wq cs))).block hcb9)
             have F9:=HFM.out.2.1.grown hg9 (by omega)
             have G9:=HFM.out.2.2.1.trans (hg9.below (B:=w.heap.size) (fun k e=>by omega) (by omega))
             simp only [List.set_cons_zero,List.set_cons_succ] at C9
             have t4:=C9.cell 4 (by simp)
             have t3:=C9.cell 3 (by simp)
             have y4:=C9.frozen 4
             have y3:=C9.frozen 3
             simp only [List.getD_cons_zero,List.getD_cons_succ] at t4 t3
             have S10:Grown (fun k=>k=cb) w9 ((w9.setCell ⟨cb,3,none⟩ (.int .u64 s')).setCell ⟨cb,4,none⟩ (.int .i64 (ed+12+code'.length))):=(Grown.setCell (S:=fun k=>k=cb) (Grown.refl _ _) (a:=⟨cb,3,none⟩) rfl _).setCell (a:=⟨cb,4,none⟩) rfl _
             have C10:=Lib.hid ((C9.set 3 (.int .u64 s')).set 4 (.int .i64 (ed+12+code'.length)))
             have F10:=Lib.hid (F9.grown S10 (by omega))
             have M10:=Lib.hid (M9.grown S10 (by omega) (fun g hg=>by omega))
             have G10:=Lib.hid (G9.trans (S10.below (B:=w.heap.size) (fun k e=>by omega) G9.size))
             clear S10 C9 F9 G9 M9 hg9 hcb9
             go_wp2
             go_roundw
             case rel=>
              have e12:((ed:Int)+12+code'.length)=((ed+12+code'.length:Nat):Int):=by omega
              rw [e12] at C10 F10 M10 G10 ⊢
              (repeat apply Exists.intro)
              refine ⟨⟨_,n,L9,HGO.out.1.trans HST.out,by show file.length < n+(ed+12+code'.length); omega,HGN.out,hE9,M10.out,C10.out,F10.out,G10.out⟩,rfl⟩
             case measure=>
              have q1:=HGO.out.2.2.2.2.1.cell 4 (by simp)
              have q2:=C10.out.cell 4 (by simp)
              have hed2:ed+12+code'.length≤file.length:=HGN.out.ed.2
              simp only [List.getD_cons_zero,List.getD_cons_succ,List.set_cons_zero,List.set_cons_succ] at q1 q2
              unfold cellN
              rw [q1,q2]
              simp only
              omega
end Go.Proofs.YtbcfpdlhieaepaaGreatDoor
