/- The walk of Commit, of changes that are valid. -/
import Derived.Test.YtbcfpdlhieaepaaGreatDoorR24
namespace Go.Proofs.YtbcfpdlhieaepaaGreatDoor
section
open Go.RowKit SeedP Go.Maps
theorem jCommit_none {s:JS} {cs:List Chg} (hd:s.down=false) (h1:1≤cs.length) (h2:cs.length≤64) (hv:Valid cs) (hm:(cs.any fun c=>c.drop && !(pFind s.c.ents c.key).isSome)=true):jCommit cs s=(s,6):=by
 unfold jCommit
 rw [if_neg (by rw [hd]; simp),if_neg (by omega),if_neg (by rw [(valid_zero cs).2 hv]; simp),if_pos hm]
theorem jCommit_full {s:JS} {cs:List Chg} (hd:s.down=false) (h1:1≤cs.length) (h2:cs.length≤64) (hv:Valid cs) (hm:(cs.any fun c=>c.drop && !(pFind s.c.ents c.key).isSome)=false) (hf:131072 < pWAfter s.c.ents s.c.wt cs∨(s.c.gen=4611686018427387904∧overfullP s (codeOf cs).length=true)):jCommit cs s=(s,4):=by
 unfold jCommit
 rw [if_neg (by rw [hd]; simp),if_neg (by omega),if_neg (by rw [(valid_zero cs).2 hv]; simp),if_neg (by rw [hm]; simp),if_pos hf]
theorem jCommit_go {s:JS} {cs:List Chg} (hd:s.down=false) (h1:1≤cs.length) (h2:cs.length≤64) (hv:Valid cs) (hm:(cs.any fun c=>c.drop && !(pFind s.c.ents c.key).isSome)=false) (hf:¬ (131072 < pWAfter s.c.ents s.c.wt cs∨(s.c.gen=4611686018427387904∧overfullP s (codeOf cs).length=true))):jCommit cs s=jPowered (jDo cs s):=by
 unfold jCommit
 rw [if_neg (by rw [hd]; simp),if_neg (by omega),if_neg (by rw [(valid_zero cs).2 hv]; simp),if_neg (by rw [hm]; simp),if_neg hf]
set_option maxRecDepth 100000 in
set_option maxHeartbeats 4000000 in
/-- Commit of valid changes -/
theorem commit_late {jb db mb:Nat} {p:Nat→Prop} {s:JS} (v:Value) (cs:List Chg) (w:World) (h:JW w jb db mb p s) (hc:ChgsP w (fun g=>g ≠ jb∧g ≠ db∧g ≠ mb) v cs) (hd:s.down=false) (h1:1≤cs.length) (h2:cs.length≤64) (hv:Valid cs) :
 Calls Tryz.prog 60 #[.pointer (some ⟨jb,0,none⟩),v] w fun e w'=>e=.returned (.int .i64 (jCommit cs s).2)∧JW w' jb db mb (fun g=>p g∨w.heap.size≤g) (jCommit cs s).1∧Grown (fun k=>k=jb∨k=db∨k=mb) w w':=by
 have hB2:Below w.heap.size w ((w.alloc (.cells #[.pointer (some ⟨jb,0,none⟩)] 52)).alloc (.cells #[v] 69)):=((Below.refl _ _).alloc (Nat.le_refl _) _).alloc (by simp) _
 have hbd:∀ c ∈ cs,c.key.length≤40∧c.val.length≤4096:=fun c hc=>⟨(hv.key c hc).2,hv.val c hc⟩
 have HR:=Lib.hid (refused_c _ (h.below hB2))
 have hcg:=hc.grown (Grown.of_below hB2 (S:=fun _=>False)) (fun _ _ h=>h)
 have HV:=Lib.hid (valid_c v cs _ hcg.toB (by omega) (fun c hc=>by have:=hbd c hc; omega))
 have HVC:=Lib.hid hc
 obtain ⟨a,cap,rfl,hcap,_,hch⟩:=hc
 have X2:Blk ((w.alloc (.cells #[.pointer (some ⟨jb,0,none⟩)] 52)).alloc (.cells #[.slice a cs.length cap] 69)) w.heap.size 52 [.pointer (some ⟨jb,0,none⟩)]:=(Blk.new w 52 [.pointer (some ⟨jb,0,none⟩)]).alloc _
 have E2:Blk ((w.alloc (.cells #[.pointer (some ⟨jb,0,none⟩)] 52)).alloc (.cells #[.slice a cs.length cap] 69)) (w.heap.size+1) 69 [.slice a cs.length cap]:=by
  have:=Blk.new (w.alloc (.cells #[.pointer (some ⟨jb,0,none⟩)] 52)) 69 [.slice a cs.length cap]
  simpa using this
 have hz2:((w.alloc (.cells #[.pointer (some ⟨jb,0,none⟩)] 52)).alloc (.cells #[.slice a cs.length cap] 69)).heap.size=w.heap.size+2:=by simp
 have hJ2:=h.low.below hB2
 have hlb:(cs.length:Int)≤64:=by omega
 have h0':((cs.length:Int) == 0)=false:=by rw [beq_eq_false_iff_ne]; omega
 have h64:(decide ((64:Int) < (cs.length:Int)))=false:=by simp; omega
 have HCH:=Lib.hid hch
 have x0:=X2.cell 0 (by simp)
 have e0:=E2.cell 0 (by simp)
 simp only [List.getD_cons_zero] at x0 e0
 have hvz:=(valid_zero cs).2 hv
 rw [hvz] at HV
 rw [hd] at HR
 simp only [Bool.false_eq_true,if_false] at HR
 have HH:=Lib.hid (And.intro hd (And.intro h1 (And.intro h2 (And.intro hv hbd))))
 have hlt:=h.lt
 have HJ0:=Lib.hid h
 clear hcg hch hd h1 h2 hv hbd hvz h
 go_enter Tryz.func60,Tryz.ntmps60
 go_wp2_with fail
 refine HR.out.mono ?_
 rintro e w3 ⟨rfl,rfl⟩
 clear HR
 generalize (w.alloc (.cells #[.pointer (some ⟨jb,0,none⟩)] 52)).alloc (.cells #[.slice a cs.length cap] 69)=w2 at *
 go_wp2_with fail
 refine HV.out.mono ?_
 rintro e w3 ⟨rfl,hb3⟩
 have hJ3:=hJ2.below hb3
 have X3:=Blk.below X2 hb3
 have E3:=Blk.below E2 hb3
 have hB3:=hB2.trans (hb3.mono hB2.size)
 have x1:=X3.cell 0 (by simp)
 have e1:=E3.cell 0 (by simp)
 simp only [List.getD_cons_zero] at x1 e1
 have hz3:w.heap.size+2≤w3.heap.size:=by have:=hb3.size; omega
 have HALL:=Lib.hid (And.intro hJ3 (And.intro X3 (And.intro E3 (And.intro hB3 hz3))))
 clear HV hb3 hJ2 X2 E2 hB2 x0 e0 hz2 hJ3 X3 E3 hB3 hz3
 go_wp2
 go_loopw [32] (fun i wr=>∃ j:Nat,j≤cs.length∧i=.int .i64 j∧(∀ q (h:q < j) (h2:q < cs.length),(cs[q].drop && !(pFind s.c.ents cs[q].key).isSome)=false)∧Below w3.heap.size w3 wr) (fun i _=>cs.length - (intOf i).toNat)
 case atStart=>exact ⟨0,Nat.zero_le _,rfl,fun q hq=>by omega,Below.refl _ _⟩
 case round=>
  obtain ⟨j,hj,rfl,hok,hBr⟩:=hrel
  have HOK:=Lib.hid hok
  clear hok
  obtain ⟨hJ3,X3,E3,hB3,hz3⟩:=HALL.out
  have hJr:=hJ3.below hBr
  have HBR:=Lib.hid hBr
  have HJR:=Lib.hid hJr
  have hx:=(Blk.below X3 hBr).cell 0 (by simp)
  have he:=(Blk.below E3 hBr).cell 0 (by simp)
  simp only [List.getD_cons_zero] at hx he
  have hB:Below w.heap.size w wr:=hB3.trans (hBr.mono hB3.size)
  have HB:=Lib.hid hB
  by_cases hlt2:j < cs.length
  ·rcases HCH.out with h | ⟨g,off,rfl,hg,hch⟩
   ·rw [h] at hlt2; simp at hlt2
   obtain ⟨vv,h0,h1,h2,h3⟩:=(hch j hlt2).grown (Grown.of_below hB (S:=fun _=>False)) (fun _ _ h=>h) hg
   have b1:(j:Int) < cs.length:=by omega
   obtain ⟨hbd1,hbd2⟩:=HH.out.2.2.2.2 cs[j] (List.getElem_mem hlt2)
   have HNO:=Lib.hid (show (cs[j].drop && !(pFind s.c.ents cs[j].key).isSome)=true→jCommit cs s=(s,6) from fun h=>
    jCommit_none HH.out.1 HH.out.2.1 HH.out.2.2.1 HH.out.2.2.2.1 (List.any_eq_true.2 ⟨cs[j],List.getElem_mem hlt2,h⟩))
   have HNX:=Lib.hid (show (cs[j].drop && !(pFind s.c.ents cs[j].key).isSome)=false→∀ q (h:q < j+1) (h2:q < cs.length),(cs[q].drop && !(pFind s.c.ents cs[q].key).isSome)=false from fun h q hq h2=>by
    by_cases e:q=j
    ·subst e; exact h
    ·exact HOK.out q (by omega) h2)
   generalize cs[j]=c at *
   obtain ⟨key,val,drop⟩:=c
   simp only at h0 h1 h2 hbd1 hbd2 h3 HNO HNX
   obtain ⟨av,capv,rfl,_,_,_⟩:=h3.toB.open_
   clear hch h3
   have hks:(⟨key.toArray⟩:ByteArray).size=key.length:=by show key.toArray.size=_; simp
   have HBB:=hBr.alloc hBr.size (.cells #[.string ⟨key.toArray⟩,.slice av val.length capv,.bool drop] 73)
   have hJ5:=hJ3.below HBB
   have hbk:=Blk.new wr 73 [.string ⟨key.toArray⟩,.slice av val.length capv,.bool drop]
   have hx5:=(Blk.below X3 HBB).cell 0 (by simp)
   simp only [List.getD_cons_zero] at hx5
   clear hBr hB
   go_upto_region 12 with (fail)
   clear h0 h1 h2 hx he
   have hbk:Blk (wr.alloc (.cells #[.string ⟨key.toArray⟩,.slice av val.length capv,.bool drop] 73)) wr.heap.size 73 [.string ⟨key.toArray⟩,.slice av val.length capv,.bool drop]:=hbk
   generalize wr.alloc (.cells #[.string ⟨key.toArray⟩,.slice av val.length capv,.bool drop] 73)=w5 at *
   generalize wr.heap.size=gb at *
   have c0:=hbk.cell 0 (by simp)
   have c2:=hbk.cell 2 (by simp)
   simp only [List.getD_cons_zero,List.getD_cons_succ] at c0 c2
   have k4:=hJ5.cells.2.2.2.2.1
   obtain ⟨L,hM,hE⟩:=hJ5.map
   have hlk:=(Grown.map_drew hM).look key (by unfold maxLen; omega)
   have HVV:=Lib.hid (fun e (he:eFind L key=some e)=>hM.val e (eFind_mem he).1)
   rw [show (pFind s.c.ents key).isSome=(eFind L key).isSome by rw [← hE,EB_find]; cases eFind L key <;> rfl] at HNO HNX
   have HBW:=Lib.hid HBB.drew
   have HJW:=Lib.hid (And.intro hJ5.drew HBB.drew)
   clear hM hE HBB hbk hJ5 hJ3 hJr X3 E3
   generalize hf:eFind L key=fnd at *
   clear hf
   cases fnd with
   | none=>
     simp only at hlk
     clear HVV
     go_region_held3 (fun w'=>w'.cell? ⟨w.heap.size,0,none⟩=some (.pointer (some ⟨jb,0,none⟩))∧w'.cell? ⟨jb,4,none⟩=some (.map (some mb))∧w'.cell? ⟨gb,0,none⟩=some (.string ⟨key.toArray⟩))
      (exact ⟨hx5,k4,c0⟩) (fail)
     clear hlk
     cases drop with
     | true=>
       have HR:=Lib.hid (HNO.out rfl)
       go_wp2
       go_ret
       rw [HR.out]
       exact ⟨rfl,HJW.out.1.mono (fun g hg=>Or.inl hg.1) (HJ0.out.fresh (Nat.le_refl _)),Grown.below3 (HALL.out.2.2.2.1.trans (HJW.out.2.mono HALL.out.2.2.2.1.size))⟩
     | false=>
       go_wp2
       go_roundw
       case rel=>exact ⟨j+1,by omega,by go_num,HNX.out rfl,HBW.out⟩
       case measure=>simp [intOf]; omega
   | some e=>
     have hev:=HVV.out e rfl
     obtain ⟨ea,ec,hev2,_,_,_⟩:=hev.toB.open_
     simp only at hlk
     rw [hev2] at hlk
     clear HVV hev hev2
     go_region_held3 (fun w'=>w'.cell? ⟨w.heap.size,0,none⟩=some (.pointer (some ⟨jb,0,none⟩))∧w'.cell? ⟨jb,4,none⟩=some (.map (some mb))∧w'.cell? ⟨gb,0,none⟩=some (.string ⟨key.toArray⟩))
      (exact ⟨hx5,k4,c0⟩) (fail)
     clear hlk
     have HR:=Lib.hid (HNX.out (by cases drop <;> rfl))
     clear HNX HNO
     cases drop with
     | true=>
       go_wp2
       go_roundw
       case rel=>exact ⟨j+1,by omega,by go_num,HR.out,HBW.out⟩
       case measure=>simp [intOf]; omega
     | false=>
       go_wp2
       go_roundw
       case rel=>exact ⟨j+1,by omega,by go_num,HR.out,HBW.out⟩
       case measure=>simp [intOf]; omega
  ·obtain rfl:j=cs.length:=by omega
   have hany:(cs.any fun c=>c.drop && !(pFind s.c.ents c.key).isSome)=false:=by
    rw [List.any_eq_false]
    intro c hc
    obtain ⟨q,hq,rfl⟩:=List.mem_iff_getElem.1 hc
    rw [HOK.out q hq hq]; simp
   have hsz:=HH.out.2.2.2.1.size
   have hcl:=codeOf_len cs
   have hlm:(codeOf cs).length≤65536:=by omega
   have HAN:=Lib.hid hany
   have hcr:=HVC.out.grown (Grown.of_below hB (S:=fun _=>False)) (fun _ _ h=>h)
   have HCC:=Lib.hid (commitCode_c _ cs wr hcr.toB HH.out.2.2.1 (fun c hc=>by have:=HH.out.2.2.2.2 c hc; omega))
   clear hany hsz hcl hcr HCH hBr hJ3 X3 E3 hB3 hJr hB hj hlt2 x1 e1
   go_wp2_with fail
   refine HCC.out.mono ?_
   rintro e w4 ⟨⟨v4,rfl,hy4⟩,hb4⟩
   obtain ⟨a4,cp4,rfl⟩:=own_slice hy4
   have hB5:Below w3.heap.size w3 (w4.alloc (.cells #[.slice a4 (codeOf cs).length cp4] 26)):=(HBR.out.trans (hb4.mono HBR.out.size)).alloc (HBR.out.trans (hb4.mono HBR.out.size)).size _
   have hJ5:=HALL.out.1.below hB5
   have X5:=Blk.below HALL.out.2.1 hB5
   have E5:=Blk.below HALL.out.2.2.1 hB5
   have C5:=Blk.new w4 26 [.slice a4 (codeOf cs).length cp4]
   have hz4:w3.heap.size≤w4.heap.size:=Nat.le_trans HBR.out.size hb4.size
   have hcd:RdP (w4.alloc (.cells #[.slice a4 (codeOf cs).length cp4] 26)) (fun g=>g ≠ jb∧g ≠ db∧g ≠ mb) (.slice a4 (codeOf cs).length cp4) (codeOf cs):=by
    have:=RdP.own (p:=fun g=>g ≠ jb∧g ≠ db∧g ≠ mb) hy4 (fun g hg _=>by have:=HBR.out.size; have:=hz3; omega)
    exact this.grown (Grown.of_below ((Below.refl _ w4).alloc (Nat.le_refl _) _) (S:=fun _=>False)) (fun _ _ h=>h)
   clear hx he
   go_upto_region 17 with (fail)
   have C5:Blk (w4.alloc (.cells #[.slice a4 (codeOf cs).length cp4] 26)) w4.heap.size 26 [.slice a4 (codeOf cs).length cp4]:=C5
   clear hy4 hb4
   generalize w4.alloc (.cells #[.slice a4 (codeOf cs).length cp4] 26)=w5 at *
   generalize w4.heap.size=cb at *
   have hBT:=HALL.out.2.2.2.1.trans (hB5.mono HALL.out.2.2.2.1.size)
   have hch5:=HVC.out.grown (Grown.of_below hBT (S:=fun _=>False)) (fun _ _ h=>h)
   have q0:=X5.cell 0 (by simp)
   have q1:=E5.cell 0 (by simp)
   have q2:=C5.cell 0 (by simp)
   have q3:=hJ5.cells.2.2.2.1
   simp only [List.getD_cons_zero] at q0 q1 q2
   have HENV:=Lib.hid (Env.mk (cs:=cs) q0 q2 q1 hcd hch5 (by omega) (by have:=hz3; omega) (by omega))
   obtain ⟨L,hM,hE⟩:=hJ5.map
   have ok:=hJ5.ok
   have hwn:=pWt_nonneg s.c.ents
   have hpl:=pWt_len s.c.ents
   have hl2:L.length=s.c.ents.length:=by rw [← hE,EB_length]
   have hent:∀ e ∈ L,e.bytes.length≤4294967296:=by
    intro e he
    have hm:(e.key,e.bytes) ∈ s.c.ents:=by rw [← hE]; exact List.mem_map.2 ⟨e,he,rfl⟩
    have:=hJ5.small.val _ hm
    simp only at this; omega
   have HWA:=Lib.hid (weightAfter_c jb 3 mb s.c.wt _ cs L _ w5.drew hJ5.cells.2.2.2.2.1 hJ5.cells.2.2.2.2.2.1 (Grown.map_drew hM) (hch5.grown ((Grown.refl (fun _=>False) w5).drew) (fun _ _ h=>h)).toB (by omega) (fun c hc=>by have:=HH.out.2.2.2.2 c hc; omega) hent (by have:=ok.wt; omega) (by have:=ok.max; omega))
   rw [EB_wAfter,hE] at HWA
   have HKEEP:=Lib.hid (fun (w6:World) (hb6:Below w5.drew.heap.size w5.drew w6)=>And.intro (hJ5.drew.below hb6) (And.intro (HENV.out.grown ((Grown.refl (fun k=>k=jb∨k=db∨k=mb) w5).drew.trans (Grown.below3 hb6))) (hBT.drew.trans (hb6.mono hBT.size))))
   have HOV:=Lib.hid (fun (w6:World) (hb6:Below w5.drew.heap.size w5.drew w6)=>overfull_c (codeOf cs).length w6 (hJ5.drew.below hb6) (by omega))
   have HFIN:=Lib.hid (fun (w6:World) (hb6:Below w5.drew.heap.size w5.drew w6) (hr:jCommit cs s=(s,4))=>by
    have hk:=HKEEP.out w6 hb6
    have h1:JW w6 jb db mb (fun g=>p g∨w.heap.size≤g) s:=hk.1.mono (fun g hg=>Or.inl hg.1) (HJ0.out.fresh (Nat.le_refl _))
    exact (show Ending.returned (.int .i64 4)=.returned (.int .i64 (jCommit cs s).2)∧JW w6 jb db mb (fun g=>p g∨w.heap.size≤g) (jCommit cs s).1∧Grown (fun k=>k=jb∨k=db∨k=mb) w w6 by rw [hr]; exact ⟨rfl,h1,Grown.below3 hk.2.2⟩))
   have HPOW:=Lib.hid (fun (w6:World) (hb6:Below w5.drew.heap.size w5.drew w6) (hz:pWAfter s.c.ents s.c.wt cs≤131072) (hm:s.c.gen=4611686018427387904→overfullP s (codeOf cs).length=false)=>powered_do _ _ cs w6 (HKEEP.out w6 hb6).1 (HKEEP.out w6 hb6).2.1 HH.out.2.2.2.1 HH.out.2.2.1 hz hm)
   have hgm:((s.c.gen:Int) == 4611686018427387904)=decide (s.c.gen=4611686018427387904):=by rw [Bool.eq_iff_iff]; simp; omega
   have HGM:=Lib.hid hgm
   have HQ:=Lib.hid (fun (w6:World) (hb6:Below w5.drew.heap.size w5.drew w6)=>And.intro (HKEEP.out w6 hb6).2.1.c0 (And.intro (HKEEP.out w6 hb6).2.1.c2 (And.intro (HKEEP.out w6 hb6).1.cells.2.2.2.1 (HKEEP.out w6 hb6).2.1.c1)))
   clear hM hE hJ5 X5 E5 C5 hcd hch5 hent ok hl2 hpl hwn hgm hB5 hz4 hz3
   generalize hz:pWAfter s.c.ents s.c.wt cs=z at *
   have HZ:=Lib.hid hz
   clear hz
   generalize hgi:(s.c.gen:Int)=gi at *
   have HGI:=Lib.hid hgi
   clear hgi
   by_cases hzc:131072 < z
   ·have hzb:(decide ((131072:Int) < z))=true:=by simpa using hzc
    have HHZ:=Lib.hid hzc
    clear hzc
    have hun:undef=Value.tuple #[]:=rfl
    first
    | (go_region_with (first | (go_at_call 97; refine HWA.out.mono ?_; rintro e w6 ⟨rfl,hb6⟩; obtain ⟨r0,r1,r2,r3⟩:=HQ.out w6 hb6) | (go_at_call 98; refine (HOV.out w6 hb6).mono ?_; rintro e w7 ⟨rfl,rfl⟩)))
    | fail
    all_goals
     go_wp2
     go_ret
     exact HFIN.out w6 hb6 (jCommit_full HH.out.1 HH.out.2.1 HH.out.2.2.1 HH.out.2.2.2.1 HAN.out (Or.inl (by rw [HZ.out]; exact HHZ.out)))
   ·have hzb:(decide ((131072:Int) < z))=false:=by simpa using hzc
    have HHZ:Hid (z≤131072):=Lib.hid (by omega)
    clear hzc
    have hun:undef=Value.tuple #[]:=rfl
    by_cases hgc:s.c.gen=4611686018427387904
    ·have hgb:(gi == 4611686018427387904)=true:=by rw [HGM.out]; simpa using hgc
     have HGC:=Lib.hid hgc
     clear hgc
     cases hob:overfullP s (codeOf cs).length with
     | true=>
       have HOB:=Lib.hid hob
       rw [hob] at HOV
       clear hob
       first
        | (go_region_with (first | (go_at_call 97; refine HWA.out.mono ?_; rintro e w6 ⟨rfl,hb6⟩; obtain ⟨r0,r1,r2,r3⟩:=HQ.out w6 hb6) | (go_at_call 98; refine (HOV.out w6 hb6).mono ?_; rintro e w7 ⟨rfl,rfl⟩)))
        | fail
       all_goals
        go_wp2
        go_ret
        exact HFIN.out w6 hb6 (jCommit_full HH.out.1 HH.out.2.1 HH.out.2.2.1 HH.out.2.2.2.1 HAN.out (Or.inr ⟨HGC.out,HOB.out⟩))
     | false=>
       have HMM:Hid (s.c.gen=4611686018427387904→overfullP s (codeOf cs).length=false):=Lib.hid (fun _=>hob)
       have HNF:Hid (¬ (131072 < z∨(s.c.gen=4611686018427387904∧overfullP s (codeOf cs).length=true))):=Lib.hid (by
        rintro (h | h)
        ·have:=HHZ.out; omega
        ·rw [hob] at h; cases h.2)
       rw [hob] at HOV
       clear hob
       first
        | (go_region_with (first | (go_at_call 97; refine HWA.out.mono ?_; rintro e w6 ⟨rfl,hb6⟩; obtain ⟨r0,r1,r2,r3⟩:=HQ.out w6 hb6) | (go_at_call 98; refine (HOV.out w6 hb6).mono ?_; rintro e w7 ⟨rfl,rfl⟩)))
        | fail
       all_goals
        clear hun
        obtain ⟨r0,r1,r2,r3⟩:=HQ.out w6 hb6
        have hmf:∀ (fn:Fn) (first cap:Array Value) (w:World),(Instr.makeFunc fn first cap).run Tryz.prog w=.ok (.func fn first cap) w:=fun _ _ _ _=>rfl
        have HP:=Lib.hid (HPOW.out w6 hb6 HHZ.out HMM.out)
        go_wp2_with fail
        refine HP.out.mono ?_
        rintro e w7 ⟨rfl,hJ7,hG7⟩
        go_wp2
        go_ret
        have hk:=HKEEP.out w6 hb6
        have hr:jCommit cs s=jPowered (jDo cs s):=jCommit_go HH.out.1 HH.out.2.1 HH.out.2.2.1 HH.out.2.2.2.1 HAN.out (by rw [HZ.out]; exact HNF.out)
        rw [hr]
        exact ⟨rfl,hJ7.mono (p':=fun g=>p g∨w.heap.size≤g) (fun g hg=>by rcases hg with hg | hg; exact Or.inl hg.1; exact Or.inr (Nat.le_trans hk.2.2.size hg)) (HJ0.out.fresh (Nat.le_refl _)),(Grown.below3 hk.2.2).trans hG7⟩
    ·have hgb:(gi == 4611686018427387904)=false:=by rw [HGM.out]; simpa using hgc
     have HMM:Hid (s.c.gen=4611686018427387904→overfullP s (codeOf cs).length=false):=Lib.hid (fun h=>absurd h hgc)
     have HNF:Hid (¬ (131072 < z∨(s.c.gen=4611686018427387904∧overfullP s (codeOf cs).length=true))):=Lib.hid (by
      rintro (h | h)
      ·have:=HHZ.out; omega
      ·exact hgc h.1)
     clear hgc
     first
      | (go_region_with (first | (go_at_call 97; refine HWA.out.mono ?_; rintro e w6 ⟨rfl,hb6⟩; obtain ⟨r0,r1,r2,r3⟩:=HQ.out w6 hb6) | (go_at_call 98; refine (HOV.out w6 hb6).mono ?_; rintro e w7 ⟨rfl,rfl⟩)))
      | fail
     all_goals
      clear hun
      obtain ⟨r0,r1,r2,r3⟩:=HQ.out w6 hb6
      have hmf:∀ (fn:Fn) (first cap:Array Value) (w:World),(Instr.makeFunc fn first cap).run Tryz.prog w=.ok (.func fn first cap) w:=fun _ _ _ _=>rfl
      have HP:=Lib.hid (HPOW.out w6 hb6 HHZ.out HMM.out)
      go_wp2_with fail
      refine HP.out.mono ?_
      rintro e w7 ⟨rfl,hJ7,hG7⟩
      go_wp2
      go_ret
      have hk:=HKEEP.out w6 hb6
      have hr:jCommit cs s=jPowered (jDo cs s):=jCommit_go HH.out.1 HH.out.2.1 HH.out.2.2.1 HH.out.2.2.2.1 HAN.out (by rw [HZ.out]; exact HNF.out)
      rw [hr]
      exact ⟨rfl,hJ7.mono (p':=fun g=>p g∨w.heap.size≤g) (fun g hg=>by rcases hg with hg | hg; exact Or.inl hg.1; exact Or.inr (Nat.le_trans hk.2.2.size hg)) (HJ0.out.fresh (Nat.le_refl _)),(Grown.below3 hk.2.2).trans hG7⟩
end
section
open Go.RowKit SeedP Go.Maps
/-- Commit -/
theorem commit_c {jb db mb:Nat} {p:Nat→Prop} {s:JS} (v:Value) (cs:List Chg) (w:World) (h:JW w jb db mb p s) (hc:ChgsP w (fun g=>g ≠ jb∧g ≠ db∧g ≠ mb) v cs) (hn:cs.length≤1000000) (hb:∀ c ∈ cs,c.key.length≤1073741824∧c.val.length≤1073741824) :
 Calls Tryz.prog 60 #[.pointer (some ⟨jb,0,none⟩),v] w fun e w'=>e=.returned (.int .i64 (jCommit cs s).2)∧JW w' jb db mb (fun g=>p g∨w.heap.size≤g) (jCommit cs s).1∧Grown (fun k=>k=jb∨k=db∨k=mb) w w':=by
 by_cases hx:s.down=true∨cs.length=0∨64 < cs.length∨validP cs ≠ 0
 ·refine (commit_early v cs w h hc hn hb hx).mono ?_
  rintro e w' ⟨he,hs,hB⟩
  refine ⟨he,?_,Grown.below3 hB⟩
  rw [hs]
  exact (h.below hB).mono (fun g hg=>Or.inl hg) (h.fresh (Nat.le_refl _))
 ·have hd:s.down=false:=by cases hd:s.down with | false=>rfl | true=>exact absurd (Or.inl hd) hx
  have h0:¬ cs.length=0:=fun e=>hx (Or.inr (Or.inl e))
  have h6:¬ 64 < cs.length:=fun e=>hx (Or.inr (Or.inr (Or.inl e)))
  have hv:validP cs=0:=by
   rcases Int.lt_trichotomy (validP cs) 0 with e | e | e
   ·exact absurd (Or.inr (Or.inr (Or.inr (by omega)))) hx
   ·exact e
   ·exact absurd (Or.inr (Or.inr (Or.inr (by omega)))) hx
  exact commit_late v cs w h hc hd (by omega) (by omega) ((valid_zero cs).1 hv)
/-- a slice of one change that was just laid -/
theorem chgs_one (w:World) (q:Nat→Prop) (k val:List UInt8) (v:Value) (d:Bool) (hv:RdP w q v val) (hq:q w.heap.size) :
 ChgsP (w.alloc (.cells #[strV k,v,.bool d] 73)) q (.slice (some ⟨w.heap.size,0,none⟩) 1 1) [⟨k,val,d⟩]:=by
 have hb:=Blk.new w 73 [strV k,v,.bool d]
 have hg:Grown (fun _=>False) w (w.alloc (.cells #[strV k,v,.bool d] 73)):=Grown.of_below ((Below.refl _ w).alloc (Nat.le_refl _) _)
 refine ⟨some ⟨w.heap.size,0,none⟩,1,rfl,Nat.le_refl _,by unfold maxLen; omega,Or.inr ⟨w.heap.size,0,rfl,hq,fun j hj=>?_⟩⟩
 obtain rfl:j=0:=by simp at hj; omega
 exact ⟨v,hb.cell 0 (by simp),hb.cell 1 (by simp),hb.cell 2 (by simp),hv.grown hg (fun _ _ h=>h)⟩
set_option maxRecDepth 100000 in
/-- Set -/
theorem set_c {jb db mb:Nat} {p:Nat→Prop} {s:JS} (k val:List UInt8) (v:Value) (w:World) (h:JW w jb db mb p s) (hv:RdP w (fun g=>g ≠ jb∧g ≠ db∧g ≠ mb) v val) (hk:k.length≤1073741824) (hl:val.length≤1073741824) :
 Calls Tryz.prog 32 #[.pointer (some ⟨jb,0,none⟩),strV k,v] w fun e w'=>e=.returned (.int .i64 (jCommit [⟨k,val,false⟩] s).2)∧JW w' jb db mb (fun g=>p g∨w.heap.size≤g) (jCommit [⟨k,val,false⟩] s).1∧Grown (fun k=>k=jb∨k=db∨k=mb) w w':=by
 have hlt:=h.lt
 have hB:Below w.heap.size w (w.alloc (.cells #[strV k,v,.bool false] 73)):=(Below.refl _ w).alloc (Nat.le_refl _) _
 have HC:=Lib.hid (commit_c _ [⟨k,val,false⟩] _ (h.below hB) (chgs_one w _ k val v false hv (by omega)) (by simp) (fun c hc=>by obtain rfl:=List.mem_singleton.1 hc; exact ⟨hk,hl⟩))
 have HB:=Lib.hid hB
 have HF:=Lib.hid (h.fresh (Nat.le_refl _))
 obtain ⟨a,cap,rfl,_,_,_⟩:=hv.toB.open_
 clear hv hB h
 go_enter Tryz.func32,Tryz.ntmps32
 go_wp2_with fail
 refine HC.out.mono ?_
 rintro e w2 ⟨rfl,hJ2,hG2⟩
 go_wp2
 go_ret
 exact ⟨rfl,hJ2.mono (fun g hg=>by rcases hg with hg | hg; exact Or.inl hg; exact Or.inr (Nat.le_trans HB.out.size hg)) HF.out,(Grown.below3 HB.out).trans hG2⟩
set_option maxRecDepth 100000 in
/-- Drop -/
theorem drop_c {jb db mb:Nat} {p:Nat→Prop} {s:JS} (k:List UInt8) (w:World) (h:JW w jb db mb p s) (hk:k.length≤1073741824) :
 Calls Tryz.prog 75 #[.pointer (some ⟨jb,0,none⟩),strV k] w fun e w'=>e=.returned (.int .i64 (jCommit [⟨k,[],true⟩] s).2)∧JW w' jb db mb (fun g=>p g∨w.heap.size≤g) (jCommit [⟨k,[],true⟩] s).1∧Grown (fun k=>k=jb∨k=db∨k=mb) w w':=by
 have hlt:=h.lt
 have hB:Below w.heap.size w (w.alloc (.cells #[strV k,.slice none 0 0,.bool true] 73)):=(Below.refl _ w).alloc (Nat.le_refl _) _
 have HC:=Lib.hid (commit_c _ [⟨k,[],true⟩] _ (h.below hB) (chgs_one w _ k [] (.slice none 0 0) true (Or.inl ⟨Or.inl rfl,rfl⟩) (by omega)) (by simp) (fun c hc=>by obtain rfl:=List.mem_singleton.1 hc; exact ⟨hk,by simp⟩))
 have HB:=Lib.hid hB
 have HF:=Lib.hid (h.fresh (Nat.le_refl _))
 clear hB h
 go_enter Tryz.func75,Tryz.ntmps75
 go_wp2_with fail
 refine HC.out.mono ?_
 rintro e w2 ⟨rfl,hJ2,hG2⟩
 go_wp2
 go_ret
 exact ⟨rfl,hJ2.mono (fun g hg=>by rcases hg with hg | hg; exact Or.inl hg; exact Or.inr (Nat.le_trans HB.out.size hg)) HF.out,(Grown.below3 HB.out).trans hG2⟩
end
end Go.Proofs.YtbcfpdlhieaepaaGreatDoor
