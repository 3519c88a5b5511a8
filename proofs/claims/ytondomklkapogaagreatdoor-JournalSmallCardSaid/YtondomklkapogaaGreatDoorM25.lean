/- The reference's Code. -/
import Derived.Test.YtondomklkapogaaGreatDoorM20
import Derived.Test.YtondomklkapogaaGreatDoorM24
namespace Go.Proofs.YtondomklkapogaaGreatDoor
open Go.RowKit SeedP Go.Maps
theorem own_lt {w:World} {B n m:Nat} {e:TypeId} {v:Value} {xs:List Value} (h:w.ownsRow B e m v n xs) {q:Nat} (hq:v.ownBlock=some q):q < w.heap.size:=by
 obtain ⟨_,h2⟩:=h
 rcases h2 with ⟨rfl,_⟩ | ⟨g,cap,cur,rfl,hB,hg,hn,hc,_⟩
 ·cases hq
 ·have e:g=q:=by simpa [Value.ownBlock] using hq
  subst e
  first
   | exact hg
   | exact (Array.getElem?_eq_some_iff.1 hg).1
/-- what holds while a change's bytes are added: t1 (an array's), then t2 (made beside it) -/
structure CoG (W:World) (v3:Value) (acc t1 t2:List UInt8) (ds:List Bool) (vs:List Value) (w:World):Prop where
 gb:Below W.heap.size W w
 g0:ds.getD 1 false=false→w.ownsRow W.heap.size 5 1 v3 acc.length (byts acc)
 g1:ds.getD 0 false=true→ds.getD 1 false=false→RdB w w.heap.size (vs.getD 0 undef) t1
 g2:ds.getD 1 false=true→ds.getD 3 false=false→w.ownsRow W.heap.size 5 1 (vs.getD 1 undef) (acc ++ t1).length (byts (acc ++ t1))
 g3:ds.getD 2 false=true→ds.getD 3 false=false→RdP w (fun g=>ds.getD 1 false=false→v3.ownBlock ≠ some g) (vs.getD 2 undef) t2
 g4:ds.getD 3 false=true→w.ownsRow W.heap.size 5 1 (vs.getD 3 undef) (acc ++ t1 ++ t2).length (byts (acc ++ t1 ++ t2))
 g5:ds.getD 4 false=true→vs.getD 4 undef=vs.getD 3 undef
set_option maxRecDepth 100000 in
set_option maxHeartbeats 4000000 in
/-- Code -/
theorem rcode_c (v:Value) (cs:List Chg) (W:World) (hc:ChgsAt W W.heap.size v cs) (hn:cs.length≤1000) (hb:∀ c ∈ cs,c.key.length≤1000∧c.val.length≤100000) :
 Calls Tryz.prog 55 #[v] W fun e w'=>(∃ v',e=.returned v'∧w'.ownsRow W.heap.size 5 1 v' (codeOf cs).length (byts (codeOf cs)))∧Below W.heap.size W w':=by
 have HC:=Lib.hid hc
 have HBD:=Lib.hid hb
 obtain ⟨a,cap,rfl,_,hcm,_⟩:=hc
 obtain ⟨b0,hb0⟩:∃ b,UInt8.ofNat cs.length=b:=⟨_,rfl⟩
 have hw8:IntKind.u8.wrap (cs.length:Int)=(b0.toNat:Int):=by rw [IntKind.wrap_u8,← hb0,UInt8.toNat_ofNat']; omega
 have HB0:=Lib.hid hb0
 have hcl:(cs.length:Int)≤1000:=by omega
 have HO1:=Lib.hid (own_lit W W.heap.size [b0] (by simp [maxLen]) 1 rfl (Nat.le_refl _))
 have HB1:=Lib.hid ((Below.refl W.heap.size W).alloc (Nat.le_refl _) (.cells #[.int .u8 b0.toNat] 5))
 clear hb hb0
 go_enter Tryz.func55,Tryz.ntmps55
 go_upto_region 2 with (fail)
 change Code.wp _ _ _ _ (W.alloc (.cells #[.int .u8 b0.toNat] 5))
 have HO2:Hid ((W.alloc (.cells #[.int .u8 b0.toNat] 5)).ownsRow W.heap.size 5 1 (.slice (some ⟨W.heap.size,0,none⟩) 1 1) 1 (byts [b0])):=HO1
 clear HO1 hw8
 generalize W.alloc (.cells #[.int .u8 b0.toNat] 5)=w1 at *
 go_wp2_with fail
 go_loopw [3,4] (fun av iv wx=>∃ i:Nat,i≤cs.length∧iv=.int .i64 i∧wx.ownsRow W.heap.size 5 1 av (b0 :: (cs.take i).flatMap chgCode).length (byts (b0 :: (cs.take i).flatMap chgCode))∧Below W.heap.size W wx) (fun _ i _=>cs.length - (intOf i).toNat)
 case atStart=>exact ⟨0,Nat.zero_le _,rfl,HO2.out,HB1.out⟩
 case round=>
  obtain ⟨i,hi,rfl,hy,hbw⟩:=hrel
  clear HO2 HB1
  have HY:=Lib.hid hy
  have HBW:=Lib.hid hbw
  clear hy hbw
  by_cases hlt:i < cs.length
  ·have t1:decide ((i:Int) < (cs.length:Int))=true:=decide_eq_true (by omega)
   obtain ⟨a',c',e',_,_,hcc⟩:=HC.out.below HBW.out
   simp only [Value.slice.injEq] at e'
   obtain ⟨rfl,_,rfl⟩:=e'
   rcases hcc with hcc | ⟨g,off,rfl,hg,hcell⟩
   ·rw [hcc] at hlt; simp at hlt
   have HCI:Hid (∀ wx,Below W.heap.size W wx→ChgIn wx W.heap.size g (off+i * 3) cs[i]):=Lib.hid (fun wx hbx=>by
    obtain ⟨a2,c2,e2,_,_,h2⟩:=HC.out.below hbx
    simp only [Value.slice.injEq] at e2
    obtain ⟨e2,_,_⟩:=e2
    rcases h2 with h2 | ⟨g2,off2,e3,_,h2⟩
    ·rw [h2] at hlt; simp at hlt
    ·rw [← e2] at e3
     simp only [Option.some.injEq,Addr.mk.injEq,and_true] at e3
     obtain ⟨rfl,rfl⟩:=e3
     exact h2 i hlt)
   have hbd:=HBD.out cs[i] (List.getElem_mem hlt)
   have hnx:=codeOf_take cs i hlt
   rw [HB0.out] at hnx
   have HNX:=Lib.hid hnx
   have hacl:(b0 :: (cs.take i).flatMap chgCode).length≤2000000000:=by
    have h:∀ L:List Chg,(∀ c ∈ L,c.key.length≤1000∧c.val.length≤100000)→(L.flatMap chgCode).length≤L.length * 102000:=by
     intro L
     induction L with
     | nil=>intro _; simp
     | cons x L ih=>
       intro h
       have h1:=ih (fun c hc=>h c (List.mem_cons_of_mem _ hc))
       have h2:=h x List.mem_cons_self
       rw [List.flatMap_cons,List.length_append,List.length_cons]
       have h3:(chgCode x).length≤102000:=by
        unfold chgCode
        split
        ·simp only [List.length_cons]; omega
        ·simp only [List.length_cons,List.length_append,numB_length]; omega
       omega
    have h2:=h (cs.take i) (fun c hc=>HBD.out c (List.mem_of_mem_take hc))
    have h3:(cs.take i).length≤1000:=by rw [List.length_take]; omega
    rw [List.length_cons]
    have h4:(cs.take i).length * 102000≤1000 * 102000:=Nat.mul_le_mul_right _ h3
    omega
   generalize b0 :: (cs.take i).flatMap chgCode=acc at *
   obtain ⟨vv,d0,d1,d2,dv⟩:=HCI.out W (Below.refl _ _)
   have HALL:Hid (∀ wx,Below W.heap.size W wx→wx.cell? ⟨g,off+i * 3,none⟩=some (strV cs[i].key)∧wx.cell? ⟨g,off+i * 3+1,none⟩=some vv∧wx.cell? ⟨g,off+i * 3+2,none⟩=some (.bool cs[i].drop)∧RdB wx W.heap.size vv cs[i].val):=Lib.hid (fun wx hbx=>
    ⟨(hbx.cell (p:=⟨g,off+i * 3,none⟩) hg).trans d0,(hbx.cell (p:=⟨g,off+i * 3+1,none⟩) hg).trans d1,(hbx.cell (p:=⟨g,off+i * 3+2,none⟩) hg).trans d2,dv.below hbx⟩)
   obtain ⟨c0,c1,c2,hvv⟩:=HALL.out wr HBW.out
   clear hcell hnx HCI d0 d1 d2 dv
   generalize cs[i]=cc at *
   obtain ⟨key,val,drop⟩:=cc
   simp only at c0 c1 c2 hbd hvv
   obtain ⟨hb1,hb2⟩:=hbd
   cases drop with
   | true=>
     have HCELL:Hid (∀ wx,Below W.heap.size W wx→wx.cell? ⟨g,off+i * 3,none⟩=some (strV key)):=Lib.hid (fun wx hbx=>by
      exact (HALL.out wx hbx).1)
     have HAC:=Lib.hid (show (acc ++ [1,UInt8.ofNat key.length] ++ key).length≤4294967296 by simp only [List.length_append,List.length_cons,List.length_nil]; omega)
     obtain ⟨kb,hkb⟩:∃ b,UInt8.ofNat key.length=b:=⟨_,rfl⟩
     have hw8:IntKind.u8.wrap (key.length:Int)=(kb.toNat:Int):=by rw [IntKind.wrap_u8,← hkb,UInt8.toNat_ofNat']; omega
     rw [hkb] at HAC
     have HKB:=Lib.hid hkb
     clear hkb
     go_upto_region 6 with (fail)
     refine wp_region_mixL (by kernel_rfl) 17 3 _ rfl rfl (by kernel_rfl) (by kernel_rfl) (Nat.le_of_ble_eq_true (by kernel_rfl)) [some u3,some (.slice (some ⟨g,off,none⟩) cs.length cap),some (.int .i64 (i:Int)),some (.pointer (some ⟨g,off+i * 3,none⟩)),some (.pointer (some ⟨g,off+i * 3,none⟩)),some (strV key),some (.int .i64 (key.length:Int)),some (.int .u8 kb.toNat),none,none,some (.slice (some ⟨g,off,none⟩) cs.length cap),some (.int .i64 (i:Int)),some (.pointer (some ⟨g,off+i * 3,none⟩)),some (.pointer (some ⟨g,off+i * 3,none⟩)),some (strV key),none,none,none] [8,9,15,16,17] (by kernel_rfl) (by kernel_rfl) (by kernel_rfl) (CoG W u3 acc [1,kb] key) ⟨HBW.out.trans ((bl_drew wr).mono HBW.out.size),fun _=>HY.out.drew,(fun h=>by cases h),(fun h=>by cases h),(fun h=>by cases h),(fun h=>by cases h),(fun h=>by cases h)⟩ ?_ ?_
     ·refine EachI.cons (MixOkL.pure (by kernel_rfl) (fun _=>by kernel_rfl) (fun _ _=>by kernel_rfl)) ?_
      refine EachI.cons (MixOkL.pure (by kernel_rfl) (fun _=>by kernel_rfl) (fun _ _=>by kernel_rfl)) ?_
      refine EachI.cons (MixOkL.pure (by kernel_rfl) (fun _=>by kernel_rfl) (fun _ _=>by kernel_rfl)) ?_
      refine EachI.cons (MixOkL.pure (by kernel_rfl) (fun _=>by kernel_rfl) (fun _ wx=>xr_atC _ _ _ _ _ _ _ _ g off cs.length cap i wx (by kernel_rfl) (by kernel_rfl) hlt)) ?_
      refine EachI.cons (MixOkL.pure (by kernel_rfl) (fun _=>by kernel_rfl) (fun _ _=>by kernel_rfl)) ?_
      refine EachI.cons (MixOkL.look (by kernel_rfl) (fun _=>by kernel_rfl) (fun dn ws wx hG hdep hcl hni=>xr_str _ _ _ _ _ _ _ ⟨g,off+i * 3,none⟩ _ wx (by kernel_rfl) (HCELL.out wx hG.gb))) ?_
      refine EachI.cons (MixOkL.pure (by kernel_rfl) (fun _=>by kernel_rfl) (fun _ wx=>xr_lens _ _ _ _ _ _ ⟨key.toArray⟩ wx (by kernel_rfl))) ?_
      refine EachI.cons (MixOkL.pure (by kernel_rfl) (fun _=>by kernel_rfl) (fun _ wx=>xr_u8 _ _ _ _ _ _ _ _ _ wx (by kernel_rfl) hw8)) ?_
      refine EachI.cons (MixOkL.turn (by kernel_rfl) (fun dn ws wx hG hdep hcl hni=>?_)) ?_
      ·have h9:=not_done (hcl 9 8 (by kernel_rfl)) hni
       have hba:=(Below.refl wx.heap.size wx).alloc (Nat.le_refl _) (.cells #[.int .u8 1,.int .u8 kb.toNat] 5)
       have hs:=hG.gb.size
       have hal:Below W.heap.size wx (wx.alloc (.cells #[.int .u8 1,.int .u8 kb.toNat] 5)):=hba.mono hs
       exact turn_run (by kernel_rfl) (.slice (some ⟨wx.heap.size,0,none⟩) 2 2) (wx.alloc (.cells #[.int .u8 1,.int .u8 kb.toNat] 5)) (by kernel_rfl) ⟨hG.gb.trans hal,fun h=>own_grown (hG.g0 h) (Grown.of_below hba (S:=fun _=>False)) (fun _ _ _ h=>h),fun _ _=>by have h:=rdB_lit wx [1,kb] (by simp [maxLen]) _ rfl; exact h.mono (by simp),(fun h=>by have h:dn 9=true:=h; rw [h9] at h; cases h),fun h h2=>(hG.g3 h h2).grown (Grown.of_below hba (S:=fun _=>False)) (fun _ _ h=>h),fun h=>own_grown (hG.g4 h) (Grown.of_below hba (S:=fun _=>False)) (fun _ _ _ h=>h),hG.g5⟩
      refine EachI.cons (MixOkL.turn (by kernel_rfl) (fun dn ws wx hG hdep hcl hni=>?_)) ?_
      ·have h16:=not_done (hcl 16 9 (by kernel_rfl)) hni
       have h17:=not_done (hcl 17 16 (by kernel_rfl)) h16
       have ho:=hG.g0 hni
       have hd8:dn 8=true:=hdep 8 (by kernel_rfl)
       refine turn_app _ _ _ _ _ _ _ (by kernel_rfl) W.heap.size u3 acc.length acc (by kernel_rfl) ho (ws 8) [1,kb] (by kernel_rfl) (hG.g1 hd8 hni) (by have:=HAC.out; simp only [List.length_append,List.length_cons,List.length_nil] at this ⊢; omega) hG.gb.size (fun v' w' hown hgr=>?_)
       refine ⟨hG.gb.trans (below_own ho hgr hG.gb.size),(fun h=>by cases h),(fun _ h=>by cases h),fun _ _=>by rw [List.length_append]; exact hown,fun h h2=>?_,(fun h=>by have h:dn 16=true:=h; rw [h16] at h; cases h),(fun h=>by have h:dn 17=true:=h; rw [h17] at h; cases h)⟩
       exact ((hG.g3 h h2).grown (Grown.of_row hgr (S:=fun g=>u3.ownBlock=some g) (fun k e=>e)) (fun g hg e=>hg hni e)).mono (fun g _ _ h=>by cases h)
      refine EachI.cons (MixOkL.pure (by kernel_rfl) (fun _=>by kernel_rfl) (fun _ _=>by kernel_rfl)) ?_
      refine EachI.cons (MixOkL.pure (by kernel_rfl) (fun _=>by kernel_rfl) (fun _ _=>by kernel_rfl)) ?_
      refine EachI.cons (MixOkL.pure (by kernel_rfl) (fun _=>by kernel_rfl) (fun _ wx=>xr_atC _ _ _ _ _ _ _ _ g off cs.length cap i wx (by kernel_rfl) (by kernel_rfl) hlt)) ?_
      refine EachI.cons (MixOkL.pure (by kernel_rfl) (fun _=>by kernel_rfl) (fun _ _=>by kernel_rfl)) ?_
      refine EachI.cons (MixOkL.look (by kernel_rfl) (fun _=>by kernel_rfl) (fun dn ws wx hG hdep hcl hni=>xr_str _ _ _ _ _ _ _ ⟨g,off+i * 3,none⟩ _ wx (by kernel_rfl) (HCELL.out wx hG.gb))) ?_
      refine EachI.cons (MixOkL.turn (by kernel_rfl) (fun dn ws wx hG hdep hcl hni=>?_)) ?_
      ·have h16:=not_done (hcl 16 15 (by kernel_rfl)) hni
       have h17:=not_done (hcl 17 16 (by kernel_rfl)) h16
       have hs:=hG.gb.size
       refine turn_conv _ _ _ _ _ _ (by kernel_rfl) key (by kernel_rfl) (by unfold maxLen; omega) (fun c w' hrd hbl=>?_)
       have hal:Below W.heap.size wx w':=hbl.mono hs
       refine ⟨hG.gb.trans hal,fun h=>own_grown (hG.g0 h) (Grown.of_below hbl (S:=fun _=>False)) (fun _ _ _ h=>h),fun h h2=>((hG.g1 h h2).below hbl).mono hbl.size,fun h h2=>own_grown (hG.g2 h h2) (Grown.of_below hbl (S:=fun _=>False)) (fun _ _ _ h=>h),fun _ _=>?_,(fun h=>by have h:dn 16=true:=h; rw [h16] at h; cases h),(fun h=>by have h:dn 17=true:=h; rw [h17] at h; cases h)⟩
       exact hrd.mono (fun q _ hq h0 e=>by subst hq; exact absurd (own_lt (hG.g0 h0) e) (Nat.lt_irrefl _))
      refine EachI.cons (MixOkL.turn (by kernel_rfl) (fun dn ws wx hG hdep hcl hni=>?_)) ?_
      ·have h17:=not_done (hcl 17 16 (by kernel_rfl)) hni
       have hd9:dn 9=true:=hdep 9 (by kernel_rfl)
       have hd15:dn 15=true:=hdep 15 (by kernel_rfl)
       have ho:wx.ownsRow W.heap.size 5 1 (ws 9) (acc ++ [1,kb]).length (byts (acc ++ [1,kb])):=hG.g2 hd9 hni
       have hr:=(hG.g3 hd15 hni).toB
       refine turn_app _ _ _ _ _ _ _ (by kernel_rfl) W.heap.size (ws 9) (acc ++ [1,kb]).length (acc ++ [1,kb]) (by kernel_rfl) ho (ws 15) key (by kernel_rfl) hr (by have:=HAC.out; simp only [List.length_append,List.length_cons,List.length_nil] at this ⊢; omega) hG.gb.size (fun v' w' hown hgr=>?_)
       exact ⟨hG.gb.trans (below_own ho hgr hG.gb.size),(fun h=>by have h:dn 9=false:=h; rw [hd9] at h; cases h),(fun _ h=>by have h:dn 9=false:=h; rw [hd9] at h; cases h),(fun _ h=>by cases h),(fun _ h=>by cases h),fun _=>by rw [List.length_append]; exact hown,(fun h=>by have h:dn 17=true:=h; rw [h17] at h; cases h)⟩
      refine EachI.cons (MixOkL.turn (by kernel_rfl) (fun dn ws wx hG hdep hcl hni=>?_)) ?_
      ·refine turn_run (by kernel_rfl) (ws 16) wx (by kernel_rfl) ⟨hG.gb,hG.g0,hG.g1,hG.g2,hG.g3,hG.g4,fun _=>rfl⟩
      exact EachI.nil
     ·intro ws L' hL' w7 hG7
      have e5:ws 17=ws 16:=hG7.g5 rfl
      have ho:w7.ownsRow W.heap.size 5 1 (ws 16) (acc ++ [1,kb] ++ key).length (byts (acc ++ [1,kb] ++ key)):=hG7.g4 rfl
      have hbw:=hG7.gb
      have hacc:acc ++ [1,kb] ++ key=b0 :: (cs.take (i+1)).flatMap chgCode:=by rw [HNX.out]; unfold chgCode; rw [if_pos rfl,HKB.out]; simp
      rw [hacc] at ho
      have HF:=Lib.hid (And.intro ho hbw)
      simp only [List.set_cons_succ,List.set_cons_zero,setAll,mix,List.getElem?_cons_succ,List.getElem?_cons_zero,Option.join_some,Option.getD_some,Option.getD_none,Nat.reduceAdd,e5] at hL'
      subst hL'
      clear hG7 ho hbw hacc e5
      generalize ws 16=v9 at *
      go_wp2
      go_roundw
      case rel=>exact ⟨i+1,by omega,by go_num,HF.out.1,HF.out.2⟩
      case measure=>simp [intOf]; omega
   | false=>
     have HAC:=Lib.hid (show (acc ++ [0] ++ entB (key,val)).length≤4294967296 by rw [List.length_append,List.length_append,entB_len]; simp only [List.length_cons,List.length_nil]; omega)
     go_upto_region 7 with (fail)
     refine wp_region_mixL (by kernel_rfl) 15 3 _ rfl rfl (by kernel_rfl) (by kernel_rfl) (Nat.le_of_ble_eq_true (by kernel_rfl)) [some u3,none,none,some (.slice (some ⟨g,off,none⟩) cs.length cap),some (.int .i64 (i:Int)),some (.pointer (some ⟨g,off+i * 3,none⟩)),some (.pointer (some ⟨g,off+i * 3,none⟩)),some (strV key),some (.slice (some ⟨g,off,none⟩) cs.length cap),some (.int .i64 (i:Int)),some (.pointer (some ⟨g,off+i * 3,none⟩)),some (.pointer (some ⟨g,off+i * 3+1,none⟩)),some vv,none,none,none] [1,2,13,14,15] (by kernel_rfl) (by kernel_rfl) (by kernel_rfl) (CoG W u3 acc [0] (entB (key,val))) ⟨HBW.out.trans ((bl_drew wr).mono HBW.out.size),fun _=>HY.out.drew,(fun h=>by cases h),(fun h=>by cases h),(fun h=>by cases h),(fun h=>by cases h),(fun h=>by cases h)⟩ ?_ ?_
     ·refine EachI.cons (MixOkL.pure (by kernel_rfl) (fun _=>by kernel_rfl) (fun _ _=>by kernel_rfl)) ?_
      refine EachI.cons (MixOkL.turn (by kernel_rfl) (fun dn ws wx hG hdep hcl hni=>?_)) ?_
      ·have h2:=not_done (hcl 2 1 (by kernel_rfl)) hni
       have hba:=(Below.refl wx.heap.size wx).alloc (Nat.le_refl _) (.cells #[.int .u8 0] 5)
       have hs:=hG.gb.size
       have hal:Below W.heap.size wx (wx.alloc (.cells #[.int .u8 0] 5)):=hba.mono hs
       exact turn_run (by kernel_rfl) (.slice (some ⟨wx.heap.size,0,none⟩) 1 1) (wx.alloc (.cells #[.int .u8 0] 5)) (by kernel_rfl) ⟨hG.gb.trans hal,fun h=>own_grown (hG.g0 h) (Grown.of_below hba (S:=fun _=>False)) (fun _ _ _ h=>h),fun _ _=>by have h:=rdB_lit wx [0] (by simp [maxLen]) _ rfl; exact h.mono (by simp),(fun h=>by have h:dn 2=true:=h; rw [h2] at h; cases h),fun h h2=>(hG.g3 h h2).grown (Grown.of_below hba (S:=fun _=>False)) (fun _ _ h=>h),fun h=>own_grown (hG.g4 h) (Grown.of_below hba (S:=fun _=>False)) (fun _ _ _ h=>h),hG.g5⟩
      refine EachI.cons (MixOkL.turn (by kernel_rfl) (fun dn ws wx hG hdep hcl hni=>?_)) ?_
      ·have h14:=not_done (hcl 14 2 (by kernel_rfl)) hni
       have h15:=not_done (hcl 15 14 (by kernel_rfl)) h14
       have ho:=hG.g0 hni
       have hd8:dn 1=true:=hdep 1 (by kernel_rfl)
       refine turn_app _ _ _ _ _ _ _ (by kernel_rfl) W.heap.size u3 acc.length acc (by kernel_rfl) ho (ws 1) [0] (by kernel_rfl) (hG.g1 hd8 hni) (by have:=HAC.out; simp only [List.length_append,List.length_cons,List.length_nil] at this ⊢; omega) hG.gb.size (fun v' w' hown hgr=>?_)
       refine ⟨hG.gb.trans (below_own ho hgr hG.gb.size),(fun h=>by cases h),(fun _ h=>by cases h),fun _ _=>by rw [List.length_append]; exact hown,fun h h2=>?_,(fun h=>by have h:dn 14=true:=h; rw [h14] at h; cases h),(fun h=>by have h:dn 15=true:=h; rw [h15] at h; cases h)⟩
       exact ((hG.g3 h h2).grown (Grown.of_row hgr (S:=fun g=>u3.ownBlock=some g) (fun k e=>e)) (fun g hg e=>hg hni e)).mono (fun g _ _ h=>by cases h)
      refine EachI.cons (MixOkL.pure (by kernel_rfl) (fun _=>by kernel_rfl) (fun _ _=>by kernel_rfl)) ?_
      refine EachI.cons (MixOkL.pure (by kernel_rfl) (fun _=>by kernel_rfl) (fun _ _=>by kernel_rfl)) ?_
      refine EachI.cons (MixOkL.pure (by kernel_rfl) (fun _=>by kernel_rfl) (fun _ wx=>xr_atC _ _ _ _ _ _ _ _ g off cs.length cap i wx (by kernel_rfl) (by kernel_rfl) hlt)) ?_
      refine EachI.cons (MixOkL.pure (by kernel_rfl) (fun _=>by kernel_rfl) (fun _ _=>by kernel_rfl)) ?_
      refine EachI.cons (MixOkL.look (by kernel_rfl) (fun _=>by kernel_rfl) (fun dn ws wx hG hdep hcl hni=>xr_str _ _ _ _ _ _ _ ⟨g,off+i * 3,none⟩ _ wx (by kernel_rfl) (HALL.out wx hG.gb).1)) ?_
      refine EachI.cons (MixOkL.pure (by kernel_rfl) (fun _=>by kernel_rfl) (fun _ _=>by kernel_rfl)) ?_
      refine EachI.cons (MixOkL.pure (by kernel_rfl) (fun _=>by kernel_rfl) (fun _ _=>by kernel_rfl)) ?_
      refine EachI.cons (MixOkL.pure (by kernel_rfl) (fun _=>by kernel_rfl) (fun _ wx=>xr_atC _ _ _ _ _ _ _ _ g off cs.length cap i wx (by kernel_rfl) (by kernel_rfl) hlt)) ?_
      refine EachI.cons (MixOkL.pure (by kernel_rfl) (fun _=>by kernel_rfl) (fun _ _=>by kernel_rfl)) ?_
      refine EachI.cons (MixOkL.look (by kernel_rfl) (fun _=>by kernel_rfl) (fun dn ws wx hG hdep hcl hni=>xr_bytes _ _ _ _ _ _ _ ⟨g,off+i * 3+1,none⟩ _ wx (by kernel_rfl) (HALL.out wx hG.gb).2.1)) ?_
      refine EachI.cons (MixOkL.turn (by kernel_rfl) (fun dn ws wx hG hdep hcl hni=>?_)) ?_
      ·have h14:=not_done (hcl 14 13 (by kernel_rfl)) hni
       have h15:=not_done (hcl 15 14 (by kernel_rfl)) h14
       have hs:=hG.gb.size
       have hcl7:=HALL.out wx hG.gb
       refine turn_call (by kernel_rfl) 83 #[strV key,vv] (by kernel_rfl) ((rentry_c key vv val W.heap.size wx hcl7.2.2.2 hs (by omega) (by omega)).mono ?_)
       rintro e w' ⟨⟨v',rfl,hown⟩,hbl⟩
       have hal:Below W.heap.size wx w':=hbl.mono hs
       refine ⟨v',rfl,hG.gb.trans hal,fun h=>own_grown (hG.g0 h) (Grown.of_below hbl (S:=fun _=>False)) (fun _ _ _ h=>h),fun h h2=>((hG.g1 h h2).below hbl).mono hbl.size,fun h h2=>own_grown (hG.g2 h h2) (Grown.of_below hbl (S:=fun _=>False)) (fun _ _ _ h=>h),fun _ _=>?_,(fun h=>by have h:dn 14=true:=h; rw [h14] at h; cases h),(fun h=>by have h:dn 15=true:=h; rw [h15] at h; cases h)⟩
       exact RdP.own hown (fun q hq _ h0 e=>absurd (own_lt (hG.g0 h0) e) (Nat.not_lt_of_le hq))
      refine EachI.cons (MixOkL.turn (by kernel_rfl) (fun dn ws wx hG hdep hcl hni=>?_)) ?_
      ·have h15:=not_done (hcl 15 14 (by kernel_rfl)) hni
       have hd9:dn 2=true:=hdep 2 (by kernel_rfl)
       have hd15:dn 13=true:=hdep 13 (by kernel_rfl)
       have ho:wx.ownsRow W.heap.size 5 1 (ws 2) (acc ++ [0]).length (byts (acc ++ [0])):=hG.g2 hd9 hni
       have hr:=(hG.g3 hd15 hni).toB
       refine turn_app _ _ _ _ _ _ _ (by kernel_rfl) W.heap.size (ws 2) (acc ++ [0]).length (acc ++ [0]) (by kernel_rfl) ho (ws 13) (entB (key,val)) (by kernel_rfl) hr (by have:=HAC.out; simp only [List.length_append,List.length_cons,List.length_nil] at this ⊢; omega) hG.gb.size (fun v' w' hown hgr=>?_)
       exact ⟨hG.gb.trans (below_own ho hgr hG.gb.size),(fun h=>by have h:dn 2=false:=h; rw [hd9] at h; cases h),(fun _ h=>by have h:dn 2=false:=h; rw [hd9] at h; cases h),(fun _ h=>by cases h),(fun _ h=>by cases h),fun _=>by rw [List.length_append]; exact hown,(fun h=>by have h:dn 15=true:=h; rw [h15] at h; cases h)⟩
      refine EachI.cons (MixOkL.turn (by kernel_rfl) (fun dn ws wx hG hdep hcl hni=>?_)) ?_
      ·refine turn_run (by kernel_rfl) (ws 14) wx (by kernel_rfl) ⟨hG.gb,hG.g0,hG.g1,hG.g2,hG.g3,hG.g4,fun _=>rfl⟩
      exact EachI.nil
     ·intro ws L' hL' w7 hG7
      have e5:ws 15=ws 14:=hG7.g5 rfl
      have ho:w7.ownsRow W.heap.size 5 1 (ws 14) (acc ++ [0] ++ entB (key,val)).length (byts (acc ++ [0] ++ entB (key,val))):=hG7.g4 rfl
      have hbw:=hG7.gb
      have hacc:acc ++ [0] ++ entB (key,val)=b0 :: (cs.take (i+1)).flatMap chgCode:=by rw [HNX.out]; unfold chgCode entB; simp
      rw [hacc] at ho
      have HF:=Lib.hid (And.intro ho hbw)
      simp only [List.set_cons_succ,List.set_cons_zero,setAll,mix,List.getElem?_cons_succ,List.getElem?_cons_zero,Option.join_some,Option.getD_some,Option.getD_none,Nat.reduceAdd,e5] at hL'
      subst hL'
      clear hG7 ho hbw hacc e5
      generalize ws 14=v9 at *
      go_wp2
      go_roundw
      case rel=>exact ⟨i+1,by omega,by go_num,HF.out.1,HF.out.2⟩
      case measure=>simp [intOf]; omega
  ·obtain rfl:i=cs.length:=by omega
   have t1:decide ((cs.length:Int) < (cs.length:Int))=false:=by simp
   have HF:=Lib.hid (show wr.ownsRow W.heap.size 5 1 u3 (codeOf cs).length (byts (codeOf cs)) by
    have h:=HY.out
    rw [List.take_length,← HB0.out] at h; exact h)
   clear HY
   go_wp2
   go_ret
   exact ⟨⟨_,rfl,HF.out⟩,HBW.out⟩
end Go.Proofs.YtondomklkapogaaGreatDoor
