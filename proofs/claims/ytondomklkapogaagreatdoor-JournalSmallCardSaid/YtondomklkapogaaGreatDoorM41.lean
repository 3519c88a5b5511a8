/- The law's given: changes as the reference has them. -/
import Derived.Test.YtondomklkapogaaGreatDoorM37
import Derived.Test.YtondomklkapogaaGreatDoorM39
import Derived.Test.YtondomklkapogaaGreatDoorM40
namespace Go.Proofs.YtondomklkapogaaGreatDoor
section
open Go.RowKit SeedP Go.Maps
/-- while one change is added -/
def GvS (W:World) (c:Chg) (v3:Value) (xs:List (Chg × Value)):Nat→List Value→World→Prop
 | 0,_,w=>Below W.heap.size W w∧RcRow w W.heap.size v3 xs
 | 1,vs,w=>Below W.heap.size W w∧RcRow w W.heap.size v3 xs∧w.ownsRow W.heap.size 5 1 (vs.getD 0 undef) c.val.length (byts c.val)
 | 2,vs,w=>Below W.heap.size W w∧RcRow w W.heap.size v3 xs∧w.ownsRow W.heap.size 5 1 (vs.getD 0 undef) c.val.length (byts c.val)∧vs.getD 1 undef=.agg #[strV c.key,vs.getD 0 undef,.bool c.drop]
 | 3,vs,w=>Below W.heap.size W w∧RcRow w W.heap.size v3 xs∧w.ownsRow W.heap.size 5 1 (vs.getD 0 undef) c.val.length (byts c.val)∧∃ q,vs.getD 2 undef=.slice (some ⟨q,0,none⟩) 1 1∧Blk w q 104 (chgCells (c,vs.getD 0 undef))
 | 4,vs,w=>Below W.heap.size W w∧RcRow w W.heap.size (vs.getD 3 undef) (xs ++ [(c,vs.getD 0 undef)])
 | 5,vs,w=>Below W.heap.size W w∧RcRow w W.heap.size (vs.getD 4 undef) (xs ++ [(c,vs.getD 0 undef)])
 | _,_,_=>False
theorem GvS.inv {W:World} {c:Chg} {v3:Value} {xs:List (Chg × Value)} (k:Nat) (vs:List Value) (w:World) (h:GvS W c v3 xs k vs w):Below W.heap.size W w:=by
 match k,h with
 | 0,h=>exact h.1
 | 1,h=>exact h.1
 | 2,h=>exact h.1
 | 3,h=>exact h.1
 | 4,h=>exact h.1
 | 5,h=>exact h.1
theorem GvS.call {W:World} {c:Chg} {v3:Value} {xs:List (Chg × Value)} {vs:List Value} {w:World} (h:GvS W c v3 xs 0 vs w) {v:Value} {w':World} (hown:w'.ownsRow w.heap.size 5 1 v c.val.length (byts c.val)) (hbl:Below w.heap.size w w') {r:List Value}:GvS W c v3 xs 1 (v :: r) w':=
 ⟨h.1.trans (hbl.mono h.1.size),h.2.below hbl,own_up hown h.1.size⟩
theorem GvS.make {W:World} {c:Chg} {v3:Value} {xs:List (Chg × Value)} {vs:List Value} {w:World} (h:GvS W c v3 xs 2 vs w) {a:Option Addr} {n cp:Nat} (ea:vs.getD 0 undef=.slice a n cp) {x1:Value} {r:List Value}:GvS W c v3 xs 3 (vs.getD 0 undef :: x1 :: .slice (some ⟨w.heap.size,0,none⟩) 1 1 :: r) (w.alloc (.cells #[.string ⟨c.key.toArray⟩,.slice a n cp,.bool c.drop] 104)):=by
 have hal:=(Below.refl w.heap.size w).alloc (Nat.le_refl _) (.cells #[.string ⟨c.key.toArray⟩,.slice a n cp,.bool c.drop] 104)
 refine ⟨h.1.trans (hal.mono h.1.size),h.2.1.below hal,own_grown h.2.2.1 (Grown.of_below hal (S:=fun _=>False)) (fun _ _ _ h=>h),_,rfl,?_⟩
 show Blk _ _ _ [strV c.key,vs.getD 0 undef,.bool c.drop]
 rw [ea]
 exact Blk.new w 104 [.string ⟨c.key.toArray⟩,.slice a n cp,.bool c.drop]
theorem GvS.app {W:World} {c:Chg} {v3 v0:Value} {xs:List (Chg × Value)} {w w':World} (hb:Below W.heap.size W w) (hr:RcRow w W.heap.size v3 xs) (ho:w.ownsRow W.heap.size 5 1 v0 c.val.length (byts c.val)) {v':Value} (hown:w'.ownsRow W.heap.size 104 3 v' (xs ++ [(c,v0)]).length (crow (xs ++ [(c,v0)]))) (hgr:w.grownBy w' v3.ownBlock) {x1 x2:Value} {r:List Value}:GvS W c v3 xs 4 (v0 :: x1 :: x2 :: v' :: r) w':=by
 refine ⟨hb.trans ((Below.refl _ _).grown hgr hb.size (fun k e=>(hr.row.lt k e).1)),hown,fun p hp=>?_⟩
 rcases List.mem_append.1 hp with hp | hp
 ·exact row_row hr.row (by decide) hgr (hr.val p hp)
 ·obtain rfl:p=(c,v0):=by simpa using hp
  exact row_row hr.row (by decide) hgr ho
set_option maxRecDepth 100000 in
set_option maxHeartbeats 4000000 in
/-- given -/
theorem given_c (v:Value) (cs:List Chg) (W:World) (hc:ChgsAt W W.heap.size v cs) (hn:cs.length≤1000000) (hb:∀ c ∈ cs,c.key.length≤1000000∧c.val.length≤1000000) :
 Calls Tryz.prog 23 #[v] W fun e w'=>(∃ v',e=.returned v'∧ChgsAt w' w'.heap.size v' cs)∧Below W.heap.size W w':=by
 have HC:=Lib.hid hc
 have HBD:=Lib.hid hb
 obtain ⟨a,cap,rfl,_,hcm,_⟩:=hc
 clear hb
 go_enter Tryz.func23,Tryz.ntmps23
 go_wp2
 go_loopw [3,4] (fun av iv wx=>∃ (i:Nat) (xs:List (Chg × Value)),i≤cs.length∧iv=.int .i64 i∧xs.map (·.1)=cs.take i∧RcRow wx W.heap.size av xs∧Below W.heap.size W wx) (fun _ i _=>cs.length - (intOf i).toNat)
 case atStart=>exact ⟨0,[],Nat.zero_le _,rfl,rfl,RcRow.nil _ _,Below.refl _ _⟩
 case round=>
  obtain ⟨i,xs,hi,rfl,hxs,hr,hbw⟩:=hrel
  have HXS:=Lib.hid hxs
  have HR:=Lib.hid hr
  have HBW:=Lib.hid hbw
  have hxl:xs.length=i:=by have h:=congrArg List.length hxs; rw [List.length_map,List.length_take] at h; omega
  have hxl:xs.length≤1000000:=by omega
  clear hxs hr hbw
  by_cases hlt:i < cs.length
  ·have t1:decide ((i:Int) < (cs.length:Int))=true:=decide_eq_true (by omega)
   obtain ⟨a',c',e',_,_,hcc⟩:=HC.out.below HBW.out
   simp only [Value.slice.injEq] at e'
   obtain ⟨rfl,_,rfl⟩:=e'
   rcases hcc with hcc | ⟨g,off,rfl,hg,hcell⟩
   ·rw [hcc] at hlt; simp at hlt
   have HCI:Hid (∀ wx,Below W.heap.size W wx→ChgIn wx W.heap.size g (off+i * 3) cs[i]):=Lib.hid (fun wx hbx=>by
    obtain ⟨a2,c2,e2,_,_,h2⟩:=HC.out.below hbx
    simp only [Value.slice.injEq] at e2
    obtain ⟨e2,_,_⟩:=e2
    rcases h2 with h2 | ⟨g2,off2,e3,_,h2⟩
    ·rw [h2] at hlt; simp at hlt
    ·rw [← e2] at e3
     simp only [Option.some.injEq,Addr.mk.injEq,and_true] at e3
     obtain ⟨rfl,rfl⟩:=e3
     exact h2 i hlt)
   have hbd:=HBD.out cs[i] (List.getElem_mem hlt)
   have HNX:Hid (cs.take (i+1)=cs.take i ++ [cs[i]]):=Lib.hid (List.take_succ_eq_append_getElem hlt)
   obtain ⟨vv,d0,d1,d2,dv⟩:=HCI.out W (Below.refl _ _)
   have HALL:Hid (∀ wx,Below W.heap.size W wx→wx.cell? ⟨g,off+i * 3,none⟩=some (strV cs[i].key)∧wx.cell? ⟨g,off+i * 3+1,none⟩=some vv∧wx.cell? ⟨g,off+i * 3+2,none⟩=some (.bool cs[i].drop)∧RdB wx W.heap.size vv cs[i].val):=Lib.hid (fun wx hbx=>
    ⟨(hbx.cell (p:=⟨g,off+i * 3,none⟩) hg).trans d0,(hbx.cell (p:=⟨g,off+i * 3+1,none⟩) hg).trans d1,(hbx.cell (p:=⟨g,off+i * 3+2,none⟩) hg).trans d2,dv.below hbx⟩)
   clear hcell HCI d0 d1 d2 dv
   generalize cs[i]=cc at *
   obtain ⟨key,val,drop⟩:=cc
   simp only at hbd
   obtain ⟨hb1,hb2⟩:=hbd
   go_upto_region 5 with (fail)
   refine wp_region_mixL (by kernel_rfl) 20 3 _ rfl rfl (by kernel_rfl) (by kernel_rfl) (Nat.le_of_ble_eq_true (by kernel_rfl)) [some u3,some (.slice (some ⟨g,off,none⟩) cs.length cap),some (.int .i64 (i:Int)),some (.pointer (some ⟨g,off+i * 3,none⟩)),some (.pointer (some ⟨g,off+i * 3,none⟩)),some (strV key),some (.slice (some ⟨g,off,none⟩) cs.length cap),some (.int .i64 (i:Int)),some (.pointer (some ⟨g,off+i * 3,none⟩)),some (.pointer (some ⟨g,off+i * 3+1,none⟩)),some vv,none,some (.slice (some ⟨g,off,none⟩) cs.length cap),some (.int .i64 (i:Int)),some (.pointer (some ⟨g,off+i * 3,none⟩)),some (.pointer (some ⟨g,off+i * 3+2,none⟩)),some (.bool drop),none,none,none,none] [11,17,18,19,20] (by kernel_rfl) (by kernel_rfl) (by kernel_rfl) (SeqG (GvS W ⟨key,val,drop⟩ u3 xs) [11,17,18,19,20].length) (SeqG.start ⟨HBW.out.trans ((bl_drew wr).mono HBW.out.size),HR.out.below (bl_drew wr)⟩) ?_ ?_
   ·refine EachI.cons (MixOkL.pure (by kernel_rfl) (fun _=>by kernel_rfl) (fun _ _=>by kernel_rfl)) ?_
    refine EachI.cons (MixOkL.pure (by kernel_rfl) (fun _=>by kernel_rfl) (fun _ _=>by kernel_rfl)) ?_
    refine EachI.cons (MixOkL.pure (by kernel_rfl) (fun _=>by kernel_rfl) (fun _ _=>by kernel_rfl)) ?_
    refine EachI.cons (MixOkL.pure (by kernel_rfl) (fun _=>by kernel_rfl) (fun _ wx=>xg_atJ _ _ g off cs.length cap i wx (by kernel_rfl) (by kernel_rfl) hlt)) ?_
    refine EachI.cons (MixOkL.pure (by kernel_rfl) (fun _=>by kernel_rfl) (fun _ _=>by kernel_rfl)) ?_
    refine EachI.cons (MixOkL.read (by kernel_rfl) (fun _=>by kernel_rfl) (Below W.heap.size W) GvS.inv (fun ws wx hI=>xr_str _ _ _ _ _ _ _ ⟨g,off+i * 3,none⟩ _ wx (by kernel_rfl) (HALL.out wx hI).1)) ?_
    refine EachI.cons (MixOkL.pure (by kernel_rfl) (fun _=>by kernel_rfl) (fun _ _=>by kernel_rfl)) ?_
    refine EachI.cons (MixOkL.pure (by kernel_rfl) (fun _=>by kernel_rfl) (fun _ _=>by kernel_rfl)) ?_
    refine EachI.cons (MixOkL.pure (by kernel_rfl) (fun _=>by kernel_rfl) (fun _ wx=>xg_atJ _ _ g off cs.length cap i wx (by kernel_rfl) (by kernel_rfl) hlt)) ?_
    refine EachI.cons (MixOkL.pure (by kernel_rfl) (fun _=>by kernel_rfl) (fun _ _=>by kernel_rfl)) ?_
    refine EachI.cons (MixOkL.read (by kernel_rfl) (fun _=>by kernel_rfl) (Below W.heap.size W) GvS.inv (fun ws wx hI=>xr_bytes _ _ _ _ _ _ _ ⟨g,off+i * 3+1,none⟩ _ wx (by kernel_rfl) (HALL.out wx hI).2.1)) ?_
    refine EachI.cons (MixOkL.chain (by kernel_rfl) 0 rfl (by kernel_rfl) (by decide) (fun ws wx hS=>?_)) ?_
    ·refine turn_call (by kernel_rfl) 17 #[vv] (by kernel_rfl) ((copyBytes_c vv val W.heap.size wx (HALL.out wx hS.1).2.2.2 (by omega)).mono ?_)
     rintro e w' ⟨⟨v',rfl,hown⟩,hbl⟩
     exact ⟨v',rfl,hS.call hown hbl⟩
    refine EachI.cons (MixOkL.pure (by kernel_rfl) (fun _=>by kernel_rfl) (fun _ _=>by kernel_rfl)) ?_
    refine EachI.cons (MixOkL.pure (by kernel_rfl) (fun _=>by kernel_rfl) (fun _ _=>by kernel_rfl)) ?_
    refine EachI.cons (MixOkL.pure (by kernel_rfl) (fun _=>by kernel_rfl) (fun _ wx=>xg_atJ _ _ g off cs.length cap i wx (by kernel_rfl) (by kernel_rfl) hlt)) ?_
    refine EachI.cons (MixOkL.pure (by kernel_rfl) (fun _=>by kernel_rfl) (fun _ _=>by kernel_rfl)) ?_
    refine EachI.cons (MixOkL.read (by kernel_rfl) (fun _=>by kernel_rfl) (Below W.heap.size W) GvS.inv (fun ws wx hI=>xg_bool _ ⟨g,off+i * 3+2,none⟩ _ wx (by kernel_rfl) (HALL.out wx hI).2.2.1)) ?_
    refine EachI.cons (MixOkL.chain (by kernel_rfl) 1 rfl (by kernel_rfl) (by decide) (fun ws wx hS=>?_)) ?_
    ·obtain ⟨a1,cp,ea,_⟩:=rowV_form hS.2.2
     have ea:ws 11=.slice a1 val.length cp:=ea
     exact turn_run (by kernel_rfl) _ wx (xg_build _ _ _ ⟨key.toArray⟩ a1 val.length cp drop wx (by kernel_rfl) (Eq.trans (b:=ws 11) (by kernel_rfl) ea) (by kernel_rfl)) ⟨hS.1,hS.2.1,hS.2.2,by show Value.agg _=Value.agg #[strV key,ws 11,.bool drop]; rw [ea]⟩
    refine EachI.cons (MixOkL.chain (by kernel_rfl) 2 rfl (by kernel_rfl) (by decide) (fun ws wx hS=>?_)) ?_
    ·obtain ⟨a1,cp,ea,_⟩:=rowV_form hS.2.2.1
     have ea:ws 11=.slice a1 val.length cp:=ea
     have e17:ws 17=.agg #[strV key,ws 11,.bool drop]:=hS.2.2.2
     rw [ea] at e17
     exact turn_run (by kernel_rfl) (.slice (some ⟨wx.heap.size,0,none⟩) 1 1) (wx.alloc (.cells #[.string ⟨key.toArray⟩,.slice a1 val.length cp,.bool drop] 104)) (xg_bs _ ⟨key.toArray⟩ a1 val.length cp drop wx (Eq.trans (b:=ws 17) (by kernel_rfl) e17)) (hS.make ea)
    refine EachI.cons (MixOkL.chain (by kernel_rfl) 3 rfl (by kernel_rfl) (by decide) (fun ws wx hS=>?_)) ?_
    ·obtain ⟨hb,hr,ho,q,eq,hq⟩:=hS
     have eq:ws 18=.slice (some ⟨q,0,none⟩) 1 1:=eq
     exact turn_app3 64 104 infoRC Tryz.underlying64 _ _ _ _ _ _ _ (by kernel_rfl) W.heap.size u3 xs (by kernel_rfl) hr.row q (⟨key,val,drop⟩,ws 11) (Eq.trans (b:=ws 18) (by kernel_rfl) eq) (rowV_form ho).choose_spec.choose_spec.2 hq (by omega) hb.size (fun v' w' hown hgr=>GvS.app hb hr ho hown hgr)
    refine EachI.cons (MixOkL.chain (by kernel_rfl) 4 rfl (by kernel_rfl) (by decide) (fun ws wx hS=>?_)) ?_
    ·exact turn_run (by kernel_rfl) (ws 19) wx (by kernel_rfl) hS
    exact EachI.nil
   ·intro ws L' hL' w7 hG7
    have hF:=SeqG.fin hG7
    have HF:Hid (RcRow w7 W.heap.size (ws 20) (xs ++ [(⟨key,val,drop⟩,ws 11)])∧Below W.heap.size W w7):=Lib.hid ⟨hF.2,hF.1⟩
    simp only [List.set_cons_succ,List.set_cons_zero,setAll,mix,List.getElem?_cons_succ,List.getElem?_cons_zero,Option.join_some,Option.getD_some,Option.getD_none,Nat.reduceAdd] at hL'
    subst hL'
    clear hG7 hF
    have HM:Hid ((xs ++ [((⟨key,val,drop⟩:Chg),ws 11)]).map (·.1)=cs.take (i+1)):=Lib.hid (by rw [List.map_append,HXS.out,HNX.out]; rfl)
    generalize xs ++ [((⟨key,val,drop⟩:Chg),ws 11)]=ys at *
    go_wp2
    go_roundw
    case rel=>exact ⟨i+1,ys,by omega,by go_num,HM.out,HF.out.1,HF.out.2⟩
    case measure=>simp [intOf]; omega
  ·obtain rfl:i=cs.length:=by omega
   have t1:decide ((cs.length:Int) < (cs.length:Int))=false:=by simp
   have HF:=Lib.hid (show ChgsAt wr wr.heap.size u3 cs by
    have h:=HR.out.toAt
    rw [HXS.out,List.take_length] at h; exact h)
   go_wp2
   go_ret
   exact ⟨⟨_,rfl,HF.out⟩,HBW.out⟩
end
section
open Go.RowKit SeedP Go.Maps
/-- an act -/
structure ActP where
 kind:Int
 pw:Int
 cs:List Chg
 key:List UInt8
 val:List UInt8
structure ActP.Ok (a:ActP):Prop where
 pw0: -9223372036854775808≤a.pw
 pw1:a.pw≤9223372036854775807
 n:a.cs.length≤1000
 cs:∀ c ∈ a.cs,c.key.length≤1000000∧c.val.length≤1000000
 key:a.key.length≤1000000
 val:a.val.length≤1000000
def ActIn (w:World) (B g off:Nat) (a:ActP):Prop:=∃ vl vv,w.cell? ⟨g,off,none⟩=some (.int .i64 a.kind)∧w.cell? ⟨g,off+1,none⟩=some (.int .i64 a.pw)∧w.cell? ⟨g,off+2,none⟩=some vl∧w.cell? ⟨g,off+3,none⟩=some (strV a.key)∧w.cell? ⟨g,off+4,none⟩=some vv∧ChgsAt w B vl a.cs∧RdB w B vv a.val
def ActsAt (w:World) (B:Nat) (v:Value) (L:List ActP):Prop:=
 ∃ a cap,v=.slice a L.length cap∧L.length≤cap∧cap≤maxLen∧(L=[]∨∃ g off,a=some ⟨g,off,none⟩∧g < B∧∀ j (h:j < L.length),ActIn w B g (off+j * 5) L[j])
theorem ActIn.below {w w':World} {B g off:Nat} {a:ActP} (h:ActIn w B g off a) (hg:g < B) (hb:Below B w w'):ActIn w' B g off a:=by
 obtain ⟨vl,vv,h0,h1,h2,h3,h4,h5,h6⟩:=h
 exact ⟨vl,vv,(hb.cell (p:=⟨g,off,none⟩) hg).trans h0,(hb.cell (p:=⟨g,off+1,none⟩) hg).trans h1,(hb.cell (p:=⟨g,off+2,none⟩) hg).trans h2,(hb.cell (p:=⟨g,off+3,none⟩) hg).trans h3,(hb.cell (p:=⟨g,off+4,none⟩) hg).trans h4,h5.below hb,h6.below hb⟩
theorem ActsAt.below {w w':World} {B:Nat} {v:Value} {L:List ActP} (h:ActsAt w B v L) (hb:Below B w w'):ActsAt w' B v L:=by
 obtain ⟨a,cap,e,h1,h2,h3⟩:=h
 refine ⟨a,cap,e,h1,h2,?_⟩
 rcases h3 with h3 | ⟨g,off,e2,hg,h4⟩
 ·exact Or.inl h3
 ·exact Or.inr ⟨g,off,e2,hg,fun j hj=>(h4 j hj).below hg hb⟩
theorem ActsAt.raise {w:World} {B B':Nat} {v:Value} {L:List ActP} (h:ActsAt w B v L) (hB:B≤B'):ActsAt w B' v L:=by
 obtain ⟨a,cap,e,h1,h2,h3⟩:=h
 refine ⟨a,cap,e,h1,h2,?_⟩
 rcases h3 with h3 | ⟨g,off,e2,hg,h4⟩
 ·exact Or.inl h3
 ·refine Or.inr ⟨g,off,e2,by omega,fun j hj=>?_⟩
  obtain ⟨vl,vv,k0,k1,k2,k3,k4,k5,k6⟩:=h4 j hj
  exact ⟨vl,vv,k0,k1,k2,k3,k4,k5.raise hB,k6.mono hB⟩
/-! ### a journal stays as it should be -/
def Up (s:JS):Prop:=s.down=false→Live s
theorem Up.open {d:DS} (h:d.Ok):Up (jOpen d):=fun _=>open_live h
theorem Up.commit {s:JS} (h:Up s) (cs:List Chg):Up (jCommit cs s).1:=by
 intro hd
 cases hs:s.down with
 | true=>
   have e:jCommit cs s=(s,360):=by unfold jCommit; rw [if_pos hs]
   rw [e] at hd
   have hd:s.down=false:=hd
   rw [hs] at hd; cases hd
 | false=>
   have hl:=h hs
   obtain ⟨_,h0,h1,h2⟩:=commit_live (cs:=cs) hl
   by_cases e0:(jCommit cs s).2=0
   ·exact (h0 e0).2.1
   by_cases e1:(jCommit cs s).2=360
   ·rw [(h1 e1).2.2.1] at hd; cases hd
   ·rw [h2 e0 e1]; exact hl
theorem Up.compact {s:JS} (h:Up s):Up (jCompactOp s).1:=by
 intro hd
 cases hs:s.down with
 | true=>
   have e:jCompactOp s=(s,360):=by unfold jCompactOp; rw [if_pos hs]
   rw [e] at hd
   have hd:s.down=false:=hd
   rw [hs] at hd; cases hd
 | false=>
   have hl:=h hs
   by_cases hg:s.c.gen=4611686018427387904
   ·have e:jCompactOp s=(s,4):=by unfold jCompactOp; rw [if_neg (by rw [hs]; decide),if_pos hg]
    rw [e]; exact hl
   ·have hg2:=hl.ok.gen
    rcases (compactOp_live hl (by omega)).2.1 with ⟨_,_,_,h4,_⟩ | ⟨_,_,h4,_⟩
    ·exact h4
    ·rw [h4] at hd; cases hd
theorem Up.ed {s:JS} (h:Up s) (hd:s.down=false):1≤s.c.gen→s.c.ed≤(s.d.get s.file).length:=fun hg=>((h hd).chain hg).good.ed.2
/-- Commit of the reference, whatever the journal -/
theorem rcommit_c (s:JS) (cs:List Chg) (v0 v1 ve vl:Value) (w:World) (hrd:RD w v0 v1 s.d) (hve:EntsAt w w.heap.size ve s.c.ents) (hcs:ChgsAt w w.heap.size vl cs) (hok:s.Ok) (hn:cs.length≤1000) (hbd:∀ c ∈ cs,c.key.length≤1000000∧c.val.length≤1000000) (hup:Up s) :
 Calls Tryz.prog 22 #[rjV s.d.pw v0 v1 ve s.c.gen (rFl s) s.c.ed s.c.sum s.down,vl] w fun e w'=>CmRes (jCommit cs s) e w'∧Below w.heap.size w w':=by
 cases hd:s.down with
 | true=>
   rw [show jCommit cs s=(s,360) by unfold jCommit; rw [if_pos hd]]
   exact rcommit_down s v0 v1 ve vl w hrd hve hd
 | false=>
   rw [jCommit_check hok hd]
   by_cases h1:rCheckN s.c.ents cs=0
   ·rw [if_neg (by rw [h1]; decide)]
    by_cases h2:s.c.gen=4611686018427387904∧overfullP s (codeOf cs).length=true
    ·rw [if_pos h2]
     exact rcommit_full s cs v0 v1 ve vl w hrd hve hcs hok hn hbd hd h1 h2
    ·rw [if_neg h2]
     exact rcommit_do s cs v0 v1 ve vl w hrd hve hcs hok hn hbd hd (hup.ed hd) h1 h2
   ·rw [if_pos h1]
    exact rcommit_bad s cs v0 v1 ve vl w hrd hve hcs hok hn hbd hd h1
/-! ### between two acts -/
/-- the journal's state is s, the reference's r -/
structure DoI (w0 w:World) (B:Nat) (p:Nat→Prop) (db jb mb rb:Nat) (s r:JS) (v0 v1 ve:Value):Prop where
 jz:JZ B p w db jb mb s
 rd:RD w v0 v1 r.d
 en:EntsAt w w.heap.size ve r.c.ents
 rbk:Blk w rb 52 (rjC r.d.pw v0 v1 ve r.c.gen (rFl r) r.c.ed r.c.sum r.down)
 rle:B≤rb
 np:¬ p rb
 be:Below w0.heap.size w0 w
 ble:w0.heap.size≤B
section
variable {w0 w w':World} {B:Nat} {p:Nat→Prop} {db jb mb rb:Nat} {s s' r:JS} {v0 v1 ve:Value}
theorem DoI.below (h:DoI w0 w B p db jb mb rb s r v0 v1 ve) (hb:Below w.heap.size w w'):DoI w0 w' B p db jb mb rb s r v0 v1 ve:=
 ⟨h.jz.below hb,h.rd.below hb,(h.en.below hb).mono hb.size,h.rbk.below hb,h.rle,h.np,h.be.trans (hb.mono h.be.size),h.ble⟩
theorem DoI.rb_out (h:DoI w0 w B p db jb mb rb s r v0 v1 ve):¬ Sj db jb mb rb:=by
 have:=h.jz.jw.other h.rbk (by decide) (by decide)
 rintro (e | e | e) <;> omega
theorem DoI.forms (h:DoI w0 w B p db jb mb rb s r v0 v1 ve):∃ a0 c0 a1 c1 ae ce,v0=.slice a0 r.d.f0.length c0∧v1=.slice a1 r.d.f1.length c1∧ve=.slice ae r.c.ents.length ce:=by
 obtain ⟨a0,c0,a1,c1,e0,e1⟩:=h.rd.slices
 obtain ⟨ae,ce,e2,_⟩:=h.en
 exact ⟨a0,c0,a1,c1,ae,ce,e0,e1,e2⟩
/-- an act of the journal -/
theorem DoI.act (h:DoI w0 w B p db jb mb rb s r v0 v1 ve) {p':Nat→Prop} {jb' mb':Nat} (hj:JZ B p' w' db jb' mb' s') (hp:∀ g,p' g→p g∨w.heap.size≤g) (hg:Grown (Sj db jb mb) w w'):DoI w0 w' B p' db jb' mb' rb s' r v0 v1 ve:=
 ⟨hj,h.rd.act h.jz hg,(h.en.act h.jz hg).mono hg.size,h.rbk.grown hg h.rb_out,h.rle,fun hq=>by rcases hp _ hq with hq | hq; exact h.np hq; have:=h.rbk.lt; omega,h.be.trans ((h.jz.cut hg).mono h.ble),h.ble⟩
/-- a block that neither of them has -/
theorem DoI.other {g:Nat} {t:TypeId} {cs:List Value} (h:DoI w0 w B p db jb mb rb s r v0 v1 ve) (hb:Blk w g t cs) (h1:t ≠ 81) (h2:t ≠ 28) (hg:Grown (Sj db jb mb) w w'):Blk w' g t cs:=
 hb.grown hg (fun e=>by have:=h.jz.jw.other hb h1 h2; rcases e with e | e | e <;> omega)
/-- the reference's journal is stored -/
theorem DoI.store (h:DoI w0 w B p db jb mb rb s r v0 v1 ve) {r':JS} {a0 a1 ae:Option Addr} {c0 c1 n ce:Nat} (hrd:RD w (.slice a0 r'.d.f0.length c0) (.slice a1 r'.d.f1.length c1) r'.d) (hen:EntsAt w w.heap.size (.slice ae n ce) r'.c.ents) :
 DoI w0 (set9 w rb (.int .i64 r'.d.pw) (.slice a0 r'.d.f0.length c0) (.slice a1 r'.d.f1.length c1) (.slice ae n ce) (.int .i64 r'.c.gen) (.int .i64 (rFl r')) (.int .i64 r'.c.ed) (.int .u64 r'.c.sum) (.bool r'.down)) B p db jb mb rb s r' (.slice a0 r'.d.f0.length c0) (.slice a1 r'.d.f1.length c1) (.slice ae n ce):=by
 obtain ⟨b0,d0,b1,d1,be,de,rfl,rfl,rfl⟩:=h.forms
 have hg:=set9_grown w rb (.int .i64 r'.d.pw) (.slice a0 r'.d.f0.length c0) (.slice a1 r'.d.f1.length c1) (.slice ae n ce) (.int .i64 r'.c.gen) (.int .i64 (rFl r')) (.int .i64 r'.c.ed) (.int .u64 r'.c.sum) (.bool r'.down)
 have hrl:=h.rle
 have hbl:=h.ble
 have hpo:=h.jz.pos
 refine ⟨h.jz.grown hg (fun g e=>?_),hrd.away h.rbk (rjC_nobyte _ _ _ _ _ _ _ _ _ _ _ _ _ _ _) hg,(hen.away h.rbk (rjC_nobyte _ _ _ _ _ _ _ _ _ _ _ _ _ _ _) (rjC_nostr _ _ _ _ _ _ _ _ _ _ _ _ _ _ _) hg).mono hg.size,set9_blk h.rbk _ _ _ _ _ _ _ _ _,h.rle,h.np,h.be.trans (hg.below (fun k e=>by subst e; omega) h.be.size),h.ble⟩
 subst e
 exact ⟨h.np,h.rb_out,by omega⟩
end
theorem DZ.grown {B:Nat} {p S:Nat→Prop} {w w':World} {db:Nat} {d:DS} (h:DZ B p w db d) (hg:Grown S w w') (hS:∀ g,S g→¬ p g∧g ≠ db∧g ≠ 0):DZ B p w' db d:=
 ⟨h.st.block (hg.block 0 h.st.pos (fun e=>(hS 0 e).2.2 rfl)),h.pos,h.dle,fun g hp=>⟨(h.lie g hp).1,Nat.lt_of_lt_of_le (h.lie g hp).2 hg.size⟩,h.ne,h.dw.grown hg (fun e=>(hS _ e).2.1 rfl) (fun g hp e=>(hS g e).1 hp)⟩
/-- between the disk's change and its opening -/
structure DoD (w0 w:World) (B:Nat) (p:Nat→Prop) (db rb:Nat) (d:DS) (r:JS) (v0 v1 ve:Value):Prop where
 dz:DZ B p w db d
 rd:RD w v0 v1 r.d
 en:EntsAt w w.heap.size ve r.c.ents
 rbk:Blk w rb 52 (rjC r.d.pw v0 v1 ve r.c.gen (rFl r) r.c.ed r.c.sum r.down)
 rle:B≤rb
 np:¬ p rb
 ne:rb ≠ db
 be:Below w0.heap.size w0 w
 ble:w0.heap.size≤B
section
variable {w0 w w':World} {B:Nat} {p:Nat→Prop} {db jb mb rb:Nat} {s r:JS} {d:DS} {v0 v1 ve:Value}
theorem DoI.power (h:DoI w0 w B p db jb mb rb s r v0 v1 ve) (z:Int):DoD w0 (w.setCell ⟨db,0,none⟩ (.int .i64 z)) B p db rb ⟨z,s.d.f0,s.d.f1⟩ r v0 v1 ve:=by
 obtain ⟨h1,hg⟩:=h.jz.dz.power z
 have hg2:Grown (Sj db jb mb) w (w.setCell ⟨db,0,none⟩ (.int .i64 z)):=hg.mono (fun k _ e=>Or.inr (Or.inl e))
 have:=h.rb_out
 exact ⟨h1,h.rd.act h.jz hg2,(h.en.act h.jz hg2).mono hg.size,h.rbk.grown hg2 h.rb_out,h.rle,h.np,fun e=>this (Or.inr (Or.inl e)),h.be.trans ((h.jz.cut hg2).mono h.ble),h.ble⟩
theorem DoD.rpower (h:DoD w0 w B p db rb d r v0 v1 ve) (z:Int):DoD w0 (w.setCell ⟨rb,0,none⟩ (.int .i64 z)) B p db rb d ⟨⟨z,r.d.f0,r.d.f1⟩,r.down,r.file,r.c⟩ v0 v1 ve:=by
 obtain ⟨b0,d0,b1,d1,rfl,rfl⟩:=h.rd.slices
 obtain ⟨be,de,rfl⟩:∃ ae ce,ve=.slice ae r.c.ents.length ce:=by obtain ⟨a,c,e,_⟩:=h.en; exact ⟨a,c,e⟩
 have hg:Grown (fun k=>k=rb) w (w.setCell ⟨rb,0,none⟩ (.int .i64 z)):=Grown.setCell (S:=fun k=>k=rb) (Grown.refl _ _) (a:=⟨rb,0,none⟩) rfl _
 have hrl:=h.rle
 have hbl:=h.ble
 have hpo:=h.dz.pos
 have hne:=h.ne
 have h2:=h.rd.away h.rbk (rjC_nobyte _ _ _ _ _ _ _ _ _ _ _ _ _ _ _) hg
 refine ⟨h.dz.grown hg (fun g e=>?_),⟨h2.r0,h2.r1⟩,(h.en.away h.rbk (rjC_nobyte _ _ _ _ _ _ _ _ _ _ _ _ _ _ _) (rjC_nostr _ _ _ _ _ _ _ _ _ _ _ _ _ _ _) hg).mono hg.size,h.rbk.set 0 _,h.rle,h.np,h.ne,h.be.trans (hg.below (fun k e=>by subst e; omega) h.be.size),h.ble⟩
 subst e
 exact ⟨h.np,hne,by omega⟩
theorem DoD.opened (h:DoD w0 w B p db rb d r v0 v1 ve) {p2:Nat→Prop} {jb2 mb2:Nat} (hp:∀ g,p2 g→p g∨w.heap.size≤g) (hj:JZ B p2 w' db jb2 mb2 (jOpen d)) (hb:Below w.heap.size w w'):DoI w0 w' B p2 db jb2 mb2 rb (jOpen d) r v0 v1 ve:=
 ⟨hj,h.rd.below hb,(h.en.below hb).mono hb.size,h.rbk.below hb,h.rle,fun hq=>by rcases hp _ hq with hq | hq; exact h.np hq; have:=h.rbk.lt; omega,h.be.trans (hb.mono h.be.size),h.ble⟩
end
end
end Go.Proofs.YtondomklkapogaaGreatDoor
