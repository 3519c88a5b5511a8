/- The walk of awake: the chapter's example. -/
import Derived.Test.YtondomklkapogaaGreatDoorM17
import Derived.Test.YtondomklkapogaaGreatDoorM45
import Derived.Test.YtondomklkapogaaGreatDoorM37
namespace Go.Proofs.YtondomklkapogaaGreatDoor
section
open Go.RowKit SeedP Go.Maps
theorem sA_find:pFind sA.ents [97]=some [7,8]:=by decide
theorem sX_keys:(keysOf sX.ents).filter (isPref [])=[]:=rfl
theorem lit78 (w:World) (q:Nat→Prop) (hq:q w.heap.size):RdP (w.alloc (.cells #[.int .u8 7,.int .u8 8] 5)) q (.slice (some ⟨w.heap.size,0,none⟩) 2 2) [7,8]:=by
 have h:=rdB_lit w [7,8] (by decide) 2 rfl
 rcases h with h | ⟨g,off,cap,e,h1,h2,h3,h4⟩
 ·cases h.2
 ·cases e
  exact Or.inr ⟨_,0,2,rfl,h1,h2,hq,h4⟩
set_option maxRecDepth 100000 in
set_option maxHeartbeats 4000000 in
/-- awake -/
theorem awake_c (w:World) (hs:St w):Calls Tryz.prog 8 #[] w fun e w'=>e=.returned (.bool true)∧Below w.heap.size w w':=by
 go_enter Tryz.func8,Tryz.ntmps8
 go_wp2_with fail
 refine (empty_c _ hs).mono ?_
 rintro e w1 ⟨rfl,hD1,hb1⟩
 clear hs
 go_wp2_with fail
 refine (open_l hD1 (empty_ok (-1) (by decide) (by decide))).mono ?_
 rintro e w2 ⟨jb,rfl,hJ2,hb2⟩
 go_wp2_with fail
 refine (set_l (hJ2.below ((Below.refl _ _).alloc (Nat.le_refl _) _)) [97] [7,8] _ (fun mb hm hJ=>by
  exact lit78 w2 _ (hJ.other (Blk.new w2 5 [.int .u8 7,.int .u8 8]) (by decide) (by decide))) (by decide) (by decide)).mono ?_
 rintro e w3 ⟨rfl,hJ3,hb3⟩
 have hb3:=((Below.refl _ w2).alloc (by have:=hJ2.size; omega) (.cells #[.int .u8 7,.int .u8 8] 5)).trans hb3
 have hB3:=(hb1.trans (hb2.mono hb1.size)).trans hb3
 have hcs:=awake_set
 unfold csA at hcs
 rw [hcs] at hJ3
 rw [hcs]
 clear hcs hb3 hb2 hb1 hJ2 hD1
 obtain ⟨a0,c0,a1,c1,_,k1,k2,r0,r1,_⟩:=hJ3.dl.cells
 have hl0:=awake_len
 have hd0:=awake_drop
 have hl1:sA.d.f1.length=0:=rfl
 obtain ⟨f0,hf0⟩:∃ f0,sA.d.f0=f0:=⟨_,rfl⟩
 rw [hf0] at k1 r0 hl0 hd0
 rw [hl0] at k1 r0
 rw [hl1] at k2 r1
 rcases r0 with ⟨_,e⟩ | ⟨g0,o0,c0',e0,hc1,hc2,hc3,hc4⟩
 ·rw [e] at hl0; cases hl0
 simp only [Value.slice.injEq] at e0
 obtain ⟨rfl,hq0,rfl⟩:=e0
 have hr0:RdB w3 w3.heap.size (.slice (some ⟨g0,o0+36,none⟩) 8 (c0 - 36)) [1,0,1,97,0,2,7,8]:=by
  have h:=RdB.drop (n:=36) (by omega) hc1 hc2 hc3 hc4
  rw [hd0,hl0] at h
  exact h
 have hcv:=conv_c hr0
 have hcz:¬ c0=36:=by omega
 clear r1 hc4 hd0 hr0 hq0 hl0 hl1 hc1 hc2 hc3 hb3 hf0
 go_wp2_with fail
 refine (open_l hJ3.dl hJ3.ok.d).mono ?_
 rw [awake_open]
 rintro e w4 ⟨jk,rfl,hJ4,hb4⟩
 have hB4:=hB3.trans (hJ3.cut hb4)
 clear hcv hcz k1 k2 hJ3 hB3 hb4
 go_wp2_with fail
 refine (get_l hJ4 [97] (by decide)).mono ?_
 rw [sA_find]
 rintro e w5 ⟨⟨a5,c5,rfl,hr5⟩,hb5⟩
 have hJ5:=hJ4.below hb5
 have hB5:=hB4.trans (hJ4.cut hb5)
 have hcv:(convert 25 9 (.slice a5 2 c5)).run Tryz.prog w5=.ok (.string ⟨#[7,8]⟩) w5:=conv_c hr5
 clear hb5 hJ4 hB4 hr5
 go_wp2_with fail
 have hW:Calls Tryz.prog 32 #[.pointer (some ⟨jk,0,none⟩)] w5 fun e w'=>e=.returned (.int .i64 6)∧w5=w':=weight_l hJ5
 refine hW.mono ?_
 rintro e w6 ⟨rfl,rfl⟩
 clear hcv hW
 go_wp2_with fail
 have hG:Calls Tryz.prog 33 #[.pointer (some ⟨jk,0,none⟩)] w5 fun e w'=>e=.returned (.int .i64 1)∧w5=w':=generation_l hJ5
 refine hG.mono ?_
 rintro e w6 ⟨rfl,rfl⟩
 clear hG
 go_wp2_with fail
 refine (drop_l hJ5 [98] (by decide)).mono ?_
 rw [awake_none]
 rintro e w6 ⟨rfl,hJ6,hb6⟩
 have hB6:=hB5.trans hb6
 clear hb6 hB5 hJ5
 go_wp2_with fail
 refine (compact_l hJ6).mono ?_
 obtain ⟨sB,hc1,hc2,hc3,hc4⟩:=awake_compact
 rw [hc1]
 rintro e w7 ⟨rfl,hJ7,hb7⟩
 have hB7:=hB6.trans hb7
 obtain ⟨a0,c0,a1,c1,_,k1,k2,r0,r1,_⟩:=hJ7.dl.cells
 have hG:Calls Tryz.prog 33 #[.pointer (some ⟨jk,0,none⟩)] w7 fun e w'=>e=.returned (.int .i64 2)∧w7=w':=by
  have h:=generation_l hJ7
  rw [hc2,hc4] at h
  exact h
 rw [hc3] at k2
 have HG:=Lib.hid hG
 have HB7:=Lib.hid hB7
 have HS7:=Lib.hid hJ7.st
 clear r0 r1 hG hc1 hc2 hc3 hc4 k1 hb7 hB6 hJ6 hB7 hJ7
 go_wp2_with fail
 refine HG.out.mono ?_
 rintro e w8 ⟨rfl,rfl⟩
 have hS:=HS7.out
 have hB:=HB7.out
 have HZ:=Lib.hid hB.size
 clear HG HB7 HS7 k2
 go_wp2_with fail
 have hD:=DL.new w7 hS 43
 have hbn:=(Below.refl _ w7).alloc (Nat.le_refl _) (.cells #[.int .i64 43,.slice none 0 0,.slice none 0 0] 28)
 refine (open_l hD (empty_ok 43 (by decide) (by decide))).mono ?_
 rintro e w8 ⟨jw,rfl,hJ8,hb8⟩
 have hb8:=hbn.trans (hD.cut hb8)
 clear hbn hD hS
 go_wp2_with fail
 refine (set_l (hJ8.below ((Below.refl _ _).alloc (Nat.le_refl _) _)) [97] [7,8] _ (fun mb hm hJ=>by
  exact lit78 w8 _ (hJ.other (Blk.new w8 5 [.int .u8 7,.int .u8 8]) (by decide) (by decide))) (by decide) (by decide)).mono ?_
 rintro e w9 ⟨rfl,hJ9,hb9⟩
 have hb9:=(((Below.refl _ w8).alloc (by have:=hJ8.size; omega) (.cells #[.int .u8 7,.int .u8 8] 5)).trans hb9)
 have hB9:=hB.trans ((hb8.trans hb9).mono hB.size)
 have hcs:=weak_set
 unfold csA at hcs
 rw [hcs] at hJ9
 rw [hcs]
 clear hcs hb9 hb8 hB hJ8
 go_wp2_with fail
 have hG:Calls Tryz.prog 33 #[.pointer (some ⟨jw,0,none⟩)] w9 fun e w'=>e=.returned (.int .i64 0)∧w9=w':=generation_l hJ9
 refine hG.mono ?_
 rintro e w10 ⟨rfl,rfl⟩
 obtain ⟨a0,c0,a1,c1,k0,k1,k2,r0,r1,z⟩:=hJ9.dl.cells
 rw [weak_len] at k1
 have HD:=Lib.hid hJ9.dl
 have HB:=Lib.hid hB9
 have HO:=Lib.hid hJ9.ok.d
 have z0:=z 0
 clear r0 r1 hG hJ9 hB9 k2 z
 go_wp2_with fail
 refine (open_l (HD.out.power (-1)) (empty_ok (-1) (by decide) (by decide) |> fun _=>⟨by decide,by decide,HO.out.f0,HO.out.f1⟩)).mono ?_
 have hB10:=HB.out.trans ((HD.out.power_below (.int .i64 (-1))).mono HZ.out)
 rw [show jOpen ⟨-1,sW.d.f0,sW.d.f1⟩=sX from weak_open]
 rintro e w10 ⟨jx,rfl,hJ10,hb10⟩
 have hB10:=hB10.trans (hb10.mono (by have h:=HD.out.size; have h2:=HZ.out; simp; omega))
 clear hb10 HB HD HO k0 k1 z0
 go_wp2_with fail
 have hG:Calls Tryz.prog 33 #[.pointer (some ⟨jx,0,none⟩)] w10 fun e w'=>e=.returned (.int .i64 1)∧w10=w':=generation_l hJ10
 refine hG.mono ?_
 rintro e w11 ⟨rfl,rfl⟩
 clear hG
 go_wp2_with fail
 refine (keys_l hJ10 [] (by decide)).mono ?_
 rw [sX_keys]
 rintro e w11 ⟨v,rfl,hv,hb11⟩
 obtain ⟨va,vc,rfl⟩:∃ va vc,v=.slice va 0 vc:=by
  rcases hv.2 with ⟨rfl,_⟩ | ⟨g,cap,cur,rfl,_⟩
  ·exact ⟨none,0,rfl⟩
  ·exact ⟨_,cap,rfl⟩
 have hJ11:=hJ10.below hb11
 have hB11:=hB10.trans ((hJ10.cut hb11).mono HZ.out)
 clear hv hb11 hB10 hJ10
 go_wp2_with fail
 obtain ⟨sY,hy1,hy2⟩:=weak_again
 refine (set_l hJ11 [98] [] (.slice none 0 0) (fun mb hm hJ=>Or.inl ⟨Or.inl rfl,rfl⟩) (by decide) (by decide)).mono ?_
 rw [hy1]
 rintro e w12 ⟨rfl,hJ12,hb12⟩
 have hB12:=Lib.hid (hB11.trans (hb12.mono HZ.out))
 obtain ⟨a0,c0,a1,c1,k0,k1,k2,r0,r1,z⟩:=hJ12.dl.cells
 rw [hy2] at k1
 clear r0 r1 k0 k2 z hJ12 hb12 hB11 hJ11 hy1 hy2
 go_wp2
 go_ret
 exact ⟨rfl,hB12.out⟩
end
section
open Go.RowKit SeedP Go.Maps
set_option maxRecDepth 100000 in
/-- does, of any disk -/
theorem does_c (d:DS) (v0 v1 vl:Value) (L:List ActP) (w0:World) (hs:St w0) (hr0:RdB w0 w0.heap.size v0 d.f0) (hr1:RdB w0 w0.heap.size v1 d.f1) (h0:d.f0.length≤1073741824) (h1:d.f1.length≤1073741824) (hp:d.pw≤9223372036854775807) (hL:ActsAt w0 w0.heap.size vl L) (hok:∀ a ∈ L,a.Ok) (hn:L.length≤1000000) :
 Calls Tryz.prog 7 #[.agg #[.int .i64 d.pw,v0,v1],vl] w0 fun e w'=>e=.returned (.bool true)∧Below w0.heap.size w0 w':=by
 by_cases hno:d.pw < -1∨262144 < d.f0.length∨262144 < d.f1.length
 ·exact does_bad d v0 v1 vl w0 hs hr0 hr1 h0 h1 hno
 ·exact does_ok d v0 v1 vl L w0 hs hr0 hr1 ⟨by omega,hp,by omega,by omega⟩ hL hok hn
end
section
open Go.RowKit SeedP Go.Maps
theorem list_ofG {α:Type} {R:Nat→α→Prop}:∀ n,(∀ i,i < n→∃ x,R i x)→∃ L:List α,L.length=n∧∀ i (h:i < L.length),R i L[i]
 | 0,_=>⟨[],rfl,fun i h=>by simp at h⟩
 | n+1,h=>by
   obtain ⟨L,hl,hL⟩:=list_ofG n (fun i hi=>h i (by omega))
   obtain ⟨x,hx⟩:=h n (by omega)
   refine ⟨L ++ [x],by simp [hl],fun i hi=>?_⟩
   rw [List.length_append,List.length_singleton] at hi
   by_cases hlt:i < L.length
   ·rw [List.getElem_append_left hlt]; exact hL i hlt
   ·obtain rfl:i=L.length:=by omega
    rw [List.getElem_append_right (Nat.le_refl _)]
    simp only [Nat.sub_self,List.getElem_cons_zero]
    rw [hl]; exact hx
/-- bytes in a block of bytes -/
def TB (w:World) (v:Value):Prop:=v=.slice none 0 0∨∃ g off n cap cells,v=.slice (some ⟨g,off,none⟩) n cap∧n≤cap∧cap≤maxLen∧n≤10000∧Blk w g 5 cells∧off+n≤cells.length∧∀ x ∈ cells,∃ b:UInt8,x=.int .u8 b.toNat
/-- changes in a block of changes -/
def TC (w:World) (v:Value):Prop:=v=.slice none 0 0∨∃ g n cap cells,v=.slice (some ⟨g,0,none⟩) n cap∧n≤cap∧cap≤maxLen∧n≤100∧Blk w g 60 cells∧n * 3≤cells.length ∧
 ∀ j,j < n→∃ (k:List UInt8) (vv:Value) (d:Bool),cells[j * 3]?=some (strV k)∧cells[j * 3+1]?=some vv∧cells[j * 3+2]?=some (.bool d)∧k.length≤60∧TB w vv
theorem TB.one {w:World} {v:Value} (h:TB w v):v.oneCell'=true:=by
 rcases h with rfl | ⟨g,off,n,cap,cells,rfl,_⟩ <;> rfl
theorem TC.one {w:World} {v:Value} (h:TC w v):v.oneCell'=true:=by
 rcases h with rfl | ⟨g,n,cap,cells,rfl,_⟩ <;> rfl
theorem TB.slice {w:World} {v:Value} (h:TB w v):∃ a n c,v=.slice a n c:=by
 rcases h with rfl | ⟨g,off,n,cap,cells,rfl,_⟩
 ·exact ⟨_,_,_,rfl⟩
 ·exact ⟨_,_,_,rfl⟩
theorem TC.slice {w:World} {v:Value} (h:TC w v):∃ a n c,v=.slice a n c:=by
 rcases h with rfl | ⟨g,n,cap,cells,rfl,_⟩
 ·exact ⟨_,_,_,rfl⟩
 ·exact ⟨_,_,_,rfl⟩
theorem TB.nil (w:World):TB w (.slice none 0 0):=Or.inl rfl
theorem TC.nil (w:World):TC w (.slice none 0 0):=Or.inl rfl
theorem TB.rd {w:World} {v:Value} (h:TB w v):∃ l:List UInt8,RdB w w.heap.size v l∧l.length≤10000:=by
 rcases h with rfl | ⟨g,off,n,cap,cells,rfl,h1,h2,h3,hb,h4,h5⟩
 ·exact ⟨[],RdB.nil _ _,by simp⟩
 ·obtain ⟨l,hl,hc⟩:=list_ofG (R:=fun j (b:UInt8)=>w.cell? ⟨g,off+j,none⟩=some (.int .u8 b.toNat)) n (fun j hj=>by
   obtain ⟨b,e⟩:=h5 cells[off+j] (List.getElem_mem (by omega))
   refine ⟨b,?_⟩
   rw [hb.cell (off+j) (by omega),List.getD_eq_getElem?_getD,List.getElem?_eq_getElem (by omega),Option.getD_some,e])
  subst hl
  refine ⟨l,Or.inr ⟨g,off,cap,rfl,h1,h2,hb.lt,fun j hj=>?_⟩,h3⟩
  rw [hc j hj]
  simp [List.getD_eq_getElem?_getD,hj]
theorem TC.at_ {w:World} {v:Value} (h:TC w v):∃ cs:List Chg,ChgsAt w w.heap.size v cs∧cs.length≤100∧∀ c ∈ cs,c.key.length≤60∧c.val.length≤10000:=by
 rcases h with rfl | ⟨g,n,cap,cells,rfl,h1,h2,h3,hb,h4,h5⟩
 ·exact ⟨[],⟨none,0,rfl,Nat.le_refl _,Nat.zero_le _,Or.inl rfl⟩,by simp,fun c hc=>by cases hc⟩
 ·obtain ⟨cs,hl,hc⟩:=list_ofG (R:=fun j (c:Chg)=>ChgIn w w.heap.size g (0+j * 3) c∧c.key.length≤60∧c.val.length≤10000) n (fun j hj=>by
   obtain ⟨k,vv,d,e0,e1,e2,hk,ht⟩:=h5 j hj
   obtain ⟨l,hr,hl⟩:=ht.rd
   have hget:∀ o x,cells[o]?=some x→w.cell? ⟨g,o,none⟩=some x:=fun o x e=>by
    have ho:=(List.getElem?_eq_some_iff.1 e).1
    rw [hb.cell o ho,List.getD_eq_getElem?_getD,e,Option.getD_some]
   refine ⟨⟨k,l,d⟩,⟨vv,?_,?_,?_,hr⟩,hk,hl⟩
   ·rw [Nat.zero_add]; exact hget _ _ e0
   ·rw [Nat.zero_add]; exact hget _ _ e1
   ·rw [Nat.zero_add]; exact hget _ _ e2)
  subst hl
  refine ⟨cs,⟨_,cap,rfl,h1,h2,Or.inr ⟨g,0,rfl,hb.lt,fun j hj=>(hc j hj).1⟩⟩,h3,fun c hm=>?_⟩
  obtain ⟨i,hi,rfl⟩:=List.mem_iff_getElem.1 hm
  exact (hc i hi).2
/-- what a step keeps -/
structure KeepT (w w':World):Prop where
 tb:∀ u,TB w u→TB w' u
 tc:∀ u,TC w u→TC w' u
 bk:∀ (g:Nat) (t:TypeId) cs,t ≠ 41→t ≠ 60→Blk w g t cs→Blk w' g t cs
theorem TB.grown {w w':World} {S:Nat→Prop} {v:Value} (h:TB w v) (hg:Grown S w w') (hS:∀ g,S g→∀ cs,¬ Blk w g 5 cs):TB w' v:=by
 rcases h with h | ⟨g,off,n,cap,cells,e,h1,h2,h3,hb,h4⟩
 ·exact Or.inl h
 ·exact Or.inr ⟨g,off,n,cap,cells,e,h1,h2,h3,hb.grown hg (fun hs=>hS g hs _ hb),h4⟩
theorem TC.grown {w w':World} {S:Nat→Prop} {v:Value} (h:TC w v) (hg:Grown S w w') (hS:∀ g,S g→∀ cs,¬ Blk w g 5 cs) (hS2:∀ g,S g→∀ cs,¬ Blk w g 60 cs):TC w' v:=by
 rcases h with h | ⟨g,n,cap,cells,e,h1,h2,h3,hb,h4,h5⟩
 ·exact Or.inl h
 ·refine Or.inr ⟨g,n,cap,cells,e,h1,h2,h3,hb.grown hg (fun hs=>hS2 g hs _ hb),h4,fun j hj=>?_⟩
  obtain ⟨k,vv,d,e0,e1,e2,hk,ht⟩:=h5 j hj
  exact ⟨k,vv,d,e0,e1,e2,hk,ht.grown hg hS⟩
theorem KeepT.of_below {w w':World} (hb:Below w.heap.size w w'):KeepT w w':=
 ⟨fun _ h=>h.grown (Grown.of_below hb (S:=fun _=>False)) (fun _ h=>h.elim),fun _ h=>h.grown (Grown.of_below hb (S:=fun _=>False)) (fun _ h=>h.elim) (fun _ h=>h.elim),fun _ _ _ _ _ h=>h.below hb⟩
theorem KeepT.refl (w:World):KeepT w w:=⟨fun _ h=>h,fun _ h=>h,fun _ _ _ _ _ h=>h⟩
theorem KeepT.trans {w w1 w2:World} (h:KeepT w w1) (h':KeepT w1 w2):KeepT w w2:=⟨fun u hu=>h'.tb u (h.tb u hu),fun u hu=>h'.tc u (h.tc u hu),fun g t cs h1 h2 hb=>h'.bk g t cs h1 h2 (h.bk g t cs h1 h2 hb)⟩
theorem KeepT.alloc (w:World) (o:Obj):KeepT w (w.alloc o):=KeepT.of_below ((Below.refl _ w).alloc (Nat.le_refl _) o)
theorem Blk.one {w:World} {g:Nat} {t t':TypeId} {cs cs':List Value} (h:Blk w g t cs) (h':Blk w g t' cs'):t=t':=h.type h'
/-- an act as its cells have it -/
structure AV where
 kind:Int
 pw:Int
 vl:Value
 key:List UInt8
 vv:Value
def acell (a:AV):List Value:=[.int .i64 a.kind,.int .i64 a.pw,a.vl,strV a.key,a.vv]
def arow (xs:List AV):List Value:=xs.flatMap acell
theorem arow_length (xs:List AV):(arow xs).length=xs.length * 5:=by
 induction xs with
 | nil=>rfl
 | cons x r ih=>rw [arow,List.flatMap_cons,List.length_append,← arow,ih]; simp [acell]; omega
theorem arow_app (xs ys:List AV):arow (xs ++ ys)=arow xs ++ arow ys:=by unfold arow; rw [List.flatMap_append]
theorem arow_get (xs:List AV) (j o:Nat) (h:j < xs.length) (ho:o < 5):(arow xs)[j * 5+o]?=(acell xs[j])[o]?:=by
 induction xs generalizing j with
 | nil=>simp at h
 | cons x r ih=>
   rw [arow,List.flatMap_cons,← arow]
   cases j with
   | zero=>
     rw [Nat.zero_mul,Nat.zero_add,List.getElem?_append_left (by simp [acell]; omega)]
     rfl
   | succ j=>
     rw [List.getElem?_append_right (by simp [acell]; omega)]
     have e:(j+1) * 5+o - (acell x).length=j * 5+o:=by simp [acell]; omega
     rw [e,ih j (by simpa using h)]
     rfl
structure GA (w:World) (a:AV):Prop where
 pw0: -9223372036854775808≤a.pw
 pw1:a.pw≤9223372036854775807
 vl:TC w a.vl
 key:a.key.length≤60
 vv:TB w a.vv
theorem GA.keep {w w':World} {a:AV} (h:GA w a) (hk:KeepT w w'):GA w' a:=⟨h.pw0,h.pw1,hk.tc _ h.vl,h.key,hk.tb _ h.vv⟩
/-- a list of acts under construction -/
def Lst (B:Nat) (w:World) (v:Value) (k:Nat):Prop:=∃ A:List AV,w.ownsRow B 41 5 v A.length (arow A)∧A.length≤k∧∀ a ∈ A,GA w a
theorem Lst.nil (B:Nat) (w:World) (k:Nat):Lst B w (.slice none 0 0) k:=⟨[],World.ownsRow_nil w B _ 5,Nat.zero_le _,fun a ha=>by cases ha⟩
theorem Lst.slice {B:Nat} {w:World} {v:Value} {k:Nat} (h:Lst B w v k):∃ a n c,v=.slice a n c:=by
 obtain ⟨A,h,_⟩:=h
 rcases h.2 with ⟨rfl,_⟩ | ⟨g,cap,cur,rfl,_⟩
 ·exact ⟨_,_,_,rfl⟩
 ·exact ⟨_,_,_,rfl⟩
theorem Lst.le {B:Nat} {w:World} {v:Value} {k k':Nat} (h:Lst B w v k) (hk:k≤k'):Lst B w v k':=by
 obtain ⟨A,h1,h2,h3⟩:=h
 exact ⟨A,h1,by omega,h3⟩
theorem Lst.below {B:Nat} {w w':World} {v:Value} {k:Nat} (h:Lst B w v k) (hb:Below w.heap.size w w'):Lst B w' v k:=by
 obtain ⟨A,h1,h2,h3⟩:=h
 exact ⟨A,own_grown h1 (Grown.of_below hb (S:=fun _=>False)) (fun _ _ _ h=>h),h2,fun a ha=>(h3 a ha).keep (KeepT.of_below hb)⟩
/-- the acts, as a call of does reads them -/
theorem acts_at {w:World} {g:Nat} {cap:Nat} {cells:List Value} (hb:Blk w g 41 cells) (A:List AV) (hA:∀ a ∈ A,GA w a) (hget:∀ (j:Nat) (u:Value),(arow A)[j]?=some u→cells[j]?=some u) (hc:A.length≤cap) (hm:cap≤maxLen) :
 ∃ L:List ActP,ActsAt w w.heap.size (.slice (some ⟨g,0,none⟩) A.length cap) L∧L.length=A.length∧∀ a ∈ L,a.Ok:=by
 have hcell:∀ o x,cells[o]?=some x→w.cell? ⟨g,o,none⟩=some x:=fun o x e=>by
  have ho:=(List.getElem?_eq_some_iff.1 e).1
  rw [hb.cell o ho,List.getD_eq_getElem?_getD,e,Option.getD_some]
 obtain ⟨L,hl,hL⟩:=list_ofG (R:=fun j (a:ActP)=>ActIn w w.heap.size g (0+j * 5) a∧a.Ok) A.length (fun j hj=>by
  have hg:=hA A[j] (List.getElem_mem hj)
  obtain ⟨cs,hcs,hcn,hcb⟩:=hg.vl.at_
  obtain ⟨l,hr,hl⟩:=hg.vv.rd
  have h5:∀ o u,o < 5→(acell A[j])[o]?=some u→w.cell? ⟨g,0+j * 5+o,none⟩=some u:=fun o u ho hu=>by
   rw [Nat.zero_add]
   exact hcell _ _ (hget _ _ (by rw [arow_get A j o hj ho]; exact hu))
  have hk:=hg.key
  exact ⟨⟨A[j].kind,A[j].pw,cs,A[j].key,l⟩,⟨A[j].vl,A[j].vv,h5 0 _ (by omega) rfl,h5 1 _ (by omega) rfl,h5 2 _ (by omega) rfl,h5 3 _ (by omega) rfl,h5 4 _ (by omega) rfl,hcs,hr⟩,⟨hg.pw0,hg.pw1,by show cs.length≤1000; omega,fun c hc=>by have:=hcb c hc; omega,by show A[j].key.length≤1000000; omega,by show l.length≤1000000; omega⟩⟩)
 refine ⟨L,⟨_,cap,by rw [hl],by omega,hm,Or.inr ⟨g,0,rfl,hb.lt,fun j hj=>(hL j hj).1⟩⟩,hl,fun a ha=>?_⟩
 obtain ⟨i,hi,rfl⟩:=List.mem_iff_getElem.1 ha
 exact (hL i hi).2
theorem Lst.acts {B:Nat} {w:World} {v:Value} {k:Nat} (h:Lst B w v k):∃ L:List ActP,ActsAt w w.heap.size v L∧L.length≤k∧∀ a ∈ L,a.Ok:=by
 obtain ⟨A,h1,h2,h3⟩:=h
 rcases h1.2 with ⟨rfl,h0⟩ | ⟨g,cap,cur,rfl,hB,hg,hn,hc,hs,ht⟩
 ·exact ⟨[],⟨none,0,rfl,Nat.le_refl _,Nat.zero_le _,Or.inl rfl⟩,Nat.zero_le _,fun a ha=>by cases ha⟩
 ·obtain ⟨L,h4,h5,h6⟩:=acts_at (g:=g) (cells:=cur.toList) (by unfold Blk; simpa using hg) A h3 (fun j u hu=>by
   rw [← ht,List.getElem?_take] at hu
   split at hu
   ·exact hu
   ·cases hu) hn hc
  exact ⟨L,h4,by omega,h6⟩
theorem row_grownG {w w':World} {v:Value} (h:w.grownBy w' v.ownBlock):Grown (fun g=>v.ownBlock=some g) w w':=Grown.of_row h (fun _ e=>e)
theorem infoA:(Tryz.prog.info? 41).map (fun i=>(i.zero,i.size,i.bytes))=some (some (.agg #[.int .i64 0,.int .i64 0,.slice none 0 0,.string ⟨#[]⟩,.slice none 0 0]),5,80):=by kernel_rfl
theorem keep_own {w w':World} {B n m:Nat} {v:Value} {xs:List Value} (h:w.ownsRow B 41 m v n xs) (hg:w.grownBy w' v.ownBlock):KeepT w w':=by
 have hG:Grown (fun k=>v.ownBlock=some k) w w':=row_grownG hg
 have hT:∀ k,v.ownBlock=some k→∀ (t:TypeId) cs,Blk w k t cs→t=41:=fun k e t cs hb=>by
  rcases h.2 with ⟨rfl,_⟩ | ⟨g,cap,cur,rfl,_,hh,_⟩
  ·simp [Value.ownBlock] at e
  ·simp only [Value.ownBlock,Option.some.injEq] at e
   subst e
   have hb2:Blk w g 41 cur.toList:=by unfold Blk; simpa using hh
   exact hb.type hb2
 exact ⟨fun u hu=>hu.grown hG (fun k e cs hb=>absurd (hT k e _ cs hb) (by decide)),fun u hu=>hu.grown hG (fun k e cs hb=>absurd (hT k e _ cs hb) (by decide)) (fun k e cs hb=>absurd (hT k e _ cs hb) (by decide)),fun g t cs h1 _ hb=>hb.grown hG (fun e=>h1 (hT g e t cs hb))⟩
/-- an append of acts -/
theorem acts_run {w:World} {B k:Nat} {v:Value} (h:Lst B w v k) (ty:TypeId) (q m:Nat) (new:List AV) (hm:m=new.length) (hb:Blk w q 41 (arow new)) (hn:∀ a ∈ new,GA w a) (hk:k+m≤100000) (hB:B≤w.heap.size) :
 ∃ v' w',(Builtin.append_ #[22,22] ty #[v,.slice (some ⟨q,0,none⟩) m m]).run Tryz.prog w=.ok v' w'∧Lst B w' v' (k+m)∧Below B w w'∧KeepT w w':=by
 subst hm
 obtain ⟨A,h1,h2,h3⟩:=h
 obtain ⟨i,hi,hz⟩:=Option.map_eq_some_iff.1 infoA
 simp only [Prod.mk.injEq] at hz
 obtain ⟨hz,hs1,hby⟩:=hz
 have hcells:∀ j u,(arow new)[j]?=some u→w.cell? ((⟨q,0,none⟩:Addr).add j)=some u:=fun j u hu=>by
  have e0:(⟨q,0,none⟩:Addr).add j=⟨q,j,none⟩:=by unfold Addr.add; split <;> simp_all
  have hj:=(List.getElem?_eq_some_iff.1 hu).1
  rw [e0,hb.cell j hj,List.getD_eq_getElem?_getD,hu]; rfl
 have hone:∀ u ∈ arow new,u.oneCell'=true:=fun u hu=>by
  obtain ⟨a,ha,hu⟩:=List.mem_flatMap.1 hu
  have hg:=hn a ha
  simp only [acell,List.mem_cons,List.not_mem_nil,or_false] at hu
  rcases hu with rfl | rfl | rfl | rfl | rfl
  ·rfl
  ·rfl
  ·exact hg.vl.one
  ·rfl
  ·exact hg.vv.one
 obtain ⟨v',w',hr,h5,h6,_,_⟩:=run_append_own_at (P:=Tryz.prog) w B 22 ty 41 i _ 5 80 Tryz.underlying22 hi hz hs1 hby rfl (by decide) v A.length (arow A) h1 ⟨q,0,none⟩ new.length new.length (arow new) (arow_length _) hcells hone (by unfold maxLen; omega) (by omega) hB
 have hkp:=keep_own h1 h6
 refine ⟨v',w',hr,⟨A ++ new,by rw [List.length_append,arow_app]; exact h5,by rw [List.length_append]; omega,fun a ha=>?_⟩,(Below.refl _ _).grown h6 hB (fun k e=>(h1.lt k e).1),hkp⟩
 rcases List.mem_append.1 ha with ha | ha
 ·exact (h3 a ha).keep hkp
 ·exact (hn a ha).keep hkp
theorem wpList_acts {w:World} {ops:Array Oper} {rest:List Oper} {o:Oper} {a:Act} {Q:Exit→Act→World→Prop} (hgd:o.guard=none) (s x:Operand) (ho:o.op=.call { callee:=.builtin .append,args:=#[s,x],argTypes:=#[22,22] })
 {B k:Nat} {v:Value} (hs:a.eval s=v) (h:Lst B w v k) (q m:Nat) (new:List AV) (hx:a.eval x=.slice (some ⟨q,0,none⟩) m m) (hm:m=new.length) (hb:Blk w q 41 (arow new)) (hn:∀ a ∈ new,GA w a) (hk:k+m≤100000) (hB:B≤w.heap.size)
 (hK:∀ v' w',Lst B w' v' (k+m)→Below B w w'→KeepT w w'→wpList Tryz.prog ops Q rest (a.put o.dst v') w'):wpList Tryz.prog ops Q (o :: rest) a w:=by
 obtain ⟨v',w',hr,h1,h2,h3⟩:=acts_run h o.type q m new hm hb hn hk hB
 refine wpList_plain hgd fun _ hK2=>?_
 unfold Oper.wp execOp
 simp only [ho,resolve,invoke,builtin,Sem.run_bind,Sem.run_pure,Result.andThen_ok,List.map_toArray,List.map_cons,List.map_nil,hs,hx,hr]
 exact hK2 _ _ (hK v' w' h1 h2 h3)
/-! ### changes under construction -/
structure CRow (C:Nat) (w:World) (v:Value) (xs:List (Chg × Value)):Prop where
 row:w.ownsRow C 60 3 v xs.length (crow xs)
 good:∀ y ∈ xs,y.1.key.length≤60∧TB w y.2
theorem CRow.nil (C:Nat) (w:World):CRow C w (.slice none 0 0) []:=⟨World.ownsRow_nil w C _ 3,fun y hy=>by cases hy⟩
theorem CRow.below {C:Nat} {w w':World} {v:Value} {xs:List (Chg × Value)} (h:CRow C w v xs) (hb:Below w.heap.size w w'):CRow C w' v xs:=
 ⟨own_grown h.row (Grown.of_below hb (S:=fun _=>False)) (fun _ _ _ h=>h),fun y hy=>⟨(h.good y hy).1,(KeepT.of_below hb).tb _ (h.good y hy).2⟩⟩
theorem CRow.slice {C:Nat} {w:World} {v:Value} {xs:List (Chg × Value)} (h:CRow C w v xs):∃ a c,v=.slice a xs.length c:=own_slice h.row
theorem tc_block {w:World} {g n cap:Nat} {cells:List Value} (hb:Blk w g 60 cells) (xs:List (Chg × Value)) (hn:n=xs.length) (hget:∀ (j:Nat) (u:Value),(crow xs)[j]?=some u→cells[j]?=some u) (hgood:∀ y ∈ xs,y.1.key.length≤60∧TB w y.2) (hc:n≤cap) (hm:cap≤maxLen) (hx:n≤100) (hlen:n * 3≤cells.length):TC w (.slice (some ⟨g,0,none⟩) n cap):=by
 subst hn
 refine Or.inr ⟨g,xs.length,cap,cells,rfl,hc,hm,hx,hb,hlen,fun j hj=>?_⟩
 have h3:∀ o u,o < 3→(chgCells xs[j])[o]?=some u→cells[j * 3+o]?=some u:=fun o u ho hu=>hget _ _ (by rw [crow_get xs j o hj ho]; exact hu)
 have hg:=hgood xs[j] (List.getElem_mem hj)
 exact ⟨xs[j].1.key,xs[j].2,xs[j].1.drop,h3 0 _ (by omega) rfl,h3 1 _ (by omega) rfl,h3 2 _ (by omega) rfl,hg.1,hg.2⟩
theorem CRow.tc {C:Nat} {w:World} {v:Value} {xs:List (Chg × Value)} (h:CRow C w v xs) (hx:xs.length≤100):TC w v:=by
 rcases h.row.2 with ⟨rfl,_⟩ | ⟨g,cap,cur,rfl,hB,hg,hn,hc,hs,ht⟩
 ·exact TC.nil w
 ·refine tc_block (cells:=cur.toList) (by unfold Blk; simpa using hg) xs rfl (fun j u hu=>?_) h.good hn hc hx (by have e:=Array.length_toList (xs:=cur); omega)
  rw [← ht,List.getElem?_take] at hu
  split at hu
  ·exact hu
  ·cases hu
/-- an append in place, or into fresh memory -/
def ChM (w w1:World) (c v1:Value) (n:Nat):Prop:=(∃ g cap,c=.slice (some ⟨g,0,none⟩) n cap∧n+1≤cap∧v1=.slice (some ⟨g,0,none⟩) (n+1) cap)∨((∀ g cap,c=.slice (some ⟨g,0,none⟩) n cap→cap < n+1)∧Below w.heap.size w w1)
theorem two_tc {w w1 wx w2:World} {c v1 v2:Value} {n:Nat} (h1:ChM w w1 c v1 n) (ht:TC wx v1) (h2:ChM wx w2 c v2 n) (ht2:TC w2 v2):TC w2 v1:=by
 rcases h1 with ⟨g,cap,e,hc,e1⟩ | ⟨hno,_⟩
 ·rcases h2 with ⟨g2,cap2,e',hc2,e2⟩ | ⟨hno,_⟩
  ·rw [e] at e'
   simp only [Value.slice.injEq,Option.some.injEq,Addr.mk.injEq,and_true,true_and] at e'
   obtain ⟨rfl,rfl⟩:=e'
   rw [e1,← e2]; exact ht2
  ·have:=hno g cap e; omega
 ·rcases h2 with ⟨g2,cap2,e',hc2,e2⟩ | ⟨_,hb⟩
  ·have:=hno g2 cap2 e'; omega
  ·exact (KeepT.of_below hb).tc _ ht
theorem chg_run {w:World} {C:Nat} {v:Value} {xs:List (Chg × Value)} (h:CRow C w v xs) (ty:TypeId) (q:Nat) (y:Chg × Value) (hb:Blk w q 60 (chgCells y)) (hy:y.1.key.length≤60∧TB w y.2) (hk:xs.length≤100000) (hC:C≤w.heap.size) :
 ∃ v' w',(Builtin.append_ #[39,39] ty #[v,.slice (some ⟨q,0,none⟩) 1 1]).run Tryz.prog w=.ok v' w'∧CRow C w' v' (xs ++ [y])∧CRow C w' v xs∧Below C w w'∧((∀ u,TB w u→TB w' u)∧∀ (g:Nat) (t:TypeId) cs,t ≠ 60→Blk w g t cs→Blk w' g t cs)∧ChM w w' v v' xs.length:=by
 obtain ⟨i,hi,hz⟩:=Option.map_eq_some_iff.1 infoJC
 simp only [Prod.mk.injEq] at hz
 obtain ⟨hz,hs1,hby⟩:=hz
 have hcells:∀ j u,(chgCells y)[j]?=some u→w.cell? ((⟨q,0,none⟩:Addr).add j)=some u:=fun j u hu=>by
  have e0:(⟨q,0,none⟩:Addr).add j=⟨q,j,none⟩:=by unfold Addr.add; split <;> simp_all
  have hj:=(List.getElem?_eq_some_iff.1 hu).1
  rw [e0,hb.cell j hj,List.getD_eq_getElem?_getD,hu]; rfl
 have hone:∀ u ∈ chgCells y,u.oneCell'=true:=fun u hu=>by
  simp only [chgCells,List.mem_cons,List.not_mem_nil,or_false] at hu
  rcases hu with rfl | rfl | rfl
  ·rfl
  ·exact hy.2.one
  ·rfl
 have hl:(chgCells y).length=1 * i.size:=by rw [hs1]; rfl
 obtain ⟨v',w',hr,h5,h6,_,_⟩:=run_append_own_at (P:=Tryz.prog) w C 39 ty 60 i _ 3 48 Tryz.underlying39 hi hz hs1 hby rfl (by decide) v xs.length (crow xs) h.row ⟨q,0,none⟩ 1 1 (chgCells y) rfl hcells hone (by unfold maxLen; omega) (by omega) hC
 have hG:Grown (fun k=>v.ownBlock=some k) w w':=row_grownG h6
 have hT:∀ k,v.ownBlock=some k→∀ (t:TypeId) cs,Blk w k t cs→t=60:=fun k e t cs hb=>by
  rcases h.row.2 with ⟨rfl,_⟩ | ⟨g,cap,cur,rfl,_,hh,_⟩
  ·simp [Value.ownBlock] at e
  ·simp only [Value.ownBlock,Option.some.injEq] at e
   subst e
   have hb2:Blk w g 60 cur.toList:=by unfold Blk; simpa using hh
   exact hb.type hb2
 have hTB:∀ u,TB w u→TB w' u:=fun u hu=>hu.grown hG (fun k e cs hb=>absurd (hT k e _ cs hb) (by decide))
 have hBK:∀ (g:Nat) (t:TypeId) cs,t ≠ 60→Blk w g t cs→Blk w' g t cs:=fun g t cs h1 hb=>hb.grown hG (fun e=>h1 (hT g e t cs hb))
 have hgood:∀ z ∈ xs,z.1.key.length≤60∧TB w' z.2:=fun z hz=>⟨(h.good z hz).1,hTB _ (h.good z hz).2⟩
 have h7:CRow C w' v' (xs ++ [y]):=⟨by rw [crow_snoc,List.length_append]; exact h5,fun z hz=>by
  rcases List.mem_append.1 hz with hz | hz
  ·exact hgood z hz
  ·obtain rfl:=List.mem_singleton.1 hz
   exact ⟨hy.1,hTB _ hy.2⟩⟩
 have hbl:=(Below.refl C w).grown h6 hC (fun k e=>(h.row.lt k e).1)
 rcases h.row.2 with ⟨rfl,h0⟩ | ⟨g,cap,cur,rfl,hbg,hg,hnc,hcm,hcs,htake⟩
 ·have hr2:=run_append_nil (P:=Tryz.prog) w 39 ty 60 i _ Tryz.underlying39 hi hz ⟨q,0,none⟩ 1 1 (chgCells y) hl hcells (by omega) (by omega) (by omega)
  rw [hr2] at hr
  simp only [Result.ok.injEq] at hr
  obtain ⟨rfl,rfl⟩:=hr
  have hb2:=(Below.refl w.heap.size w).alloc (Nat.le_refl _) (.cells ((chgCells y).toArray ++ Builtin.zeroCells (Value.agg #[.string ⟨#[]⟩,.slice none 0 0,.bool false]).cells (grownCap w 1 0 60 - 1)) 60)
  have hb3:Below w.heap.size w (w.drew.alloc (.cells ((chgCells y).toArray ++ Builtin.zeroCells (Value.agg #[.string ⟨#[]⟩,.slice none 0 0,.bool false]).cells (grownCap w 1 0 60 - 1)) 60)):=(bl_drew w).trans (((Below.refl w.drew.heap.size w.drew).alloc (Nat.le_refl _) _).mono (Nat.le_refl _))
  exact ⟨_,_,hr2,h7,h.below hb3,hbl,⟨hTB,hBK⟩,Or.inr ⟨fun g cap e=>(by cases e),hb3⟩⟩
 ·by_cases hroom:xs.length+1≤cap
  ·have hfit:xs.length * i.size+(chgCells y).length≤cur.size:=by rw [hl,hcs,hs1,← Nat.add_mul]; exact Nat.mul_le_mul_right _ hroom
   have hr2:=run_append_room (P:=Tryz.prog) w 39 ty 60 i Tryz.underlying39 hi g xs.length cap cur hg ⟨q,0,none⟩ 1 1 (chgCells y) hl hcells hone hroom hfit
   rw [hr2] at hr
   simp only [Result.ok.injEq] at hr
   obtain ⟨rfl,rfl⟩:=hr
   refine ⟨_,_,hr2,h7,⟨?_,hgood⟩,hbl,⟨hTB,hBK⟩,Or.inl ⟨g,cap,rfl,hroom,rfl⟩⟩
   refine ⟨h.row.1,Or.inr ?_⟩
   rcases h5.2 with ⟨e,_⟩ | ⟨g',cap',cur',e,hbg',hg',hnc',hcm',hcs',ht'⟩
   ·cases e
   ·simp only [Value.slice.injEq,Option.some.injEq,Addr.mk.injEq,and_true,true_and] at e
    obtain ⟨rfl,rfl⟩:=e
    refine ⟨g,cap,cur',rfl,hbg',hg',hnc,hcm,hcs',?_⟩
    have h8:=congrArg (List.take (xs.length * 3)) ht'
    rw [List.take_take,Nat.min_eq_left (by omega),← crow_length xs,List.take_left' (by rw [crow_length])] at h8
    rw [crow_length] at h8
    exact h8
  ·have holds:∀ j u,(crow xs)[j]?=some u→w.cell? ((⟨g,0,none⟩:Addr).add j)=some u:=h.row.cells (g:=g) rfl
   have hr2:=run_append_grow (P:=Tryz.prog) w 39 ty 60 i _ Tryz.underlying39 hi hz ⟨g,0,none⟩ xs.length cap (crow xs) (by rw [hs1]; exact h.row.1) holds ⟨q,0,none⟩ 1 1 (chgCells y) hl hcells (by omega) (by omega) (growslice_fits (by omega) (by rw [hby]; omega))
   rw [hr2] at hr
   simp only [Result.ok.injEq] at hr
   obtain ⟨rfl,rfl⟩:=hr
   have hb3:Below w.heap.size w (w.drew.alloc (.cells ((crow xs).toArray ++ (chgCells y).toArray ++ Builtin.zeroCells (Value.agg #[.string ⟨#[]⟩,.slice none 0 0,.bool false]).cells (grownCap w (xs.length+1) cap 60 - (xs.length+1))) 60)):=(bl_drew w).trans (((Below.refl w.drew.heap.size w.drew).alloc (Nat.le_refl _) _).mono (Nat.le_refl _))
   exact ⟨_,_,hr2,h7,h.below hb3,hbl,⟨hTB,hBK⟩,Or.inr ⟨fun g' cap' e=>by
    simp only [Value.slice.injEq,Option.some.injEq,Addr.mk.injEq,and_true,true_and] at e
    omega,hb3⟩⟩
theorem wpList_chgM {w:World} {ops:Array Oper} {rest:List Oper} {o:Oper} {a:Act} {Q:Exit→Act→World→Prop} (hgd:o.guard=none) (s x:Operand) (ho:o.op=.call { callee:=.builtin .append,args:=#[s,x],argTypes:=#[39,39] })
 {C:Nat} {v:Value} {xs:List (Chg × Value)} (hs:a.eval s=v) (h:CRow C w v xs) (q:Nat) (y:Chg × Value) (hx:a.eval x=.slice (some ⟨q,0,none⟩) 1 1) (hb:Blk w q 60 (chgCells y)) (hy:y.1.key.length≤60∧TB w y.2) (hk:xs.length≤100000) (hC:C≤w.heap.size)
 (hK:∀ v' w',CRow C w' v' (xs ++ [y])→CRow C w' v xs→Below C w w'→((∀ u,TB w u→TB w' u)∧∀ (g:Nat) (t:TypeId) cs,t ≠ 60→Blk w g t cs→Blk w' g t cs)→ChM w w' v v' xs.length→wpList Tryz.prog ops Q rest (a.put o.dst v') w'):wpList Tryz.prog ops Q (o :: rest) a w:=by
 obtain ⟨v',w',hr,h1,h2,h3,h4,h5⟩:=chg_run h o.type q y hb hy hk hC
 refine wpList_plain hgd fun _ hK2=>?_
 unfold Oper.wp execOp
 simp only [ho,resolve,invoke,builtin,Sem.run_bind,Sem.run_pure,Result.andThen_ok,List.map_toArray,List.map_cons,List.map_nil,hs,hx,hr]
 exact hK2 _ _ (hK v' w' h1 h2 h3 h4 h5)
end
end Go.Proofs.YtondomklkapogaaGreatDoor
