/- The law's does: a commit, its changes lent. -/
import Derived.Test.YtondomklkapogaaGreatDoorM41
namespace Go.Proofs.YtondomklkapogaaGreatDoor
open Go.RowKit SeedP Go.Maps
/-- what the reference has lies below C -/
structure DoC (w:World) (C:Nat) (r:JS) (v0 v1 ve:Value):Prop where
 r0:RdB w C v0 r.d.f0
 r1:RdB w C v1 r.d.f1
 en:EntsAt w C ve r.c.ents
 le:C≤w.heap.size
section
variable {w0 w w':World} {B C:Nat} {p:Nat→Prop} {db jb mb rb:Nat} {s r:JS} {v0 v1 ve:Value}
theorem DoI.doC (h:DoI w0 w B p db jb mb rb s r v0 v1 ve):DoC w w.heap.size r v0 v1 ve:=⟨h.rd.r0,h.rd.r1,h.en,Nat.le_refl _⟩
theorem DoC.below (h:DoC w C r v0 v1 ve) (hb:Below C w w'):DoC w' C r v0 v1 ve:=⟨h.r0.below hb,h.r1.below hb,h.en.below hb,Nat.le_trans h.le hb.size⟩
theorem DoC.act (h:DoC w C r v0 v1 ve) (hj:JZ B p w db jb mb s) (hg:Grown (Sj db jb mb) w w'):DoC w' C r v0 v1 ve:=⟨h.r0.act hj hg,h.r1.act hj hg,h.en.act hj hg,Nat.le_trans h.le hg.size⟩
/-- bytes of the law's own are written over -/
theorem DoI.over (h:DoI w0 w B p db jb mb rb s r v0 v1 ve) (hC:DoC w C r v0 v1 ve) {g:Nat} {cs:List Value} (hb:Blk w g 5 cs) (hg:Grown (fun k=>k=g) w w') (hCg:C≤g) (hB:B≤C) (hp:¬ p g):DoI w0 w' B p db jb mb rb s r v0 v1 ve:=by
 have hpo:=h.jz.pos
 have hbl:=h.ble
 have hCb:DoC w' C r v0 v1 ve:=hC.below (hg.below (fun k e=>by omega) hC.le)
 refine ⟨h.jz.grown hg (fun k e=>?_),⟨hCb.r0.mono hCb.le,hCb.r1.mono hCb.le⟩,hCb.en.mono hCb.le,h.rbk.grown hg (fun e=>?_),h.rle,h.np,h.be.trans (hg.below (fun k e=>by omega) h.be.size),h.ble⟩
 ·subst e
  have h2:=h.jz.jw.other hb (by decide) (by decide)
  exact ⟨hp,fun e=>by rcases e with e | e | e <;> omega,by omega⟩
 ·subst e
  exact absurd (hb.type h.rbk) (by decide)
end
/-! ### changes whose values are lent -/
def lentV (p:Chg × Nat):Chg × Value:=(p.1,.slice (some ⟨p.2,0,none⟩) p.1.val.length (p.1.val.length+12))
structure InRow (w:World) (B:Nat) (v:Value) (xs:List (Chg × Nat)):Prop where
 row:w.ownsRow B 60 3 v xs.length (crow (xs.map lentV))
 lent:∀ p ∈ xs,B≤p.2∧LentB w p.2 p.1.val
 ord:xs.Pairwise (fun a b=>a.2 < b.2)
theorem InRow.nil (w:World) (B:Nat):InRow w B (.slice none 0 0) []:=⟨World.ownsRow_nil w B _ 3,(fun p hp=>by cases hp),List.Pairwise.nil⟩
theorem InRow.grown {w w':World} {S:Nat→Prop} {B:Nat} {v:Value} {xs:List (Chg × Nat)} (h:InRow w B v xs) (hg:Grown S w w') (hn:∀ g,B≤g→g < w.heap.size→¬ S g):InRow w' B v xs:=
 ⟨own_grown h.row hg hn,fun p hp=>⟨(h.lent p hp).1,Blk.grown (h.lent p hp).2 hg (hn _ (h.lent p hp).1 (Blk.lt (h.lent p hp).2))⟩,h.ord⟩
theorem InRow.below {w w':World} {B:Nat} {v:Value} {xs:List (Chg × Nat)} (h:InRow w B v xs) (hb:Below w.heap.size w w'):InRow w' B v xs:=h.grown (Grown.of_below hb (S:=fun _=>False)) (fun _ _ _ h=>h)
/-- the changes, as a commit reads them -/
theorem InRow.toP {w:World} {B:Nat} {v:Value} {xs:List (Chg × Nat)} (h:InRow w B v xs) (hb:∀ p ∈ xs,p.1.val.length≤1000000):ChgsP w (fun g=>∃ (t:TypeId) (cs:List Value),Blk w g t cs∧t ≠ 81∧t ≠ 28) v (xs.map (·.1)):=by
 have hr:=h.row
 obtain ⟨hl,h2⟩:=h.row
 rcases h2 with ⟨rfl,h0⟩ | ⟨g,cap,cur,rfl,hB,hg,hn,hc,_⟩
 ·obtain rfl:=List.eq_nil_of_length_eq_zero h0
  exact ⟨none,0,by simp,Nat.le_refl _,Nat.zero_le _,Or.inl rfl⟩
 ·refine ⟨_,cap,by rw [List.length_map],by rw [List.length_map]; exact hn,hc,Or.inr ⟨g,0,rfl,⟨_,cur.toList,by unfold Blk; simpa using hg,by decide,by decide⟩,fun j hj=>?_⟩⟩
  have hj':j < xs.length:=by simpa using hj
  have hjm:j < (xs.map lentV).length:=by simpa using hj'
  have hc3:∀ o u,o < 3→(chgCells (xs.map lentV)[j])[o]?=some u→w.cell? ⟨g,0+j * 3+o,none⟩=some u:=fun o u ho hu=>by
   have:=hr.cells (g:=g) rfl (j * 3+o) u (by rw [crow_get (xs.map lentV) j o hjm ho]; exact hu)
   have e:(⟨g,0,none⟩:Addr).add (j * 3+o)=⟨g,0+j * 3+o,none⟩:=by unfold Addr.add; split <;> simp_all
   rw [← e]; exact this
  have he:(xs.map lentV)[j]=lentV xs[j]:=List.getElem_map _
  rw [he] at hc3
  have hlt:=h.lent xs[j] (List.getElem_mem hj')
  have hbl:=hb xs[j] (List.getElem_mem hj')
  refine ⟨(lentV xs[j]).2,?_,?_,?_,?_⟩
  ·rw [List.getElem_map]; exact hc3 0 _ (by omega) rfl
  ·exact hc3 1 _ (by omega) rfl
  ·rw [List.getElem_map]; exact hc3 2 _ (by omega) rfl
  ·rw [List.getElem_map]
   refine Or.inr ⟨xs[j].2,0,xs[j].1.val.length+12,rfl,by omega,by unfold maxLen; omega,⟨_,_,hlt.2,by decide,by decide⟩,fun q hq=>?_⟩
   rw [Nat.zero_add,LentB.cell hlt.2 q (by omega)]
   simp [List.getD_eq_getElem?_getD,List.getElem?_append,hq]
theorem InRow.cells {w:World} {B:Nat} {v:Value} {xs:List (Chg × Nat)} (h:InRow w B v xs):∃ a cap,v=.slice a xs.length cap∧(xs=[]∨∃ g,a=some ⟨g,0,none⟩∧B≤g∧g < w.heap.size∧∀ j (hj:j < xs.length),w.cell? ⟨g,j * 3,none⟩=some (strV xs[j].1.key)∧w.cell? ⟨g,j * 3+1,none⟩=some (lentV xs[j]).2∧w.cell? ⟨g,j * 3+2,none⟩=some (.bool xs[j].1.drop)):=by
 have hr:=h.row
 obtain ⟨hl,h2⟩:=h.row
 rcases h2 with ⟨rfl,h0⟩ | ⟨g,cap,cur,rfl,hB,hg,hn,hc,_⟩
 ·obtain rfl:=List.eq_nil_of_length_eq_zero h0
  exact ⟨none,0,rfl,Or.inl rfl⟩
 ·refine ⟨_,cap,rfl,Or.inr ⟨g,rfl,hB,(Array.getElem?_eq_some_iff.1 hg).1,fun j hj'=>?_⟩⟩
  have hjm:j < (xs.map lentV).length:=by simpa using hj'
  have he:(xs.map lentV)[j]=lentV xs[j]:=List.getElem_map _
  have hc3:∀ o u,o < 3→(chgCells (lentV xs[j]))[o]?=some u→w.cell? ⟨g,j * 3+o,none⟩=some u:=fun o u ho hu=>by
   have:=hr.cells (g:=g) rfl (j * 3+o) u (by rw [crow_get (xs.map lentV) j o hjm ho,he]; exact hu)
   have e:(⟨g,0,none⟩:Addr).add (j * 3+o)=⟨g,j * 3+o,none⟩:=by unfold Addr.add; split <;> simp_all
   rw [← e]; exact this
  exact ⟨hc3 0 _ (by omega) rfl,hc3 1 _ (by omega) rfl,hc3 2 _ (by omega) rfl⟩
/-- while one change is lent -/
def LnS (W:World) (B:Nat) (c:Chg) (v3:Value) (xs:List (Chg × Nat)):Nat→List Value→World→Prop
 | 0,_,w=>Below W.heap.size W w∧InRow w B v3 xs
 | 1,vs,w=>Below W.heap.size W w∧InRow w B v3 xs∧∃ g,vs.getD 0 undef=(lentV (c,g)).2∧W.heap.size≤g∧LentB w g c.val
 | 2,vs,w=>Below W.heap.size W w∧InRow w B v3 xs∧(∃ g,vs.getD 0 undef=(lentV (c,g)).2∧W.heap.size≤g∧LentB w g c.val)∧vs.getD 1 undef=.agg #[strV c.key,vs.getD 0 undef,.bool c.drop]
 | 3,vs,w=>Below W.heap.size W w∧InRow w B v3 xs∧∃ g q,vs.getD 0 undef=(lentV (c,g)).2∧W.heap.size≤g∧LentB w g c.val∧vs.getD 2 undef=.slice (some ⟨q,0,none⟩) 1 1∧Blk w q 60 (chgCells (lentV (c,g)))
 | 4,vs,w=>Below B W w∧∃ g,W.heap.size≤g∧InRow w B (vs.getD 3 undef) (xs ++ [(c,g)])
 | 5,vs,w=>Below B W w∧∃ g,W.heap.size≤g∧InRow w B (vs.getD 4 undef) (xs ++ [(c,g)])
 | _,_,_=>False
theorem LnS.inv {W:World} {B:Nat} (hB:B≤W.heap.size) {c:Chg} {v3:Value} {xs:List (Chg × Nat)} (k:Nat) (vs:List Value) (w:World) (h:LnS W B c v3 xs k vs w):Below B W w:=by
 match k,h with
 | 0,h=>exact h.1.mono hB
 | 1,h=>exact h.1.mono hB
 | 2,h=>exact h.1.mono hB
 | 3,h=>exact h.1.mono hB
 | 4,h=>exact h.1
 | 5,h=>exact h.1
theorem LnS.call {W:World} {B:Nat} {c:Chg} {v3:Value} {xs:List (Chg × Nat)} {vs:List Value} {w:World} (h:LnS W B c v3 xs 0 vs w) {g:Nat} {w':World} (hg:w.heap.size≤g) (hl:LentB w' g c.val) (hbl:Below w.heap.size w w') {r:List Value}:LnS W B c v3 xs 1 ((lentV (c,g)).2 :: r) w':=
 ⟨h.1.trans (hbl.mono h.1.size),h.2.below hbl,g,rfl,Nat.le_trans h.1.size hg,hl⟩
theorem LnS.make {W:World} {B:Nat} {c:Chg} {v3:Value} {xs:List (Chg × Nat)} {w:World} {v0 x1:Value} {g:Nat} (hb:Below W.heap.size W w) (hr:InRow w B v3 xs) (e:v0=(lentV (c,g)).2) (hg:W.heap.size≤g) (hl:LentB w g c.val) {r:List Value}:LnS W B c v3 xs 3 (v0 :: x1 :: .slice (some ⟨w.heap.size,0,none⟩) 1 1 :: r) (w.alloc (.cells #[.string ⟨c.key.toArray⟩,.slice (some ⟨g,0,none⟩) c.val.length (c.val.length+12),.bool c.drop] 60)):=by
 have hal:=(Below.refl w.heap.size w).alloc (Nat.le_refl _) (.cells #[.string ⟨c.key.toArray⟩,.slice (some ⟨g,0,none⟩) c.val.length (c.val.length+12),.bool c.drop] 60)
 exact ⟨hb.trans (hal.mono hb.size),hr.below hal,g,_,e,hg,Blk.below hl hal,rfl,Blk.new w 60 [.string ⟨c.key.toArray⟩,.slice (some ⟨g,0,none⟩) c.val.length (c.val.length+12),.bool c.drop]⟩
theorem LnS.app {W:World} {B:Nat} {c:Chg} {v3 v0:Value} {xs:List (Chg × Nat)} {w w':World} {g:Nat} (hB:B≤W.heap.size) (hb:Below W.heap.size W w) (hr:InRow w B v3 xs) (hg:W.heap.size≤g) (hxl:∀ p ∈ xs,p.2 < W.heap.size) (hl:LentB w g c.val) {v':Value} (hown:w'.ownsRow B 60 3 v' (xs.map lentV ++ [lentV (c,g)]).length (crow (xs.map lentV ++ [lentV (c,g)]))) (hgr:w.grownBy w' v3.ownBlock) {x1 x2:Value} {r:List Value}:LnS W B c v3 xs 4 (v0 :: x1 :: x2 :: v' :: r) w':=by
 refine ⟨(hb.mono hB).trans ((Below.refl _ _).grown hgr (Nat.le_trans hB hb.size) (fun k e=>(hr.row.lt k e).1)),g,hg,?_,fun p hp=>?_,?_⟩
 ·rw [List.map_append,List.length_append]
  rw [List.length_append,List.length_map] at hown
  exact hown
 ·rcases List.mem_append.1 hp with hp | hp
  ·exact ⟨(hr.lent p hp).1,row_blk hr.row (by decide) hgr (hr.lent p hp).2⟩
  ·obtain rfl:p=(c,g):=by simpa using hp
   exact ⟨Nat.le_trans hB hg,row_blk hr.row (by decide) hgr hl⟩
 ·refine List.pairwise_append.2 ⟨hr.ord,List.pairwise_singleton _ _,fun a ha b hb=>?_⟩
  obtain rfl:b=(c,g):=by simpa using hb
  exact Nat.lt_of_lt_of_le (hxl a ha) hg
/-- the reference's commit, its result stored -/
structure CmG (W:World) (rb:Nat) (cs:List Chg) (s:JS) (ds:List Bool) (vs:List Value) (w:World):Prop where
 gb:ds.getD 5 false=false→Below W.heap.size W w
 g0:ds.getD 0 false=true→ds.getD 1 false=false→ChgsAt w w.heap.size (vs.getD 0 undef) cs
 g1:ds.getD 1 false=true→ds.getD 5 false=false→CmRes (jCommit cs s) (.returned (vs.getD 1 undef)) w
 g2:ds.getD 2 false=true→vs.getD 2 undef=vs.getD 1 undef
 g3:ds.getD 3 false=true→∃ x,vs.getD 1 undef=.tuple #[vs.getD 3 undef,x]
 g4:ds.getD 4 false=true→∃ x,vs.getD 1 undef=.tuple #[x,vs.getD 4 undef]
 g5:ds.getD 5 false=true→∃ w2 a0 c0 a1 c1 ae ce,Below W.heap.size W w2∧vs.getD 1 undef=.tuple #[rjV (jCommit cs s).1.d.pw (.slice a0 (jCommit cs s).1.d.f0.length c0) (.slice a1 (jCommit cs s).1.d.f1.length c1) (.slice ae (jCommit cs s).1.c.ents.length ce) (jCommit cs s).1.c.gen (rFl (jCommit cs s).1) (jCommit cs s).1.c.ed (jCommit cs s).1.c.sum (jCommit cs s).1.down,.int .i64 (jCommit cs s).2] ∧
  RD w2 (.slice a0 (jCommit cs s).1.d.f0.length c0) (.slice a1 (jCommit cs s).1.d.f1.length c1) (jCommit cs s).1.d∧EntsAt w2 w2.heap.size (.slice ae (jCommit cs s).1.c.ents.length ce) (jCommit cs s).1.c.ents ∧
  w=set9 w2 rb (.int .i64 (jCommit cs s).1.d.pw) (.slice a0 (jCommit cs s).1.d.f0.length c0) (.slice a1 (jCommit cs s).1.d.f1.length c1) (.slice ae (jCommit cs s).1.c.ents.length ce) (.int .i64 (jCommit cs s).1.c.gen) (.int .i64 (rFl (jCommit cs s).1)) (.int .i64 (jCommit cs s).1.c.ed) (.int .u64 (jCommit cs s).1.c.sum) (.bool (jCommit cs s).1.down)
 g6:ds.getD 6 false=true→vs.getD 6 undef=vs.getD 4 undef
 g7:ds.getD 1 false=true→∃ x y,vs.getD 1 undef=.tuple #[x,y]
/-- a slice of one change -/
theorem chgs_oneAt (w:World) (key val:List UInt8) (vv:Value) (drop:Bool) (hv:RdB w w.heap.size vv val):ChgsAt (w.alloc (.cells #[strV key,vv,.bool drop] 60)) (w.heap.size+1) (.slice (some ⟨w.heap.size,0,none⟩) 1 1) [⟨key,val,drop⟩]:=by
 have hb:=Blk.new w 60 [strV key,vv,.bool drop]
 have hal:=(Below.refl w.heap.size w).alloc (Nat.le_refl _) (.cells #[strV key,vv,.bool drop] 60)
 refine ⟨_,1,rfl,Nat.le_refl _,by unfold maxLen; omega,Or.inr ⟨w.heap.size,0,rfl,by omega,fun j hj=>?_⟩⟩
 obtain rfl:j=0:=by simp at hj; omega
 exact ⟨vv,hb.cell 0 (by simp),hb.cell 1 (by simp),hb.cell 2 (by simp),(hv.below hal).mono (by omega)⟩
theorem InRow.act {w w':World} {B B2:Nat} {p:Nat→Prop} {db jb mb:Nat} {s:JS} {v:Value} {xs:List (Chg × Nat)} (h:InRow w B2 v xs) (hj:JZ B p w db jb mb s) (hg:Grown (Sj db jb mb) w w'):InRow w' B2 v xs:=by
 have ho:∀ {g:Nat} {t:TypeId} {cs:List Value},Blk w g t cs→t ≠ 81→t ≠ 28→¬ Sj db jb mb g:=fun hb h1 h2 e=>by
  have:=hj.jw.other hb h1 h2
  rcases e with e | e | e <;> omega
 refine ⟨⟨h.row.1,?_⟩,fun p hp=>⟨(h.lent p hp).1,Blk.grown (h.lent p hp).2 hg (ho (h.lent p hp).2 (by decide) (by decide))⟩,h.ord⟩
 rcases h.row.2 with h2 | ⟨g,cap,cur,e,hB,h3,r⟩
 ·exact Or.inl h2
 ·exact Or.inr ⟨g,cap,cur,e,hB,(hg.block g (Array.getElem?_eq_some_iff.1 h3).1 (ho (cs:=cur.toList) (by unfold Blk; simpa using h3) (by decide) (by decide))).trans h3,r⟩
/-- the row, and what is still lent -/
structure InT (w:World) (B:Nat) (v:Value) (xs:List (Chg × Nat)) (j:Nat):Prop where
 row:w.ownsRow B 60 3 v xs.length (crow (xs.map lentV))
 lent:∀ i (h:i < xs.length),j≤i→B≤xs[i].2∧LentB w xs[i].2 xs[i].1.val
 ord:xs.Pairwise (fun a b=>a.2 < b.2)
theorem InRow.t {w:World} {B:Nat} {v:Value} {xs:List (Chg × Nat)} (h:InRow w B v xs):InT w B v xs 0:=⟨h.row,fun _ h2 _=>h.lent _ (List.getElem_mem h2),h.ord⟩
theorem InT.cells {w:World} {B j:Nat} {v:Value} {xs:List (Chg × Nat)} (h:InT w B v xs j):∃ a cap,v=.slice a xs.length cap∧(xs=[]∨∃ g,a=some ⟨g,0,none⟩∧B≤g∧g < w.heap.size∧∀ j (hj:j < xs.length),w.cell? ⟨g,j * 3,none⟩=some (strV xs[j].1.key)∧w.cell? ⟨g,j * 3+1,none⟩=some (lentV xs[j]).2∧w.cell? ⟨g,j * 3+2,none⟩=some (.bool xs[j].1.drop)):=by
 have hr:=h.row
 obtain ⟨hl,h2⟩:=h.row
 rcases h2 with ⟨rfl,h0⟩ | ⟨g,cap,cur,rfl,hB,hg,hn,hc,_⟩
 ·obtain rfl:=List.eq_nil_of_length_eq_zero h0
  exact ⟨none,0,rfl,Or.inl rfl⟩
 ·refine ⟨_,cap,rfl,Or.inr ⟨g,rfl,hB,(Array.getElem?_eq_some_iff.1 hg).1,fun j hj'=>?_⟩⟩
  have hjm:j < (xs.map lentV).length:=by simpa using hj'
  have he:(xs.map lentV)[j]=lentV xs[j]:=List.getElem_map _
  have hc3:∀ o u,o < 3→(chgCells (lentV xs[j]))[o]?=some u→w.cell? ⟨g,j * 3+o,none⟩=some u:=fun o u ho hu=>by
   have:=hr.cells (g:=g) rfl (j * 3+o) u (by rw [crow_get (xs.map lentV) j o hjm ho,he]; exact hu)
   have e:(⟨g,0,none⟩:Addr).add (j * 3+o)=⟨g,j * 3+o,none⟩:=by unfold Addr.add; split <;> simp_all
   rw [← e]; exact this
  exact ⟨hc3 0 _ (by omega) rfl,hc3 1 _ (by omega) rfl,hc3 2 _ (by omega) rfl⟩
theorem InT.below {w w':World} {B j:Nat} {v:Value} {xs:List (Chg × Nat)} (h:InT w B v xs j) (hb:Below w.heap.size w w'):InT w' B v xs j:=
 ⟨own_grown h.row (Grown.of_below hb (S:=fun _=>False)) (fun _ _ _ h=>h),fun i hi hj=>⟨(h.lent i hi hj).1,Blk.below (h.lent i hi hj).2 hb⟩,h.ord⟩
/-- the value lent first is written over -/
theorem InT.next {w w':World} {B j:Nat} {v:Value} {xs:List (Chg × Nat)} (h:InT w B v xs j) (hj:j < xs.length) (hg:Grown (fun k=>k=xs[j].2) w w'):InT w' B v xs (j+1):=by
 refine ⟨⟨h.row.1,?_⟩,fun i hi hji=>⟨(h.lent i hi (by omega)).1,Blk.grown (h.lent i hi (by omega)).2 hg (fun e=>?_)⟩,h.ord⟩
 ·rcases h.row.2 with h2 | ⟨g,cap,cur,e,hB,h3,r⟩
  ·exact Or.inl h2
  ·refine Or.inr ⟨g,cap,cur,e,hB,(hg.block g (Array.getElem?_eq_some_iff.1 h3).1 (fun e2=>?_)).trans h3,r⟩
   have hl:=(h.lent j hj (Nat.le_refl _)).2
   rw [← e2] at hl
   have hb:Blk w g 60 cur.toList:=by unfold Blk; simpa using h3
   exact absurd (hb.type hl) (by decide)
 ·have h2:=List.pairwise_iff_getElem.1 h.ord j i hj hi (by omega)
  have e:xs[i].2=xs[j].2:=e
  omega
theorem ChgsAt.away {w w':World} {B A:Nat} {v:Value} {P:List Chg} {t:TypeId} {xs:List Value} (h:ChgsAt w B v P) (hb:Blk w A t xs) (hx:∀ x ∈ xs,∀ m:Int,x ≠ .int .u8 m) (hs:∀ x ∈ xs,∀ s,x ≠ .string s) (hg:Grown (fun k=>k=A) w w'):ChgsAt w' B v P:=by
 obtain ⟨a,cap,e,h1,h2,h3⟩:=h
 refine ⟨a,cap,e,h1,h2,?_⟩
 rcases h3 with h3 | ⟨g,off,e2,hlt,h4⟩
 ·exact Or.inl h3
 ·refine Or.inr ⟨g,off,e2,hlt,fun j hj=>?_⟩
  obtain ⟨vv,k0,k1,k2,k3⟩:=h4 j hj
  have hn:g ≠ A:=fun e=>by subst e; exact hs _ (hb.cell_some k0) _ rfl
  exact ⟨vv,(World.cell?_of_block (hg.block g (World.block_lt_of_cell? w _ k0) hn)).trans k0,(World.cell?_of_block (hg.block g (World.block_lt_of_cell? w _ k1) hn)).trans k1,(World.cell?_of_block (hg.block g (World.block_lt_of_cell? w _ k2) hn)).trans k2,k3.away hb hx hg⟩
/-- what an act of the journal leaves -/
def ActR (B:Nat) (p:Nat→Prop) (W:World) (db jb mb:Nat) (s':JS) (w':World):Prop:=(∃ p':Nat→Prop,(∀ g,p' g→p g∨W.heap.size≤g)∧JZ B p' w' db jb mb s')∧Grown (Sj db jb mb) W w'
theorem ActR.of {B:Nat} {p:Nat→Prop} {W wx w':World} {db jb mb:Nat} {s':JS} (hb:Below W.heap.size W wx) (h:JZ B (pNext p wx w') w' db jb mb s') (hg:Grown (Sj db jb mb) wx w'):ActR B p W db jb mb s' w':=
 ⟨⟨_,fun g hq=>by rcases hq.1 with hq | hq; exact Or.inl hq; have:=hb.size; exact Or.inr (by omega),h⟩,(Grown.of_below hb).trans hg⟩
/-- while a lent value is looked at again -/
structure KpG (W:World) (ds:List Bool) (vs:List Value) (w:World):Prop where
 gb:Below W.heap.size W w
 g0:ds.getD 0 false=true→vs.getD 0 undef=.bool true
theorem lent_rdp {w:World} {g:Nat} {l:List UInt8} {q:Nat→Prop} (h:LentB w g l) (hl:l.length≤1000000) (hq:q g):RdP w q (.slice (some ⟨g,0,none⟩) l.length (l.length+12)) l:=by
 refine Or.inr ⟨g,0,l.length+12,rfl,by omega,by unfold maxLen; omega,hq,fun j hj=>?_⟩
 rw [Nat.zero_add,h.cell j (by omega)]
 simp [List.getD_eq_getElem?_getD,List.getElem?_append,hj]
/-- one call, and what it hands back -/
structure OneG (W:World) (Q:Value→World→Prop) (ds:List Bool) (vs:List Value) (w:World):Prop where
 gb:ds.getD 0 false=false→Below W.heap.size W w
 g0:ds.getD 0 false=true→Q (vs.getD 0 undef) w
 g1:ds.getD 1 false=true→vs.getD 1 undef=vs.getD 0 undef
section
variable {ρ:Operand→Value} {d:Option Tmp} {ty:TypeId} {pos:String} {af:Array Edge} {gd:Option (Nat × Bool)}
theorem xk_neqS (x y:Operand) (s:ByteArray) (w:World) (hx:ρ x=.string s) (hy:ρ y=.string s):(execOp ρ ⟨d,.binOp .neq 9 x y 9,ty,pos,af,gd⟩).run Tryz.prog w=.ok (.value (.bool false)) w:=by
 simp [go_sem,hx,hy]
theorem xk_neqB (x y:Operand) (b:Bool) (w:World) (hx:ρ x=.bool b) (hy:ρ y=.bool b):(execOp ρ ⟨d,.binOp .neq 4 x y 4,ty,pos,af,gd⟩).run Tryz.prog w=.ok (.value (.bool false)) w:=by
 simp [go_sem,hx,hy]
theorem xk_not (x:Operand) (w:World) (hx:ρ x=.bool true):(execOp ρ ⟨d,.unOp .not 4 x,ty,pos,af,gd⟩).run Tryz.prog w=.ok (.value (.bool false)) w:=by
 simp [go_sem,hx]
theorem xk_at0 (x:Operand) (g n c:Nat) (w:World) (hx:ρ x=.slice (some ⟨g,0,none⟩) n c) (hρ:ρ (.const (.int .i64 0))=.int .i64 0) (hn:0 < n):(execOp ρ ⟨d,.indexAddr 39 x (.const (.int .i64 0)),ty,pos,af,gd⟩).run Tryz.prog w=.ok (.value (.pointer (some ⟨g,0,none⟩))) w:=by
 have b1:n ≠ 0:=by omega
 simp [go_sem,hx,hρ,b1]
theorem xk_ext0 (x:Operand) (a b:Value) (w:World) (hx:ρ x=.tuple #[a,b]):(execOp ρ ⟨d,.extract x 0,ty,pos,af,gd⟩).run Tryz.prog w=.ok (.value a) w:=by
 simp [go_sem,hx]
theorem xk_ext1 (x:Operand) (a b:Value) (w:World) (hx:ρ x=.tuple #[a,b]):(execOp ρ ⟨d,.extract x 1,ty,pos,af,gd⟩).run Tryz.prog w=.ok (.value b) w:=by
 simp [go_sem,hx]
end
end Go.Proofs.YtondomklkapogaaGreatDoor
