/- The walk of stateCode. -/
import Derived.Test.YtbcfpdlhieaepaaGreatDoorR10
import Derived.Test.YtbcfpdlhieaepaaGreatDoorIterP
import Derived.Sort.KeysCollected
import Derived.Test.YtbcfpdlhieaepaaGreatDoorR12
namespace Go.Proofs.YtbcfpdlhieaepaaGreatDoor
section
open Go.RowKit SeedP Go.Maps Go.Shelf
theorem blt_lt:∀ {a b:List UInt8},bytesBefore a b=true→a < b
 | [],[],h=>by simp [bytesBefore] at h
 | [],_ :: _,_=>List.nil_lt_cons _ _
 | _ :: _,[],h=>by simp [bytesBefore] at h
 | x :: r,y :: s,h=>by
   simp only [bytesBefore,Bool.or_eq_true,decide_eq_true_eq,Bool.and_eq_true,beq_iff_eq] at h
   rw [List.cons_lt_cons_iff]
   rcases h with h | ⟨h,h2⟩
   ·exact Or.inl h
   ·exact Or.inr ⟨h,blt_lt h2⟩
theorem strKeys_toD (L:List Ent):strKeys (toD L)=keysOf (EB L):=by
 unfold toD keysOf EB
 show (L.map fun e=>(Lit.string e.key,DataW.held e.val)).map (fun p=>strOf p.1)=_
 rw [List.map_map,List.map_map]; rfl
/-- a permutation of keys in order, sorted -/
theorem sort_keys {P:PEnts} (ho:Ordered P) {ss:List (List UInt8)} (h:ss.Perm (keysOf P)):ss.mergeSort (fun x y=>decide (x≤y))=keysOf P:=by
 have e:=mergeSort_of_perm h
 have e2:ss.mergeSort (fun x y=>decide (x≤y))=ss.mergeSort Go.leB:=rfl
 rw [e2,e]
 refine List.mergeSort_of_pairwise ?_
 unfold keysOf
 rw [List.pairwise_map]
 refine ho.imp ?_
 intro a b hab
 simp only [Go.leB,decide_eq_true_eq]
 exact List.le_of_lt (blt_lt hab)
/-- slices.Sort's two contracts at this dump -/
theorem sorts_J (m:Nat):AnyZ.SortsIn Tryz.prog Tryz.sorted161_ren Fence.wide m:=
 ⟨fun blk off cap ss W hH hblk hsz=>callsIn_wide.2 (AnyM.slices_Sort_string Tryz.sort86 blk off cap ss W hH hblk hsz),
  fun p cap W=>callsIn_wide.2 (AnyM.slices_Sort_string_none Tryz.sort86 p cap W)⟩
/-- maps.Keys -/
theorem keys_c (mb:Option Nat) (W:World):Calls Tryz.prog 162 #[.map mb] W fun e w'=>e=.returned (.func (.func 182) #[] #[.pointer (some ⟨W.heap.size,0,none⟩)])∧w'=W.alloc (.cells #[.map mb] 98):=
 (callsIn_wide (n:=5)).1 (AnyZ.keys_in Tryz.keys162 Fence.wide 5 trivial rfl mb W)
/-- slices.Sorted, over a map's keys -/
theorem sorted_c (mb:Nat) (p:Nat→Prop) (L:List Ent) (w:World) (hM:MapAt w mb p L) (ho:Ordered (EB L)) (hl:L.length≤1000000) :
 Calls Tryz.prog 161 #[.func (.func 182) #[] #[.pointer (some ⟨w.heap.size,0,none⟩)]] (w.alloc (.cells #[.map (some mb)] 98)) fun e w'=>
  ∃ v:Value,e=.returned v∧w'.ownsRow w.heap.size 9 1 v L.length (L.map fun e=>strV e.key)∧(v=.slice none 0 0 ↔ L=[])∧Below w.heap.size w w':=by
 have hown:=hM.own
 have hbl:=hown.lt
 have hsz:Maps.size (toD L)=L.length:=toD_size L
 have hseq:SeqGives Fence.wide 2 Tryz.prog 182 #[.pointer (some ⟨w.heap.size,0,none⟩)] encStr (fun ss=>ss.Perm (strKeys (toD L))) (Maps.size (toD L)) (w.alloc (.cells #[.map (some mb)] 98)):=
  AnyZ.keys_gives (ρ:=Tryz.keys162_ren) { Tryz.keys162 with } Fence.wide _ trivial rfl (by omega) w.heap.size mb L.length (toD L) _ (by simp) (by simp) (by
   obtain ⟨es,clock,hb,Ft,hs,hD⟩:=hown
   exact ⟨es,clock,(Below.heap_alloc _ _ mb hbl).trans hb,Ft,hs,hD⟩)
 have h:=AnyZ.sorted_in Tryz.sorted161 Fence.wide 5 trivial trivial trivial trivial rfl (by omega) (sorts_J _) (enters_of Tryz.func86 (by kernel_rfl) rfl) 182 #[.pointer (some ⟨w.heap.size,0,none⟩)] trivial (enters_of Tryz.func182 (by kernel_rfl) rfl) _ _ (by rw [hsz]; unfold maxLen; omega) (by rw [hsz]; omega) _ hseq
 refine ((callsIn_wide (n:=5)).1 h).mono ?_
 rintro e w' ⟨v,ss,rfl,hS,hrow,hnil,hb⟩
 rw [strKeys_toD] at hS
 rw [sort_keys ho hS] at hrow
 have hlen:ss.length=L.length:=by rw [hS.length_eq]; unfold keysOf EB; simp
 refine ⟨v,rfl,?_,?_,?_⟩
 ·rw [hlen] at hrow
  have e:(keysOf (EB L)).map encStr=L.map fun e=>strV e.key:=by unfold keysOf EB; rw [List.map_map,List.map_map]; rfl
  rw [e] at hrow
  exact ownsRow_base_a hrow (by simp)
 ·rw [hnil]
  constructor
  ·intro h; rw [h] at hlen; exact List.eq_nil_of_length_eq_zero (by simpa using hlen.symm)
  ·intro h; rw [h] at hlen; exact List.eq_nil_of_length_eq_zero (by simpa using hlen)
 ·exact ((Below.refl _ w).alloc (Nat.le_refl _) _).trans (hb.mono (by simp))
theorem eFind_at {L:List Ent} (h:(keysOf (EB L)).Nodup) {j:Nat} (hj:j < L.length):eFind L L[j].key=some L[j]:=by
 unfold eFind
 induction L generalizing j with
 | nil=>simp at hj
 | cons x r ih=>
   have hn:=List.nodup_cons.1 (show (x.key :: keysOf (EB r)).Nodup from h)
   rw [List.find?_cons]
   cases j with
   | zero=>simp
   | succ j=>
     have hj:j < r.length:=by simpa using hj
     have hne:(x.key == r[j].key)=false:=by
      simp only [beq_eq_false_iff_ne]
      intro e
      refine hn.1 ?_
      rw [e]
      unfold keysOf EB
      rw [List.map_map]
      exact List.mem_map_of_mem (List.getElem_mem hj)
     rw [List.getElem_cons_succ,hne]
     exact ih hn.2 hj
theorem RdP.toBB {w:World} {p:Nat→Prop} {B:Nat} {v:Value} {l:List UInt8} (h:RdP w p v l) (hp:∀ g,p g→g < B):RdB w B v l:=by
 rcases h with h | ⟨g,off,cap,e,h1,h2,h3,h4⟩
 ·exact Or.inl h
 ·exact Or.inr ⟨g,off,cap,e,h1,h2,hp g h3,h4⟩
theorem own_cells {w:World} {B n:Nat} {e:TypeId} {a:Option Addr} {cap:Nat} {xs:List Value} (h:w.ownsRow B e 1 (.slice a n cap) n xs) (hn:0 < n):∃ g cur fr,a=some ⟨g,0,none⟩∧w.heap[g]?=some (.cells cur e fr)∧n≤cap∧∀ j,j < n→w.cell? ⟨g,j,none⟩=xs[j]?:=by
 have h':=h
 obtain ⟨hl,h2⟩:=h
 rcases h2 with ⟨e,rfl⟩ | ⟨g,cap',cur,e,hb,hg,hn',hc,hs,ht⟩
 ·simp at hl; omega
 ·cases e
  exact ⟨g,_,_,rfl,hg,hn',fun j hj=>h'.cellAt j (by omega)⟩
theorem ents_take_len (P:PEnts) (j:Nat):((P.take j).flatMap entB).length≤(P.flatMap entB).length:=by
 conv=>rhs; rw [← List.take_append_drop j P,List.flatMap_append,List.length_append]
 omega
set_option maxRecDepth 100000 in
set_option maxHeartbeats 1000000 in
/-- stateCode -/
theorem stateCode_c (cb co mb gen:Nat) (L:List Ent) (p:Nat→Prop) (w:World) (hm:w.cell? ⟨cb,co+1,none⟩=some (.map (some mb))) (hM:MapAt w mb p L) (ho:Ordered (EB L)) (hw:pWt (EB L)≤131072) (hnd:(keysOf (EB L)).Nodup) (hsm:SmallEnts (EB L)) (hg:gen≤9223372036854775807) :
 Calls Tryz.prog 137 #[.pointer (some ⟨cb,co,none⟩),.int .i64 gen] w fun e w'=>(∃ v',e=.returned v'∧w'.ownsRow w.heap.size 5 1 v' (stateB gen (EB L)).length (byts (stateB gen (EB L))))∧Below w.heap.size w w':=by
 have hcl:=World.block_lt_of_cell? w _ hm
 have hml:=hM.lt
 have hll:L.length≤131072:=by
  have:=pWt_len (EB L); rw [EB_length] at this; omega
 have hel:((EB L).flatMap entB).length≤131072:=by have:=ents_len (EB L); omega
 have HM:=Lib.hid (show MapAt w mb (fun g=>g < w.heap.size) L from ⟨hM.own,fun e he=>(hM.val e he).mono (fun g hg _=>hg)⟩)
 have H1:=Lib.hid (fun W (h:w.heap.size≤W.heap.size)=>number_i (.slice none 0 0) [] gen gen 8 w.heap.size 8 W rfl rfl (by simpa [byts] using World.ownsRow_nil W w.heap.size 5 1) h (by omega) (by omega) (by simp))
 have H2:=Lib.hid (fun v ys W hy (h:w.heap.size≤W.heap.size) hl=>number_i v ys L.length L.length 4 w.heap.size 4 W rfl rfl hy h (by omega) (by omega) hl)
 have HO:=Lib.hid (And.intro ho hnd)
 have HE:=Lib.hid (And.intro hsm hel)
 clear hM ho hnd hw hel hsm
 go_enter Tryz.func137,Tryz.ntmps137
 go_wp2_with fail
 refine (H1.out _ (Nat.le_refl _)).mono ?_
 rintro e w1 ⟨⟨v1,rfl,hy1⟩,g1,_⟩
 rw [List.nil_append] at hy1
 have c1:w1.cell? ⟨cb,co+1,none⟩=_:=(g1.cell (p:=⟨cb,co+1,none⟩) hcl).trans hm
 have M1:=HM.out.grown (Grown.of_below g1) (S:=fun k=>w.heap.size≤k) (by omega) (fun g hg h=>by omega)
 go_wp2_with (first | (at_len; refine wpList_len_own _ rfl _ 98 rfl 9 _ Tryz.underlying98 _ mb L.length (toD L) rfl M1.own ?_; rw [toD_size]))
 refine (H2.out _ _ _ hy1 g1.size (by simp [numB_length])).mono ?_
 rintro e w2 ⟨⟨v2,rfl,hy2⟩,g2,_⟩
 have G2:=g1.trans g2
 have c2:w2.cell? ⟨cb,co+1,none⟩=_:=(G2.cell (p:=⟨cb,co+1,none⟩) hcl).trans hm
 have M2:=HM.out.grown (Grown.of_below G2) (S:=fun k=>w.heap.size≤k) (by omega) (fun g hg h=>by omega)
 have HK:=Lib.hid (keys_c (some mb) w2)
 have HS:=Lib.hid (sorted_c mb (fun g=>g < w.heap.size) L w2 M2 HO.out.1 (by omega))
 clear H1 H2 g1 g2 hy1 M1 c1
 go_wp2_with fail
 refine HK.out.mono ?_
 rintro e w3 ⟨rfl,rfl⟩
 go_wp2_with fail
 refine HS.out.mono ?_
 rintro e w3 ⟨v3,rfl,hrow,_,g3⟩
 have G3:=G2.trans (g3.mono G2.size)
 have c3:w3.cell? ⟨cb,co+1,none⟩=_:=(G3.cell (p:=⟨cb,co+1,none⟩) hcl).trans hm
 have hy3:=own_grown hy2 (Grown.of_below g3 (S:=fun _=>False)) (fun g _ _ h=>h)
 have hz3:=G3.size
 obtain ⟨a3,cap3,rfl⟩:=own_slice hrow
 clear HK HS hy2 M2 c2 G2
 have hXl:(numB gen 8 ++ numB L.length 4).length=12:=by rw [List.length_append,numB_length,numB_length]
 go_wp2
 go_loopw [5,26] (fun b i wr=>∃ j:Nat,j≤L.length∧i=.int .i64 j∧wr.ownsRow w.heap.size 5 1 b (numB gen 8 ++ numB L.length 4 ++ ((EB L).take j).flatMap entB).length (byts (numB gen 8 ++ numB L.length 4 ++ ((EB L).take j).flatMap entB))∧Below w.heap.size w wr∧Kept w3 wr∧w3.heap.size≤wr.heap.size) (fun _ i _=>L.length - (intOf i).toNat)
 case atStart=>exact ⟨0,Nat.zero_le _,rfl,by simpa using hy3,G3,Kept.refl _,Nat.le_refl _⟩
 case round=>
  obtain ⟨j,hj,rfl,hown,hB,hK,hz⟩:=hrel
  by_cases hlt:j < L.length
  ·obtain ⟨g,cur,fr,rfl,hg3,hcap,hcells⟩:=own_cells hrow (by omega)
   have hgr:wr.heap[g]?=w3.heap[g]?:=hK g (Array.getElem?_eq_some_iff.1 hg3).1 (fun cur' fr' e=>by rw [hg3] at e; simp only [Option.some.injEq,Obj.cells.injEq] at e; exact absurd e.2.1 (by decide))
   have hk0:wr.cell? ⟨g,j,none⟩=some (strV L[j].key):=by
    rw [World.cell?_of_block (w:=w3) (a:=⟨g,j,none⟩) hgr,hcells j hlt]; simp [hlt]
   have cr:wr.cell? ⟨cb,co+1,none⟩=_:=(hB.cell (p:=⟨cb,co+1,none⟩) hcl).trans hm
   have Mr:=HM.out.grown (Grown.of_below hB) (S:=fun k=>w.heap.size≤k) (by omega) (fun g hg h=>by omega)
   have hmem:=List.getElem_mem hlt
   have hmb:(L[j].key,L[j].bytes) ∈ EB L:=List.mem_map.2 ⟨L[j],hmem,rfl⟩
   have hkl:=(HE.out.1.key _ hmb).2
   have hvl:=HE.out.1.val _ hmb
   have hlook:=Mr.look1 L[j].key (by simp only at hkl; unfold maxLen; omega)
   rw [eFind_at HO.out.2 hlt] at hlook
   have hrd:=(Mr.val _ hmem).toBB (B:=w.heap.size) (fun g h=>h)
   have hXj:=ents_take_len (EB L) j
   have hent:=HE.out.2
   have HN:=Lib.hid (show (EB L).take (j+1)=(EB L).take j ++ [(L[j].key,L[j].bytes)] by rw [List.take_succ_eq_append_getElem (by rw [EB_length]; exact hlt)]; unfold EB; simp)
   generalize L[j]=x at *
   obtain ⟨key,val,bytes⟩:=x
   simp only at hkl hvl hlook hrd HN hk0
   obtain ⟨av,capv,rfl,_,_,_⟩:=hrd.open_
   have hXX:(numB gen 8 ++ numB L.length 4 ++ ((EB L).take j).flatMap entB).length≤1073741824:=by rw [List.length_append,hXl]; omega
   have HC:=Lib.hid (entryCode_c _ (numB gen 8 ++ numB L.length 4 ++ ((EB L).take j).flatMap entB) ⟨key.toArray⟩ (.slice av bytes.length capv) bytes w.heap.size wr hown hB.size hXX (by show key.toArray.size≤_; simp; omega) (by omega) hrd)
   have b1:(j:Int) < (L.length:Int):=by omega
   clear hmb hcells hXj hent hXX hg3 hgr hrow hown Mr hy3 hrd hmem
   go_wp2_with fail
   refine HC.out.mono ?_
   rintro e w4 ⟨⟨v4,rfl,hy4⟩,g4,k4⟩
   go_wp2
   go_roundw
   case rel=>
    have hks:(⟨key.toArray⟩:ByteArray).size=key.length:=by show key.toArray.size=_; simp
    have e:numB gen 8 ++ numB L.length 4 ++ ((EB L).take (j+1)).flatMap entB=numB gen 8 ++ numB L.length 4 ++ ((EB L).take j).flatMap entB ++ UInt8.ofNat (⟨key.toArray⟩:ByteArray).size :: key ++ numB bytes.length 2 ++ bytes:=by
     rw [HN.out,List.flatMap_append,hks]; unfold entB; simp
    refine ⟨j+1,by omega,by go_num,?_,hB.trans g4,hK.trans k4,Nat.le_trans hz g4.size⟩
    rw [e]; exact hy4
   case measure=>simp [intOf]; omega
  ·obtain rfl:j=L.length:=by omega
   go_wp2
   go_ret
   have e:(EB L).take L.length=EB L:=List.take_of_length_le (by rw [EB_length]; omega)
   rw [e] at hown
   exact ⟨⟨_,rfl,by unfold stateB; rw [EB_length]; exact hown⟩,hB⟩
end
section
open Go.RowKit SeedP Go.Maps
/-- block jb is a journal over the disk db, its entries in the map mb; all other memory of it lies where p holds -/
structure JW (w:World) (jb db mb:Nat) (p:Nat→Prop) (s:JS):Prop where
 st:St w
 blk:Blk w jb 103 [.pointer (some ⟨db,0,none⟩),.bool s.down,.int .i64 (if s.file then 1 else 0),.int .i64 s.c.gen,.map (some mb),.int .i64 s.c.wt,.int .u64 s.c.sum,.int .i64 s.c.ed]
 disk:DW w db p s.d
 map:∃ L,MapAt w mb p L∧EB L=s.c.ents
 away:∀ g,p g→g ≠ jb∧g ≠ db∧g ≠ mb∧g ≠ 0
 ok:s.Ok
 ord:Ordered s.c.ents
 small:SmallEnts s.c.ents
theorem JW.jd {w:World} {jb db mb:Nat} {p:Nat→Prop} {s:JS} (h:JW w jb db mb p s):jb ≠ db:=by
 intro e
 obtain ⟨v0,v1,q0,q1,h1,_⟩:=h.disk
 have h2:=h.blk
 rw [e] at h2
 unfold Blk at h1 h2
 rw [h1] at h2
 simp only [Option.some.injEq,Obj.cells.injEq] at h2
 exact absurd h2.2.1 (by decide)
theorem Blk.not_map {w:World} {g:Nat} {t:TypeId} {cs:List Value} (h:Blk w g t cs) {mb:Nat} {p:Nat→Prop} {L:List Ent} (hm:MapAt w mb p L):g ≠ mb:=by
 intro e
 obtain ⟨es,clock,hb,_⟩:=hm.own
 unfold Blk at h
 rw [← e,h] at hb
 cases hb
theorem JW.jm {w:World} {jb db mb:Nat} {p:Nat→Prop} {s:JS} (h:JW w jb db mb p s):jb ≠ mb:=by
 obtain ⟨L,hM,_⟩:=h.map
 exact h.blk.not_map hM
theorem JW.dm {w:World} {jb db mb:Nat} {p:Nat→Prop} {s:JS} (h:JW w jb db mb p s):db ≠ mb:=by
 obtain ⟨L,hM,_⟩:=h.map
 obtain ⟨v0,v1,q0,q1,h1,_⟩:=h.disk
 exact h1.not_map hM
theorem St.not {w:World} (h:St w) {g:Nat} {t:TypeId} {x:Value} {cs:List Value} (hb:Blk w g t (x :: cs)) (hx:∀ n,x ≠ .int .u64 n):g ≠ 0:=by
 intro e
 subst e
 have h1:=hb.cell 0 (by simp)
 rw [h.c0] at h1
 simp only [List.getD_cons_zero,Option.some.injEq] at h1
 exact hx _ h1.symm
theorem JW.zero {w:World} {jb db mb:Nat} {p:Nat→Prop} {s:JS} (h:JW w jb db mb p s):jb ≠ 0∧db ≠ 0∧mb ≠ 0:=by
 obtain ⟨L,hM,_⟩:=h.map
 obtain ⟨v0,v1,q0,q1,h1,_⟩:=h.disk
 refine ⟨h.st.not h.blk (fun n e=>by cases e),h.st.not h1 (fun n e=>by cases e),fun e=>?_⟩
 obtain ⟨es,clock,hb,_⟩:=hM.own
 have h0:=h.st.c0
 rw [e] at hb
 simp [World.cell?,hb] at h0
theorem JW.lt {w:World} {jb db mb:Nat} {p:Nat→Prop} {s:JS} (h:JW w jb db mb p s):jb < w.heap.size∧db < w.heap.size∧mb < w.heap.size:=by
 obtain ⟨L,hM,_⟩:=h.map
 exact ⟨h.blk.lt,h.disk.lt,hM.lt⟩
theorem JW.mono {w:World} {jb db mb:Nat} {p p':Nat→Prop} {s:JS} (h:JW w jb db mb p s) (hp:∀ g,p g→p' g) (ha:∀ g,p' g→g ≠ jb∧g ≠ db∧g ≠ mb∧g ≠ 0):JW w jb db mb p' s:=by
 obtain ⟨L,hM,hE⟩:=h.map
 exact ⟨h.st,h.blk,h.disk.mono hp,⟨L,hM.mono' hp,hE⟩,ha,h.ok,h.ord,h.small⟩
theorem JW.fresh {w:World} {jb db mb:Nat} {p:Nat→Prop} {s:JS} (h:JW w jb db mb p s) {B:Nat} (hB:w.heap.size≤B):∀ g,(p g∨B≤g)→g ≠ jb∧g ≠ db∧g ≠ mb∧g ≠ 0:=by
 have h1:=h.lt
 have h2:=h.st.pos
 intro g hg
 rcases hg with hg | hg
 ·exact h.away g hg
 ·omega
/-- what the journal has not is turned -/
theorem JW.grown {w w':World} {jb db mb:Nat} {p S:Nat→Prop} {s:JS} (h:JW w jb db mb p s) (hg:Grown S w w') (h0:¬ S 0) (hj:¬ S jb) (hd:¬ S db) (hm:¬ S mb) (hp:∀ g,p g→¬ S g):JW w' jb db mb p s:=by
 obtain ⟨L,hM,hE⟩:=h.map
 exact ⟨h.st.block (hg.block 0 h.st.pos h0),h.blk.grown hg hj,h.disk.grown hg hd hp,⟨L,hM.grown hg hm hp,hE⟩,h.away,h.ok,h.ord,h.small⟩
theorem JW.below {w w':World} {jb db mb:Nat} {p:Nat→Prop} {s:JS} (h:JW w jb db mb p s) (hb:Below w.heap.size w w'):JW w' jb db mb p s:=
 h.grown (Grown.of_below hb (S:=fun _=>False)) (fun h=>h) (fun h=>h) (fun h=>h) (fun h=>h) (fun _ _ h=>h)
theorem JW.drew {w:World} {jb db mb:Nat} {p:Nat→Prop} {s:JS} (h:JW w jb db mb p s):JW w.drew jb db mb p s:=h.below ⟨rfl,rfl,rfl,Nat.le_refl _,fun _ _=>rfl⟩
theorem JW.drewN {w:World} {jb db mb:Nat} {p:Nat→Prop} {s:JS} (h:JW w jb db mb p s) (n:Nat):JW (w.drewN n) jb db mb p s:=h.below ⟨rfl,rfl,rfl,Nat.le_refl _,fun _ _=>rfl⟩
/-- the disk has turned -/
theorem JW.turn {w w':World} {jb db mb:Nat} {p p':Nat→Prop} {s:JS} {d:DS} (h:JW w jb db mb p s) (hg:Grown (fun k=>k=db) w w') (hd:DW w' db p' d) (ho:d.Ok) (hp:∀ g,p g→p' g) (ha:∀ g,p' g→g ≠ jb∧g ≠ db∧g ≠ mb∧g ≠ 0):JW w' jb db mb p' ⟨d,s.down,s.file,s.c⟩:=by
 obtain ⟨L,hM,hE⟩:=h.map
 have hz:=h.zero
 exact ⟨h.st.block (hg.block 0 h.st.pos (fun e=>hz.2.1 e.symm)),h.blk.grown hg (fun e=>h.jd e),hd,⟨L,(hM.grown hg (fun e=>h.dm e.symm) (fun g hg e=>(h.away g hg).2.1 e)).mono' hp,hE⟩,ha,h.ok.setD ho,h.ord,h.small⟩
theorem JW.cells {w:World} {jb db mb:Nat} {p:Nat→Prop} {s:JS} (h:JW w jb db mb p s) :
 w.cell? ⟨jb,0,none⟩=some (.pointer (some ⟨db,0,none⟩))∧w.cell? ⟨jb,1,none⟩=some (.bool s.down)∧w.cell? ⟨jb,2,none⟩=some (.int .i64 (if s.file then 1 else 0))∧w.cell? ⟨jb,3,none⟩=some (.int .i64 s.c.gen) ∧
 w.cell? ⟨jb,4,none⟩=some (.map (some mb))∧w.cell? ⟨jb,5,none⟩=some (.int .i64 s.c.wt)∧w.cell? ⟨jb,6,none⟩=some (.int .u64 s.c.sum)∧w.cell? ⟨jb,7,none⟩=some (.int .i64 s.c.ed):=by
 have hb:=h.blk
 exact ⟨hb.cell 0 (by simp),hb.cell 1 (by simp),hb.cell 2 (by simp),hb.cell 3 (by simp),hb.cell 4 (by simp),hb.cell 5 (by simp),hb.cell 6 (by simp),hb.cell 7 (by simp)⟩
theorem JW.frozen {w:World} {jb db mb:Nat} {p:Nat→Prop} {s:JS} (h:JW w jb db mb p s) (o:Nat):w.frozen? ⟨jb,o,none⟩=false:=h.blk.frozen o
theorem JW.cut_c {w:World} {jb db mb:Nat} {p:Nat→Prop} {s:JS} (h:JW w jb db mb p s) (f:Bool) (n:Nat) (hn:n≤(s.d.get f).length) :
 Calls Tryz.prog 102 #[.pointer (some ⟨jb,0,none⟩),.int .i64 (if f then 1 else 0),.int .i64 n] w fun e w'=>e=(if (dCut f n s.d).2 then .returned (.tuple #[]) else noPower)∧JW w' jb db mb (fun g=>p g∨w.heap.size≤g) ⟨(dCut f n s.d).1,s.down,s.file,s.c⟩∧Grown (fun k=>k=db) w w':=by
 refine (cut_dw jb db f n s.d p w h.cells.1 h.disk h.ok.d hn (fun g hg=>(h.away g hg).2.1)).mono ?_
 rintro e w' ⟨he,hD,hg⟩
 exact ⟨he,h.turn hg hD (dCut_ok h.ok.d f n) (fun g hg=>Or.inl hg) (h.fresh (Nat.le_refl _)),hg⟩
theorem JW.write_c {w:World} {jb db mb:Nat} {p q:Nat→Prop} {s:JS} (h:JW w jb db mb p s) (f:Bool) (vb:Value) (b:List UInt8) (hb:RdP w q vb b) (hfit:(s.d.get f).length+b.length≤262144) (hq:∀ g,q g→g ≠ db) :
 Calls Tryz.prog 104 #[.pointer (some ⟨jb,0,none⟩),.int .i64 (if f then 1 else 0),vb] w fun e w'=>e=(if (dWrite f b s.d).2 then .returned (.tuple #[]) else noPower)∧JW w' jb db mb (fun g=>p g∨w.heap.size≤g) ⟨(dWrite f b s.d).1,s.down,s.file,s.c⟩∧Grown (fun k=>k=db) w w':=by
 refine (write_dw jb db f vb b s.d p q w h.cells.1 h.disk h.ok.d hb (by omega) (fun g hg=>(h.away g hg).2.1) hq).mono ?_
 rintro e w' ⟨he,hD,hg⟩
 exact ⟨he,h.turn hg hD (dWrite_ok h.ok.d f hfit) (fun g hg=>Or.inl hg) (h.fresh (Nat.le_refl _)),hg⟩
end
end Go.Proofs.YtbcfpdlhieaepaaGreatDoor
