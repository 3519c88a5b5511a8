/- What a call may turn; bytes and changes away from what it turns; a map of byte slices as a list of entries. -/
import Derived.Test.YtbcfpdlhieaepaaGreatDoorR03
import Derived.Maps.OwnSet
namespace Go.Proofs.YtbcfpdlhieaepaaGreatDoor
section
open Go.RowKit SeedP Go.Maps
/-- the old blocks, but for those of S, are as they were -/
structure Grown (S:Nat→Prop) (w w':World):Prop where
 os:w'.os=w.os
 tape:w'.tape=w.tape
 output:w'.output=w.output
 size:w.heap.size≤w'.heap.size
 block:∀ k,k < w.heap.size→¬ S k→w'.heap[k]?=w.heap[k]?
section
variable {S S':Nat→Prop} {w w' w'':World}
theorem Grown.refl (S:Nat→Prop) (w:World):Grown S w w:=⟨rfl,rfl,rfl,Nat.le_refl _,fun _ _ _=>rfl⟩
theorem Grown.trans (h:Grown S w w') (h':Grown S w' w''):Grown S w w'':=
 ⟨h'.os.trans h.os,h'.tape.trans h.tape,h'.output.trans h.output,Nat.le_trans h.size h'.size,fun k hk hn=>(h'.block k (Nat.lt_of_lt_of_le hk h.size) hn).trans (h.block k hk hn)⟩
theorem Grown.mono (h:Grown S w w') (hS:∀ k,k < w.heap.size→S k→S' k):Grown S' w w':=⟨h.os,h.tape,h.output,h.size,fun k hk hn=>h.block k hk (fun hs=>hn (hS k hk hs))⟩
theorem Grown.of_below (h:Below w.heap.size w w'):Grown S w w':=⟨h.os,h.tape,h.output,h.size,fun k hk _=>h.block k hk⟩
theorem Grown.below {B:Nat} (h:Grown S w w') (hS:∀ k,S k→B≤k) (hB:B≤w.heap.size):Below B w w':=⟨h.os,h.tape,h.output,h.size,fun k hk=>h.block k (Nat.lt_of_lt_of_le hk hB) (fun hs=>by have:=hS k hs; omega)⟩
theorem Grown.of_row {row:Option Nat} (h:w.grownBy w' row) (hS:∀ k,row=some k→S k):Grown S w w':=⟨h.os,h.tape,h.output,h.size,fun k hk hn=>h.block k hk (fun e=>hn (hS k e.symm))⟩
theorem Grown.alloc (h:Grown S w w') (o:Obj):Grown S w (w'.alloc o):=h.trans (Grown.of_below ((Below.refl _ _).alloc (Nat.le_refl _) _))
theorem Grown.drew (h:Grown S w w'):Grown S w w'.drew:=⟨h.os,h.tape,h.output,h.size,h.block⟩
theorem Grown.drewN (h:Grown S w w') (n:Nat):Grown S w (w'.drewN n):=⟨h.os,h.tape,h.output,h.size,h.block⟩
theorem Grown.setCell (h:Grown S w w') {a:Addr} (ha:S a.block) (v:Value):Grown S w (w'.setCell a v):=
 ⟨h.os,h.tape,h.output,by simpa using h.size,fun k hk hn=>(Below.heap_setCell w' a v k (fun e=>hn (by rw [e]; exact ha))).trans (h.block k hk hn)⟩
theorem Blk.grown {g:Nat} {e:TypeId} {l:List Value} (h:Blk w g e l) (hg:Grown S w w') (hn:¬ S g):Blk w' g e l:=(hg.block g h.lt hn).trans h
end
/-- A slice of bytes, nil and empty let in, in a block of which p holds. -/
def RdP (w:World) (p:Nat→Prop) (v:Value) (l:List UInt8):Prop:=
 ((v=.slice none 0 0∨∃ a cap,v=.slice (some a) 0 cap)∧l=[]) ∨
 ∃ g off cap,v=.slice (some ⟨g,off,none⟩) l.length cap∧l.length≤cap∧cap≤maxLen∧p g∧∀ j,j < l.length→w.cell? ⟨g,off+j,none⟩=some (.int .u8 (l.getD j 0).toNat)
theorem RdP.toB {w:World} {p:Nat→Prop} {v:Value} {l:List UInt8} (h:RdP w p v l):RdB w w.heap.size v l:=by
 rcases h with h | ⟨g,off,cap,e,h1,h2,h3,h4⟩
 ·exact Or.inl h
 ·rcases l with _ | ⟨x,r⟩
  ·exact Or.inl ⟨Or.inr ⟨_,_,e⟩,rfl⟩
  ·exact Or.inr ⟨g,off,cap,e,h1,h2,World.block_lt_of_cell? w _ (h4 0 (by simp)),h4⟩
theorem RdB.toP {w:World} {B:Nat} {p:Nat→Prop} {v:Value} {l:List UInt8} (h:RdB w B v l) (hp:∀ g,g < B→p g):RdP w p v l:=by
 rcases h with h | ⟨g,off,cap,e,h1,h2,h3,h4⟩
 ·exact Or.inl h
 ·exact Or.inr ⟨g,off,cap,e,h1,h2,hp g h3,h4⟩
theorem RdP.mono {w:World} {p p':Nat→Prop} {v:Value} {l:List UInt8} (h:RdP w p v l) (hp:∀ g,g < w.heap.size→p g→p' g):RdP w p' v l:=by
 rcases h with h | ⟨g,off,cap,e,h1,h2,h3,h4⟩
 ·exact Or.inl h
 ·rcases l with _ | ⟨x,r⟩
  ·exact Or.inl ⟨Or.inr ⟨_,_,e⟩,rfl⟩
  ·exact Or.inr ⟨g,off,cap,e,h1,h2,hp g (World.block_lt_of_cell? w _ (h4 0 (by simp))) h3,h4⟩
theorem RdP.grown {w w':World} {p S:Nat→Prop} {v:Value} {l:List UInt8} (h:RdP w p v l) (hg:Grown S w w') (hp:∀ g,p g→¬ S g):RdP w' p v l:=by
 rcases h with h | ⟨g,off,cap,e,h1,h2,h3,h4⟩
 ·exact Or.inl h
 ·exact Or.inr ⟨g,off,cap,e,h1,h2,h3,fun j hj=>(World.cell?_of_block (hg.block g (World.block_lt_of_cell? w ⟨g,off+j,none⟩ (h4 j hj)) (hp g h3))).trans (h4 j hj)⟩
theorem RdP.own {w:World} {B n:Nat} {p:Nat→Prop} {v:Value} {l:List UInt8} (h:w.ownsRow B 5 1 v n (byts l)) (hp:∀ g,B≤g→g < w.heap.size→p g):RdP w p v l:=by
 have h':=h
 obtain ⟨hl,h2⟩:=h
 rw [Nat.mul_one,byts_length] at hl
 rcases h2 with ⟨rfl,rfl⟩ | ⟨g,cap,cur,rfl,hb,hg,hn,hc,hs,ht⟩
 ·exact Or.inl ⟨Or.inl rfl,List.eq_nil_of_length_eq_zero hl⟩
 ·refine Or.inr ⟨g,0,cap,by rw [hl],by omega,hc,hp g hb (Array.getElem?_eq_some_iff.1 hg).1,fun j hj=>?_⟩
  rw [Nat.zero_add,h'.cellAt j (by omega),byts_get l j hj]
/-! ### entries -/
structure Ent where
 key:List UInt8
 val:Value
 bytes:List UInt8
def tokR:Value→Option (DataW Value × List MemPlace):=fun v=>some (.held v,[])
theorem keyed:Keyed Tryz.prog 9:=string_keyed Tryz.underlying9
def toD (L:List Ent):DataW Value:=.map (L.map fun e=>(.string e.key,.held e.val))
def eFind (L:List Ent) (k:List UInt8):Option Ent:=L.find? (fun e=>e.key == k)
def eDel (L:List Ent) (k:List UInt8):List Ent:=L.filter (fun e=>!(e.key == k))
def eIns (x:Ent):List Ent→List Ent
 | []=>[x]
 | y :: r=>if (Lit.string x.key).before (Lit.string y.key) then x :: y :: r else y :: eIns x r
def ePut (L:List Ent) (x:Ent):List Ent:=eIns x (eDel L x.key)
theorem sameS (a b:List UInt8):(Lit.string a).sameKey (Lit.string b)=(a == b):=rfl
theorem toD_at (L:List Ent) (k:List UInt8) (z:DataW Value):(toD L).atKey (.string k) z=match eFind L k with | some e=>.held e.val | none=>z:=by
 unfold toD eFind DataW.atKey
 induction L with
 | nil=>rfl
 | cons x r ih=>
   simp only [List.map_cons,List.find?_cons,sameS]
   cases x.key == k
   ·exact ih
   ·rfl
theorem toD_has (L:List Ent) (k:List UInt8):Maps.has (toD L) (.string k)=(eFind L k).isSome:=by
 unfold toD eFind
 rw [Maps.has_eq]
 induction L with
 | nil=>rfl
 | cons x r ih=>
   simp only [List.map_cons,List.any_cons,List.find?_cons,sameS]
   cases x.key == k
   ·simpa using ih
   ·rfl
theorem toD_size (L:List Ent):Maps.size (toD L)=L.length:=by unfold toD; rw [Maps.size_eq,List.length_map]
theorem toD_del (L:List Ent) (k:List UInt8):(toD L).del (.string k)=toD (eDel L k):=by
 unfold toD eDel DataW.del
 simp only [DataW.map.injEq]
 rw [List.filter_map]; rfl
theorem ins_map (x:Ent) (L:List Ent):DataW.insert (Lit.string x.key,DataW.held x.val) (L.map fun e=>(Lit.string e.key,DataW.held e.val))=(eIns x L).map fun e=>(Lit.string e.key,DataW.held e.val):=by
 induction L with
 | nil=>rfl
 | cons y r ih=>
   simp only [List.map_cons,DataW.insert,eIns]
   split
   ·rfl
   ·rw [ih]; rfl
theorem toD_put (L:List Ent) (x:Ent):(toD L).put (.string x.key) (.held x.val)=toD (ePut L x):=by
 have h:=toD_del L x.key
 unfold toD DataW.del at h
 simp only [DataW.map.injEq] at h
 unfold toD ePut DataW.put
 simp only [DataW.map.injEq]
 rw [h,ins_map]
theorem eIns_mem (x:Ent) (L:List Ent) (e:Ent):e ∈ eIns x L ↔ e=x∨e ∈ L:=by
 induction L with
 | nil=>simp [eIns]
 | cons y r ih=>
   simp only [eIns]
   split
   ·simp
   ·simp only [List.mem_cons,ih]; constructor <;> (intro h; rcases h with h | h | h <;> simp [h])
theorem eDel_mem (L:List Ent) (k:List UInt8) (e:Ent):e ∈ eDel L k ↔ e ∈ L∧e.key ≠ k:=by simp [eDel]
theorem ePut_mem (L:List Ent) (x e:Ent):e ∈ ePut L x ↔ e=x∨(e ∈ L∧e.key ≠ x.key):=by rw [ePut,eIns_mem,eDel_mem]
theorem keyOf_str (k:List UInt8) (hk:k.length≤maxLen):keyOf Tryz.prog 9 (strV k)=some (.string k):=by
 have h:(⟨k.toArray⟩:ByteArray).size≤maxLen:=by show k.toArray.size≤_; simpa using hk
 have:=Go.WideMaps.keyOf_string_mk Tryz.underlying9 h
 simpa using this
/-- block mb is a map that holds just these entries, in increasing order of keys; their values lie where p holds -/
structure MapAt (w:World) (mb:Nat) (p:Nat→Prop) (L:List Ent):Prop where
 own:w.ownsMap Tryz.prog 9 tokR mb L.length (toD L)
 val:∀ e ∈ L,RdP w p e.val e.bytes
theorem own_exact {w:World} {P:Program} {k:TypeId} {R:Value→Option (DataW Value × List MemPlace)} {b n:Nat} {L:List Ent} (h:w.ownsMap P k R b n (toD L)):w.ownsMap P k R b L.length (toD L):=by
 obtain ⟨es,clock,hb,F,hs,hD⟩:=h
 refine ⟨es,clock,hb,F,?_,hD⟩
 have h1:=congrArg Maps.size hD
 rw [toD_size,Maps.size_eq,length_sorted] at h1
 simp at h1; omega
theorem MapAt.made (w:World) (p:Nat→Prop):MapAt (w.alloc (.map #[] 0)) w.heap.size p []:=⟨World.ownsMap_made w _ _ _,fun e he=>by cases he⟩
theorem MapAt.lt {w:World} {mb:Nat} {p:Nat→Prop} {L:List Ent} (h:MapAt w mb p L):mb < w.heap.size:=h.own.lt
theorem MapAt.grown {w w':World} {mb:Nat} {p S:Nat→Prop} {L:List Ent} (h:MapAt w mb p L) (hg:Grown S w w') (hm:¬ S mb) (hp:∀ g,p g→¬ S g):MapAt w' mb p L:=by
 refine ⟨?_,fun e he=>(h.val e he).grown hg hp⟩
 obtain ⟨es,clock,hb,r⟩:=h.own
 exact ⟨es,clock,(hg.block mb h.lt hm).trans hb,r⟩
/-- 'v, ok := m[k]' -/
theorem MapAt.look {w:World} {mb:Nat} {p:Nat→Prop} {L:List Ent} (h:MapAt w mb p L) (k:List UInt8) (hk:k.length≤maxLen) :
 (Instr.lookup 98 (.map (some mb)) (strV k) true).run Tryz.prog w=.ok (.tuple #[match eFind L k with | some e=>e.val | none=>.slice none 0 0,.bool (eFind L k).isSome]) w:=by
 obtain ⟨v,ps,hr,hv⟩:=h.own.look_ok keyed Tryz.underlying98 (z:=.slice none 0 0) (by kernel_rfl) (zd:=.held (.slice none 0 0)) (zp:=[]) rfl (keyOf_str k hk)
 rw [hr,toD_has]
 rw [toD_at] at hv
 unfold tokR at hv
 simp only [Option.some.injEq,Prod.mk.injEq] at hv
 have:=hv.1
 cases hf:eFind L k with
 | none=>rw [hf] at this; simp only [DataW.held.injEq] at this; rw [this]
 | some e=>rw [hf] at this; simp only [DataW.held.injEq] at this; rw [this]
/-- 'm[k]' -/
theorem MapAt.look1 {w:World} {mb:Nat} {p:Nat→Prop} {L:List Ent} (h:MapAt w mb p L) (k:List UInt8) (hk:k.length≤maxLen) :
 (Instr.lookup 98 (.map (some mb)) (strV k) false).run Tryz.prog w=.ok (match eFind L k with | some e=>e.val | none=>.slice none 0 0) w:=by
 obtain ⟨v,ps,hr,hv⟩:=h.own.lookup keyed Tryz.underlying98 (z:=.slice none 0 0) (by kernel_rfl) (zd:=.held (.slice none 0 0)) (zp:=[]) rfl (keyOf_str k hk)
 rw [hr]
 rw [toD_at] at hv
 unfold tokR at hv
 simp only [Option.some.injEq,Prod.mk.injEq] at hv
 have:=hv.1
 cases hf:eFind L k with
 | none=>rw [hf] at this; simp only [DataW.held.injEq] at this; rw [this]
 | some e=>rw [hf] at this; simp only [DataW.held.injEq] at this; rw [this]
theorem eFind_mem {L:List Ent} {k:List UInt8} {e:Ent} (h:eFind L k=some e):e ∈ L∧e.key=k:=by
 unfold eFind at h
 exact ⟨List.mem_of_find?_eq_some h,by simpa using List.find?_some h⟩
theorem turned_grown {w w':World} {b:Nat} (h:w.mapTurned w' b):Grown (·=b) w w':=Grown.of_row h.grown (fun k e=>by cases e; rfl)
end
section
open Go.RowKit SeedP Go.Maps
def bad1 (seen:List (List UInt8)) (c:Chg):Bool:=decide (c.key.length < 1) || decide (40 < c.key.length) || seen.contains c.key || (c.drop && decide (0 < c.val.length))
def badAt (cs:List Chg) (j:Nat):Bool:=match cs[j]? with | some c=>bad1 ((cs.take j).map (·.key)) c | none=>false
def chgSize (c:Chg):Nat:=2+c.key.length+if c.drop then 0 else 2+c.val.length
def codeSize (cs:List Chg):Nat:=1+(cs.map chgSize).sum
def validP (cs:List Chg):Int:=if (List.range cs.length).any (badAt cs) then 2 else if cs.any (fun c=>decide (4096 < c.val.length)) || decide (65536 < codeSize cs) then 3 else 0
theorem badAt_eq (cs:List Chg) (j:Nat) (h:j < cs.length):badAt cs j=bad1 ((cs.take j).map (·.key)) cs[j]:=by unfold badAt; rw [List.getElem?_eq_getElem h]
theorem size_take (cs:List Chg) (j:Nat) (h:j < cs.length):codeSize (cs.take (j+1))=codeSize (cs.take j)+chgSize cs[j]:=by
 unfold codeSize; rw [List.take_succ_eq_append_getElem h,List.map_append,List.sum_append]; simp; omega
theorem valid_bad (cs:List Chg) (j:Nat) (h:j < cs.length) (hb:badAt cs j=true):validP cs=2:=by
 unfold validP; rw [if_pos (List.any_eq_true.2 ⟨j,List.mem_range.2 h,hb⟩)]
theorem valid_long (cs:List Chg) (h:∀ j,j < cs.length→badAt cs j=false) (h2:(cs.any (fun c=>decide (4096 < c.val.length)) || decide (65536 < codeSize cs))=true):validP cs=3:=by
 unfold validP
 rw [if_neg,if_pos h2]
 intro h3
 obtain ⟨j,hj,hb⟩:=List.any_eq_true.1 h3
 rw [h j (List.mem_range.1 hj)] at hb; cases hb
theorem valid_fine (cs:List Chg) (h:∀ j,j < cs.length→badAt cs j=false) (h2:(cs.any (fun c=>decide (4096 < c.val.length)) || decide (65536 < codeSize cs))=false):validP cs=0:=by
 unfold validP
 rw [if_neg,if_neg (by rw [h2]; simp)]
 intro h3
 obtain ⟨j,hj,hb⟩:=List.any_eq_true.1 h3
 rw [h j (List.mem_range.1 hj)] at hb; cases hb
/-- the set of keys that were seen -/
structure Seen (w:World) (mb:Nat) (ks:List (List UInt8)) (n:Nat):Prop where
 own:∃ L:List Ent,w.ownsMap Tryz.prog 9 tokR mb n (toD L)∧(∀ e ∈ L,e.val=.bool true)∧∀ k,(eFind L k).isSome=ks.contains k
theorem Seen.made (w:World):Seen (w.alloc (.map #[] 0)) w.heap.size [] 0:=Seen.mk ⟨[],World.ownsMap_made w _ _ _,fun e he=>(by cases he),fun k=>rfl⟩
theorem Seen.grown {w w':World} {mb:Nat} {ks:List (List UInt8)} {n:Nat} {S:Nat→Prop} (h:Seen w mb ks n) (hg:Grown S w w') (hm:¬ S mb):Seen w' mb ks n:=by
 obtain ⟨L,⟨es,clock,hb,r⟩,h2,h3⟩:=h.own
 exact ⟨L,⟨es,clock,(hg.block mb (Array.getElem?_eq_some_iff.1 hb).1 hm).trans hb,r⟩,h2,h3⟩
theorem Seen.look {w:World} {mb:Nat} {ks:List (List UInt8)} {n:Nat} (h:Seen w mb ks n) (k:List UInt8) (hk:k.length≤maxLen) :
 (Instr.lookup 130 (.map (some mb)) (strV k) false).run Tryz.prog w=.ok (.bool (ks.contains k)) w:=by
 obtain ⟨L,h1,h2,h3⟩:=h.own
 obtain ⟨v,ps,hr,hv⟩:=h1.lookup keyed Tryz.underlying130 (z:=.bool false) (by kernel_rfl) (zd:=.held (.bool false)) (zp:=[]) rfl (keyOf_str k hk)
 rw [hr]
 rw [toD_at] at hv
 unfold tokR at hv
 simp only [Option.some.injEq,Prod.mk.injEq] at hv
 have h4:=h3 k
 have:=hv.1
 cases hf:eFind L k with
 | none=>rw [hf] at this h4; simp only [DataW.held.injEq] at this; rw [this,← h4]; rfl
 | some e=>rw [hf] at this h4; simp only [DataW.held.injEq] at this; rw [this,← h4,h2 e (eFind_mem hf).1]; rfl
theorem eFind_put (L:List Ent) (x:Ent) (k:List UInt8):(eFind (ePut L x) k).isSome=((x.key == k) || (eFind L k).isSome):=by
 have h:∀ L:List Ent,(eFind L k).isSome=true ↔ ∃ e ∈ L,e.key=k:=fun L=>by
  unfold eFind; rw [List.find?_isSome]; simp
 rw [Bool.eq_iff_iff,Bool.or_eq_true,h,h]
 constructor
 ·rintro ⟨e,he,rfl⟩
  rcases (ePut_mem L x e).1 he with rfl | ⟨h1,_⟩
  ·exact Or.inl (by simp)
  ·exact Or.inr ⟨e,h1,rfl⟩
 ·rintro (hx | ⟨e,he,rfl⟩)
  ·exact ⟨x,(ePut_mem L x x).2 (Or.inl rfl),by simpa using hx⟩
  ·by_cases hk:e.key=x.key
   ·exact ⟨x,(ePut_mem L x x).2 (Or.inl rfl),hk.symm⟩
   ·exact ⟨e,(ePut_mem L x e).2 (Or.inr ⟨he,hk⟩),rfl⟩
/-- 'seen[k] = true' -/
theorem wpList_seen {w:World} {ops:Array Oper} {rest:List Oper} {o:Oper} {a:Act} {Q:Exit→Act→World→Prop} (hg:o.guard=none) (m x v:Operand) (hop:o.op=Op.mapUpdate 130 m x v)
 {mb n:Nat} {ks:List (List UInt8)} (h:Seen w mb ks n) (hn:n < maxLen) (hm:a.eval m=.map (some mb)) (k:List UInt8) (hk:k.length≤maxLen) (hx:a.eval x=strV k) (hv:a.eval v=.bool true)
 (hK:∀ w',Seen w' mb (k :: ks) (n+1)→Grown (·=mb) w w'→wpList Tryz.prog ops Q rest (a.put o.dst undef) w'):wpList Tryz.prog ops Q (o :: rest) a w:=by
 obtain ⟨L,h1,h2,h3⟩:=h.own
 refine wpList_mapUpdate_in w hg m x v 130 hop 9 4 keyed Tryz.underlying130 tokR mb n (toD L) hm h1 hn (strV k) (.bool true) (Lit.string k) hx hv (keyOf_str k hk) (.held (.bool true)) [] rfl ?_
 intro w' h4 h5
 have e:(toD L).put (.string k) (.held (.bool true))=toD (ePut L ⟨k,.bool true,[]⟩):=toD_put L ⟨k,.bool true,[]⟩
 rw [e] at h4
 refine hK w' ⟨ePut L ⟨k,.bool true,[]⟩,h4,fun e he=>?_,fun k'=>?_⟩ (turned_grown h5)
 ·rcases (ePut_mem _ _ _).1 he with rfl | ⟨h6,_⟩
  ·rfl
  ·exact h2 e h6
 ·rw [eFind_put,h3 k',List.contains_cons,BEq.comm]
set_option maxRecDepth 100000 in
/-- valid -/
theorem valid_c (v:Value) (cs:List Chg) (w:World) (hv:ChgsAt w w.heap.size v cs) (hn:cs.length≤1000000) (hb:∀ c ∈ cs,c.key.length≤4294967296∧c.val.length≤4294967296) :
 Calls Tryz.prog 95 #[v] w fun e w'=>e=.returned (.int .i64 (validP cs))∧Below w.heap.size w w':=by
 obtain ⟨a,cap,rfl,hcap,hcm,hc⟩:=hv
 have HC:=Lib.hid hc
 have HB:=Lib.hid hb
 clear hc hb
 have hmm:=@run_makeMap Tryz.prog
 have S0:=Seen.made w
 have B0:Below w.heap.size w (w.alloc (.map #[] 0)):=(Below.refl _ _).alloc (Nat.le_refl _) _
 go_enter Tryz.func95,Tryz.ntmps95
 go_wp2
 clear hmm
 go_loopw [12] (fun i wr=>∃ j:Nat,j≤cs.length∧i=.int .i64 j∧Seen wr w.heap.size (((cs.take j).map (·.key)).reverse) j∧(∀ q,q < j→badAt cs q=false)∧Below w.heap.size w wr) (fun i _=>cs.length - (intOf i).toNat)
 case atStart=>exact ⟨0,Nat.zero_le _,rfl,S0,fun q hq=>by omega,B0⟩
 case round=>
  obtain ⟨j,hj,rfl,hS,hfine,hB⟩:=hrel
  have HF:=Lib.hid hfine
  have HS:=Lib.hid hS
  clear hfine hS S0 B0
  by_cases hlt:j < cs.length
  ·rcases HC.out with h | ⟨g,off,rfl,hg,hch⟩
   ·rw [h] at hlt; simp at hlt
   obtain ⟨vv,h0,h1,h2,h3⟩:=(hch j hlt).below hB hg
   have b1:(j:Int) < cs.length:=by omega
   have hbd:=HB.out cs[j] (List.getElem_mem hlt)
   obtain ⟨hbd1,hbd2⟩:=hbd
   have hba:=badAt_eq cs j hlt
   have HTK:=Lib.hid (show ((cs.take (j+1)).map (·.key)).reverse=cs[j].key :: ((cs.take j).map (·.key)).reverse by rw [List.take_succ_eq_append_getElem hlt,List.map_append,List.reverse_append]; rfl)
   generalize cs[j]=c at *
   obtain ⟨key,val,drop⟩:=c
   simp only at h0 h1 h2 hbd1 hbd2 h3
   have HTK:Hid (((cs.take (j+1)).map (·.key)).reverse=key :: ((cs.take j).map (·.key)).reverse):=HTK
   obtain ⟨av,capv,rfl,_,_,_⟩:=h3.open_
   have hba:badAt cs j=(decide (key.length < 1) || decide (40 < key.length) || ((cs.take j).map (·.key)).contains key || (drop && decide (0 < val.length))):=hba
   have HBA:=Lib.hid hba
   clear hch h3 hba
   have hks:(⟨key.toArray⟩:ByteArray).size=key.length:=by show key.toArray.size=_; simp
   have hlk:=(HS.out.grown (Grown.of_below ((Below.refl _ wr).alloc (Nat.le_refl _) (.cells #[.string ⟨key.toArray⟩,.slice av val.length capv,.bool drop] 73))) (S:=fun _=>False) (by simp)).look key (by unfold maxLen; omega)
   have HSB:=Lib.hid (HS.out.grown (Grown.of_below ((Below.refl _ wr).alloc (Nat.le_refl _) (.cells #[.string ⟨key.toArray⟩,.slice av val.length capv,.bool drop] 73))) (S:=fun _=>False) (by simp))
   have HBB:=Lib.hid (hB.alloc hB.size (.cells #[.string ⟨key.toArray⟩,.slice av val.length capv,.bool drop] 73))
   have hcr:(((cs.take j).map (·.key)).reverse).contains key=((cs.take j).map (·.key)).contains key:=by rw [Bool.eq_iff_iff]; simp
   rw [hcr] at hlk
   clear hB HS hcr
   generalize ((cs.take j).map (·.key)).contains key=sn at *
   go_upto_region 5 with (fail)
   have hbk:=Blk.new wr 73 [.string ⟨key.toArray⟩,.slice av val.length capv,.bool drop]
   generalize wr.alloc (.cells #[.string ⟨key.toArray⟩,.slice av val.length capv,.bool drop] 73)=w1 at *
   generalize wr.heap.size=gb at *
   have c0:=hbk.cell 0 (by simp)
   have c1:=hbk.cell 1 (by simp)
   have c2:=hbk.cell 2 (by simp)
   simp only [List.getD_cons_zero,List.getD_cons_succ] at c0 c1 c2
   clear hbk h0 h1 h2
   by_cases k1:key.length < 1
   ·have t1:decide ((key.length:Int) < 1)=true:=decide_eq_true (by omega)
    go_wp2
    go_ret
    exact ⟨ret_int (valid_bad cs j hlt (by rw [HBA.out]; simp [k1])).symm,HBB.out⟩
   by_cases k2:40 < key.length
   ·have t1:decide ((key.length:Int) < 1)=false:=decide_eq_false (by omega)
    have t2:decide ((40:Int) < key.length)=true:=decide_eq_true (by omega)
    go_wp2
    go_ret
    exact ⟨ret_int (valid_bad cs j hlt (by rw [HBA.out]; simp [k2])).symm,HBB.out⟩
   have t1:decide ((key.length:Int) < 1)=false:=decide_eq_false (by omega)
   have t2:decide ((40:Int) < key.length)=false:=decide_eq_false (by omega)
   cases sn with
   | true=>
     go_wp2
     go_ret
     exact ⟨ret_int (valid_bad cs j hlt (by rw [HBA.out]; simp)).symm,HBB.out⟩
   | false=>
     cases drop with
     | true=>
       by_cases k3:0 < val.length
       ·have t3:decide ((0:Int) < val.length)=true:=decide_eq_true (by omega)
        go_wp2
        go_ret
        exact ⟨ret_int (valid_bad cs j hlt (by rw [HBA.out]; simp [k3])).symm,HBB.out⟩
       ·have t3:decide ((0:Int) < val.length)=false:=decide_eq_false (by omega)
        have HN:=Lib.hid (show badAt cs j=false by rw [HBA.out]; simp [k1,k2,k3])
        go_wp2_with (at_mapUpdate; go_must (refine wpList_seen rfl _ _ _ rfl HSB.out (by unfold maxLen; omega) rfl key (by unfold maxLen; omega) rfl rfl ?_); intro w2 hS2 hG2)
        go_wp2
        go_roundw
        case rel=>exact ⟨j+1,by omega,by go_num,by rw [HTK.out]; exact hS2,fun q hq=>by
         by_cases e:q=j
         ·rw [e]; exact HN.out
         ·exact HF.out q (by omega),HBB.out.trans (hG2.below (fun k e=>by omega) HBB.out.size)⟩
        case measure=>simp [intOf]; omega
     | false=>
       have HN:=Lib.hid (show badAt cs j=false by rw [HBA.out]; simp [k1,k2])
       go_wp2_with (at_mapUpdate; go_must (refine wpList_seen rfl _ _ _ rfl HSB.out (by unfold maxLen; omega) rfl key (by unfold maxLen; omega) rfl rfl ?_); intro w2 hS2 hG2)
       go_wp2
       go_roundw
       case rel=>exact ⟨j+1,by omega,by go_num,by rw [HTK.out]; exact hS2,fun q hq=>by
        by_cases e:q=j
        ·rw [e]; exact HN.out
        ·exact HF.out q (by omega),HBB.out.trans (hG2.below (fun k e=>by omega) HBB.out.size)⟩
       case measure=>simp [intOf]; omega
  ·obtain rfl:j=cs.length:=by omega
   clear hj hlt HS
   go_wp2
   go_loopw [6,48] (fun z i wr=>∃ j:Nat,j≤cs.length∧i=.int .i64 j∧z=.int .i64 (codeSize (cs.take j))∧codeSize (cs.take j)≤1+j * 8589934600∧(∀ q (h:q < j) (h2:q < cs.length),cs[q].val.length≤4096)∧Below w.heap.size w wr) (fun _ i _=>cs.length - (intOf i).toNat)
   case atStart=>exact ⟨0,Nat.zero_le _,rfl,rfl,by simp [codeSize],fun q hq=>by omega,hB⟩
   case round=>
    obtain ⟨j,hj,rfl,rfl,hzb,hsm,hB2⟩:=hrel
    have HSM:=Lib.hid hsm
    clear hsm hB
    by_cases hlt:j < cs.length
    ·rcases HC.out with h | ⟨g,off,rfl,hg,hch⟩
     ·rw [h] at hlt; simp at hlt
     obtain ⟨vv,h0,h1,h2,h3⟩:=(hch j hlt).below hB2 hg
     have b1:(j:Int) < cs.length:=by omega
     have hbd:=HB.out cs[j] (List.getElem_mem hlt)
     obtain ⟨hbd1,hbd2⟩:=hbd
     have HST:=Lib.hid (size_take cs j hlt)
     have HLG:=Lib.hid (show 4096 < cs[j].val.length→(cs.any (fun c=>decide (4096 < c.val.length)) || decide (65536 < codeSize cs))=true from fun h=>by
      rw [Bool.or_eq_true]; exact Or.inl (List.any_eq_true.2 ⟨cs[j],List.getElem_mem hlt,decide_eq_true h⟩))
     have HNX:=Lib.hid (show cs[j].val.length≤4096→∀ q (h:q < j+1) (h2:q < cs.length),cs[q].val.length≤4096 from fun h q hq h2=>by
      by_cases e:q=j
      ·subst e; exact h
      ·exact HSM.out q (by omega) h2)
     generalize cs[j]=c at *
     obtain ⟨key,val,drop⟩:=c
     simp only at h0 h1 h2 hbd1 hbd2 h3
     obtain ⟨av,capv,rfl,_,_,_⟩:=h3.open_
     have HLG:Hid (4096 < val.length→(cs.any (fun c=>decide (4096 < c.val.length)) || decide (65536 < codeSize cs))=true):=HLG
     have HNX:Hid (val.length≤4096→∀ q (h:q < j+1) (h2:q < cs.length),cs[q].val.length≤4096):=HNX
     clear hch h3
     have hks:(⟨key.toArray⟩:ByteArray).size=key.length:=by show key.toArray.size=_; simp
     have HBB:=Lib.hid (hB2.alloc hB2.size (.cells #[.string ⟨key.toArray⟩,.slice av val.length capv,.bool drop] 73))
     clear hB2
     go_upto_region 13 with (fail)
     have hbk:=Blk.new wr 73 [.string ⟨key.toArray⟩,.slice av val.length capv,.bool drop]
     generalize wr.alloc (.cells #[.string ⟨key.toArray⟩,.slice av val.length capv,.bool drop] 73)=w1 at *
     generalize wr.heap.size=gb at *
     have c0:=hbk.cell 0 (by simp)
     have c1:=hbk.cell 1 (by simp)
     have c2:=hbk.cell 2 (by simp)
     simp only [List.getD_cons_zero,List.getD_cons_succ] at c0 c1 c2
     clear hbk h0 h1 h2
     generalize codeSize (cs.take j)=z at *
     by_cases k1:4096 < val.length
     ·have t1:decide ((4096:Int) < val.length)=true:=decide_eq_true (by omega)
      go_wp2
      go_ret
      exact ⟨ret_int (valid_long cs HF.out (HLG.out k1)).symm,HBB.out⟩
     ·have t1:decide ((4096:Int) < val.length)=false:=decide_eq_false (by omega)
      cases drop with
      | true=>
        have hcz:chgSize ⟨key,val,true⟩=2+key.length:=rfl
        have HCZ:=Lib.hid hcz
        clear hcz
        go_wp2
        go_roundw
        case rel=>exact ⟨j+1,by omega,by go_num,by rw [HST.out,HCZ.out]; go_num,by rw [HST.out,HCZ.out]; omega,HNX.out (Nat.le_of_not_lt k1),HBB.out⟩
        case measure=>simp [intOf]; omega
      | false=>
        have hcz:chgSize ⟨key,val,false⟩=2+key.length+(2+val.length):=rfl
        have HCZ:=Lib.hid hcz
        clear hcz
        go_wp2
        go_roundw
        case rel=>exact ⟨j+1,by omega,by go_num,by rw [HST.out,HCZ.out]; congr 1; push_cast; omega,by rw [HST.out,HCZ.out]; omega,HNX.out (Nat.le_of_not_lt k1),HBB.out⟩
        case measure=>simp [intOf]; omega
    ·obtain rfl:j=cs.length:=by omega
     have hcs:codeSize (cs.take cs.length)=codeSize cs:=by rw [List.take_of_length_le (Nat.le_refl _)]
     rw [hcs] at hzb ⊢
     have HLA:=Lib.hid (show cs.any (fun c=>decide (4096 < c.val.length))=false by
      rw [Bool.eq_false_iff]; intro h
      obtain ⟨c,hc,h2⟩:=List.any_eq_true.1 h
      obtain ⟨q,hq,rfl⟩:=List.mem_iff_getElem.1 hc
      have:=HSM.out q hq hq
      have:=of_decide_eq_true h2
      omega)
     clear hcs
     by_cases hz:65536 < codeSize cs
     ·have t1:decide ((65536:Int) < codeSize cs)=true:=decide_eq_true (by omega)
      have HR:=Lib.hid (valid_long cs HF.out (by rw [HLA.out]; simp [hz]))
      generalize codeSize cs=z at *
      go_wp2
      go_ret
      exact ⟨ret_int HR.out.symm,hB2⟩
     ·have t1:decide ((65536:Int) < codeSize cs)=false:=decide_eq_false (by omega)
      have HR:=Lib.hid (valid_fine cs HF.out (by rw [HLA.out]; simp [hz]))
      generalize codeSize cs=z at *
      go_wp2
      go_ret
      exact ⟨ret_int HR.out.symm,hB2⟩
end
end Go.Proofs.YtbcfpdlhieaepaaGreatDoor
