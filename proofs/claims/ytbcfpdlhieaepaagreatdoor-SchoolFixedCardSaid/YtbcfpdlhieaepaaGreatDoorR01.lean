/- The plain functions of package seed and what holds of them: mixing can be undone; the rests of words; draws; no program in sight. -/
import Derived.WalkKit
import Derived.WalkSpells
import Derived.WalkLawsBesides
import Derived.Lib.Hide
import Derived.Test.YtbcfpdlhieaepaaGreatDoorProg
import Derived.Lib.AppendStr
import Derived.Maps.AppendAt
namespace Go.Proofs.YtbcfpdlhieaepaaGreatDoor
section
namespace SeedP
/-- a shift step -/
def xs (s:Nat) (x:BitVec 64):BitVec 64:=x ^^^ (x >>> s)
def c1:BitVec 64:=0xbf58476d1ce4e5b9#64
def c2:BitVec 64:=0x94d049bb133111eb#64
def mixB (x:BitVec 64):BitVec 64:=xs 31 (xs 27 (xs 30 x * c1) * c2)
/-! divide -/
/-! Rest -/
/-! Below: f is how many words are left -/
end SeedP
end
section
open Go.RowKit SeedP
def ofI (x:Int):BitVec 64:=BitVec.ofInt 64 x
def toI (b:BitVec 64):Int:=(b.toNat:Int)
theorem toI_nonneg (b:BitVec 64):0≤toI b:=by unfold toI; omega
theorem toI_lt (b:BitVec 64):toI b < 18446744073709551616:=by unfold toI; have:=b.isLt; omega
theorem toI_le (b:BitVec 64):toI b≤18446744073709551615:=by have:=toI_lt b; omega
theorem ofI_toI (b:BitVec 64):ofI (toI b)=b:=by
 unfold ofI toI; rw [BitVec.ofInt_natCast]; simp
theorem toNat_ofI (x:Int):((ofI x).toNat:Int)=x % 18446744073709551616:=by
 unfold ofI; rw [BitVec.toNat_ofInt]
 have h:0≤x % ((2 ^ 64:Nat):Int):=Int.emod_nonneg _ (by decide)
 rw [Int.toNat_of_nonneg h]; rfl
theorem toI_ofI (x:Int):toI (ofI x)=x % 18446744073709551616:=toNat_ofI x
theorem toI_ofI_in (x:Int) (h0:0≤x) (h1:x < 18446744073709551616):toI (ofI x)=x:=by rw [toI_ofI]; omega
theorem w_wrap (x:Int):IntKind.u64.wrap x=toI (ofI x):=by rw [IntKind.wrap_u64,toI_ofI]
theorem w_xor (x y:Int):bits .xor .u64 x y=toI (ofI x ^^^ ofI y):=by
 show IntKind.u64.wrap (((ofI x ^^^ ofI y).toNat:Nat):Int)=_
 rw [w_wrap]; exact congrArg toI (ofI_toI _)
theorem w_or (x y:Int):bits .or .u64 x y=toI (ofI x ||| ofI y):=by
 show IntKind.u64.wrap (((ofI x ||| ofI y).toNat:Nat):Int)=_
 rw [w_wrap]; exact congrArg toI (ofI_toI _)
theorem ofI_mul (x y:Int):ofI (x * y)=ofI x * ofI y:=BitVec.ofInt_mul _ _
theorem toI_shr (b:BitVec 64) (s:Nat):toI b / (2 ^ s:Int)=toI (b >>> s):=by
 unfold toI; rw [BitVec.toNat_ushiftRight,Nat.shiftRight_eq_div_pow]; simp
theorem shr30 (b:BitVec 64):toI b / (1073741824:Int)=toI (b >>> 30):=toI_shr b 30
theorem shr27 (b:BitVec 64):toI b / (134217728:Int)=toI (b >>> 27):=toI_shr b 27
theorem shr31 (b:BitVec 64):toI b / (2147483648:Int)=toI (b >>> 31):=toI_shr b 31
theorem ofI_wrap (x:Int):ofI (IntKind.u64.wrap x)=ofI x:=by rw [w_wrap,ofI_toI]
theorem exists_toI (x:Int) (h0:0≤x) (h1:x≤18446744073709551615):∃ b,x=toI b:=⟨ofI x,(toI_ofI_in x h0 (by omega)).symm⟩
theorem ret_int {k:IntKind} {a b:Int} (h:a=b):Ending.returned (.int k a)=.returned (.int k b):=by rw [h]
theorem ret_bool {a b:Bool} (h:a=b):Ending.returned (.bool a)=.returned (.bool b):=by rw [h]
/-- Mixing, of integers. -/
def mixI (x:Int):Int:=toI (mixB (ofI x))
theorem mixI_nonneg (x:Int):0≤mixI x:=toI_nonneg _
theorem mixI_le (x:Int):mixI x≤18446744073709551615:=toI_le _
theorem xor_lo (x y:Int):0≤bits .xor .u64 x y:=by rw [w_xor]; exact toI_nonneg _
theorem xor_hi (x y:Int):bits .xor .u64 x y≤18446744073709551615:=by rw [w_xor]; exact toI_le _
/-- Pick, as the walk writes it. -/
theorem pick_low (x n:Int) (hn:1≤n) (h:x.tmod n < 0):x.tmod n+n=x % n:=by
 have b0:=Int.emod_nonneg x (show n ≠ 0 by omega)
 have b1:=Int.emod_lt_of_pos x (show 0 < n by omega)
 rw [Int.tmod_eq_emod] at *
 split at h
 ·omega
 ·rename_i hc
  rw [if_neg hc]
  have:(n.natAbs:Int)=n:=by omega
  omega
theorem pick_high (x n:Int) (hn:1≤n) (h:0≤x.tmod n):x.tmod n=x % n:=by
 have b0:=Int.emod_nonneg x (show n ≠ 0 by omega)
 have b1:=Int.emod_lt_of_pos x (show 0 < n by omega)
 rw [Int.tmod_eq_emod] at *
 split at h
 ·rename_i hc; rw [if_pos hc]; omega
 ·exfalso
  have:(n.natAbs:Int)=n:=by omega
  omega
/-- The Key of the stream of a name: k, and then each byte. -/
def subK (k:Int) (l:List UInt8):Int:=l.foldl (fun k b=>mixI (bits .xor .u64 k b.toNat)) k
theorem subK_snoc (k:Int) (l:List UInt8) (b:UInt8):subK k (l ++ [b])=mixI (bits .xor .u64 (subK k l) b.toNat):=by simp [subK]
theorem subK_bd (k:Int) (h0:0≤k) (h1:k≤18446744073709551615) (l:List UInt8):0≤subK k l∧subK k l≤18446744073709551615:=by
 induction l generalizing k with
 | nil=>exact ⟨h0,h1⟩
 | cons b r ih=>exact ih _ (mixI_nonneg _) (mixI_le _)
theorem byte_wrap (b:UInt8):IntKind.u64.wrap (b.toNat:Int)=b.toNat:=by rw [IntKind.wrap_u64]; have:=b.toNat_lt; omega
theorem take_snoc (s:ByteArray) (k:Nat) (h:k < s.size):s.data.toList.take (k+1)=s.data.toList.take k ++ [s[k]]:=by
 rw [List.take_succ_eq_append_getElem (by simpa using h)]; rfl
def subI (key:Int) (l:List UInt8):Int:=subK (mixI (bits .xor .u64 key l.length)) l
/-- what the walk writes of Mix -/
theorem mix_form (x:Int) (h0:0≤x) (h1:x≤18446744073709551615) :
 IntKind.u64.wrap (bits .xor .u64
  (IntKind.u64.wrap (bits .xor .u64 (IntKind.u64.wrap (bits .xor .u64 x (x / 1073741824) * 13787848793156543929)) (IntKind.u64.wrap (bits .xor .u64 x (x / 1073741824) * 13787848793156543929) / 134217728) * 10723151780598845931))
  (IntKind.u64.wrap (bits .xor .u64 (IntKind.u64.wrap (bits .xor .u64 x (x / 1073741824) * 13787848793156543929)) (IntKind.u64.wrap (bits .xor .u64 x (x / 1073741824) * 13787848793156543929) / 134217728) * 10723151780598845931) / 2147483648))=mixI x:=by
 obtain ⟨b,rfl⟩:=exists_toI x h0 h1
 unfold mixI
 simp only [shr30,shr27,shr31,w_xor,w_wrap,ofI_mul,ofI_toI]
 rfl
/-! ### Slices that read as lists -/
/-- From this place on the cells hold these values. -/
def RowAt (w:World) (g off:Nat) (xs:List Value):Prop:=∀ j u,xs[j]?=some u→w.cell? ⟨g,off+j,none⟩=some u
/-- A slice value that reads as a list of one-cell values. -/
def Rd (w:World) (v:Value) (xs:List Value):Prop:=
 ((v=.slice none 0 0∨∃ a cap,v=.slice (some a) 0 cap)∧xs=[])∨∃ g off cap,v=.slice (some ⟨g,off,none⟩) xs.length cap∧xs.length≤cap∧cap≤maxLen∧RowAt w g off xs
theorem RowAt.kept {w w':World} {g off:Nat} {xs:List Value} (h:RowAt w g off xs) (hk:∀ k,k < w.heap.size→w'.heap[k]?=w.heap[k]?):RowAt w' g off xs:=fun j u hu=>
 (World.cell?_of_block (w:=w) (hk g (World.block_lt_of_cell? w ⟨g,off+j,none⟩ (h j u hu)))).trans (h j u hu)
theorem Rd.below {w w':World} {v:Value} {xs:List Value} (h:Rd w v xs) (hb:Below w.heap.size w w'):Rd w' v xs:=by
 rcases h with h | ⟨g,off,cap,e,h1,h2,h3⟩
 ·exact Or.inl h
 ·exact Or.inr ⟨g,off,cap,e,h1,h2,h3.kept hb.block⟩
/-- The elements, as integers of one kind. -/
def ints (k:IntKind) (l:List Int):List Value:=l.map (Value.int k)
theorem ints_length (k:IntKind) (l:List Int):(ints k l).length=l.length:=by simp [ints]
theorem ints_get (k:IntKind) (l:List Int) (j:Nat) (h:j < l.length):(ints k l)[j]?=some (.int k (l.getD j 0)):=by
 simp [ints,List.getElem?_eq_getElem h,List.getD_eq_getElem?_getD]
theorem keep_cell {W w1:World} (hb:Below W.heap.size W w1) {b o:Nat} {v:Value} (h:W.cell? ⟨b,o,none⟩=some v):w1.cell? ⟨b,o,none⟩=some v:=
 (hb.cell (p:=⟨b,o,none⟩) (World.block_lt_of_cell? W ⟨b,o,none⟩ h)).trans h
theorem keep_frozen {W w1:World} (hb:Below W.heap.size W w1) {b o:Nat} (hlt:b < W.heap.size) (h:W.frozen? ⟨b,o,none⟩=false):w1.frozen? ⟨b,o,none⟩=false:=
 (hb.frozen (p:=⟨b,o,none⟩) hlt).trans h
theorem undrew {B:Nat} {w w1:World} (h:Below B w.drew w1):Below B w w1:=⟨h.os,h.tape,h.output,h.size,h.block⟩
theorem below_drewN {B:Nat} {a w:World} (h:Below B a w) (n:Nat):Below B a (w.drewN n):=⟨h.os,h.tape,h.output,h.size,h.block⟩
end
section
open Go.RowKit SeedP
/-! ### A block known whole -/
def Blk (w:World) (g:Nat) (e:TypeId) (l:List Value):Prop:=w.heap[g]?=some (.cells l.toArray e (0,0))
section
variable {w w':World} {g:Nat} {e:TypeId} {l:List Value}
theorem Blk.lt (h:Blk w g e l):g < w.heap.size:=(Array.getElem?_eq_some_iff.1 h).1
theorem Blk.block (h:Blk w g e l) (hk:w'.heap[g]?=w.heap[g]?):Blk w' g e l:=hk.trans h
theorem Blk.below (h:Blk w g e l) (hb:Below w.heap.size w w'):Blk w' g e l:=h.block (hb.block g h.lt)
theorem Blk.alloc (h:Blk w g e l) (o:Obj):Blk (w.alloc o) g e l:=h.block (Below.heap_alloc w o g h.lt)
theorem Blk.drew (h:Blk w g e l):Blk w.drew g e l:=h
theorem Blk.drewN (h:Blk w g e l) (n:Nat):Blk (w.drewN n) g e l:=h
theorem Blk.new (w:World) (e:TypeId) (l:List Value):Blk (w.alloc (.cells l.toArray e)) w.heap.size e l:=heap_alloc_new w _
theorem Blk.at {g:Nat} (w:World) (e:TypeId) (l:List Value) (hg:g=w.heap.size):Blk (w.alloc (.cells l.toArray e)) g e l:=by subst hg; exact Blk.new w e l
theorem Blk.other (h:Blk w g e l) {a:Addr} (hne:g ≠ a.block) (v:Value):Blk (w.setCell a v) g e l:=h.block (Below.heap_setCell w a v g hne)
theorem Blk.set (h:Blk w g e l) (j:Nat) (v:Value):Blk (w.setCell ⟨g,j,none⟩ v) g e (l.set j v):=by
 have:=heap_setCell_same w g j l.toArray e v h
 unfold Blk; rw [this]; simp
theorem Blk.cell (h:Blk w g e l) (j:Nat) (hj:j < l.length):w.cell? ⟨g,j,none⟩=some (l.getD j undef):=by
 rw [cell_of_row w g j l.toArray e (0,0) h]; simp [List.getElem?_eq_getElem hj,List.getD_eq_getElem?_getD]
theorem Blk.frozen (h:Blk w g e l) (j:Nat):w.frozen? ⟨g,j,none⟩=false:=frozen_of_row w g j l.toArray e h
end
theorem ints_getD (k:IntKind) (L:List Int) (j:Nat) (h:j < L.length):(ints k L).getD j undef=.int k (L.getD j 0):=by
 rw [List.getD_eq_getElem?_getD,ints_get k L j h]; rfl
theorem Blk.int {w:World} {g:Nat} {e:TypeId} {k:IntKind} {L:List Int} (h:Blk w g e (ints k L)) (j:Nat) (hj:j < L.length):w.cell? ⟨g,j,none⟩=some (.int k (L.getD j 0)):=by
 rw [h.cell j (by rw [ints_length]; exact hj),ints_getD k L j hj]
/-- a new row of zeros -/
def zeros (n:Nat):List Int:=List.replicate n 0
theorem make_ints {P:Program} (t e:TypeId) (i:TypeInfo) (k:IntKind) (ht:P.underlying t=some (.slice e)) (hi:P.info? e=some i) (hz:i.zero=some (.int k 0)) (hs:i.size=1) (hby:i.bytes≤8)
 (n:Nat) (hn:n≤4294967296) (w:World) :
 (Instr.makeSlice t (.int .i64 (n:Int)) (.int .i64 (n:Int))).run P w=.ok (.slice (some ⟨w.heap.size,0,none⟩) n n) (w.alloc (.cells (ints k (zeros n)).toArray e)):=by
 have hb:(i.bytes:Int) * (n:Int)≤281474976710656:=by
  have h:i.bytes * n≤8 * 4294967296:=Nat.mul_le_mul hby hn
  have:((i.bytes * n:Nat):Int)≤281474976710656:=by omega
  rwa [Int.natCast_mul] at this
 have hr:=run_make (P:=P) w t e i _ ht hi hz .i64 .i64 n n (by omega) (Int.le_refl _) hb (by omega)
 rw [hs,Nat.mul_one] at hr
 simp only [Int.toNat_natCast] at hr
 rw [hr]
 have:madeCells (Value.int k 0).cells n=(ints k (zeros n)).toArray:=by
  apply Array.toList_inj.1
  show (madeCells #[Value.int k 0] n).toList=_
  rw [toList_madeCells_one]; simp [ints,zeros]
 rw [this]
end
section
open Go.RowKit SeedP
/-- bytes as cells -/
def byts (l:List UInt8):List Value:=l.map fun b=>Value.int .u8 b.toNat
theorem byts_length (l:List UInt8):(byts l).length=l.length:=by simp [byts]
theorem byts_append (a b:List UInt8):byts (a ++ b)=byts a ++ byts b:=by simp [byts]
theorem byts_one (l:List UInt8):∀ u ∈ byts l,u.oneCell'=true:=by
 intro u hu; simp only [byts,List.mem_map] at hu; obtain ⟨b,_,rfl⟩:=hu; rfl
theorem strCells_byts (s:ByteArray):Lib.strCells s=byts s.data.toList:=rfl
theorem byts_get (l:List UInt8) (j:Nat) (h:j < l.length):(byts l)[j]?=some (.int .u8 (l.getD j 0).toNat):=by
 simp [byts,List.getElem?_eq_getElem h,List.getD_eq_getElem?_getD]
/-- A slice of bytes, nil and empty let in, that lies below block B. -/
def RdB (w:World) (B:Nat) (v:Value) (l:List UInt8):Prop:=
 ((v=.slice none 0 0∨∃ a cap,v=.slice (some a) 0 cap)∧l=[]) ∨
 ∃ g off cap,v=.slice (some ⟨g,off,none⟩) l.length cap∧l.length≤cap∧cap≤maxLen∧g < B∧∀ j,j < l.length→w.cell? ⟨g,off+j,none⟩=some (.int .u8 (l.getD j 0).toNat)
theorem RdB.below {w w':World} {B:Nat} {v:Value} {l:List UInt8} (h:RdB w B v l) (hb:Below B w w'):RdB w' B v l:=by
 rcases h with h | ⟨g,off,cap,e,h1,h2,h3,h4⟩
 ·exact Or.inl h
 ·exact Or.inr ⟨g,off,cap,e,h1,h2,h3,fun j hj=>(hb.cell (p:=⟨g,off+j,none⟩) h3).trans (h4 j hj)⟩
theorem RdB.mono {w:World} {B B':Nat} {v:Value} {l:List UInt8} (h:RdB w B v l) (hB:B≤B'):RdB w B' v l:=by
 rcases h with h | ⟨g,off,cap,e,h1,h2,h3,h4⟩
 ·exact Or.inl h
 ·exact Or.inr ⟨g,off,cap,e,h1,h2,by omega,h4⟩
theorem RdB.drew {w:World} {B:Nat} {v:Value} {l:List UInt8} (h:RdB w B v l):RdB w.drew B v l:=h
theorem RdB.nil (w:World) (B:Nat):RdB w B (.slice none 0 0) []:=Or.inl ⟨Or.inl rfl,rfl⟩
theorem RdB.open_ {w:World} {B:Nat} {v:Value} {l:List UInt8} (h:RdB w B v l) :
 ∃ a cap,v=.slice a l.length cap∧l.length≤maxLen∧(a=none→l.length=0∧cap=0)∧(l=[]∨∃ g off,a=some ⟨g,off,none⟩∧l.length≤cap∧cap≤maxLen∧g < B∧∀ j,j < l.length→w.cell? ⟨g,off+j,none⟩=some (.int .u8 (l.getD j 0).toNat)):=by
 rcases h with ⟨hv,rfl⟩ | ⟨g,off,cap,rfl,h1,h2,h3,h4⟩
 ·rcases hv with rfl | ⟨a,cap,rfl⟩
  ·exact ⟨none,0,rfl,by simp [maxLen],fun _=>⟨rfl,rfl⟩,Or.inl rfl⟩
  ·exact ⟨some a,cap,rfl,by simp [maxLen],fun h=>(by cases h),Or.inl rfl⟩
 ·exact ⟨_,cap,rfl,by omega,fun h=>(by cases h),Or.inr ⟨g,off,rfl,h1,h2,h3,h4⟩⟩
/-- what a call has built reads as it should -/
theorem RdB.of_own {w:World} {B:Nat} {e:TypeId} {v:Value} {n:Nat} {l:List UInt8} (h:w.ownsRow B e 1 v n (byts l)):RdB w w.heap.size v l:=by
 have h':=h
 obtain ⟨hl,h2⟩:=h
 rw [Nat.mul_one,byts_length] at hl
 rcases h2 with ⟨rfl,rfl⟩ | ⟨g,cap,cur,rfl,hb,hg,hn,hc,hs,ht⟩
 ·exact Or.inl ⟨Or.inl rfl,List.eq_nil_of_length_eq_zero hl⟩
 ·refine Or.inr ⟨g,0,cap,by rw [hl],by omega,hc,(Array.getElem?_eq_some_iff.1 hg).1,fun j hj=>?_⟩
  rw [Nat.zero_add,h'.cellAt j (by omega),byts_get l j hj]
theorem infoB:(Tryz.prog.info? 5).map (fun i=>(i.zero,i.size,i.bytes))=some (some (.int .u8 0),1,1):=by kernel_rfl
theorem below_own {w w':World} {B:Nat} {v:Value} {n:Nat} {xs:List Value} {e:TypeId} (hown:w.ownsRow B e 1 v n xs) (hg:w.grownBy w' v.ownBlock) (hB:B≤w.heap.size):Below B w w':=
 (Below.refl _ _).grown hg hB (fun k hk=>(hown.lt k hk).1)
/-- a block of another type is not the row -/
theorem own_ne {w:World} {B:Nat} {v:Value} {n:Nat} {xs:List Value} {e t:TypeId} {g:Nat} {cs:List Value} (hown:w.ownsRow B e 1 v n xs) (hg:Blk w g t cs) (hne:e ≠ t):v.ownBlock ≠ some g:=by
 rcases hown.2 with ⟨rfl,_⟩ | ⟨g',cap,cur,rfl,_,hh,_⟩
 ·simp [Value.ownBlock]
 ·intro he
  have:g'=g:=by simpa [Value.ownBlock] using he
  subst this
  unfold Blk at hg
  rw [hh] at hg
  simp only [Option.some.injEq,Obj.cells.injEq] at hg
  exact hne hg.2.1
theorem Blk.own {w w':World} {B:Nat} {v:Value} {n:Nat} {xs:List Value} {e t:TypeId} {g:Nat} {cs:List Value} (hg:Blk w g t cs) (hown:w.ownsRow B e 1 v n xs) (hgr:w.grownBy w' v.ownBlock) (hne:e ≠ t):Blk w' g t cs:=
 (hgr.block g hg.lt (fun h=>own_ne hown hg hne h.symm)).trans hg
/-- the old blocks that are no rows of bytes are as they were -/
def Kept (w w':World):Prop:=∀ k,k < w.heap.size→(∀ cur fr,w.heap[k]? ≠ some (.cells cur 5 fr))→w'.heap[k]?=w.heap[k]?
theorem Kept.refl (w:World):Kept w w:=fun _ _ _=>rfl
theorem Kept.trans {w w' w'':World} (h:Kept w w') (h':Kept w' w''):Kept w w'':=fun k hk hn=>by
 have e:=h k hk hn
 have hlt:k < w'.heap.size:=by
  rw [Array.getElem?_eq_getElem hk] at e
  exact (Array.getElem?_eq_some_iff.1 e).1
 rw [h' k hlt (by rw [e]; exact hn),e]
theorem Kept.of_below {w w':World} (h:Below w.heap.size w w'):Kept w w':=fun k hk _=>h.block k hk
theorem Kept.of_own {w w':World} {B:Nat} {v:Value} {n:Nat} {xs:List Value} (hown:w.ownsRow B 5 1 v n xs) (hg:w.grownBy w' v.ownBlock):Kept w w':=fun k hk hn=>
 hg.block k hk (fun e=>by
  rcases hown.2 with ⟨rfl,_⟩ | ⟨g',cap,cur,rfl,_,hh,_⟩
  ·simp [Value.ownBlock] at e
  ·have:k=g':=by simpa [Value.ownBlock] using e
   subst this
   exact hn _ _ hh)
theorem Kept.alloc {w w':World} (h:Kept w w') (_hs:w.heap.size≤w'.heap.size) (o:Obj):Kept w (w'.alloc o):=h.trans (Kept.of_below ((Below.refl _ _).alloc (Nat.le_refl _) _))
theorem Blk.kept {w w':World} {g:Nat} {t:TypeId} {cs:List Value} (h:Blk w g t cs) (hk:Kept w w') (ht:t ≠ 5):Blk w' g t cs:=
 (hk g h.lt (fun cur fr e=>by unfold Blk at h; rw [h] at e; simp only [Option.some.injEq,Obj.cells.injEq] at e; exact ht e.2.1)).trans h
theorem app_run {w:World} (ty:TypeId) (B:Nat) (v:Value) (n:Nat) (xs:List UInt8) (hown:w.ownsRow B 5 1 v n (byts xs))
 {B':Nat} (vx:Value) (l:List UInt8) (hr:RdB w B' vx l) (hm:n+l.length≤4294967296) (hB:B≤w.heap.size) :
 ∃ v' w',(Builtin.append_ #[26,26] ty #[v,vx]).run Tryz.prog w=.ok v' w'∧w'.ownsRow B 5 1 v' (n+l.length) (byts (xs ++ l))∧w.grownBy w' v.ownBlock:=by
 obtain ⟨i,hi,hz,hs1,hby⟩:=info_parts infoB
 obtain ⟨ax,cap,rfl,_,hnone,hc⟩:=hr.open_
 rcases ax with _ | ax
 ·obtain ⟨h0,rfl⟩:=hnone rfl
  obtain rfl:l=[]:=List.eq_nil_of_length_eq_zero h0
  refine ⟨v,w,?_,by simpa using hown,⟨rfl,rfl,rfl,Nat.le_refl _,fun _ _ _=>rfl⟩⟩
  rcases hown.2 with ⟨rfl,rfl⟩ | ⟨g,cap,cur,rfl,_,_,hnc,_⟩
  ·simp [Builtin.append_,run_underlying Tryz.underlying26,sizeOf,typeInfo,hi,Builtin.lenOf,Builtin.firstCells]
  ·simp [Builtin.append_,run_underlying Tryz.underlying26,sizeOf,typeInfo,hi,Builtin.lenOf,Builtin.firstCells,hnc,storeCells]
 ·have hcells:∀ j u,(byts l)[j]?=some u→w.cell? (ax.add j)=some u:=fun j u hu=>by
   have hj:=(List.getElem?_eq_some_iff.1 hu).1
   rw [byts_length] at hj
   rcases hc with rfl | ⟨g,off,hg,_,_,_,hcell⟩
   ·simp at hj
   ·cases hg
    have e:(⟨g,off,none⟩:Addr).add j=⟨g,off+j,none⟩:=by unfold Addr.add; split <;> simp_all
    rw [e,hcell j hj,← hu,byts_get l j hj]
  obtain ⟨v',w',hr,h2,h3,_,h5⟩:=run_append_own_at (P:=Tryz.prog) w B 26 ty 5 i (.int .u8 0) 1 1 Tryz.underlying26 hi hz hs1 hby rfl (by decide) v n (byts xs) hown ax l.length cap (byts l) (by rw [byts_length,Nat.mul_one]) hcells (byts_one l) (by unfold maxLen; omega) (by omega) hB
  exact ⟨v',w',hr,by rw [byts_append]; exact h2,h3⟩
theorem appS_run {w:World} (ty:TypeId) (B:Nat) (v:Value) (n:Nat) (xs:List UInt8) (hown:w.ownsRow B 5 1 v n (byts xs)) (k:ByteArray) (hm:n+k.size≤4294967296) (hB:B≤w.heap.size) :
 ∃ v' w',(Builtin.append_ #[26,9] ty #[v,.string k]).run Tryz.prog w=.ok v' w'∧w'.ownsRow B 5 1 v' (n+k.size) (byts (xs ++ k.data.toList))∧w.grownBy w' v.ownBlock:=by
 obtain ⟨i,hi,hz,hs1,hby⟩:=info_parts infoB
 obtain ⟨v',w',hr,h2,h3,_⟩:=Lib.run_append_own_string (P:=Tryz.prog) w B 26 9 ty 5 i Tryz.underlying26 Tryz.underlying9 hi hz hs1 hby v n (byts xs) hown k (by unfold maxLen; omega) (by omega) hB
 exact ⟨v',w',hr,by rw [byts_append,← strCells_byts]; exact h2,h3⟩
section
variable {w:World} {ops:Array Oper} {rest:List Oper} {o:Oper} {a:Act} {Q:Exit→Act→World→Prop} {K:Act→World→Prop} {E:Prop}
theorem wp_app (s x:Operand) (ho:o.op=.call { callee:=.builtin .append,args:=#[s,x],argTypes:=#[26,26] })
 (B:Nat) (v:Value) (n:Nat) (xs:List UInt8) (hs:a.eval s=v) (hown:w.ownsRow B 5 1 v n (byts xs))
 {B':Nat} (vx:Value) (l:List UInt8) (hx:a.eval x=vx) (hr:RdB w B' vx l) (hm:n+l.length≤4294967296) (hB:B≤w.heap.size)
 (h:∀ v' w',w'.ownsRow B 5 1 v' (n+l.length) (byts (xs ++ l))→w.grownBy w' v.ownBlock→K (a.put o.dst v') w'):o.wp Tryz.prog a w K Q:=by
 obtain ⟨v',w',hr,h2,h3⟩:=app_run o.type B v n xs hown vx l hr hm hB
 unfold Oper.wp execOp
 simp only [ho,resolve,invoke,builtin,Sem.run_bind,Sem.run_pure,Result.andThen_ok,List.map_toArray,List.map_cons,List.map_nil,hs,hx,hr]
 exact h v' w' h2 h3
theorem wp_appS (s x:Operand) (ho:o.op=.call { callee:=.builtin .append,args:=#[s,x],argTypes:=#[26,9] })
 (B:Nat) (v:Value) (n:Nat) (xs:List UInt8) (hs:a.eval s=v) (hown:w.ownsRow B 5 1 v n (byts xs))
 (k:ByteArray) (hx:a.eval x=.string k) (hm:n+k.size≤4294967296) (hB:B≤w.heap.size)
 (h:∀ v' w',w'.ownsRow B 5 1 v' (n+k.size) (byts (xs ++ k.data.toList))→w.grownBy w' v.ownBlock→K (a.put o.dst v') w'):o.wp Tryz.prog a w K Q:=by
 obtain ⟨v',w',hr,h2,h3⟩:=appS_run o.type B v n xs hown k hm hB
 unfold Oper.wp execOp
 simp only [ho,resolve,invoke,builtin,Sem.run_bind,Sem.run_pure,Result.andThen_ok,List.map_toArray,List.map_cons,List.map_nil,hs,hx,hr]
 exact h v' w' h2 h3
/-- append of bytes, wherever they lie, nil let in, onto a row of the call's own -/
theorem wpList_app (hgd:o.guard=none) (s x:Operand) (ho:o.op=.call { callee:=.builtin .append,args:=#[s,x],argTypes:=#[26,26] })
 (B:Nat) (v:Value) (n:Nat) (xs:List UInt8) (hs:a.eval s=v) (hown:w.ownsRow B 5 1 v n (byts xs))
 {B':Nat} (vx:Value) (l:List UInt8) (hx:a.eval x=vx) (hr:RdB w B' vx l) (hm:n+l.length≤4294967296) (hB:B≤w.heap.size)
 (h:∀ v' w',w'.ownsRow B 5 1 v' (n+l.length) (byts (xs ++ l))→Below B w w'→wpList Tryz.prog ops Q rest (a.put o.dst v') w') :
 wpList Tryz.prog ops Q (o :: rest) a w:=
 wpList_plain hgd fun _ hK=>wp_app s x ho B v n xs hs hown vx l hx hr hm hB fun v' w' h2 h3=>hK _ _ (h v' w' h2 (below_own hown h3 hB))
theorem wpList_appK (hgd:o.guard=none) (s x:Operand) (ho:o.op=.call { callee:=.builtin .append,args:=#[s,x],argTypes:=#[26,26] })
 (B:Nat) (v:Value) (n:Nat) (xs:List UInt8) (hs:a.eval s=v) (hown:w.ownsRow B 5 1 v n (byts xs))
 {B':Nat} (vx:Value) (l:List UInt8) (hx:a.eval x=vx) (hr:RdB w B' vx l) (hm:n+l.length≤4294967296) (hB:B≤w.heap.size)
 (h:∀ v' w',w'.ownsRow B 5 1 v' (n+l.length) (byts (xs ++ l))→Below B w w'→Kept w w'→wpList Tryz.prog ops Q rest (a.put o.dst v') w') :
 wpList Tryz.prog ops Q (o :: rest) a w:=
 wpList_plain hgd fun _ hK=>wp_app s x ho B v n xs hs hown vx l hx hr hm hB fun v' w' h2 h3=>hK _ _ (h v' w' h2 (below_own hown h3 hB) (Kept.of_own hown h3))
theorem wpList_appSK (hgd:o.guard=none) (s x:Operand) (ho:o.op=.call { callee:=.builtin .append,args:=#[s,x],argTypes:=#[26,9] })
 (B:Nat) (v:Value) (n:Nat) (xs:List UInt8) (hs:a.eval s=v) (hown:w.ownsRow B 5 1 v n (byts xs))
 (k:ByteArray) (hx:a.eval x=.string k) (hm:n+k.size≤4294967296) (hB:B≤w.heap.size)
 (h:∀ v' w',w'.ownsRow B 5 1 v' (n+k.size) (byts (xs ++ k.data.toList))→Below B w w'→Kept w w'→wpList Tryz.prog ops Q rest (a.put o.dst v') w') :
 wpList Tryz.prog ops Q (o :: rest) a w:=
 wpList_plain hgd fun _ hK=>wp_appS s x ho B v n xs hs hown k hx hm hB fun v' w' h2 h3=>hK _ _ (h v' w' h2 (below_own hown h3 hB) (Kept.of_own hown h3))
/-- the same in a region that draws its order -/
theorem step_app (hgd:o.guard=none) (s x:Operand) (ho:o.op=.call { callee:=.builtin .append,args:=#[s,x],argTypes:=#[26,26] })
 (B:Nat) (v:Value) (n:Nat) (xs:List UInt8) (hs:a.eval s=v) (hown:w.ownsRow B 5 1 v n (byts xs))
 {B':Nat} (vx:Value) (l:List UInt8) (hx:a.eval x=vx) (hr:RdB w B' vx l) (hm:n+l.length≤4294967296) (hB:B≤w.heap.size)
 (h:∀ v' w',w'.ownsRow B 5 1 v' (n+l.length) (byts (xs ++ l))→w.grownBy w' v.ownBlock→K (a.put o.dst v') w') :
 if Region.wanted o (yielded ops a.tmps)=true then Oper.wp Tryz.prog o a w K Q else E:=by
 rw [if_pos (by simp [Region.wanted,hgd])]
 exact wp_app s x ho B v n xs hs hown vx l hx hr hm hB h
theorem step_appS (hgd:o.guard=none) (s x:Operand) (ho:o.op=.call { callee:=.builtin .append,args:=#[s,x],argTypes:=#[26,9] })
 (B:Nat) (v:Value) (n:Nat) (xs:List UInt8) (hs:a.eval s=v) (hown:w.ownsRow B 5 1 v n (byts xs))
 (k:ByteArray) (hx:a.eval x=.string k) (hm:n+k.size≤4294967296) (hB:B≤w.heap.size)
 (h:∀ v' w',w'.ownsRow B 5 1 v' (n+k.size) (byts (xs ++ k.data.toList))→w.grownBy w' v.ownBlock→K (a.put o.dst v') w') :
 if Region.wanted o (yielded ops a.tmps)=true then Oper.wp Tryz.prog o a w K Q else E:=by
 rw [if_pos (by simp [Region.wanted,hgd])]
 exact wp_appS s x ho B v n xs hs hown k hx hm hB h
end
/-- the bytes of a literal slice that was just laid -/
theorem rdB_lit (w:World) (l:List UInt8) (hm:l.length≤maxLen) (n:Nat) (hn:n=l.length):RdB (w.alloc (.cells (byts l).toArray 5)) (w.heap.size+1) (.slice (some ⟨w.heap.size,0,none⟩) n n) l:=by
 subst hn
 refine Or.inr ⟨w.heap.size,0,l.length,rfl,Nat.le_refl _,hm,by omega,fun j hj=>?_⟩
 have h:=(Blk.new w 5 (byts l)).cell j (by rw [byts_length]; exact hj)
 rw [Nat.zero_add,h,List.getD_eq_getElem?_getD,byts_get l j hj]; rfl
theorem own_lit (w:World) (B:Nat) (l:List UInt8) (hm:l.length≤maxLen) (n:Nat) (hn:n=l.length) (hB:B≤w.heap.size):(w.alloc (.cells (byts l).toArray 5)).ownsRow B 5 1 (.slice (some ⟨w.heap.size,0,none⟩) n n) n (byts l):=by
 subst hn
 have h:=World.ownsRow_lit (base:=B) (e:=5) (size:=1) w (byts l).toArray l.length hB hm (by simp [byts_length])
 simpa using h
end
end Go.Proofs.YtbcfpdlhieaepaaGreatDoor
