/- The walk of Mix, and those of the functions that build bytes. -/
import Derived.Test.YtbcfpdlhieaepaaGreatDoorR01
namespace Go.Proofs.YtbcfpdlhieaepaaGreatDoor
open Go.RowKit SeedP
abbrev stepsVal:Value:=.agg #[.int .u64 30,.int .u64 13787848793156543929,.int .u64 27,.int .u64 10723151780598845931,.int .u64 31,.int .u64 1]
theorem steps_i0 (w:World):(Instr.index 231 stepsVal (.int .i64 0)).run Tryz.prog w=.ok (.agg #[.int .u64 30,.int .u64 13787848793156543929]) w:=by kernel_rfl
theorem steps_i1 (w:World):(Instr.index 231 stepsVal (.int .i64 1)).run Tryz.prog w=.ok (.agg #[.int .u64 27,.int .u64 10723151780598845931]) w:=by kernel_rfl
theorem steps_i2 (w:World):(Instr.index 231 stepsVal (.int .i64 2)).run Tryz.prog w=.ok (.agg #[.int .u64 31,.int .u64 1]) w:=by kernel_rfl
/-- The steps of mixing lie where the program's text lays them. -/
structure St (w:World):Prop where
 c0:w.cell? ⟨0,0,none⟩=some (.int .u64 30)
 c1:w.cell? ⟨0,1,none⟩=some (.int .u64 13787848793156543929)
 c2:w.cell? ⟨0,2,none⟩=some (.int .u64 27)
 c3:w.cell? ⟨0,3,none⟩=some (.int .u64 10723151780598845931)
 c4:w.cell? ⟨0,4,none⟩=some (.int .u64 31)
 c5:w.cell? ⟨0,5,none⟩=some (.int .u64 1)
theorem St.pos {w:World} (h:St w):0 < w.heap.size:=World.block_lt_of_cell? w ⟨0,0,none⟩ h.c0
theorem St.block {w w':World} (h:St w) (hb:w'.heap[0]?=w.heap[0]?):St w':=
 have e:∀ o,w'.cell? ⟨0,o,none⟩=w.cell? ⟨0,o,none⟩:=fun _=>World.cell?_of_block (w:=w) hb
 ⟨(e 0).trans h.c0,(e 1).trans h.c1,(e 2).trans h.c2,(e 3).trans h.c3,(e 4).trans h.c4,(e 5).trans h.c5⟩
theorem St.below {B:Nat} {w w':World} (h:St w) (hb:Below B w w') (hB:0 < B):St w':=h.block (hb.block 0 hB)
theorem St.alloc {w:World} (h:St w) (o:Obj):St (w.alloc o):=h.block (Below.heap_alloc w o 0 h.pos)
theorem St.drew {w:World} (h:St w):St w.drew:=h.block rfl
/-- Mix -/
theorem mix_c (x:Int) (w:World) (hs:St w) (x0:0≤x) (x1:x≤18446744073709551615) :
 Calls Tryz.prog 138 #[.int .u64 x] w fun e w'=>e=.returned (.int .u64 (mixI x))∧Below w.heap.size w w':=by
 have i0:=steps_i0
 have i1:=steps_i1
 have i2:=steps_i2
 have H:=Lib.hid (mix_form x x0 x1)
 obtain ⟨h0,h1,h2,h3,h4,h5⟩:=hs
 clear x0 x1
 go_enter Tryz.func138,Tryz.ntmps138
 go_wp2
 refine wp_loop_rounds 4 ?_
 rw [rounds_succ]
 go_wp2
 rw [rounds_succ]
 go_wp2
 rw [rounds_succ]
 go_wp2
 rw [rounds_succ]
 go_wp2
 go_ret
 exact ⟨ret_int H.out,(((Below.refl _ _).alloc (Nat.le_refl _) _).alloc (by simp) _).alloc (by simp; omega) _⟩
/-- the bytes of a number, the highest one first -/
def numB (n:Nat):Nat→List UInt8
 | 0=>[]
 | k+1=>UInt8.ofNat (n / 256 ^ k) :: numB n k
theorem byte_at_num (n j:Nat):(n:Int) / 2 ^ (8 * j) % 256=((UInt8.ofNat (n / 256 ^ j)).toNat:Int):=by
 have e:(2:Int) ^ (8 * j)=((256 ^ j:Nat):Int):=by rw [Int.pow_mul]; simp
 rw [e,UInt8.toNat_ofNat']
 omega
theorem numB_length (n k:Nat):(numB n k).length=k:=by
 induction k with
 | zero=>rfl
 | succ k ih=>simp [numB,ih]
set_option maxRecDepth 100000 in
/-- number -/
theorem number_c (v:Value) (xs:List UInt8) (n k B:Nat) (w:World) (hown:w.ownsRow B 5 1 v xs.length (byts xs)) (hB:B≤w.heap.size) (hn:n < 18446744073709551616) (hk:k≤8) (hx:xs.length≤2147483648) :
 Calls Tryz.prog 140 #[v,.int .u64 n,.int .i64 k] w fun e w'=>(∃ v',e=.returned v'∧w'.ownsRow B 5 1 v' (xs ++ numB n k).length (byts (xs ++ numB n k)))∧Below B w w'∧Kept w w':=by
 have HN:=Lib.hid hn
 clear hn
 go_enter Tryz.func140,Tryz.ntmps140
 go_wp2
 go_loopw [0,7] (fun b c wr=>∃ j:Nat,j≤k∧c=.int .i64 ((j:Int) - 1)∧∃ ys:List UInt8,wr.ownsRow B 5 1 b ys.length (byts ys)∧ys ++ numB n j=xs ++ numB n k∧Below B w wr∧Kept w wr) (fun _ c _=>(intOf c+1).toNat)
 case atStart=>exact ⟨k,Nat.le_refl _,rfl,xs,hown,rfl,Below.refl _ _,Kept.refl _⟩
 case round=>
  obtain ⟨j,hj,rfl,ys,hy,he,hb,hkp⟩:=hrel
  have HE:=Lib.hid he
  have hyl:ys.length≤2147483656:=by have:=congrArg List.length he; rw [List.length_append,List.length_append,numB_length,numB_length] at this; omega
  clear he hown
  rcases j with _ | j
  ·rw [show ((0:Nat):Int) - 1= -1 by decide]
   go_wp2
   go_ret
   exact ⟨⟨_,rfl,by rw [← HE.out]; simpa [numB] using hy⟩,hb,hkp⟩
  ·rw [show ((j+1:Nat):Int) - 1=j by omega]
   have hby:=byte_at_num n j
   have HE2:=Lib.hid (show (ys ++ [UInt8.ofNat (n / 256 ^ j)]) ++ numB n j=xs ++ numB n k by rw [← HE.out]; simp [numB])
   clear HE
   generalize UInt8.ofNat (n / 256 ^ j)=b at *
   have hsz:B≤wr.heap.size:=Nat.le_trans hB hb.size
   go_wp2_with (at_builtin; go_must (refine wpList_appK rfl _ _ rfl B _ ys.length ys rfl (hy.alloc _) _ [b] rfl (rdB_lit wr [b] (by simp [maxLen]) 1 rfl) (by simp; omega) (by simp; omega) ?_))
   intro v' w2 hy2 hb2 hk2
   have hb3:=(hb.alloc hsz (.cells #[.int .u8 b.toNat] 5)).trans hb2
   have hkp3:=(hkp.alloc hb.size (.cells #[.int .u8 b.toNat] 5)).trans hk2
   clear hby hy hb hb2 hkp hk2
   go_wp2
   go_roundw
   case rel=>exact ⟨j,by omega,by go_num,ys ++ [b],by simpa using hy2,HE2.out,hb3,hkp3⟩
   case measure=>simp [intOf]
theorem number_i (v:Value) (xs:List UInt8) (n:Int) (m k B:Nat) (k':Int) (w:World) (hn:n=m) (hk':k'=k) (hown:w.ownsRow B 5 1 v xs.length (byts xs)) (hB:B≤w.heap.size) (hm:m < 18446744073709551616) (hk:k≤8) (hx:xs.length≤2147483648) :
 Calls Tryz.prog 140 #[v,.int .u64 n,.int .i64 k'] w fun e w'=>(∃ v',e=.returned v'∧w'.ownsRow B 5 1 v' (xs ++ numB m k).length (byts (xs ++ numB m k)))∧Below B w w'∧Kept w w':=by
 subst hn hk'; exact number_c v xs m k B w hown hB hm hk hx
set_option maxRecDepth 100000 in
/-- entryCode -/
theorem entryCode_c (v:Value) (xs:List UInt8) (key:ByteArray) (val:Value) (l:List UInt8) (B:Nat) (w:World) (hown:w.ownsRow B 5 1 v xs.length (byts xs)) (hB:B≤w.heap.size) (hx:xs.length≤1073741824) (hk:key.size≤65535) (hl:l.length≤65535) (hv:RdB w B val l) :
 Calls Tryz.prog 135 #[v,.string key,val] w fun e w'=>(∃ v',e=.returned v'∧w'.ownsRow B 5 1 v' (xs ++ UInt8.ofNat key.size :: key.data.toList ++ numB l.length 2 ++ l).length (byts (xs ++ UInt8.ofNat key.size :: key.data.toList ++ numB l.length 2 ++ l)))∧Below B w w'∧Kept w w':=by
 have hkl:key.data.toList.length=key.size:=by simp
 have hb1:((key.size:Int)) % 256=((UInt8.ofNat key.size).toNat:Int):=by rw [UInt8.toNat_ofNat']; omega
 obtain ⟨a,c,rfl,hlm,_⟩:=hv.open_
 have HV:=Lib.hid hv
 generalize UInt8.ofNat key.size=b at *
 have HK:=Lib.hid hkl
 clear hkl hv
 have HN:=Lib.hid (fun v ys W h (hW:B≤W.heap.size) hy=>number_i v ys l.length l.length 2 B 2 W rfl rfl h hW (by omega) (by omega) hy)
 go_enter Tryz.func135,Tryz.ntmps135
 go_wp2_with (first
  | (at_builtin; refine wpList_appK rfl _ _ rfl B _ xs.length xs rfl (hown.alloc _) _ [b] rfl (rdB_lit w [b] (by simp [maxLen]) 1 rfl) (by simp; omega) (by simp; omega) ?_; intro v1 w1 hy1 g1 q1; clear hown)
  | (at_builtin; refine wpList_appSK rfl _ _ rfl B _ (xs.length+[b].length) (xs ++ [b]) rfl hy1 key rfl (by simp; omega) (Nat.le_trans (by simp; omega) g1.size) ?_; intro v2 w2 hy2 g2 q2; clear hy1))
 have e2:xs.length+[b].length+key.size=(xs ++ [b] ++ key.data.toList).length:=by have:=HK.out; simp only [List.length_append,this]
 rw [e2] at hy2
 have l2:(xs ++ [b] ++ key.data.toList).length≤1073807361:=by have:=HK.out; simp only [List.length_append,this,List.length_singleton]; omega
 have G2:Below B w w2:=(((Below.refl B w).alloc hB (.cells #[.int .u8 b.toNat] 5)).trans g1).trans g2
 have Q2:Kept w w2:=((Kept.alloc (Kept.refl w) (Nat.le_refl _) (.cells #[.int .u8 b.toNat] 5)).trans q1).trans q2
 have s2:B≤w2.heap.size:=Nat.le_trans hB G2.size
 clear g1 g2 e2 hb1 q1 q2
 refine (HN.out v2 _ w2 hy2 s2 (by omega)).mono ?_
 rintro e w3 ⟨⟨v3,rfl,hy3⟩,g3,q3⟩
 have G3:=G2.trans g3
 have Q3:=Q2.trans q3
 have s3:B≤w3.heap.size:=Nat.le_trans hB G3.size
 have l3:(xs ++ [b] ++ key.data.toList ++ numB l.length 2).length≤1073807363:=by rw [List.length_append,numB_length]; omega
 clear HN G2 s2 l2 hy2 g3 Q2 q3
 go_wp2_with (at_builtin; refine wpList_appK rfl _ _ rfl B _ _ (xs ++ [b] ++ key.data.toList ++ numB l.length 2) rfl hy3 _ l rfl (HV.out.below G3) (by omega) s3 ?_; intro v4 w4 hy4 g4 q4)
 go_ret
 refine ⟨⟨v4,rfl,?_⟩,G3.trans g4,Q3.trans q4⟩
 have e:xs ++ b :: key.data.toList ++ numB l.length 2 ++ l=xs ++ [b] ++ key.data.toList ++ numB l.length 2 ++ l:=by simp
 rw [e,List.length_append (bs:=l)]; exact hy4
set_option maxRecDepth 100000 in
/-- sumBehind -/
theorem sum_c (x:Int) (v:Value) (l:List UInt8) (B:Nat) (w:World) (hs:St w) (hv:RdB w B v l) :
 Calls Tryz.prog 103 #[.int .u64 x,v] w fun e w'=>e=.returned (.int .u64 (subI x l))∧Below w.heap.size w w':=by
 obtain ⟨a,c,rfl,hm,_,hc⟩:=hv.open_
 unfold maxLen at hm
 have HC:=Lib.hid hc
 have HI:=Lib.hid (show subI x l=subK (mixI (bits .xor .u64 x l.length)) (l.take l.length) by unfold subI; rw [List.take_of_length_le (Nat.le_refl _)])
 clear hc hv
 go_enter Tryz.func103,Tryz.ntmps103
 go_wp2_with fail
 refine (mix_c _ _ hs (xor_lo _ _) (xor_hi _ _)).mono ?_
 rintro e w1 ⟨rfl,hb1⟩
 have hs1:=hs.below hb1 hs.pos
 generalize mixI (bits .xor .u64 x l.length)=k0 at *
 go_wp2
 go_loopw [0,15] (fun k i wr=>∃ j:Nat,j≤l.length∧i=.int .i64 j∧k=.int .u64 (subK k0 (l.take j))∧Below w.heap.size w wr) (fun _ i _=>l.length - (intOf i).toNat)
 case atStart=>exact ⟨0,Nat.zero_le _,rfl,rfl,hb1⟩
 case round=>
  obtain ⟨j,hj,rfl,rfl,hb⟩:=hrel
  have hst:=hs.below hb hs.pos
  by_cases hlt:j < l.length
  ·rcases HC.out with rfl | ⟨g,off,rfl,_,_,hgB,hcell⟩
   ·simp at hlt
   have c1:=keep_cell hb (hcell j hlt)
   have HS:=Lib.hid (show mixI (bits .xor .u64 (subK k0 (l.take j)) (l.getD j 0).toNat)=subK k0 (l.take (j+1)) by
    rw [List.take_succ_eq_append_getElem hlt,subK_snoc,List.getD_eq_getElem?_getD,List.getElem?_eq_getElem hlt]; rfl)
   generalize l.getD j 0=y at *
   have hy:=byte_wrap y
   clear hcell
   go_wp2_with fail
   refine (mix_c _ _ hst (xor_lo _ _) (xor_hi _ _)).mono ?_
   rintro e w2 ⟨rfl,hb2⟩
   have hb3:=hb.trans (hb2.mono hb.size)
   clear hb hb2 hst c1
   go_wp2
   go_roundw
   case rel=>exact ⟨j+1,by omega,by go_num,by rw [← HS.out],hb3⟩
   case measure=>simp [intOf]; omega
  ·obtain rfl:j=l.length:=by omega
   go_wp2
   go_ret
   exact ⟨ret_int HI.out.symm,hb⟩
set_option maxRecDepth 100000 in
/-- block -/
theorem block_c (x:Int) (v:Value) (l:List UInt8) (w:World) (hv:RdB w w.heap.size v l) (x0:0≤x) (x1:x≤18446744073709551615) (hl:l.length≤1073741824) :
 Calls Tryz.prog 105 #[.int .u64 x,v] w fun e w'=>(∃ v',e=.returned v'∧w'.ownsRow w.heap.size 5 1 v' (numB l.length 4 ++ numB x.toNat 8 ++ l).length (byts (numB l.length 4 ++ numB x.toNat 8 ++ l)))∧Below w.heap.size w w':=by
 obtain ⟨a,c,rfl,hm,_,_⟩:=hv.open_
 have HV:=Lib.hid hv
 have H1:=Lib.hid (fun W (h:w.heap.size≤W.heap.size)=>number_i (.slice none 0 0) [] l.length l.length 4 w.heap.size 4 W rfl rfl (by simpa [byts] using World.ownsRow_nil W w.heap.size 5 1) h (by omega) (by omega) (by simp))
 have H2:=Lib.hid (fun v ys W hy (h:w.heap.size≤W.heap.size) hl=>number_i v ys x x.toNat 8 w.heap.size 8 W (by omega) rfl hy h (by omega) (by omega) hl)
 clear hv x0 x1
 go_enter Tryz.func105,Tryz.ntmps105
 go_wp2_with fail
 refine (H1.out _ (Nat.le_refl _)).mono ?_
 rintro e w1 ⟨⟨v1,rfl,hy1⟩,g1,_⟩
 go_wp2_with fail
 refine (H2.out _ _ _ hy1 g1.size (by simp [numB_length])).mono ?_
 rintro e w2 ⟨⟨v2,rfl,hy2⟩,g2,_⟩
 have G2:=g1.trans g2
 rw [List.nil_append] at hy2
 have hl2:(numB l.length 4 ++ numB x.toNat 8).length=12:=by rw [List.length_append,numB_length,numB_length]
 have HL2:=Lib.hid hl2
 clear H1 H2 g1 g2 hl2 hy1
 go_wp2_with (at_builtin; refine wpList_app rfl _ _ rfl w.heap.size _ _ (numB l.length 4 ++ numB x.toNat 8) rfl hy2 _ l rfl (HV.out.below G2) (by rw [HL2.out]; omega) G2.size ?_; intro v4 w4 hy4 g4)
 go_ret
 exact ⟨⟨v4,rfl,by rw [List.length_append (bs:=l)]; exact hy4⟩,G2.trans g4⟩
end Go.Proofs.YtbcfpdlhieaepaaGreatDoor
