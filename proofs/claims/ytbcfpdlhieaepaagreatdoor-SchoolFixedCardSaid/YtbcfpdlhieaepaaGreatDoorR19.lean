/- The walks of the school's small functions: names, times, digits, keys; strings.Cut at a space. -/
import Derived.Test.YtbcfpdlhieaepaaGreatDoorR03
import Derived.Test.YtbcfpdlhieaepaaGreatDoorR17
import Derived.Lib.Bytealg
import Derived.Deep.QuietTactic
import Derived.BigQuiet
namespace Go.Proofs.YtbcfpdlhieaepaaGreatDoor
open Go.RowKit SeedP Go.Maps
theorem str_size (l:List UInt8):(⟨l.toArray⟩:ByteArray).size=l.length:=by show l.toArray.size=_; simp
/-- a byte's place among letters and digits -/
def AlF (c:Int) (r b1 b2 b3 b4 b5 b6:Bool):Prop:=(decide (97≤c) && decide (c≤122) || decide (65≤c) && decide (c≤90) || decide (48≤c) && decide (c≤57))=r∧decide (c < 97)=b1∧decide (122 < c)=b2∧decide (c < 65)=b3∧decide (90 < c)=b4∧decide (c < 48)=b5∧decide (57 < c)=b6
theorem al_int (c:Int):AlF c false true false true false true false∨AlF c true true false true false false false∨AlF c false true false true false false true∨AlF c true true false false false false true∨AlF c false true false false true false true∨AlF c true false false false true false true∨AlF c false false true false true false true:=by
 unfold AlF
 by_cases h1:c < 48
 ·left; simp; omega
 by_cases h2:c≤57
 ·right; left; simp; omega
 by_cases h3:c < 65
 ·right; right; left; simp; omega
 by_cases h4:c≤90
 ·right; right; right; left; simp; omega
 by_cases h5:c < 97
 ·right; right; right; right; left; simp; omega
 by_cases h6:c≤122
 ·right; right; right; right; right; left; simp; omega
 ·right; right; right; right; right; right; simp; omega
theorem isAl_int (c:UInt8):isAl c=(decide (97≤(c.toNat:Int)) && decide ((c.toNat:Int)≤122) || decide (65≤(c.toNat:Int)) && decide ((c.toNat:Int)≤90) || decide (48≤(c.toNat:Int)) && decide ((c.toNat:Int)≤57)):=by
 have h:∀ a b:Nat,decide ((a:Int)≤(b:Int))=decide (a≤b):=fun a b=>decide_eq_decide.2 Int.ofNat_le
 have h':∀ b:Nat,decide ((97:Int)≤(b:Int))=decide (97≤b):=fun b=>h 97 b
 have h2:∀ b:Nat,decide ((b:Int)≤122)=decide (b≤122):=fun b=>h b 122
 have h3:∀ b:Nat,decide ((65:Int)≤(b:Int))=decide (65≤b):=fun b=>h 65 b
 have h4:∀ b:Nat,decide ((b:Int)≤90)=decide (b≤90):=fun b=>h b 90
 have h5:∀ b:Nat,decide ((48:Int)≤(b:Int))=decide (48≤b):=fun b=>h 48 b
 have h6:∀ b:Nat,decide ((b:Int)≤57)=decide (b≤57):=fun b=>h b 57
 rw [h',h2,h3,h4,h5,h6]; rfl
theorem isName_snoc (s:ByteArray) (j:Nat) (h:j < s.size):(s.data.toList.take (j+1)).all isAl=((s.data.toList.take j).all isAl && isAl s[j]):=by
 rw [take_snoc s j h,List.all_append]
 simp
theorem isName_bad (s:ByteArray) (j:Nat) (h:j < s.size) (hb:isAl s[j]=false):isNameP s.data.toList=false:=by
 have hm:s[j] ∈ s.data.toList:=by
  have:s.data.toList[j]'(by simpa using h)=s[j]:=rfl
  rw [← this]; exact List.getElem_mem _
 have:s.data.toList.all isAl=false:=by
  rw [List.all_eq_false]
  exact ⟨_,hm,by rw [hb]; simp⟩
 unfold isNameP
 rw [this]; simp
set_option maxRecDepth 100000 in
set_option maxHeartbeats 1000000 in
/-- isName -/
theorem isName_b (s:ByteArray) (w:World):Calls Tryz.prog 46 #[.string s] w fun e w'=>e=.returned (.bool (isNameP s.data.toList))∧w'=w:=by
 have hun:undef=Value.tuple #[]:=rfl
 have hl:s.data.toList.length=s.size:=by simp
 by_cases h1:s.size < 1
 ·have HF:Hid (isNameP s.data.toList=false):=Lib.hid (by unfold isNameP; rw [decide_eq_false (by omega)]; simp)
  have b1:decide ((s.size:Int) < 1)=true:=decide_eq_true (by omega)
  clear hl
  go_enter Tryz.func46,Tryz.ntmps46
  go_wp2
  go_ret
  exact ⟨by rw [HF.out]; rfl,rfl⟩
 by_cases h2:16 < s.size
 ·have HF:Hid (isNameP s.data.toList=false):=Lib.hid (by unfold isNameP; rw [decide_eq_false (show ¬ s.data.toList.length≤16 by omega)]; simp)
  have b1:decide ((s.size:Int) < 1)=false:=decide_eq_false (by omega)
  have b2:decide ((16:Int) < s.size)=true:=decide_eq_true (by omega)
  clear hl
  go_enter Tryz.func46,Tryz.ntmps46
  go_wp2
  go_ret
  exact ⟨by rw [HF.out]; rfl,rfl⟩
 have b1:decide ((s.size:Int) < 1)=false:=decide_eq_false (by omega)
 have b2:decide ((16:Int) < s.size)=false:=decide_eq_false (by omega)
 have HL:=Lib.hid (And.intro hl (And.intro h1 h2))
 have hle:s.size≤16:=by omega
 clear h1 h2 hl
 go_enter Tryz.func46,Tryz.ntmps46
 go_wp2
 go_loopw [15] (fun i wr=>∃ j:Nat,j≤s.size∧i=.int .i64 j∧(s.data.toList.take j).all isAl=true∧wr=w) (fun i _=>s.size - (intOf i).toNat)
 case atStart=>exact ⟨0,Nat.zero_le _,rfl,by simp,rfl⟩
 case round=>
  obtain ⟨j,hj,rfl,ha,rfl⟩:=hrel
  have HA:=Lib.hid ha
  clear ha
  by_cases hlt:j < s.size
  ·have t1:decide ((j:Int) < (s.size:Int))=true:=decide_eq_true (by omega)
   have t2:(j:Int) < (s.size:Int):=by omega
   have HN:=Lib.hid (isName_snoc s j hlt)
   have HB:=Lib.hid (isName_bad s j hlt)
   go_upto_region 7 with (fail)
   generalize s[j]=c at *
   have e0:=isAl_int c
   rcases al_int c.toNat with ⟨ha,c1,c2,c3,c4,c5,c6⟩ | ⟨ha,c1,c2,c3,c4,c5,c6⟩ | ⟨ha,c1,c2,c3,c4,c5,c6⟩ | ⟨ha,c1,c2,c3,c4,c5,c6⟩ | ⟨ha,c1,c2,c3,c4,c5,c6⟩ | ⟨ha,c1,c2,c3,c4,c5,c6⟩ | ⟨ha,c1,c2,c3,c4,c5,c6⟩
   all_goals
    have HA2:=Lib.hid (e0.trans ha)
    clear ha e0
    go_wp2
    first
     | (go_ret; exact ⟨by rw [HB.out HA2.out]; rfl,rfl⟩)
     | (go_roundw
        case rel=>exact ⟨j+1,by omega,by go_num,by rw [HN.out,HA.out,HA2.out]; rfl,by first | trivial | rfl⟩
        case measure=>simp [intOf]; omega)
  ·obtain rfl:j=s.size:=by omega
   have t1:decide ((s.size:Int) < (s.size:Int))=false:=by simp
   have HF:Hid (isNameP s.data.toList=true):=Lib.hid (by
    obtain ⟨hl,h1,h2⟩:=HL.out
    unfold isNameP
    rw [decide_eq_true (show 1≤s.data.toList.length by omega),decide_eq_true (show s.data.toList.length≤16 by omega)]
    have:=HA.out
    rw [List.take_of_length_le (by omega)] at this
    rw [this]; rfl)
   go_wp2
   go_ret
   exact ⟨by rw [HF.out]; rfl,rfl⟩
theorem isName_c (s:List UInt8) (w:World):Calls Tryz.prog 46 #[strV s] w fun e w'=>e=.returned (.bool (isNameP s))∧w'=w:=by
 have:=isName_b ⟨s.toArray⟩ w
 simpa using this
set_option maxRecDepth 100000 in
/-- isTime -/
theorem isTime_c (n:Int) (w:World):Calls Tryz.prog 54 #[.int .i64 n] w fun e w'=>e=.returned (.bool (decide (0≤n∧n≤2147483647)))∧w'=w:=by
 have hun:undef=Value.tuple #[]:=rfl
 by_cases h0:0≤n
 ·by_cases h1:n≤2147483647
  ·have HD:Hid (decide (0≤n∧n≤2147483647)=true):=Lib.hid (decide_eq_true ⟨h0,h1⟩)
   have b0:decide (0≤n)=true:=decide_eq_true h0
   have b1:decide (n≤2147483647)=true:=decide_eq_true h1
   clear h0 h1
   go_enter Tryz.func54,Tryz.ntmps54
   go_wp2
   go_ret
   exact ⟨by rw [HD.out]; rfl,rfl⟩
  ·have HD:Hid (decide (0≤n∧n≤2147483647)=false):=Lib.hid (decide_eq_false (fun h=>h1 h.2))
   have b0:decide (0≤n)=true:=decide_eq_true h0
   have b1:decide (n≤2147483647)=false:=decide_eq_false h1
   clear h0 h1
   go_enter Tryz.func54,Tryz.ntmps54
   go_wp2
   go_ret
   exact ⟨by rw [HD.out]; rfl,rfl⟩
 ·have HD:Hid (decide (0≤n∧n≤2147483647)=false):=Lib.hid (decide_eq_false (fun h=>h0 h.1))
  have b0:decide (0≤n)=false:=decide_eq_false h0
  clear h0
  go_enter Tryz.func54,Tryz.ntmps54
  go_wp2
  go_ret
  exact ⟨by rw [HD.out]; rfl,rfl⟩
theorem extr (l:List UInt8) (a b:Nat):(⟨l.toArray⟩:ByteArray).extract a b=⟨((l.take b).drop a).toArray⟩:=by
 apply ByteArray.ext
 apply Array.toList_inj.1
 rw [Lib.extract_data]
 simp [List.drop_take]
/-! ### strings.Cut at a space -/
theorem idx_cut (l:List UInt8):(Lib.indexByte l 32= -1∧cutP l=(l,[],false))∨(∃ i:Nat,i < l.length∧Lib.indexByte l 32=i∧cutP l=(l.take i,l.drop (i+1),true)):=by
 induction l with
 | nil=>exact Or.inl ⟨rfl,rfl⟩
 | cons c r ih=>
   by_cases hc:c=32
   ·subst hc
    exact Or.inr ⟨0,by simp,rfl,rfl⟩
   ·have hcb:(c == 32)=false:=beq_eq_false_iff_ne.2 hc
    rcases ih with ⟨h1,h2⟩ | ⟨i,h0,h1,h2⟩
    ·left
     refine ⟨?_,?_⟩
     ·rw [Lib.indexByte,hcb,h1]; rfl
     ·rw [cutP,if_neg hc,h2]
    ·right
     refine ⟨i+1,by simp; omega,?_,?_⟩
     ·rw [Lib.indexByte,hcb,h1]
      have:((i:Int) == -1)=false:=beq_eq_false_iff_ne.2 (by omega)
      rw [this]; simp
     ·rw [cutP,if_neg hc,h2]; rfl
set_option maxRecDepth 100000 in
theorem indexByteL_c (l:List UInt8) (w:World):Calls Tryz.prog 191 #[strV l,.int .u8 32] w fun e w'=>e=.returned (.int .i64 (Lib.indexByte l 32))∧w'=w:=by
 have hr:∀ w,(callFunc 197 #[strV l,.int .u8 32]).run Tryz.prog w=.ok (.value (.int .i64 (Lib.indexByte l 32))) w:=by
  intro w
  rw [run_callFunc_extern Tryz.func197 (by kernel_rfl) (by kernel_rfl) (by kernel_rfl) (e:=Extern.BytealgIndexByte.indexByte) (by kernel_rfl),Lib.run_indexByteString]
  rfl
 generalize Lib.indexByte l 32=x at *
 go_enter Tryz.func191,Tryz.ntmps191
 go_wp2
 go_ret
 exact ⟨rfl,rfl⟩
set_option maxRecDepth 100000 in
theorem index_c (l:List UInt8) (w:World):Calls Tryz.prog 174 #[strV l,.string ⟨#[32]⟩] w fun e w'=>e=.returned (.int .i64 (Lib.indexByte l 32))∧w'=w:=by
 have hun:undef=Value.tuple #[]:=rfl
 cases hq:([32]:List UInt8) == l with
 | true=>
   have hl:l=[32]:=by simpa using (beq_iff_eq.1 hq).symm
   subst hl
   clear hq
   go_enter Tryz.func174,Tryz.ntmps174
   go_wp2
   go_ret
   exact ⟨rfl,rfl⟩
 | false=>
   have H:=Lib.hid (indexByteL_c l w)
   generalize Lib.indexByte l 32=x at *
   go_enter Tryz.func174,Tryz.ntmps174
   go_wp2_with fail
   refine H.out.mono ?_
   rintro e w1 ⟨rfl,rfl⟩
   go_wp2
   go_ret
   exact ⟨rfl,rfl⟩
set_option maxRecDepth 100000 in
set_option maxHeartbeats 1000000 in
theorem cutL_c (l:List UInt8) (w:World) (hm:l.length≤maxLen):Calls Tryz.prog 149 #[strV l,.string ⟨#[32]⟩] w fun e w'=>e=.returned (.tuple #[strV (cutP l).1,strV (cutP l).2.1,.bool (cutP l).2.2])∧Below w.heap.size w w':=by
 have H:=Lib.hid (index_c l w)
 have hsz:=str_size l
 have W0:=Lib.hid (Below.refl w.heap.size w)
 unfold maxLen at hm
 rcases idx_cut l with ⟨h1,h2⟩ | ⟨i,h0,h1,h2⟩
 ·rw [h1] at H
  have HC:=Lib.hid h2
  clear h1 h2
  go_enter Tryz.func149,Tryz.ntmps149
  go_wp2_with fail
  refine H.out.mono ?_
  rintro e w1 ⟨rfl,rfl⟩
  go_wp2
  refine bodyPost_ret (v:=.tuple #[strV l,.string ⟨#[]⟩,.bool false]) (by simp [results,Tryz.results149,go_sem]) rfl ?_
  rw [HC.out]
  exact ⟨rfl,W0.out⟩
 ·rw [h1] at H
  have HC:=Lib.hid h2
  have b0:decide ((0:Int)≤(i:Int))=true:=decide_eq_true (by omega)
  have i0:(0:Int)≤(i:Int):=by omega
  have i1:(i:Int)≤(l.length:Int):=by omega
  have i2:(i:Int)+1≤(l.length:Int):=by omega
  clear h1 h2
  go_enter Tryz.func149,Tryz.ntmps149
  go_wp2_with fail
  refine H.out.mono ?_
  rintro e w1 ⟨rfl,rfl⟩
  go_wp2
  go_quiet (fail)
  have e1:(⟨l.toArray⟩:ByteArray).extract 0 i=⟨(l.take i).toArray⟩:=by rw [extr]; rfl
  have e2:(⟨l.toArray⟩:ByteArray).extract (i+1) l.length=⟨(l.drop (i+1)).toArray⟩:=by rw [extr,List.take_length]
  rw [e1,e2]
  go_wp2
  refine bodyPost_ret (v:=.tuple #[strV (l.take i),strV (l.drop (i+1)),.bool true]) (by simp [results,Tryz.results149,go_sem]) rfl ?_
  rw [HC.out]
  exact ⟨rfl,below_drewN W0.out nq⟩
set_option maxRecDepth 100000 in
/-- strings.Cut at a space -/
theorem cut_c (l:List UInt8) (w:World) (hm:l.length≤maxLen):Calls Tryz.prog 122 #[strV l,.string ⟨#[32]⟩] w fun e w'=>e=.returned (.tuple #[strV (cutP l).1,strV (cutP l).2.1,.bool (cutP l).2.2])∧Below w.heap.size w w':=by
 have H:=Lib.hid (cutL_c l w hm)
 generalize (cutP l).1=x1 at *
 generalize (cutP l).2.1=x2 at *
 generalize (cutP l).2.2=x3 at *
 clear hm
 go_enter Tryz.func122,Tryz.ntmps122
 go_wp2_with fail
 refine H.out.mono ?_
 rintro e w1 ⟨rfl,hb⟩
 go_wp2
 refine bodyPost_ret (v:=.tuple #[strV x1,strV x2,.bool x3]) (by simp [results,Tryz.results122,go_sem]) rfl ?_
 exact ⟨rfl,hb⟩
/-! ### digits -/
theorem make_bytes (w:World) (n:Nat) (hn:n≤4294967296):(Instr.makeSlice 26 (.int .i64 (n:Int)) (.int .i64 (n:Int))).run Tryz.prog w=.ok (.slice (some ⟨w.heap.size,0,none⟩) n n) (w.alloc (.cells (byts (List.replicate n 0)).toArray 5)):=by
 obtain ⟨i,hi,hz,hs1,hby⟩:=info_parts infoB
 have h:=make_ints (P:=Tryz.prog) 26 5 i .u8 Tryz.underlying26 hi hz hs1 (by omega) n hn w
 rw [h]
 have e:ints .u8 (zeros n)=byts (List.replicate n 0):=by simp [ints,zeros,byts]
 rw [e]
set_option maxRecDepth 100000 in
set_option maxHeartbeats 1000000 in
/-- digits -/
theorem digits_c (n k:Nat) (w:World) (hn:n < 4611686018427387904) (hk:k≤1000):Calls Tryz.prog 87 #[.int .i64 n,.int .i64 k] w fun e w'=>e=.returned (strV (digP n k))∧Below w.heap.size w w':=by
 have hmk:=make_bytes w k (by omega)
 have HN:=Lib.hid hn
 clear hn
 go_enter Tryz.func87,Tryz.ntmps87
 go_wp2
 go_loopw [0,6] (fun nv iv wr=>∃ (j m:Nat) (tl:List UInt8),j≤k∧nv=.int .i64 m∧iv=.int .i64 ((j:Int) - 1)∧m < 4611686018427387904∧digP m j ++ tl=digP n k∧Blk wr w.heap.size 5 (byts (List.replicate j 0 ++ tl))∧Below w.heap.size w wr) (fun _ c _=>(intOf c+1).toNat)
 case atStart=>exact ⟨k,n,[],Nat.le_refl _,rfl,rfl,HN.out,by simp,by simpa using Blk.new w 5 (byts (List.replicate k 0)),(Below.refl _ _).alloc (Nat.le_refl _) _⟩
 case round=>
  obtain ⟨j,m,tl,hj,rfl,rfl,hm,hd,hB,hb⟩:=hrel
  have HD:=Lib.hid hd
  clear hd
  rcases j with _ | j
  ·rw [show ((0:Nat):Int) - 1= -1 by decide]
   have hlen:tl.length=k:=by have:=congrArg List.length HD.out; simpa [digP,digP_len] using this
   have hr:RdB wr wr.heap.size (.slice (some ⟨w.heap.size,0,none⟩) k k) tl:=by
    refine Or.inr ⟨w.heap.size,0,k,by rw [hlen],by omega,by unfold maxLen; omega,hB.lt,fun q hq=>?_⟩
    rw [Nat.zero_add,hB.cell q (by simpa [byts] using hq)]
    simp [byts,List.getD_eq_getElem?_getD,hq]
   have kc:=conv_c hr
   go_wp2
   go_ret
   refine ⟨?_,hb⟩
   have:tl=digP n k:=by simpa [digP] using HD.out
   rw [← this]; rfl
  ·rw [show ((j+1:Nat):Int) - 1=j by omega]
   have k0:=hB.cell j (by simp [byts]; omega)
   have f0:=hB.frozen j
   have hset:=hB.set j (.int .u8 (48+(m:Int) % 10))
   have hby:(48+(m:Int) % 10)=((UInt8.ofNat (48+m % 10)).toNat:Int):=by rw [dig_byte]; omega
   have e2:(byts (List.replicate (j+1) 0 ++ tl)).set j (.int .u8 (48+(m:Int) % 10))=byts (List.replicate j 0 ++ UInt8.ofNat (48+m % 10) :: tl):=by
    rw [hby]
    have e3:(List.replicate (j+1) (0:UInt8) ++ tl).set j (UInt8.ofNat (48+m % 10))=List.replicate j 0 ++ UInt8.ofNat (48+m % 10) :: tl:=by
     rw [List.replicate_succ',List.append_assoc,List.set_append_right _ _ (by simp)]
     simp
    rw [← e3]
    simp only [byts,List.map_set]
   rw [e2] at hset
   have HS:=Lib.hid hset
   have HB:=Lib.hid (hb.setCell (p:=⟨w.heap.size,j,none⟩) (Nat.le_refl _) (.int .u8 (48+(m:Int) % 10)))
   have HD2:=Lib.hid (show digP (m / 10) j ++ UInt8.ofNat (48+m % 10) :: tl=digP n k by rw [← HD.out,digP]; simp)
   clear e2 hset hby
   go_wp2
   go_roundw
   case rel=>exact ⟨j,m / 10,UInt8.ofNat (48+m % 10) :: tl,by omega,by go_num,rfl,by omega,HD2.out,HS.out,HB.out⟩
   case measure=>simp [intOf]
theorem digits_i (x:Int) (n k:Nat) (k':Int) (w:World) (hx:x=n) (hk':k'=k) (hn:n < 4611686018427387904) (hk:k≤1000):Calls Tryz.prog 87 #[.int .i64 x,.int .i64 k'] w fun e w'=>e=.returned (strV (digP n k))∧Below w.heap.size w w':=by
 subst hx hk'; exact digits_c n k w hn hk
/-! ### readDigits -/
theorem rdGo_le:∀ (l:List UInt8) (n m:Nat),n≤1048576→rdGo n l=some m→m≤1048576
 | [],n,m,h,e=>by cases e; exact h
 | c :: r,n,m,h,e=>by
   rw [rdGo] at e
   split at e
   ·exact rdGo_le r _ m (Nat.min_le_right _ _) e
   ·cases e
theorem rdGo_bad (s:ByteArray) (j n:Nat) (h:j < s.size) (hg:rdGo 0 (s.data.toList.take j)=some n) (hb:¬ (48≤s[j].toNat∧s[j].toNat≤57)):rdGo 0 s.data.toList=none:=by
 have e:s.data.toList=s.data.toList.take (j+1) ++ s.data.toList.drop (j+1):=(List.take_append_drop _ _).symm
 rw [e,rdGo_app,take_snoc s j h,rdGo_app,hg]
 simp only [Option.bind_some,rdGo]
 rw [if_neg hb]; rfl
theorem rdGo_next (s:ByteArray) (j n:Nat) (h:j < s.size) (hg:rdGo 0 (s.data.toList.take j)=some n) (hb:48≤s[j].toNat∧s[j].toNat≤57):rdGo 0 (s.data.toList.take (j+1))=some (min (10 * n+(s[j].toNat - 48)) 1048576):=by
 rw [take_snoc s j h,rdGo_app,hg]
 simp only [Option.bind_some,rdGo]
 rw [if_pos hb]
set_option maxRecDepth 100000 in
set_option maxHeartbeats 1000000 in
theorem readDigits_b (s:ByteArray) (k:Nat) (w:World) (hm:s.size≤1000000):Calls Tryz.prog 124 #[.string s,.int .i64 k] w fun e w'=>e=.returned (.tuple #[.int .i64 (rdDig s.data.toList k).1,.bool (rdDig s.data.toList k).2])∧w'=w:=by
 have hun:undef=Value.tuple #[]:=rfl
 have hl:s.data.toList.length=s.size:=by simp
 have HE:Hid (∀ n,rdGo 0 s.data.toList=some n→rdDig s.data.toList k=(n,((s.size:Int) == (k:Int)))):=Lib.hid (fun n hn=>by
  unfold rdDig
  rw [hn,hl]
  have:(s.size == k)=((s.size:Int) == (k:Int)):=by
   by_cases e:s.size=k
   ·subst e; simp
   ·rw [beq_eq_false_iff_ne.2 e,beq_eq_false_iff_ne.2 (by omega)]
  rw [this])
 have HZ:Hid (rdGo 0 s.data.toList=none→rdDig s.data.toList k=(0,false)):=Lib.hid (fun hn=>by unfold rdDig; rw [hn])
 clear hl
 go_enter Tryz.func124,Tryz.ntmps124
 go_wp2
 go_loopw [6,10] (fun nv iv wr=>∃ j n:Nat,j≤s.size∧nv=.int .i64 n∧iv=.int .i64 j∧n≤1048576∧rdGo 0 (s.data.toList.take j)=some n∧wr=w) (fun _ i _=>s.size - (intOf i).toNat)
 case atStart=>exact ⟨0,0,Nat.zero_le _,rfl,rfl,by omega,rfl,rfl⟩
 case round=>
  obtain ⟨j,n,hj,rfl,rfl,hn,hg,rfl⟩:=hrel
  have HG:=Lib.hid hg
  clear hg
  by_cases hlt:j < s.size
  ·have t1:decide ((j:Int) < (s.size:Int))=true:=decide_eq_true (by omega)
   have t2:(j:Int) < (s.size:Int):=by omega
   have HB:=Lib.hid (rdGo_bad s j n hlt HG.out)
   have HN:=Lib.hid (rdGo_next s j n hlt HG.out)
   have hc:=s[j].toNat_lt
   by_cases h1:s[j].toNat < 48
   ·have c1:decide ((s[j].toNat:Int) < 48)=true:=decide_eq_true (by omega)
    have c1':(s[j].toNat:Int) < 48:=by omega
    have HD:=Lib.hid (HZ.out (HB.out (by omega)))
    clear HB HN HZ HE
    go_wp2
    go_ret2
    exact ⟨by rw [HD.out]; rfl,rfl⟩
   ·have c1:decide ((s[j].toNat:Int) < 48)=false:=decide_eq_false (by omega)
    by_cases h2:57 < s[j].toNat
    ·have c2:decide ((57:Int) < s[j].toNat)=true:=decide_eq_true (by omega)
     have HD:=Lib.hid (HZ.out (HB.out (by omega)))
     clear HB HN HZ HE
     go_wp2
     go_ret2
     exact ⟨by rw [HD.out]; rfl,rfl⟩
    ·have c2:decide ((57:Int) < s[j].toNat)=false:=decide_eq_false (by omega)
     have HN2:=Lib.hid (HN.out (by omega))
     have c3:(48:Int)≤s[j].toNat:=by omega
     have c4:(s[j].toNat:Int)≤57:=by omega
     clear HB HN
     go_wp2
     go_roundw
     case rel=>exact ⟨j+1,min (10 * n+(s[j].toNat - 48)) 1048576,by omega,by go_num,by go_num,by omega,HN2.out,by first | trivial | rfl⟩
     case measure=>simp [intOf]; omega
  ·obtain rfl:j=s.size:=by omega
   have HD:=Lib.hid (HE.out n (by have:=HG.out; rw [List.take_of_length_le (by simp)] at this; exact this))
   clear HE HZ
   go_wp2
   go_ret2
   exact ⟨by rw [HD.out]; rfl,rfl⟩
theorem readDigits_c (l:List UInt8) (k:Nat) (w:World) (hm:l.length≤1000000):Calls Tryz.prog 124 #[strV l,.int .i64 k] w fun e w'=>e=.returned (.tuple #[.int .i64 (rdDig l k).1,.bool (rdDig l k).2])∧w'=w:=by
 have:=readDigits_b ⟨l.toArray⟩ k w (by rw [str_size]; exact hm)
 simpa using this
theorem rdDig_le (l:List UInt8) (k:Nat):(rdDig l k).1≤1048576:=by
 unfold rdDig
 cases h:rdGo 0 l with
 | none=>exact Nat.zero_le _
 | some n=>exact rdGo_le l 0 n (Nat.zero_le _) h
/-! ### keys -/
theorem app_str (a b:List UInt8):(⟨a.toArray⟩:ByteArray) ++ ⟨b.toArray⟩=⟨(a ++ b).toArray⟩:=by
 apply ByteArray.ext; simp
set_option maxRecDepth 100000 in
theorem classKey_c (l:List UInt8) (w:World) (hl:l.length≤1000000):Calls Tryz.prog 58 #[strV l] w fun e w'=>e=.returned (strV (ckey l))∧w'=w:=by
 have hs:=str_size l
 go_enter Tryz.func58,Tryz.ntmps58
 go_wp2
 go_ret
 refine ⟨?_,by first | trivial | rfl⟩
 show Ending.returned (.string ((⟨([99]:List UInt8).toArray⟩:ByteArray) ++ ⟨l.toArray⟩))=_
 rw [app_str]; rfl
set_option maxRecDepth 100000 in
theorem memberKey_c (c s:List UInt8) (w:World) (hc:c.length≤1000000) (hl:s.length≤1000000):Calls Tryz.prog 47 #[strV c,strV s] w fun e w'=>e=.returned (strV (mkey c s))∧w'=w:=by
 have hs:=str_size s
 have hs2:=str_size c
 go_enter Tryz.func47,Tryz.ntmps47
 go_wp2
 go_ret
 refine ⟨?_,by first | trivial | rfl⟩
 show Ending.returned (.string ((⟨([109]:List UInt8).toArray⟩:ByteArray) ++ ⟨c.toArray⟩ ++ ⟨([32]:List UInt8).toArray⟩ ++ ⟨s.toArray⟩))=_
 rw [app_str,app_str,app_str]
 simp [mkey]
set_option maxRecDepth 100000 in
theorem taskKey_c (id:Nat) (w:World) (hi:id < 4611686018427387904):Calls Tryz.prog 52 #[.int .i64 id] w fun e w'=>e=.returned (strV (tkey id))∧Below w.heap.size w w':=by
 have H:=Lib.hid (digits_i id id 4 4 w rfl rfl hi (by omega))
 have hd:=digP_len id 4
 unfold tkey
 generalize digP id 4=d at *
 have hs:=str_size d
 clear hi
 go_enter Tryz.func52,Tryz.ntmps52
 go_wp2_with fail
 refine H.out.mono ?_
 rintro e w1 ⟨rfl,hb⟩
 go_wp2
 go_ret
 refine ⟨?_,hb⟩
 show Ending.returned (.string ((⟨([116]:List UInt8).toArray⟩:ByteArray) ++ ⟨d.toArray⟩))=_
 rw [app_str]; rfl
set_option maxRecDepth 100000 in
theorem extensionKey_c (id:Nat) (s:List UInt8) (w:World) (hi:id < 4611686018427387904) (hl:s.length≤1000000):Calls Tryz.prog 49 #[.int .i64 id,strV s] w fun e w'=>e=.returned (strV (xkey id s))∧Below w.heap.size w w':=by
 have H:=Lib.hid (digits_i id id 4 4 w rfl rfl hi (by omega))
 have hd:=digP_len id 4
 unfold xkey
 generalize digP id 4=d at *
 have hs:=str_size d
 have hs2:=str_size s
 clear hi
 go_enter Tryz.func49,Tryz.ntmps49
 go_wp2_with fail
 refine H.out.mono ?_
 rintro e w1 ⟨rfl,hb⟩
 go_wp2
 go_ret
 refine ⟨?_,hb⟩
 show Ending.returned (.string ((⟨([120]:List UInt8).toArray⟩:ByteArray) ++ ⟨d.toArray⟩ ++ ⟨([32]:List UInt8).toArray⟩ ++ ⟨s.toArray⟩))=_
 rw [app_str,app_str,app_str]
 simp
set_option maxRecDepth 100000 in
theorem attemptKey_c (id:Nat) (s:List UInt8) (n:Nat) (w:World) (hi:id < 4611686018427387904) (hn:n < 4611686018427387904) (hl:s.length≤1000000):Calls Tryz.prog 51 #[.int .i64 id,strV s,.int .i64 n] w fun e w'=>e=.returned (strV (akey id s n))∧Below w.heap.size w w':=by
 have H:=Lib.hid (digits_i id id 4 4 w rfl rfl hi (by omega))
 have H2:=Lib.hid (fun w=>digits_i n n 2 2 w rfl rfl hn (by omega))
 have hd:=digP_len id 4
 have hd2:=digP_len n 2
 unfold akey
 generalize digP id 4=d at *
 generalize digP n 2=d2 at *
 have hs:=str_size d
 have hs3:=str_size d2
 have hs2:=str_size s
 clear hi hn
 go_enter Tryz.func51,Tryz.ntmps51
 go_wp2_with fail
 refine H.out.mono ?_
 rintro e w1 ⟨rfl,hb⟩
 go_wp2_with fail
 refine (H2.out w1).mono ?_
 rintro e w2 ⟨rfl,hb2⟩
 have hb3:=hb.trans (hb2.mono hb.size)
 clear hb hb2
 go_wp2
 go_ret
 refine ⟨?_,hb3⟩
 show Ending.returned (.string ((⟨([97]:List UInt8).toArray⟩:ByteArray) ++ ⟨d.toArray⟩ ++ ⟨([32]:List UInt8).toArray⟩ ++ ⟨s.toArray⟩ ++ ⟨([32]:List UInt8).toArray⟩ ++ ⟨d2.toArray⟩))=_
 rw [app_str,app_str,app_str,app_str,app_str]
 simp
end Go.Proofs.YtbcfpdlhieaepaaGreatDoor
