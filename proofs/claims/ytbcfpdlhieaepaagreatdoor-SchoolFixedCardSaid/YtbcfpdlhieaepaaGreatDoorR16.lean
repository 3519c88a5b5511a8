/- The walks of refused, usable, Weight, Generation, Get. -/
import Derived.Test.YtbcfpdlhieaepaaGreatDoorR15
import Derived.Test.YtbcfpdlhieaepaaGreatDoorR10
import Derived.Maps.RangeWalk
import Derived.Sort.OwnSorted
import Derived.Test.YtbcfpdlhieaepaaGreatDoorR11
namespace Go.Proofs.YtbcfpdlhieaepaaGreatDoor
section
open Go.RowKit SeedP Go.Maps
set_option maxRecDepth 100000 in
/-- refused -/
theorem refused_c {jb db mb:Nat} {p:Nat→Prop} {s:JS} (w:World) (h:JW w jb db mb p s) :
 Calls Tryz.prog 94 #[.pointer (some ⟨jb,0,none⟩)] w fun e w'=>e=.returned (.int .i64 (if s.down then 360 else 0))∧w=w':=by
 obtain ⟨k0,k1,_,_,_,_,_,_⟩:=h.cells
 clear h
 generalize s.down=d at *
 cases d
 all_goals
  go_enter Tryz.func94,Tryz.ntmps94
  go_wp2
  go_ret
  exact ⟨rfl,rfl⟩
set_option maxRecDepth 100000 in
/-- usable -/
theorem usable_c {jb db mb:Nat} {p:Nat→Prop} {s:JS} (w:World) (h:JW w jb db mb p s) :
 Calls Tryz.prog 76 #[.pointer (some ⟨jb,0,none⟩)] w fun e w'=>e=.returned (.bool (!s.down))∧w=w':=by
 obtain ⟨k0,k1,_,_,_,_,_,_⟩:=h.cells
 clear h
 generalize s.down=d at *
 cases d
 all_goals
  go_enter Tryz.func76,Tryz.ntmps76
  go_wp2
  go_ret
  exact ⟨rfl,rfl⟩
set_option maxRecDepth 100000 in
/-- Get: a new slice -/
theorem get_c {jb db mb:Nat} {p:Nat→Prop} {s:JS} (k:List UInt8) (w:World) (h:JW w jb db mb p s) (hk:k.length≤140737488351232) :
 Calls Tryz.prog 40 #[.pointer (some ⟨jb,0,none⟩),strV k] w fun e w'=>(∃ v,e=.returned (.tuple #[v,.bool (!s.down && (pFind s.c.ents k).isSome)])∧w'.ownsRow w.heap.size 5 1 v (if s.down then [] else (pFind s.c.ents k).getD []).length (byts (if s.down then [] else (pFind s.c.ents k).getD [])))∧Below w.heap.size w w':=by
 obtain ⟨_,_,_,_,k4,_,_,_⟩:=h.cells
 have HU:=Lib.hid (usable_c w h)
 obtain ⟨L,hM,hE⟩:=h.map
 have hlook:=hM.look k (by unfold maxLen; omega)
 have hfind:pFind s.c.ents k=(eFind L k).map (·.bytes):=by rw [← hE]; exact EB_find L k
 have hval:∀ e,eFind L k=some e→RdB w w.heap.size e.val e.bytes∧e.bytes.length≤1073741824:=by
  intro e he
  have hm:=(eFind_mem he).1
  refine ⟨(hM.val e hm).toB,?_⟩
  have:=h.small.val (e.key,e.bytes) (by rw [← hE]; exact List.mem_map.2 ⟨e,hm,rfl⟩)
  simp only at this; omega
 rw [hfind]
 clear h hM hE hfind
 generalize s.down=d at *
 cases d
 ·cases hf:eFind L k with
  | none=>
    rw [hf] at hlook
    have HC:=Lib.hid (clone_c (.slice none 0 0) [] w.heap.size w (RdB.nil w _) (by simp) (Nat.le_refl _))
    simp only [Option.isSome_none,Option.map_none,Option.getD_none,Bool.not_false,Bool.true_and,Bool.false_eq_true,if_false] at hlook ⊢
    clear hval hf
    go_enter Tryz.func40,Tryz.ntmps40
    go_wp2_with fail
    refine HU.out.mono ?_
    rintro e w1 ⟨rfl,rfl⟩
    go_wp2_with fail
    refine HC.out.mono ?_
    rintro e w2 ⟨⟨v2,rfl,hy2⟩,hb2⟩
    go_wp2
    go_ret2
    exact ⟨⟨_,rfl,hy2⟩,hb2⟩
  | some e0=>
    rw [hf] at hlook
    obtain ⟨hr,hl⟩:=hval e0 hf
    have HC:=Lib.hid (clone_c e0.val e0.bytes w.heap.size w hr hl (Nat.le_refl _))
    simp only [Option.isSome_some,Option.map_some,Option.getD_some,Bool.not_false,Bool.true_and,Bool.false_eq_true,if_false] at hlook ⊢
    clear hval hf hr hl
    obtain ⟨key,val,bytes⟩:=e0
    simp only at hlook HC ⊢
    go_enter Tryz.func40,Tryz.ntmps40
    go_wp2_with fail
    refine HU.out.mono ?_
    rintro e w1 ⟨rfl,rfl⟩
    go_wp2_with fail
    refine HC.out.mono ?_
    rintro e w2 ⟨⟨v2,rfl,hy2⟩,hb2⟩
    go_wp2
    go_ret2
    exact ⟨⟨_,rfl,hy2⟩,hb2⟩
 ·clear hval hlook
  simp only [Bool.not_true,Bool.false_and,if_true]
  go_enter Tryz.func40,Tryz.ntmps40
  go_wp2_with fail
  refine HU.out.mono ?_
  rintro e w1 ⟨rfl,rfl⟩
  go_wp2
  go_ret2
  exact ⟨⟨_,rfl,by simpa [byts] using World.ownsRow_nil w w.heap.size 5 1⟩,Below.refl _ _⟩
end
section
open Go.RowKit SeedP Go.Maps Go.Shelf Go.Sort
/-- does p stand at the front of k -/
def isPref (p k:List UInt8):Bool:=decide (p.length≤k.length) && k.take p.length == p
set_option maxRecDepth 100000 in
theorem hasPrefixL_c (k p:List UInt8) (w:World) (hp:p.length≤140737488351232) :
 Calls Tryz.prog 126 #[strV k,strV p] w fun e w'=>e=.returned (.bool (isPref p k))∧w=w':=by
 have hks:(⟨k.toArray⟩:ByteArray).size=k.length:=by show k.toArray.size=_; simp
 have hps:(⟨p.toArray⟩:ByteArray).size=p.length:=by show p.toArray.size=_; simp
 by_cases hl:p.length≤k.length
 ·have hlb:(decide (p.length≤k.length))=true:=by simpa using hl
  have hl2:(p.length:Int)≤(k.length:Int):=by omega
  have h0:(0:Int)≤(p.length:Int):=by omega
  go_enter Tryz.func126,Tryz.ntmps126
  go_wp2
  go_ret
  refine ⟨?_,rfl⟩
  show Ending.returned (.bool (((⟨k.toArray⟩:ByteArray).extract 0 p.length).toList == p))=_
  have e:((⟨k.toArray⟩:ByteArray).extract 0 p.length).toList=k.take p.length:=by
   rw [ByteArray.toList_eq,Lib.extract_data]; simp
  rw [e]
  unfold isPref; rw [hlb,Bool.true_and]
 ·have hlb:(decide (p.length≤k.length))=false:=by simpa using hl
  go_enter Tryz.func126,Tryz.ntmps126
  go_wp2
  go_ret
  exact ⟨by unfold isPref; rw [hlb]; rfl,rfl⟩
set_option maxRecDepth 100000 in
theorem hasPrefix_c (k p:List UInt8) (w:World) (hp:p.length≤140737488351232) :
 Calls Tryz.prog 85 #[strV k,strV p] w fun e w'=>e=.returned (.bool (isPref p k))∧w=w':=by
 have HL:=Lib.hid (hasPrefixL_c k p w hp)
 clear hp
 generalize isPref p k=b at *
 go_enter Tryz.func85,Tryz.ntmps85
 go_wp2_with fail
 refine HL.out.mono ?_
 rintro e w1 ⟨rfl,rfl⟩
 go_wp2
 go_ret
 exact ⟨rfl,rfl⟩
theorem infoS:(Tryz.prog.info? 9).map (fun i=>(i.zero,i.size,i.bytes))=some (some (.string ⟨#[]⟩),1,16):=by kernel_rfl
theorem sort_filter {P:PEnts} (ho:Ordered P) {ss:List (List UInt8)} (h:ss.Perm (keysOf P)) (f:List UInt8→Bool):(ss.filter f).mergeSort (fun x y=>decide (x≤y))=(keysOf P).filter f:=by
 have e:=mergeSort_of_perm (h.filter f)
 have e2:(ss.filter f).mergeSort (fun x y=>decide (x≤y))=(ss.filter f).mergeSort Go.leB:=rfl
 rw [e2,e]
 refine List.mergeSort_of_pairwise ?_
 refine List.Pairwise.sublist List.filter_sublist ?_
 unfold keysOf
 rw [List.pairwise_map]
 refine ho.imp ?_
 intro a b hab
 simp only [Go.leB,decide_eq_true_eq]
 exact List.le_of_lt (blt_lt hab)
set_option maxRecDepth 100000 in
set_option maxHeartbeats 2000000 in
/-- Keys -/
theorem keysFn_c {jb db mb:Nat} {p:Nat→Prop} {s:JS} (pf:List UInt8) (w:World) (h:JW w jb db mb p s) (hpf:pf.length≤140737488351232) :
 Calls Tryz.prog 48 #[.pointer (some ⟨jb,0,none⟩),strV pf] w fun e w'=>∃ v,e=.returned v ∧
  w'.ownsRow w.heap.size 9 1 v (if s.down then [] else (keysOf s.c.ents).filter (isPref pf)).length ((if s.down then [] else (keysOf s.c.ents).filter (isPref pf)).map strV)∧Below w.heap.size w w':=by
 obtain ⟨i0,hi,hz0,hz1,hz2⟩:=info_parts infoS
 have k4:=h.cells.2.2.2.2.1
 have HU:=Lib.hid (usable_c w h)
 obtain ⟨L,hM,hE⟩:=h.map
 have hown:=hM.own
 have hml:=hM.lt
 have hll:L.length≤131072:=by
  have h1:=pWt_len s.c.ents
  have h2:=h.ok.wt
  have h3:=h.ok.max
  have:L.length=s.c.ents.length:=by rw [← hE,EB_length]
  omega
 have HS:=Lib.hid (And.intro h.ord (And.intro h.small hE))
 clear h hM
 generalize s.down=d at *
 cases d
 ·simp only [Bool.false_eq_true,if_false]
  go_enter Tryz.func48,Tryz.ntmps48
  go_wp2_with fail
  refine HU.out.mono ?_
  rintro e w1 ⟨rfl,rfl⟩
  clear HU
  go_wp2_with (first
   | (at_range; refine wpList_range_own _ rfl _ 98 rfl 9 _ keyed Tryz.underlying98 _ mb _ _ rfl hown ?_; intro w0 hrg0 hg0 hs0)
   | fail)
  go_frame
  generalize hF:isPref pf=f at *
  have HFF:=Lib.hid hF
  clear hF
  have hsz0:Maps.size (toD L)=L.length:=toD_size L
  go_loopw [5] (fun v wr=>∃ (left:Lit→Bool) (cnt:Nat) (ss:List (List UInt8)),wr.ranges Tryz.prog 9 tokR mb w.heap.size L.length (toD L) left cnt∧ss.length+cnt≤L.length ∧
   wr.ownsRow w.heap.size 9 1 v (ss.filter f).length ((ss.filter f).map encStr)∧Collected (toD L) left ss∧Below w.heap.size w wr)
   (fun _ wr=>wr.rangeLeft mb w.heap.size)
  case atStart=>
   exact ⟨_,_,[],hrg0,by rw [hsz0]; simp,by simpa using World.ownsRow_nil w0 w.heap.size 9 1,Collected.start _,(Below.refl _ _).grown hg0 (Nat.le_refl _) (fun j hj=>by cases hj)⟩
  case round=>
   obtain ⟨left,cnt,ss,hrg,hcs,hrow,hC,hnx⟩:=hrel
   go_wp2_with (first
    | (at_next; refine wpList_next_ranges _ rfl _ rfl 9 keyed tokR encStr (fun v:Value=>v) (fun key kl hk=>by obtain ⟨x,hx,_⟩:=Maps.keyOf_str Tryz.underlying9 hk; exact ⟨x,hx⟩) (fun v y hv=>⟨v,rfl⟩) mb w.heap.size L.length _ _ _ rfl hrg ?_ ?_)
    | fail)
   ·intro hc0 hl0
    have hperm:=hC.perm hown keyed Tryz.underlying9 hl0
    rw [strKeys_toD,hE] at hperm
    have HSF:=Lib.hid (sort_filter HS.out.1 hperm f)
    have hfl:(ss.filter f).length=((keysOf s.c.ents).filter f).length:=(hperm.filter f).length_eq
    rcases hrow.2 with ⟨rfl,hx⟩ | ⟨g,cap,cur,rfl,hbase,hb,h1,h2,h3,h4⟩
    ·have hnil:ss.filter f=[]:=by simpa using hx
     have HSN:=Lib.hid (AnyM.slices_Sort_string_none Tryz.sort86 none 0 wr)
     have hk0:(keysOf s.c.ents).filter f=[]:=by
      rw [hnil] at hfl
      exact List.eq_nil_of_length_eq_zero (by simpa using hfl.symm)
     have HK0:=Lib.hid hk0
     have HNX:=Lib.hid hnx
     clear hrow hperm hfl hx hnil hk0 hcs hC hrg hrg0 hg0 hs0
     go_wp2_with (first | (go_at_call 86; refine HSN.out.mono ?_; rintro e w' ⟨rfl,rfl⟩) | fail)
     go_ret
     refine ⟨_,rfl,?_,HNX.out⟩
     rw [HFF.out,HK0.out]
     simpa using World.ownsRow_nil w' w.heap.size 9 1
    ·have hH:Holds encStr wr g 0 (ss.filter f).toArray:=holds_of_block hb (by simpa using h4)
     have hgl:g < wr.heap.size:=(Array.getElem?_eq_some_iff.1 hb).1
     have hfl2:(ss.filter f).length≤ss.length:=List.length_filter_le _ _
     have HSN:=Lib.hid (AnyM.slices_Sort_string Tryz.sort86 g 0 cap (ss.filter f) wr hH hgl (by omega))
     have HFI:=Lib.hid (fun (nn:Nat) (os:Array Obj)=>And.intro (ownsRow_sorted (n:=nn) (os:=os) (ss:=ss.filter f) (ts:=(ss.filter f).mergeSort (fun x y=>decide (x≤y))) (by simp) hbase hb h1 h2 h3) (hnx.grown (grownBy_sorted (n:=nn) (os:=os) ((ss.filter f).mergeSort (fun x y=>decide (x≤y))).toArray) hnx.size (fun j hj=>by cases hj; exact hbase)))
     have HFL:=Lib.hid hfl
     clear hrow hperm hfl hfl2 hH hb h1 h2 h3 h4 hcs hC hrg hrg0 hg0 hs0
     go_wp2_with (first | (go_at_call 86; refine HSN.out.mono ?_; rintro e w' ⟨rfl,nn,os,rfl⟩) | fail)
     go_ret
     have hfi:=HFI.out nn os
     rw [HSF.out] at hfi
     refine ⟨_,rfl,?_,?_⟩
     ·rw [HFF.out,← HFL.out,HSF.out]; exact hfi.1
     ·rw [HSF.out]; exact hfi.2
   ·intro x c kl yd yp w2 cnt2 hkey hlk hv hat hrg2 hlt hg2 hs2 hen
    obtain ⟨x',ex,rfl,_⟩:=Maps.keyOf_str Tryz.underlying9 hkey
    obtain rfl:x=x':=encStr_inj ex
    have hrow2:=hrow.kept hg2 (Or.inr (row_ne_iter hrow hrg).symm)
    have hC2:=hC.step hlk hat
    have hB2:Below w.heap.size w w2:=hnx.grown hg2 hnx.size (fun j hj=>by cases hj; exact Nat.le_refl _)
    have HP:=Lib.hid (hasPrefix_c x pf w2 hpf)
    rw [HFF.out] at HP
    have HLE:=Lib.hid (And.intro hrg.left_eq (And.intro hB2 hC2))
    clear hs2 hat hlk hkey hC ex
    cases hfx:f x with
    | false=>
      rw [hfx] at HP
      have hff:(ss ++ [x]).filter f=ss.filter f:=by rw [List.filter_append]; simp [hfx]
      have HFX:=Lib.hid hff
      clear hff hfx
      go_wp2_with (first | (go_at_call 85; refine HP.out.mono ?_; rintro e w' ⟨rfl,rfl⟩) | fail)
      go_roundw
      case rel=>exact ⟨_,cnt2,ss ++ [x],hrg2,by simp; omega,by rw [HFX.out]; exact hrow2,HLE.out.2.2,HLE.out.2.1⟩
      case measure=>rw [hrg2.left_eq,HLE.out.1]; exact hlt
    | true=>
      rw [hfx] at HP
      have hff:(ss ++ [x]).filter f=ss.filter f ++ [x]:=by rw [List.filter_append]; simp [hfx]
      have HFX:=Lib.hid hff
      have hfl2:(ss.filter f).length≤ss.length:=List.length_filter_le _ _
      clear hff hfx
      have hz:=hB2.size
      go_wp2_with (first
       | (go_at_call 85; refine HP.out.mono ?_; rintro e w' ⟨rfl,rfl⟩)
       | (at_builtin; refine wpList_append_own _ rfl _ _ 42 rfl w.heap.size 9 i0 (.string ⟨#[]⟩) 1 16 Tryz.underlying42 hi hz0 hz1 hz2 rfl (by decide) _ _ _ rfl (hrow2.alloc _) ⟨w2.heap.size,0,none⟩ 1 1 [encStr x] rfl rfl (cell_one_new _ _ _) (by simp [Value.oneCell',encStr]) (by unfold maxLen; omega) (by omega) (by simp; omega) ?_; intro v' w3 hown' hg3 hnil3)
       | fail)
      have hrg3:=(hrg2.alloc _).kept hg3 (row_ne_low hrow2 hml) (row_ne_iter hrow2 hrg2)
      go_roundw
      case rel=>
       refine ⟨_,cnt2,ss ++ [x],hrg3,by simp; omega,?_,HLE.out.2.2,?_⟩
       ·rw [HFX.out]; simpa using hown'
       ·exact (HLE.out.2.1.alloc HLE.out.2.1.size _).grown hg3 (by simp; omega) (fun j hj=>(hrow2.lt j hj).1)
      case measure=>rw [hrg3.left_eq,HLE.out.1]; exact hlt
 ·simp only [if_true]
  go_enter Tryz.func48,Tryz.ntmps48
  go_wp2_with fail
  refine HU.out.mono ?_
  rintro e w1 ⟨rfl,rfl⟩
  go_wp2
  go_ret
  exact ⟨_,rfl,by simpa using World.ownsRow_nil w w.heap.size 9 1,Below.refl _ _⟩
end
section
open Go.RowKit SeedP Go.Maps
/-! ### a task as its value tells it -/
def rName (b:List UInt8):Option (List UInt8 × List UInt8):=
 match b with
 | []=>none
 | n :: r=>if r.length < n.toNat then none else some (r.take n.toNat,r.drop n.toNat)
def timelyB (t:TaskP):Bool:=isNameP t.cls && isNameP t.name && decide (0≤t.frm∧t.frm≤2147483647) && decide (0≤t.due∧t.due≤2147483647) && decide (0≤t.late∧t.late≤2147483647) && decide (t.frm≤t.due) && decide (t.due≤t.late) && decide (1≤t.tries) && decide (t.tries≤99)
theorem timelyB_iff (t:TaskP):timelyB t=true ↔ t.Fine:=by
 unfold timelyB
 simp only [Bool.and_eq_true,decide_eq_true_eq]
 constructor
 ·rintro ⟨⟨⟨⟨⟨⟨⟨⟨h1,h2⟩,h3⟩,h4⟩,h5⟩,h6⟩,h7⟩,h8⟩,h9⟩
  exact ⟨h1,h2,by omega,h6,h7,by omega,h8,h9⟩
 ·intro h
  have h1:=h.f0; have h2:=h.f1; have h3:=h.f2; have h4:=h.f3
  exact ⟨⟨⟨⟨⟨⟨⟨⟨h.cls,h.name⟩,by omega⟩,by omega⟩,by omega⟩,h2⟩,h3⟩,h.t0⟩,h.t1⟩
def readTaskP (b:List UInt8):Option TaskP:=
 if b.length < 13 then none else
 match rName (b.drop 13) with
 | none=>none
 | some (c,r)=>match rName r with
   | none=>none
   | some (n,body)=>
     let t:TaskP:=⟨c,n,numV (b.take 4),numV ((b.drop 4).take 4),numV ((b.drop 8).take 4),(b.getD 12 0).toNat,body⟩
     if timelyB t && decide (body.length≤4000) then some t else none
theorem rName_put (n r:List UInt8) (h:n.length≤255):rName (UInt8.ofNat n.length :: (n ++ r))=some (n,r):=by
 have e:(UInt8.ofNat n.length).toNat=n.length:=by rw [UInt8.toNat_ofNat']; omega
 unfold rName
 simp only [e]
 rw [if_neg (by rw [List.length_append]; omega),List.take_left,List.drop_left]
theorem numV_num (n:Nat) (h:n < 4294967296):numV (numB n 4)=n:=by rw [numV_numB]; exact Nat.mod_eq_of_lt h
theorem readTask_val {t:TaskP} (h:t.Fine) (hb:t.body.length≤4000):readTaskP (taskVal t)=some t:=by
 have hc:=isNameP_len h.cls
 have hn:=isNameP_len h.name
 have h0:=h.f0; have h1:=h.f1; have h2:=h.f2; have h3:=h.f3; have h4:=h.t0; have h5:=h.t1
 have hv:taskVal t=numB t.frm.toNat 4 ++ (numB t.due.toNat 4 ++ (numB t.late.toNat 4 ++ (UInt8.ofNat t.tries.toNat :: (UInt8.ofNat t.cls.length :: (t.cls ++ (UInt8.ofNat t.name.length :: (t.name ++ t.body))))))):=by
  unfold taskVal; simp [List.append_assoc]
 have l1:(numB t.frm.toNat 4).length=4:=numB_length _ _
 have l2:(numB t.due.toNat 4).length=4:=numB_length _ _
 have l3:(numB t.late.toNat 4).length=4:=numB_length _ _
 have hlen:¬ (taskVal t).length < 13:=by rw [hv]; simp only [List.length_append,List.length_cons,l1,l2,l3]; omega
 have d0:(taskVal t).take 4=numB t.frm.toNat 4:=by rw [hv,List.take_append_of_le_length (by omega),List.take_of_length_le (by omega)]
 have e4:(taskVal t).drop 4=numB t.due.toNat 4 ++ (numB t.late.toNat 4 ++ (UInt8.ofNat t.tries.toNat :: (UInt8.ofNat t.cls.length :: (t.cls ++ (UInt8.ofNat t.name.length :: (t.name ++ t.body)))))):=by
  rw [hv]; exact List.drop_left' l1
 have e8:(taskVal t).drop 8=numB t.late.toNat 4 ++ (UInt8.ofNat t.tries.toNat :: (UInt8.ofNat t.cls.length :: (t.cls ++ (UInt8.ofNat t.name.length :: (t.name ++ t.body))))):=by
  have:(taskVal t).drop 8=((taskVal t).drop 4).drop 4:=by rw [List.drop_drop]
  rw [this,e4]; exact List.drop_left' l2
 have e12:(taskVal t).drop 12=UInt8.ofNat t.tries.toNat :: (UInt8.ofNat t.cls.length :: (t.cls ++ (UInt8.ofNat t.name.length :: (t.name ++ t.body)))):=by
  have:(taskVal t).drop 12=((taskVal t).drop 8).drop 4:=by rw [List.drop_drop]
  rw [this,e8]; exact List.drop_left' l3
 have e13:(taskVal t).drop 13=UInt8.ofNat t.cls.length :: (t.cls ++ (UInt8.ofNat t.name.length :: (t.name ++ t.body))):=by
  have:(taskVal t).drop 13=((taskVal t).drop 12).drop 1:=by rw [List.drop_drop]
  rw [this,e12]; rfl
 have d4:((taskVal t).drop 4).take 4=numB t.due.toNat 4:=by rw [e4,List.take_append_of_le_length (by omega),List.take_of_length_le (by omega)]
 have d8:((taskVal t).drop 8).take 4=numB t.late.toNat 4:=by rw [e8,List.take_append_of_le_length (by omega),List.take_of_length_le (by omega)]
 have d12:(taskVal t).getD 12 0=UInt8.ofNat t.tries.toNat:=by
  have h6:=congrArg (fun l=>l.head?) e12
  simp only [List.head?_drop,List.head?_cons] at h6
  rw [List.getD_eq_getElem?_getD,h6]; rfl
 have et:((UInt8.ofNat t.tries.toNat).toNat:Int)=t.tries:=by rw [UInt8.toNat_ofNat']; omega
 have ef:((numV (numB t.frm.toNat 4):Nat):Int)=t.frm:=by rw [numV_num _ (by omega)]; omega
 have ed:((numV (numB t.due.toNat 4):Nat):Int)=t.due:=by rw [numV_num _ (by omega)]; omega
 have el:((numV (numB t.late.toNat 4):Nat):Int)=t.late:=by rw [numV_num _ (by omega)]; omega
 unfold readTaskP
 rw [if_neg hlen,e13,rName_put _ _ (by omega)]
 simp only
 rw [rName_put _ _ (by omega)]
 simp only
 rw [d0,d4,d8,d12,et,ef,ed,el]
 have hf:timelyB t=true:=(timelyB_iff t).2 h
 have hcond:(timelyB t && decide (t.body.length≤4000))=true:=by rw [hf,Bool.true_and]; exact decide_eq_true hb
 exact if_pos hcond
/-! ### the methods -/
def addClassP (c:List UInt8) (s:JS):JS × Int:=
 if s.down then (s,360) else if isNameP c=false then (s,2) else if (pFind s.c.ents (ckey c)).isSome then (s,371) else jCommit [⟨ckey c,[],false⟩] s
def enrollP (c st:List UInt8) (s:JS):JS × Int:=
 if s.down then (s,360) else if (isNameP c && isNameP st)=false then (s,2) else if (pFind s.c.ents (ckey c)).isSome=false then (s,6) else if (pFind s.c.ents (mkey c st)).isSome then (s,371) else jCommit [⟨mkey c st,[],false⟩] s
def leaveP (c st:List UInt8) (s:JS):JS × Int:=
 if s.down then (s,360) else if (isNameP c && isNameP st)=false then (s,2) else if (pFind s.c.ents (mkey c st)).isSome=false then (s,6) else jCommit [⟨mkey c st,[],true⟩] s
def tasksN (P:PEnts):Nat:=((keysOf P).filter (isPref [116])).length
def addTaskP (t:TaskP) (s:JS):JS × Nat × Int:=
 if s.down then (s,0,360) else if timelyB t=false then (s,0,2) else if 4000 < t.body.length then (s,0,3) else if (pFind s.c.ents (ckey t.cls)).isSome=false then (s,0,6) else
 if 9999 < tasksN s.c.ents+1 then (s,0,5) else
 let r:=jCommit [⟨tkey (tasksN s.c.ents+1),taskVal t,false⟩] s
 if r.2=0 then (r.1,tasksN s.c.ents+1,0) else (r.1,0,r.2)
/-- the entries of a school that has not lost its power -/
def JS.taskP (s:JS) (id:Int):Option TaskP:=
 if s.down∨id < 1∨9999 < id then none else match pFind s.c.ents (tkey id.toNat) with
 | none=>none
 | some v=>readTaskP v
def JS.extP (s:JS) (id:Int) (st:List UInt8):Nat:=
 if s.down∨id < 1∨9999 < id∨isNameP st=false then 0 else match pFind s.c.ents (xkey id.toNat st) with
 | none=>0
 | some v=>numV (v.take 4)
/-- the attempts from the n-th on, at most k of them -/
def attsFrom (P:PEnts) (id:Nat) (st:List UInt8):Nat→Nat→List (Nat × List UInt8)
 | _,0=>[]
 | n,k+1=>match pFind P (akey id st n) with
   | none=>[]
   | some v=>(numV (v.take 4),v.drop 4) :: attsFrom P id st (n+1) k
def JS.attsP (s:JS) (id:Int) (st:List UInt8):List (Nat × List UInt8):=
 match s.taskP id with
 | none=>[]
 | some t=>if isNameP st=false then [] else attsFrom s.c.ents id.toNat st 1 t.tries.toNat
/-- a task, if a student is in its class -/
def JS.taskOfP (s:JS) (id:Int) (st:List UInt8):Option TaskP:=
 match s.taskP id with
 | none=>none
 | some t=>if (pFind s.c.ents (mkey t.cls st)).isSome then some t else none
def extendP (id:Int) (st:List UInt8) (more:Int) (s:JS):JS × Int:=
 if s.down then (s,360) else if isNameP st=false∨more < 0∨1048576 < more then (s,2) else match s.taskOfP id st with
 | none=>(s,6)
 | some _=>if 0 < more then jCommit [⟨xkey id.toNat st,numB more.toNat 4,false⟩] s else if (pFind s.c.ents (xkey id.toNat st)).isSome then jCommit [⟨xkey id.toNat st,[],true⟩] s else (s,0)
def submitP (id:Int) (st:List UInt8) (now:Int) (tx:List UInt8) (s:JS):JS × Nat × Int:=
 if s.down then (s,0,360) else if isNameP st=false∨now < 0∨2147483647 < now then (s,0,2) else if 4000 < tx.length then (s,0,3) else match s.taskOfP id st with
 | none=>(s,0,6)
 | some t=>
   let l:=s.attsP id st
   if now < t.frm∨(∃ x,l.getLast?=some x∧now < (x.1:Int)) then (s,0,372) else
   if t.late+s.extP id st < now then (s,0,373) else if t.tries≤l.length then (s,0,374) else
   let r:=jCommit [⟨akey id.toNat st (l.length+1),numB now.toNat 4 ++ tx,false⟩] s
   if r.2=0 then (r.1,l.length+1,0) else (r.1,0,r.2)
end
end Go.Proofs.YtbcfpdlhieaepaaGreatDoor
