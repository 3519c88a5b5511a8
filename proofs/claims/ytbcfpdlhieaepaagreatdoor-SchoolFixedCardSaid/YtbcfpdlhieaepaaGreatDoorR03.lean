/- The walks of the reader: numbers and bytes from the front of a code. -/
import Derived.Test.YtbcfpdlhieaepaaGreatDoorR02
import Derived.RegionTactic
import Derived.OwnWalk
import Derived.Deep.DeepCutAuto
import Derived.Laws.IdiomStrings
import Derived.Lib.SliceRun
import Derived.Deep.RegionHeld3
namespace Go.Proofs.YtbcfpdlhieaepaaGreatDoor
section
open Go.RowKit SeedP
def rTake (n:Nat) (s:List UInt8 × Bool):List UInt8 × (List UInt8 × Bool):=if s.2=true∨s.1.length < n then ([],s.1,true) else (s.1.take n,s.1.drop n,false)
def numV (l:List UInt8):Nat:=l.foldl (fun n b=>n * 256+b.toNat) 0
def rNum (k:Nat) (s:List UInt8 × Bool):Nat × (List UInt8 × Bool):=(numV (rTake k s).1,(rTake k s).2)
def rKey (s:List UInt8 × Bool):List UInt8 × (List UInt8 × Bool):=rTake (rNum 1 s).1 (if (rNum 1 s).1 < 1∨40 < (rNum 1 s).1 then ((rNum 1 s).2.1,true) else (rNum 1 s).2)
def rVal (s:List UInt8 × Bool):List UInt8 × (List UInt8 × Bool):=rTake (rNum 2 s).1 (if 4096 < (rNum 2 s).1 then ((rNum 2 s).2.1,true) else (rNum 2 s).2)
/-- block r is a reader that has these bytes left, and has failed or not; its bytes lie below block B -/
def RdrAt (w:World) (r B:Nat) (s:List UInt8 × Bool):Prop:=∃ v,Blk w r 191 [v,.bool s.2]∧RdB w B v s.1
theorem grown_set (w:World) (r j:Nat) (v:Value):w.grownBy (w.setCell ⟨r,j,none⟩ v) (some r):=
 ⟨rfl,rfl,rfl,by simp,fun k _ hk=>Below.heap_setCell w _ v k (fun e=>hk (by rw [e]))⟩
theorem below_of_grown {B:Nat} {w w':World} {r:Nat} (h:w.grownBy w' (some r)) (hB:B≤r) (hB2:B≤w.heap.size):Below B w w':=(Below.refl _ _).grown h hB2 (fun k e=>by cases e; exact hB)
theorem RdB.take {w:World} {B g off cap:Nat} {l:List UInt8} {n:Nat} (hn:n≤l.length) (h1:l.length≤cap) (h2:cap≤maxLen) (h3:g < B) (h4:∀ j,j < l.length→w.cell? ⟨g,off+j,none⟩=some (.int .u8 (l.getD j 0).toNat)) :
 RdB w B (.slice (some ⟨g,off,none⟩) n cap) (l.take n):=
 Or.inr ⟨g,off,cap,by rw [List.length_take,Nat.min_eq_left hn],by rw [List.length_take]; omega,h2,h3,fun j hj=>by
  rw [List.length_take] at hj
  rw [h4 j (by omega)]
  have:j < n:=by omega
  simp [List.getD_eq_getElem?_getD,this]⟩
theorem RdB.drop {w:World} {B g off cap:Nat} {l:List UInt8} {n:Nat} (hn:n≤l.length) (h1:l.length≤cap) (h2:cap≤maxLen) (h3:g < B) (h4:∀ j,j < l.length→w.cell? ⟨g,off+j,none⟩=some (.int .u8 (l.getD j 0).toNat)) :
 RdB w B (.slice (some ⟨g,off+n,none⟩) (l.length - n) (cap - n)) (l.drop n):=
 Or.inr ⟨g,off+n,cap - n,by rw [List.length_drop],by rw [List.length_drop]; omega,by omega,h3,fun j hj=>by
  rw [List.length_drop] at hj
  rw [Nat.add_assoc,h4 (n+j) (by omega)]
  simp [List.getD_eq_getElem?_getD]⟩
set_option maxRecDepth 100000 in
/-- reader.take -/
theorem take_c (r B n:Nat) (s:List UInt8 × Bool) (w:World) (h:RdrAt w r B s) (hB:B≤r) (hn:n≤9223372036854775807) :
 Calls Tryz.prog 130 #[.pointer (some ⟨r,0,none⟩),.int .i64 n] w fun e w'=>
  (∃ v1,e=.returned v1∧RdB w' B v1 (rTake n s).1)∧RdrAt w' r B (rTake n s).2∧w.grownBy w' (some r):=by
 obtain ⟨v,hb,hv⟩:=h
 obtain ⟨l,bad⟩:=s
 have hv:RdB w B v l:=hv
 have HV:=Lib.hid hv
 have HBk:=Lib.hid hb
 have hlt:=hb.lt
 have c0:=hb.cell 0 (by simp)
 have c1:=hb.cell 1 (by simp)
 have f1:=hb.frozen 1
 have f0:=hb.frozen 0
 simp only [List.getD_cons_zero,List.getD_cons_succ] at c0 c1
 have HN:=Lib.hid hn
 obtain ⟨a,cap,rfl,hm,hnone,hc⟩:=hv.open_
 clear hv hb hn
 unfold maxLen at hm
 have HT:=Lib.hid (show ∀ t,rTake n (l,bad)=t→t=if bad=true∨l.length < n then ([],l,true) else (l.take n,l.drop n,false) from fun t e=>by rw [← e]; rfl)
 generalize hT:rTake n (l,bad)=T at *
 have HT2:=Lib.hid (HT.out T rfl)
 clear HT hT
 have HC:=Lib.hid (And.intro hnone hc)
 clear hnone hc
 cases bad with
 | true=>
   have HT3:=Lib.hid (HT2.out.trans (if_pos (Or.inl rfl)))
   clear HT2
   go_enter Tryz.func130,Tryz.ntmps130
   go_wp2
   go_ret
   have hg:=grown_set w r 1 (.bool true)
   rw [HT3.out]
   exact ⟨⟨_,rfl,RdB.nil _ _⟩,⟨_,HBk.out.set 1 (.bool true),HV.out.below (below_of_grown hg hB (by omega))⟩,hg⟩
 | false=>
   by_cases hlen:l.length < n
   ·have HT3:=Lib.hid (HT2.out.trans (if_pos (Or.inr hlen)))
    have t1:decide (l.length < n)=true:=decide_eq_true hlen
    clear HT2
    go_enter Tryz.func130,Tryz.ntmps130
    go_wp2
    go_ret
    have hg:=grown_set w r 1 (.bool true)
    rw [HT3.out]
    exact ⟨⟨_,rfl,RdB.nil _ _⟩,⟨_,HBk.out.set 1 (.bool true),HV.out.below (below_of_grown hg hB (by omega))⟩,hg⟩
   ·have HT3:=Lib.hid (HT2.out.trans (if_neg (by simp; omega)))
    have t1:decide (l.length < n)=false:=decide_eq_false hlen
    clear HT2
    rcases HC.out.2 with rfl | ⟨g,off,rfl,hcap,hcm,hg,hcell⟩
    ·obtain rfl:n=0:=by simp at hlen; exact hlen
     go_enter Tryz.func130,Tryz.ntmps130
     go_wp2
     go_ret
     have hg:=grown_set w r 0 (.slice a 0 cap)
     rw [HT3.out]
     have hw:=HV.out.below (below_of_grown hg hB (by omega))
     exact ⟨⟨_,rfl,HV.out.below (below_of_grown hg hB (by omega))⟩,⟨_,HBk.out.set 0 (.slice a 0 cap),HV.out.below (below_of_grown hg hB (by omega))⟩,hg⟩
    ·have HCell:=Lib.hid hcell
     have hnl:n≤l.length:=by omega
     have hnc:n≤cap:=by omega
     have HH:=Lib.hid (And.intro hcap (And.intro hcm (And.intro hg hnl)))
     clear hcell HC hcm
     by_cases hcn:cap=n
     ·have hll:l.length=n:=by omega
      have HLL:=Lib.hid hll
      subst hcn
      clear hll
      go_enter Tryz.func130,Tryz.ntmps130
      go_wp2
      go_ret
      have hgr:=grown_set w r 0 (.slice (some ⟨g,off,none⟩) 0 0)
      have hbw:=below_of_grown hgr hB (by omega)
      obtain ⟨h1,h2,h3,h4⟩:=HH.out
      rw [HT3.out]
      exact ⟨⟨_,rfl,(RdB.take (w:=w) h4 h1 h2 h3 HCell.out).below hbw⟩,⟨_,HBk.out.set 0 _,Or.inl ⟨Or.inr ⟨_,_,rfl⟩,List.drop_eq_nil_of_le (by rw [HLL.out]; exact Nat.le_refl _)⟩⟩,hgr⟩
     ·have hnc2:n < cap:=by omega
      go_enter Tryz.func130,Tryz.ntmps130
      go_wp2
      go_ret
      have hgr:=grown_set w r 0 (.slice (some ⟨g,off+n,none⟩) (l.length - n) (cap - n))
      have hbw:=below_of_grown hgr hB (by omega)
      obtain ⟨h1,h2,h3,h4⟩:=HH.out
      rw [HT3.out]
      refine ⟨⟨_,rfl,(RdB.take (w:=w) h4 h1 h2 h3 HCell.out).below hbw⟩,⟨_,HBk.out.set 0 _,(RdB.drop (w:=w) h4 h1 h2 h3 HCell.out).below hbw⟩,hgr⟩
theorem RdrAt.kept {w w':World} {r B:Nat} {s:List UInt8 × Bool} (h:RdrAt w r B s) (hb:Below w.heap.size w w') (hB:B≤w.heap.size):RdrAt w' r B s:=by
 obtain ⟨v,h1,h2⟩:=h
 exact ⟨v,h1.below hb,h2.below (hb.mono hB)⟩
theorem numV_snoc (l:List UInt8) (b:UInt8):numV (l ++ [b])=numV l * 256+b.toNat:=by simp [numV]
theorem numV_lt (l:List UInt8):numV l < 256 ^ l.length:=by
 have:∀ l:List UInt8,numV l.reverse < 256 ^ l.length:=by
  intro l
  induction l with
  | nil=>decide
  | cons b l ih=>
    rw [List.reverse_cons,numV_snoc,List.length_cons,Nat.pow_succ]
    have:=b.toNat_lt
    omega
 have h:=this l.reverse
 simpa using h
theorem rTake_len (n:Nat) (s:List UInt8 × Bool):(rTake n s).1.length≤n:=by
 unfold rTake; split
 ·simp
 ·rw [List.length_take]; omega
theorem or_add (m:Nat) (b:UInt8) (hm:m < 72057594037927936):bits .or .u64 (IntKind.u64.wrap ((m:Int) * 256)) (IntKind.u64.wrap (b.toNat:Int))=((m * 256+b.toNat:Nat):Int):=by
 rw [w_or,ofI_wrap,ofI_wrap]
 unfold toI
 congr 1
 have hb:=b.toNat_lt
 have e1:(ofI ((m:Int) * 256)).toNat=m <<< 8:=by
  have:=toNat_ofI ((m:Int) * 256)
  rw [Nat.shiftLeft_eq]; omega
 have e2:(ofI (b.toNat:Int)).toNat=b.toNat:=by have:=toNat_ofI (b.toNat:Int); omega
 rw [BitVec.toNat_or,e1,e2,← Nat.shiftLeft_add_eq_or_of_lt (by omega),Nat.shiftLeft_eq]
set_option maxRecDepth 100000 in
/-- reader.number -/
theorem rnum_c (r B k:Nat) (k':Int) (hk':k'=k) (s:List UInt8 × Bool) (w:World) (h:RdrAt w r B s) (hB:B≤r) (hk:k≤8) :
 Calls Tryz.prog 129 #[.pointer (some ⟨r,0,none⟩),.int .i64 k'] w fun e w'=>
  e=.returned (.int .u64 (rNum k s).1)∧RdrAt w' r B (rNum k s).2∧w.grownBy w' (some r):=by
 subst hk'
 have HT:=Lib.hid (take_c r B k s w h hB (by omega))
 have hl:=rTake_len k s
 unfold rNum
 generalize rTake k s=T at *
 obtain ⟨l,s'⟩:=T
 have hl:l.length≤k:=hl
 clear h
 go_enter Tryz.func129,Tryz.ntmps129
 go_wp2_with fail
 refine HT.out.mono ?_
 rintro e w1 ⟨⟨v1,rfl,hv⟩,hr,hg⟩
 have HV:=Lib.hid hv
 obtain ⟨a,cap,rfl,hm,_,hc⟩:=hv.open_
 have HC:=Lib.hid hc
 clear hc hv HT hm
 go_wp2
 go_loop [5,12] (fun n i=>∃ j:Nat,j≤l.length∧i=.int .i64 j∧n=.int .u64 (numV (l.take j))) (fun _ i=>l.length - (intOf i).toNat)
 case atStart=>exact ⟨0,Nat.zero_le _,rfl,rfl⟩
 case round=>
  obtain ⟨j,hj,rfl,rfl⟩:=hrel
  by_cases hlt:j < l.length
  ·rcases HC.out with rfl | ⟨g,off,rfl,_,_,hgB,hcell⟩
   ·simp at hlt
   have c1:=hcell j hlt
   clear hcell
   have HS:=Lib.hid (show numV (l.take j) * 256+(l.getD j 0).toNat=numV (l.take (j+1)) by
    rw [List.take_succ_eq_append_getElem hlt,numV_snoc,List.getD_eq_getElem?_getD,List.getElem?_eq_getElem hlt]; rfl)
   have hnl:numV (l.take j) < 72057594037927936:=by
    have h1:=numV_lt (l.take j)
    have h2:(l.take j).length≤7:=by rw [List.length_take]; omega
    exact Nat.lt_of_lt_of_le h1 (Nat.pow_le_pow_right (by decide) h2)
   generalize l.getD j 0=y at *
   have ho:=or_add (numV (l.take j)) y hnl
   have HNL:=Lib.hid hnl
   clear hnl
   generalize numV (l.take j)=m at *
   go_wp2
   go_round
   case rel=>exact ⟨j+1,by omega,by go_num,by rw [← HS.out]; congr 1⟩
   case measure=>simp [intOf]; omega
  ·obtain rfl:j=l.length:=by omega
   go_wp2
   go_ret
   exact ⟨rfl,hr,hg⟩
theorem conv_c {w:World} {B:Nat} {v:Value} {l:List UInt8} (h:RdB w B v l):(convert 26 9 v).run Tryz.prog w=.ok (.string ⟨l.toArray⟩) w:=by
 obtain ⟨a,cap,rfl,_,hnone,hc⟩:=h.open_
 rcases a with _ | ad
 ·obtain ⟨h0,rfl⟩:=hnone rfl
  obtain rfl:l=[]:=List.eq_nil_of_length_eq_zero h0
  rw [run_convert_bytes_string w 26 9 5 none _ _ Tryz.underlying26 Tryz.underlying5 Tryz.underlying9]
  simp [Conv.bytesToString]
  rfl
 ·refine run_convert_bytes_back w 26 9 5 ad cap l Tryz.underlying26 Tryz.underlying5 Tryz.underlying9 (fun j hj=>?_)
  rcases hc with rfl | ⟨g,off,hg,_,_,_,hcell⟩
  ·simp at hj
  ·cases hg
   have e:(⟨g,off,none⟩:Addr).add j=⟨g,off+j,none⟩:=by unfold Addr.add; split <;> simp_all
   rw [e,hcell j hj,List.getD_eq_getElem?_getD,List.getElem?_eq_getElem hj]; rfl
theorem eql_nil (w:World) (a:Option Addr) (n c n' c':Nat):(binOp .eql 26 (.slice a n c) (.slice none n' c')).run Tryz.prog w=.ok (.bool a.isNone) w:=Lib.run_eql_slice_nil w _ _ a n c n' c' Tryz.underlying26
set_option maxRecDepth 100000 in
/-- bytes.Clone -/
theorem clone_c (v:Value) (l:List UInt8) (B:Nat) (w:World) (hv:RdB w B v l) (hl:l.length≤1073741824) (hB:B≤w.heap.size) :
 Calls Tryz.prog 77 #[v] w fun e w'=>(∃ v',e=.returned v'∧w'.ownsRow w.heap.size 5 1 v' l.length (byts l))∧Below w.heap.size w w':=by
 obtain ⟨a,cap,rfl,_,hnone,_⟩:=hv.open_
 rcases a with _ | ad
 ·obtain ⟨h0,rfl⟩:=hnone rfl
  obtain rfl:l=[]:=List.eq_nil_of_length_eq_zero h0
  clear hnone hv h0
  have q:=eql_nil
  go_enter Tryz.func77,Tryz.ntmps77
  go_wp2
  go_ret
  exact ⟨⟨_,rfl,by simpa [byts] using World.ownsRow_nil w w.heap.size 5 1⟩,Below.refl _ _⟩
 ·have HV:=Lib.hid hv
  clear hnone hv
  have q:=eql_nil
  go_enter Tryz.func77,Tryz.ntmps77
  go_wp2_with (at_builtin; go_must (refine wpList_app rfl _ _ rfl w.heap.size _ 0 [] rfl (own_lit w w.heap.size [] (by simp) 0 rfl (Nat.le_refl _)) _ l rfl (HV.out.below ((Below.refl B w).alloc hB _)) (by omega) (by simp) ?_); intro v4 w4 hy4 g4)
  go_ret
  exact ⟨⟨v4,rfl,by simpa using hy4⟩,((Below.refl _ _).alloc (Nat.le_refl _) _).trans g4⟩
set_option maxRecDepth 100000 in
/-- reader.key -/
theorem rkey_c (r B:Nat) (s:List UInt8 × Bool) (w:World) (h:RdrAt w r B s) (hB:B≤r) :
 Calls Tryz.prog 131 #[.pointer (some ⟨r,0,none⟩)] w fun e w'=>
  e=.returned (.string ⟨(rKey s).1.toArray⟩)∧RdrAt w' r B (rKey s).2∧w.grownBy w' (some r):=by
 have HT:=Lib.hid (rnum_c r B 1 1 rfl s w h hB (by decide))
 have hl:(rNum 1 s).1 < 256:=by
  have h1:=numV_lt (rTake 1 s).1
  have h2:=rTake_len 1 s
  exact Nat.lt_of_lt_of_le h1 (Nat.pow_le_pow_right (by decide) h2)
 unfold rKey
 generalize rNum 1 s=N at *
 obtain ⟨n,s1⟩:=N
 have hl:n < 256:=hl
 clear h
 by_cases hbad:n < 1∨40 < n
 ·simp only [hbad,if_true]
  have t1:n < 1∨(¬ n < 1∧40 < n):=by omega
  clear hbad
  have HTK:=Lib.hid (fun W (h:RdrAt W r B (s1.1,true))=>take_c r B n (s1.1,true) W h hB (by omega))
  generalize rTake n (s1.1,true)=T at *
  rcases t1 with t1 | ⟨t1,t2⟩
  all_goals
   go_enter Tryz.func131,Tryz.ntmps131
   go_wp2_with fail
   refine HT.out.mono ?_
   rintro e w1 ⟨rfl,⟨v,hb,hv⟩,hg⟩
   have f1:=hb.frozen 1
   have c1:=hb.cell 1 (by simp)
   simp only [List.getD_cons_zero,List.getD_cons_succ] at c1
   have hlt:=hb.lt
   have hg1:=grown_set w1 r 1 (.bool true)
   have HR:=Lib.hid (show RdrAt (w1.setCell ⟨r,1,none⟩ (.bool true)) r B (s1.1,true) from ⟨v,hb.set 1 (.bool true),hv.below (below_of_grown hg1 hB (by omega))⟩)
   have HG:=Lib.hid (hg.trans hg1)
   clear hb hv hg hg1 HT
   go_upto_region 4 with (fail)
   generalize w1.setCell ⟨r,1,none⟩ (.bool true)=w2 at *
   go_wp2_with fail
   refine (HTK.out w2 HR.out).mono ?_
   rintro e w3 ⟨⟨v3,rfl,hv3⟩,hr3,hg3⟩
   have kc:=conv_c hv3
   have HR3:=Lib.hid hr3
   have HG3:=Lib.hid (HG.out.trans hg3)
   clear hv3 hr3 hg3 HG HR f1 c1 HTK
   go_wp2
   go_ret
   exact ⟨rfl,HR3.out,HG3.out⟩
 ·simp only [hbad,if_false]
  have t1:¬ n < 1:=by omega
  have t2:¬ 40 < n:=by omega
  clear hbad
  have HTK:=Lib.hid (fun W (h:RdrAt W r B s1)=>take_c r B n s1 W h hB (by omega))
  generalize rTake n s1=T at *
  go_enter Tryz.func131,Tryz.ntmps131
  go_wp2_with fail
  refine HT.out.mono ?_
  rintro e w1 ⟨rfl,hr,hg⟩
  have HT2:=Lib.hid (HTK.out w1 hr)
  have HG:=Lib.hid hg
  clear hr hg HT
  go_wp2_with fail
  refine HT2.out.mono ?_
  rintro e w3 ⟨⟨v3,rfl,hv3⟩,hr3,hg3⟩
  have kc:=conv_c hv3
  have HR3:=Lib.hid hr3
  have HG3:=Lib.hid (HG.out.trans hg3)
  clear hv3 hr3 hg3 HG HT2
  go_wp2
  go_ret
  exact ⟨rfl,HR3.out,HG3.out⟩
theorem own_le {w:World} {B B' n:Nat} {e:TypeId} {v:Value} {xs:List Value} (h:w.ownsRow B e 1 v n xs) (hb:B'≤B):w.ownsRow B' e 1 v n xs:=by
 obtain ⟨hl,h2⟩:=h
 rcases h2 with h2 | ⟨g,cap,cur,e,hB,h3⟩
 ·exact ⟨hl,Or.inl h2⟩
 ·exact ⟨hl,Or.inr ⟨g,cap,cur,e,Nat.le_trans hb hB,h3⟩⟩
theorem RdrAt.lt {w:World} {r B:Nat} {s:List UInt8 × Bool} (h:RdrAt w r B s):r < w.heap.size:=by obtain ⟨v,h1,_⟩:=h; exact h1.lt
set_option maxRecDepth 100000 in
/-- reader.value: what it returns lies in memory of its own -/
theorem rval_c (r B:Nat) (s:List UInt8 × Bool) (w:World) (h:RdrAt w r B s) (hB:B≤r) :
 Calls Tryz.prog 132 #[.pointer (some ⟨r,0,none⟩)] w fun e w'=>
  (∃ v',e=.returned v'∧w'.ownsRow w.heap.size 5 1 v' (rVal s).1.length (byts (rVal s).1))∧RdrAt w' r B (rVal s).2∧w.grownBy w' (some r):=by
 have HT:=Lib.hid (rnum_c r B 2 2 rfl s w h hB (by decide))
 have hl:(rNum 2 s).1 < 65536:=by
  have h1:=numV_lt (rTake 2 s).1
  have h2:=rTake_len 2 s
  exact Nat.lt_of_lt_of_le h1 (Nat.pow_le_pow_right (by decide) h2)
 have hrl:=h.lt
 unfold rVal
 generalize rNum 2 s=N at *
 obtain ⟨n,s1⟩:=N
 have hl:n < 65536:=hl
 clear h
 by_cases hbad:4096 < n
 ·simp only [hbad,if_true]
  have HTK:=Lib.hid (fun W (h:RdrAt W r B (s1.1,true))=>take_c r B n (s1.1,true) W h hB (by omega))
  have hln:=rTake_len n (s1.1,true)
  generalize rTake n (s1.1,true)=T at *
  go_enter Tryz.func132,Tryz.ntmps132
  go_wp2_with fail
  refine HT.out.mono ?_
  rintro e w1 ⟨rfl,⟨v,hb,hv⟩,hg⟩
  have f1:=hb.frozen 1
  have c1:=hb.cell 1 (by simp)
  simp only [List.getD_cons_zero,List.getD_cons_succ] at c1
  have hlt:=hb.lt
  have hg1:=grown_set w1 r 1 (.bool true)
  have HR:=Lib.hid (show RdrAt (w1.setCell ⟨r,1,none⟩ (.bool true)) r B (s1.1,true) from ⟨v,hb.set 1 (.bool true),hv.below (below_of_grown hg1 hB (by omega))⟩)
  have HG:=Lib.hid (hg.trans hg1)
  clear hb hv hg hg1 HT
  go_upto_region 4 with (fail)
  generalize w1.setCell ⟨r,1,none⟩ (.bool true)=w2 at *
  go_wp2_with fail
  refine (HTK.out w2 HR.out).mono ?_
  rintro e w3 ⟨⟨v3,rfl,hv3⟩,hr3,hg3⟩
  have HV3:=Lib.hid hv3
  have HR3:=Lib.hid hr3
  have HG3:=Lib.hid (HG.out.trans hg3)
  have hrlt:=hr3.lt
  clear hv3 hr3 hg3 HG HR f1 c1
  go_wp2_with fail
  refine (clone_c v3 T.1 B w3 HV3.out (by omega) (by omega)).mono ?_
  rintro e w4 ⟨⟨v4,rfl,hy⟩,hb4⟩
  go_wp2
  go_ret
  have hg4:w.grownBy w4 (some r):=⟨hb4.os.trans HG3.out.os,hb4.tape.trans HG3.out.tape,hb4.output.trans HG3.out.output,Nat.le_trans HG3.out.size hb4.size,fun k hk hne=>(hb4.block k (Nat.lt_of_lt_of_le hk HG3.out.size)).trans (HG3.out.block k hk hne)⟩
  exact ⟨⟨v4,rfl,own_le hy HG3.out.size⟩,HR3.out.kept hb4 (by omega),hg4⟩
 ·simp only [hbad,if_false]
  have HTK:=Lib.hid (fun W (h:RdrAt W r B s1)=>take_c r B n s1 W h hB (by omega))
  have hln:=rTake_len n s1
  generalize rTake n s1=T at *
  go_enter Tryz.func132,Tryz.ntmps132
  go_wp2_with fail
  refine HT.out.mono ?_
  rintro e w1 ⟨rfl,hr,hg⟩
  have HT2:=Lib.hid (HTK.out w1 hr)
  have HG:=Lib.hid hg
  clear hr hg HT
  go_wp2_with fail
  refine HT2.out.mono ?_
  rintro e w3 ⟨⟨v3,rfl,hv3⟩,hr3,hg3⟩
  have HV3:=Lib.hid hv3
  have HR3:=Lib.hid hr3
  have HG3:=Lib.hid (HG.out.trans hg3)
  have hrlt:=hr3.lt
  clear hv3 hr3 hg3 HG HT2
  go_wp2_with fail
  refine (clone_c v3 T.1 B w3 HV3.out (by omega) (by omega)).mono ?_
  rintro e w4 ⟨⟨v4,rfl,hy⟩,hb4⟩
  go_wp2
  go_ret
  have hg4:w.grownBy w4 (some r):=⟨hb4.os.trans HG3.out.os,hb4.tape.trans HG3.out.tape,hb4.output.trans HG3.out.output,Nat.le_trans HG3.out.size hb4.size,fun k hk hne=>(hb4.block k (Nat.lt_of_lt_of_le hk HG3.out.size)).trans (HG3.out.block k hk hne)⟩
  exact ⟨⟨v4,rfl,own_le hy HG3.out.size⟩,HR3.out.kept hb4 (by omega),hg4⟩
set_option maxRecDepth 100000 in
/-- reader.done -/
theorem rdone_c (r B:Nat) (s:List UInt8 × Bool) (w:World) (h:RdrAt w r B s) :
 Calls Tryz.prog 134 #[.pointer (some ⟨r,0,none⟩)] w fun e w'=>e=.returned (.bool (!s.2 && s.1.isEmpty))∧w=w':=by
 obtain ⟨v,hb,hv⟩:=h
 have c0:=hb.cell 0 (by simp)
 have c1:=hb.cell 1 (by simp)
 simp only [List.getD_cons_zero,List.getD_cons_succ] at c0 c1
 obtain ⟨a,cap,rfl,hm,_,_⟩:=hv.open_
 obtain ⟨l,bad⟩:=s
 clear hb hv hm
 have hlen:l.isEmpty=((l.length:Int) == 0):=by
  cases l with
  | nil=>rfl
  | cons x l=>symm; simp; omega
 cases bad
 all_goals
  go_enter Tryz.func134,Tryz.ntmps134
  go_wp2
  go_ret
  refine ⟨ret_bool ?_,rfl⟩
  first | rfl | simp [hlen]
/-- the block with which bytes begin, behind a word -/
def nextB (l:List UInt8) (x:Int):Option (List UInt8 × Int):=
 if (rTake (rNum 4 (l,false)).1 (rNum 8 (rNum 4 (l,false)).2).2).2.2=true∨subI x (rTake (rNum 4 (l,false)).1 (rNum 8 (rNum 4 (l,false)).2).2).1 ≠ ((rNum 8 (rNum 4 (l,false)).2).1:Int) then none
 else some ((rTake (rNum 4 (l,false)).1 (rNum 8 (rNum 4 (l,false)).2).2).1,((rNum 8 (rNum 4 (l,false)).2).1:Int))
/-- what nextBlock returns -/
def NextRes (w:World) (B:Nat) (R:Option (List UInt8 × Int)) (e:Ending):Prop:=
 match R with
 | none=>e=.returned (.tuple #[.slice none 0 0,.int .u64 0,.bool false])
 | some (code,sum)=>∃ v,e=.returned (.tuple #[v,.int .u64 sum,.bool true])∧RdB w B v code
set_option maxRecDepth 100000 in
/-- nextBlock -/
theorem next_c (v:Value) (l:List UInt8) (x:Int) (B:Nat) (w:World) (hs:St w) (hv:RdB w B v l) (hB:B≤w.heap.size) :
 Calls Tryz.prog 89 #[v,.int .u64 x] w fun e w'=>NextRes w' B (nextB l x) e∧Below w.heap.size w w':=by
 have H4:=Lib.hid (fun W (h:RdrAt W w.heap.size B (l,false))=>rnum_c w.heap.size B 4 4 rfl (l,false) W h hB (by decide))
 have h4:(rNum 4 (l,false)).1 < 4294967296:=by
  have h1:=numV_lt (rTake 4 (l,false)).1
  have h2:=rTake_len 4 (l,false)
  exact Nat.lt_of_lt_of_le h1 (Nat.pow_le_pow_right (by decide) h2)
 unfold nextB
 generalize rNum 4 (l,false)=N4 at *
 obtain ⟨n,s4⟩:=N4
 have h4:n < 4294967296:=h4
 have H8:=Lib.hid (fun W (h:RdrAt W w.heap.size B s4)=>rnum_c w.heap.size B 8 8 rfl s4 W h hB (by decide))
 simp only
 generalize rNum 8 s4=N8 at *
 obtain ⟨sm,s8⟩:=N8
 have HTK:=Lib.hid (fun W (h:RdrAt W w.heap.size B s8)=>take_c w.heap.size B n s8 W h hB (by omega))
 simp only
 generalize rTake n s8=T at *
 obtain ⟨code,rest,bad⟩:=T
 simp only
 generalize hR:(if bad=true∨subI x code ≠ (sm:Int) then none else some (code,(sm:Int)))=R
 have HRR:=Lib.hid hR
 clear hR
 have R0:RdrAt (w.alloc (.cells #[v,.bool false] 191)) w.heap.size B (l,false):=⟨v,Blk.new w 191 [v,.bool false],hv.below ((Below.refl _ _).alloc hB _)⟩
 have HR0:=Lib.hid R0
 have G0:Below w.heap.size w (w.alloc (.cells #[v,.bool false] 191)):=(Below.refl _ _).alloc (Nat.le_refl _) _
 obtain ⟨a,cap,rfl,_,_,_⟩:=hv.open_
 clear R0 hv
 go_enter Tryz.func89,Tryz.ntmps89
 go_wp2_with fail
 refine (H4.out _ HR0.out).mono ?_
 rintro e w1 ⟨rfl,hr1,hg1⟩
 have G1:=G0.trans (below_of_grown hg1 (Nat.le_refl _) (by simp))
 have HR1:=Lib.hid hr1
 clear hr1 hg1 H4 HR0 G0
 go_wp2_with fail
 refine (H8.out _ HR1.out).mono ?_
 rintro e w2 ⟨rfl,hr2,hg2⟩
 have G2:=G1.trans (below_of_grown hg2 (Nat.le_refl _) G1.size)
 have HR2:=Lib.hid hr2
 clear hr2 hg2 H8 HR1 G1
 go_wp2_with fail
 refine (HTK.out _ HR2.out).mono ?_
 rintro e w3 ⟨⟨v3,rfl,hv3⟩,⟨v4,hb4,hv4⟩,hg3⟩
 have G3:=G2.trans (below_of_grown hg3 (Nat.le_refl _) G2.size)
 have c1:=hb4.cell 1 (by simp)
 simp only [List.getD_cons_zero,List.getD_cons_succ] at c1
 have HV3:=Lib.hid hv3
 clear hv3 hv4 hg3 HTK HR2 G2
 cases bad with
 | true=>
   have HRS:=Lib.hid (HRR.out.symm.trans (if_pos (Or.inl rfl)))
   clear HRR
   go_wp2
   go_ret3
   refine ⟨?_,G3⟩
   rw [HRS.out]; rfl
 | false=>
   have hs3:=hs.below G3 hs.pos
   have HSM:=Lib.hid (sum_c x v3 code B w3 hs3 HV3.out)
   by_cases hne:subI x code=sm
   ·have t1:(subI x code != (sm:Int))=false:=by rw [hne]; simp
    have HRS:=Lib.hid (HRR.out.symm.trans (if_neg (by simp [hne])))
    clear hne HRR
    generalize subI x code=sx at *
    go_wp2_with fail
    refine HSM.out.mono ?_
    rintro e w4 ⟨rfl,hb5⟩
    have G4:=G3.trans (hb5.mono G3.size)
    go_wp2
    go_ret3
    refine ⟨?_,G4⟩
    rw [HRS.out]
    exact ⟨v3,rfl,HV3.out.below (hb5.mono (Nat.le_trans hB G3.size))⟩
   ·have t1:(subI x code != (sm:Int))=true:=by rw [bne_iff_ne]; exact hne
    have HRS:=Lib.hid (HRR.out.symm.trans (if_pos (Or.inr hne)))
    clear hne HRR
    generalize subI x code=sx at *
    go_wp2_with fail
    refine HSM.out.mono ?_
    rintro e w4 ⟨rfl,hb5⟩
    have G4:=G3.trans (hb5.mono G3.size)
    go_wp2
    go_ret3
    refine ⟨?_,G4⟩
    rw [HRS.out]; rfl
end
section
open Go.RowKit SeedP
/-- a change -/
structure Chg where
 key:List UInt8
 val:List UInt8
 drop:Bool
abbrev strV (l:List UInt8):Value:=.string ⟨l.toArray⟩
/-- one change in memory: its value lies below block B -/
def ChgIn (w:World) (B g off:Nat) (c:Chg):Prop:=
 ∃ vv,w.cell? ⟨g,off,none⟩=some (strV c.key)∧w.cell? ⟨g,off+1,none⟩=some vv∧w.cell? ⟨g,off+2,none⟩=some (.bool c.drop)∧RdB w B vv c.val
/-- a slice of changes, below block B -/
def ChgsAt (w:World) (B:Nat) (v:Value) (cs:List Chg):Prop:=
 ∃ a cap,v=.slice a cs.length cap∧cs.length≤cap∧cap≤maxLen∧(cs=[]∨∃ g off,a=some ⟨g,off,none⟩∧g < B∧∀ j (h:j < cs.length),ChgIn w B g (off+j * 3) cs[j])
theorem ChgIn.below {w w':World} {B g off:Nat} {c:Chg} (h:ChgIn w B g off c) (hb:Below B w w') (hg:g < B):ChgIn w' B g off c:=by
 obtain ⟨vv,h0,h1,h2,h3⟩:=h
 exact ⟨vv,(hb.cell (p:=⟨g,off,none⟩) hg).trans h0,(hb.cell (p:=⟨g,off+1,none⟩) hg).trans h1,(hb.cell (p:=⟨g,off+2,none⟩) hg).trans h2,h3.below hb⟩
theorem ChgsAt.below {w w':World} {B:Nat} {v:Value} {cs:List Chg} (h:ChgsAt w B v cs) (hb:Below B w w'):ChgsAt w' B v cs:=by
 obtain ⟨a,cap,e,h1,h2,h3⟩:=h
 refine ⟨a,cap,e,h1,h2,?_⟩
 rcases h3 with h3 | ⟨g,off,e2,hg,h4⟩
 ·exact Or.inl h3
 ·exact Or.inr ⟨g,off,e2,hg,fun j hj=>(h4 j hj).below hb hg⟩
/-- the code of a change -/
def chgCode (c:Chg):List UInt8:=if c.drop then 1 :: UInt8.ofNat c.key.length :: c.key else 0 :: (UInt8.ofNat c.key.length :: c.key ++ numB c.val.length 2 ++ c.val)
def codeOf (cs:List Chg):List UInt8:=UInt8.ofNat cs.length :: cs.flatMap chgCode
theorem codeOf_take (cs:List Chg) (j:Nat) (h:j < cs.length):(UInt8.ofNat cs.length :: (cs.take (j+1)).flatMap chgCode)=(UInt8.ofNat cs.length :: (cs.take j).flatMap chgCode) ++ chgCode cs[j]:=by
 rw [List.take_succ_eq_append_getElem h,List.flatMap_append]; simp
set_option maxRecDepth 100000 in
/-- commitCode -/
theorem commitCode_c (v:Value) (cs:List Chg) (w:World) (hv:ChgsAt w w.heap.size v cs) (hn:cs.length≤64) (hb:∀ c ∈ cs,c.key.length≤65535∧c.val.length≤65535) :
 Calls Tryz.prog 96 #[v] w fun e w'=>(∃ v',e=.returned v'∧w'.ownsRow w.heap.size 5 1 v' (codeOf cs).length (byts (codeOf cs)))∧Below w.heap.size w w':=by
 obtain ⟨a,cap,rfl,hcap,hcm,hc⟩:=hv
 have HC:=Lib.hid hc
 have HB:=Lib.hid hb
 clear hc hb
 have hb1:((UInt8.ofNat cs.length).toNat:Int)=cs.length:=by rw [UInt8.toNat_ofNat']; omega
 have hy0:(w.alloc (.cells #[.int .u8 (UInt8.ofNat cs.length).toNat] 5)).ownsRow w.heap.size 5 1 (.slice (some ⟨w.heap.size,0,none⟩) 1 1) 1 (byts [UInt8.ofNat cs.length]):=own_lit w w.heap.size [UInt8.ofNat cs.length] (by simp [maxLen]) 1 rfl (Nat.le_refl _)
 rw [hb1] at hy0
 clear hb1
 have HE:=Lib.hid (codeOf_take cs)
 generalize hn8:UInt8.ofNat cs.length=n8 at *
 have HN8:=Lib.hid hn8
 clear hn8
 go_enter Tryz.func96,Tryz.ntmps96
 go_wp2
 go_loopw [3,12] (fun b i wr=>∃ j:Nat,j≤cs.length∧i=.int .i64 j∧wr.ownsRow w.heap.size 5 1 b (n8 :: (cs.take j).flatMap chgCode).length (byts (n8 :: (cs.take j).flatMap chgCode))∧(n8 :: (cs.take j).flatMap chgCode).length≤1+j * 131080∧Below w.heap.size w wr) (fun _ i _=>cs.length - (intOf i).toNat)
 case atStart=>exact ⟨0,Nat.zero_le _,rfl,by simpa using hy0,by simp,(Below.refl _ _).alloc (Nat.le_refl _) _⟩
 case round=>
  obtain ⟨j,hj,rfl,hown,hlen,hB⟩:=hrel
  by_cases hlt:j < cs.length
  ·rcases HC.out with h | ⟨g,off,rfl,hg,hch⟩
   ·rw [h] at hlt; simp at hlt
   obtain ⟨vv,h0,h1,h2,h3⟩:=(hch j hlt).below hB hg
   have b1:(j:Int) < cs.length:=by omega
   have HJ:=Lib.hid (HE.out j hlt)
   have H3:=Lib.hid h3
   obtain ⟨av,capv,rfl,_,_,_⟩:=h3.open_
   clear hch h3
   go_upto_region 5 with (fail)
   have hk:=HB.out cs[j] (List.getElem_mem hlt)
   generalize cs[j]=c at *
   obtain ⟨key,val,drop⟩:=c
   simp only at h0 h1 h2 hk H3
   have hb1:=Blk.new wr 73 [strV key,.slice av val.length capv,.bool drop]
   have hy1:=hown.alloc (.cells [strV key,.slice av val.length capv,.bool drop].toArray 73)
   have HB1:Below w.heap.size w (wr.alloc (.cells [strV key,.slice av val.length capv,.bool drop].toArray 73)):=hB.alloc hB.size _
   have HV1:=Lib.hid (H3.out.below ((Below.refl w.heap.size wr).alloc hB.size (.cells [strV key,.slice av val.length capv,.bool drop].toArray 73)))
   clear h0 h1 h2 hown hB H3
   simp only [strV] at hb1 hy1 HB1 HV1
   generalize wr.alloc (.cells [.string ⟨key.toArray⟩,.slice av val.length capv,.bool drop].toArray 73)=w1 at *
   generalize wr.heap.size=gb at *
   have c0:=hb1.cell 0 (by simp)
   have c1:=hb1.cell 1 (by simp)
   have c2:=hb1.cell 2 (by simp)
   simp only [List.getD_cons_zero,List.getD_cons_succ] at c0 c1 c2
   generalize (n8 :: (cs.take j).flatMap chgCode)=ys at *
   obtain ⟨hk1,hk2⟩:=hk
   have hks:(⟨key.toArray⟩:ByteArray).size≤65535:=by show key.toArray.size≤_; simpa using hk1
   have hs1:=HB1.size
   have hkl:IntKind.u8.wrap (key.length:Int)=((UInt8.ofNat key.length).toNat:Int):=by rw [IntKind.wrap_u8,UInt8.toNat_ofNat']; omega
   cases drop with
   | true=>
     have HCC:=Lib.hid (show chgCode ⟨key,val,true⟩=[1,UInt8.ofNat key.length] ++ key from rfl)
     generalize UInt8.ofNat key.length=k8 at *
     go_upto_region 6 with (fail)
     go_region_held3 (fun w'=>w'.cell? ⟨gb,0,none⟩=some (.string ⟨key.toArray⟩))
      (first | exact c3 | exact c0 | exact (hb1.alloc _).drew.cell 0 (by simp))
      (first
       | (have _t:=hy1; clear _t; go_must (refine step_app rfl _ _ rfl w.heap.size _ _ ys rfl (hy1.alloc _).drew _ [1,k8] rfl (RdB.drew (rdB_lit w1 [1,k8] (by simp [maxLen]) 2 rfl)) (by simp; omega) (by simp; omega) ?_); intro v2 w2 hy2 hg2
          have hb2:=Blk.own (hb1.alloc (.cells (byts [1,k8]).toArray 5)).drew (hy1.alloc _).drew hg2 (by decide)
          have c3:=hb2.cell 0 (by simp)
          have HB2:=(HB1.alloc hs1 (.cells (byts [1,k8]).toArray 5)).drew.trans (below_own (hy1.alloc _).drew hg2 (by simp; omega))
          have hs2:=HB2.size
          simp only [List.getD_cons_zero] at c3
          clear hy1 hb1 hg2 HB1)
       | (go_must (refine step_appS rfl _ _ rfl w.heap.size _ _ (ys ++ [1,k8]) rfl hy2 ⟨key.toArray⟩ rfl (by simp; omega) hs2 ?_); intro v3 w3 hy3 hg3
          have HB3:=HB2.trans (below_own hy2 hg3 hs2)
          have c3:=(Blk.own hb2 hy2 hg3 (by decide)).cell 0 (by simp)
          simp only [List.getD_cons_zero] at c3
          clear hg3 hy2 hb2))
     all_goals
      go_wp2
      go_roundw
      case rel=>
       have e:n8 :: (cs.take (j+1)).flatMap chgCode=ys ++ [1,k8] ++ key:=by rw [HJ.out,HCC.out,List.append_assoc]
       refine ⟨j+1,by omega,by go_num,?_,?_,HB3⟩
       ·rw [e]
        have e3:(ys ++ [1,k8] ++ key).length=ys.length+[1,k8].length+(⟨key.toArray⟩:ByteArray).size:=by simp only [List.length_append]; rfl
        rw [e3]; exact hy3
       ·rw [e]; simp; omega
      case measure=>simp [intOf]; omega
   | false=>
     have HCC:=Lib.hid (show chgCode ⟨key,val,false⟩=[0] ++ (UInt8.ofNat key.length :: key ++ numB val.length 2 ++ val) from rfl)
     clear hkl
     go_upto_region 7 with (fail)
     go_region_held3 (fun w'=>w'.cell? ⟨gb,0,none⟩=some (.string ⟨key.toArray⟩)∧w'.cell? ⟨gb,1,none⟩=some (.slice av val.length capv))
      (first | exact ⟨c3,c4⟩ | exact ⟨c0,c1⟩ | exact ⟨(hb1.alloc _).drew.cell 0 (by simp),(hb1.alloc _).drew.cell 1 (by simp)⟩)
      (first
       | (have _t:=hy1; clear _t; go_must (refine step_app rfl _ _ rfl w.heap.size _ _ ys rfl (hy1.alloc _).drew _ [0] rfl (RdB.drew (rdB_lit w1 [0] (by simp [maxLen]) 1 rfl)) (by simp; omega) (by simp; omega) ?_); intro v2 w2 hy2 hg2
          have hb2:=Blk.own (hb1.alloc (.cells (byts [0]).toArray 5)).drew (hy1.alloc _).drew hg2 (by decide)
          have c3:=hb2.cell 0 (by simp)
          have c4:=hb2.cell 1 (by simp)
          have HBA:=((Below.refl w.heap.size w1).alloc hs1 (.cells (byts [0]).toArray 5)).drew.trans (below_own (hy1.alloc _).drew hg2 (by simp; omega))
          have HB2:=HB1.trans HBA
          have HV2:=Lib.hid (HV1.out.below HBA)
          have hs2:=HB2.size
          simp only [List.getD_cons_zero,List.getD_cons_succ] at c3 c4
          clear hy1 hb1 hg2 HB1 HBA HV1)
       | (go_at_call 135; go_must (refine (entryCode_c _ (ys ++ [0]) ⟨key.toArray⟩ _ val w.heap.size _ (by simpa using hy2) hs2 (by simp; omega) hks hk2 HV2.out).mono ?_); rintro e w3 ⟨⟨v3,rfl,hy3⟩,hg3,hk3⟩
          have hb3:=hb2.kept hk3 (by decide)
          have c3:=hb3.cell 0 (by simp)
          have c4:=hb3.cell 1 (by simp)
          have HB3:=HB2.trans hg3
          simp only [List.getD_cons_zero,List.getD_cons_succ] at c3 c4
          clear hg3 hk3 hb3 hb2 hy2 HB2 HV2))
     all_goals
      go_wp2
      go_roundw
      case rel=>
       have e:n8 :: (cs.take (j+1)).flatMap chgCode=ys ++ [0] ++ UInt8.ofNat key.length :: key ++ numB val.length 2 ++ val:=by rw [HJ.out,HCC.out]; simp
       refine ⟨j+1,by omega,by go_num,?_,?_,HB3⟩
       ·rw [e]; exact hy3
       ·rw [e]; simp [numB_length]; omega
      case measure=>simp [intOf]; omega
  ·obtain rfl:j=cs.length:=by omega
   go_wp2
   go_ret
   refine ⟨⟨_,rfl,?_⟩,hB⟩
   have e:n8 :: (cs.take cs.length).flatMap chgCode=codeOf cs:=by rw [List.take_of_length_le (Nat.le_refl _)]; rw [← HN8.out]; rfl
   rw [← e]; exact hown
end
end Go.Proofs.YtbcfpdlhieaepaaGreatDoor
