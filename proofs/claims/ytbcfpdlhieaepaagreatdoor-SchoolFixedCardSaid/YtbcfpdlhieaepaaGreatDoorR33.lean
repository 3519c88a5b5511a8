/- The walk of Submit. -/
import Derived.Test.YtbcfpdlhieaepaaGreatDoorR32
import Derived.Test.YtbcfpdlhieaepaaGreatDoorR10
import Derived.Test.YtbcfpdlhieaepaaGreatDoorR21
namespace Go.Proofs.YtbcfpdlhieaepaaGreatDoor
section
open Go.RowKit SeedP Go.Maps
/-- what is read of attempts in memory -/
theorem AttsW.shape {w:World} {B:Nat} {v:Value} {due:Int} {L:List (Nat × List UInt8)} (h:AttsW w B v due L) :
 ∃ a c,v=.slice a L.length c∧(L=[]∨∃ g,a=some ⟨g,0,none⟩∧g < w.heap.size∧∀ j (hj:j < L.length),w.cell? ⟨g,j * 3,none⟩=some (.int .i64 L[j].1)∧w.cell? ⟨g,j * 3+1,none⟩=some (.bool (decide (due < L[j].1)))∧∃ tv,w.cell? ⟨g,j * 3+2,none⟩=some tv∧RdB w w.heap.size tv L[j].2):=by
 obtain ⟨xs,h1,h2,h3⟩:=h.ex
 subst h2
 have h1':=h1
 obtain ⟨_,h4⟩:=h1
 rcases h4 with ⟨rfl,h0⟩ | ⟨g,cap,cur,rfl,hB,hg,hn,hc,_⟩
 ·obtain rfl:=List.eq_nil_of_length_eq_zero h0
  exact ⟨none,0,rfl,Or.inl rfl⟩
 ·refine ⟨_,cap,by rw [List.length_map],Or.inr ⟨g,rfl,(Array.getElem?_eq_some_iff.1 hg).1,fun j hj=>?_⟩⟩
  rw [List.length_map] at hj
  obtain ⟨e0,e1,e2⟩:=rowA_get due xs j hj
  have hlt:j * 3+2 < xs.length * 3:=by omega
  refine ⟨?_,?_,xs[j].v,?_,?_⟩
  ·rw [h1'.cellAt _ (by omega),e0,List.getElem_map]
  ·rw [h1'.cellAt _ (by omega),e1,List.getElem_map]
  ·rw [h1'.cellAt _ (by omega),e2]
  ·rw [List.getElem_map]
   exact (h3 _ (List.getElem_mem hj)).toB
/-- Submit, once the task is known -/
def subEnd (id:Int) (st:List UInt8) (now:Int) (tx:List UInt8) (t:TaskP) (s:JS):JS × Nat × Int:=
 if now < t.frm∨(∃ x,(s.attsP id st).getLast?=some x∧now < (x.1:Int)) then (s,0,372) else
 if t.late+s.extP id st < now then (s,0,373) else if t.tries≤(s.attsP id st).length then (s,0,374) else
 if (jCommit [⟨akey id.toNat st ((s.attsP id st).length+1),numB now.toNat 4 ++ tx,false⟩] s).2=0 then ((jCommit [⟨akey id.toNat st ((s.attsP id st).length+1),numB now.toNat 4 ++ tx,false⟩] s).1,(s.attsP id st).length+1,0) else ((jCommit [⟨akey id.toNat st ((s.attsP id st).length+1),numB now.toNat 4 ++ tx,false⟩] s).1,0,(jCommit [⟨akey id.toNat st ((s.attsP id st).length+1),numB now.toNat 4 ++ tx,false⟩] s).2)
theorem submitP_eq (id:Int) (st:List UInt8) (now:Int) (tx:List UInt8) (s:JS):submitP id st now tx s =
 if s.down then (s,0,360) else if isNameP st=false∨now < 0∨2147483647 < now then (s,0,2) else if 4000 < tx.length then (s,0,3) else match s.taskOfP id st with
 | none=>(s,0,6)
 | some t=>subEnd id st now tx t s:=rfl
set_option maxRecDepth 100000 in
set_option maxHeartbeats 4000000 in
/-- Submit -/
theorem submit_c {sb jb db mb:Nat} {p:Nat→Prop} {s:JS} (id:Int) (st:List UInt8) (now:Int) (tx:List UInt8) (ax:Option Addr) (cx:Nat) (w:World) (h:SW w sb jb db mb p s) (hok:SOk s) (hv:RdB w w.heap.size (.slice ax tx.length cx) tx) (hbl:tx.length≤1000000) :
 Calls Tryz.prog 25 #[sv sb,.int .i64 id,strV st,.int .i64 now,.slice ax tx.length cx] w fun e w'=>e=.returned (.tuple #[.int .i64 (submitP id st now tx s).2.1,.int .i64 (submitP id st now tx s).2.2])∧ActPost w sb jb db mb p (submitP id st now tx s).1 w':=by
 have hun:undef=Value.tuple #[]:=rfl
 have HR:=Lib.hid (sref_c w h)
 unfold refP at HR
 have HW:=Lib.hid h
 have HV:=Lib.hid hv
 clear hv
 obtain ⟨r,hr0⟩:∃ r,submitP id st now tx s=r:=⟨_,rfl⟩
 rw [hr0]
 rw [submitP_eq] at hr0
 have HN:=Lib.hid (fun w=>isName_c st w)
 have HTI:=Lib.hid (fun w=>isTime_c now w)
 cases hd:s.down with
 | true=>
   rw [hd] at HR
   rw [if_pos hd] at hr0
   have HE:=Lib.hid hr0.symm
   simp only [if_true] at HR
   clear hr0 hd h HV
   go_enter Tryz.func25,Tryz.ntmps25
   go_wp2_with fail
   refine HR.out.mono ?_
   rintro e w1 ⟨rfl,hb⟩
   go_wp2
   go_ret2
   rw [HE.out]
   exact ⟨rfl,ActPost.same HW.out hb⟩
 | false=>
   rw [hd] at HR
   rw [if_neg (by rw [hd]; simp)] at hr0
   simp only [Bool.false_eq_true,if_false] at HR
   have HS:=Lib.hid (fun W (hW:Below w.heap.size w W)=>h.below hW)
   cases hn:isNameP st with
   | false=>
     rw [hn] at HN
     rw [if_pos (Or.inl hn)] at hr0
     have HE:=Lib.hid hr0.symm
     clear hr0 hd h HV hn HS
     go_enter Tryz.func25,Tryz.ntmps25
     go_wp2_with fail
     refine HR.out.mono ?_
     rintro e w1 ⟨rfl,hb⟩
     go_wp2_with fail
     refine (HN.out _).mono ?_
     rintro e _ ⟨rfl,rfl⟩
     go_wp2
     go_ret2
     rw [HE.out]
     exact ⟨rfl,ActPost.same HW.out hb⟩
   | true=>
     have hl:=isNameP_len hn
     rw [hn] at HN
     by_cases hti:0≤now∧now≤2147483647
     rotate_left
     ·rw [decide_eq_false hti] at HTI
      rw [if_pos (by rcases Int.lt_or_le now 0 with e | e; exact Or.inr (Or.inl e); exact Or.inr (Or.inr (by omega)))] at hr0
      have HE:=Lib.hid hr0.symm
      clear hr0 hd h HV hn HS hti
      go_enter Tryz.func25,Tryz.ntmps25
      go_wp2_with fail
      refine HR.out.mono ?_
      rintro e w1 ⟨rfl,hb⟩
      go_wp2_with fail
      refine (HN.out _).mono ?_
      rintro e _ ⟨rfl,rfl⟩
      go_wp2_with fail
      refine (HTI.out _).mono ?_
      rintro e _ ⟨rfl,rfl⟩
      go_wp2
      go_ret2
      rw [HE.out]
      exact ⟨rfl,ActPost.same HW.out hb⟩
     rw [decide_eq_true hti] at HTI
     rw [if_neg (by rw [hn]; simp; omega)] at hr0
     by_cases h4:4000 < tx.length
     ·have t1:decide ((4000:Int) < (tx.length:Int))=true:=decide_eq_true (by omega)
      rw [if_pos h4] at hr0
      have HE:=Lib.hid hr0.symm
      clear hr0 hd h HV hn HS hti h4
      go_enter Tryz.func25,Tryz.ntmps25
      go_wp2_with fail
      refine HR.out.mono ?_
      rintro e w1 ⟨rfl,hb⟩
      go_wp2_with fail
      refine (HN.out _).mono ?_
      rintro e _ ⟨rfl,rfl⟩
      go_wp2_with fail
      refine (HTI.out _).mono ?_
      rintro e _ ⟨rfl,rfl⟩
      go_wp2
      go_ret2
      rw [HE.out]
      exact ⟨rfl,ActPost.same HW.out hb⟩
     have t1:decide ((4000:Int) < (tx.length:Int))=false:=decide_eq_false (by omega)
     rw [if_neg h4] at hr0
     have HT:=Lib.hid (fun W (hW:Below w.heap.size w W)=>taskOf_c id st W (HS.out W hW) (by omega))
     cases ht:s.taskOfP id st with
     | none=>
       rw [ht] at HT hr0
       have HE:=Lib.hid hr0.symm
       clear hr0 hd h HV hn HS ht hti h4
       go_enter Tryz.func25,Tryz.ntmps25
       go_wp2_with fail
       refine HR.out.mono ?_
       rintro e w1 ⟨rfl,hb⟩
       go_wp2_with fail
       refine (HN.out _).mono ?_
       rintro e _ ⟨rfl,rfl⟩
       go_wp2_with fail
       refine (HTI.out _).mono ?_
       rintro e _ ⟨rfl,rfl⟩
       go_wp2_with fail
       refine (HT.out _ hb).mono ?_
       rintro e w3 ⟨hp,hb3⟩
       have hp:e=.returned (.tuple #[taskV zeroT (.slice none 0 0),.bool false]):=hp
       subst hp
       unfold zeroT
       have HB4:=Lib.hid ((hb.trans (hb3.mono hb.size)).alloc (Nat.le_trans hb.size hb3.size) (.cells #[.string ⟨#[]⟩,.string ⟨#[]⟩,.int .i64 0,.int .i64 0,.int .i64 0,.int .i64 0,.slice none 0 0] 35))
       clear hb hb3 HT
       go_wp2
       go_ret2
       rw [HE.out]
       exact ⟨rfl,ActPost.same HW.out HB4.out⟩
     | some t=>
       rw [ht] at HT hr0
       simp only at hr0
       obtain ⟨htp, -⟩:=JS.taskOf_some ht
       obtain ⟨-,hi1,hi2,hF, -⟩:=JS.taskP_fine htp
       obtain ⟨n,rfl⟩:∃ n:Nat,id=n:=⟨id.toNat,by omega⟩
       obtain ⟨x,hx⟩:∃ m:Nat,now=m:=⟨now.toNat,by omega⟩
       have f0:=hF.f0; have f1:=hF.f1; have f2:=hF.f2; have f3:=hF.f3; have f4:=hF.t0; have f5:=hF.t1
       obtain ⟨m,hm⟩:∃ m:Nat,t.tries=m:=⟨t.tries.toNat,by omega⟩
       have HA:=Lib.hid (fun W (hW:Below w.heap.size w W)=>attempts_c n st W (HS.out W hW) hok)
       have HX:=Lib.hid (fun W (hW:Below w.heap.size w W)=>extension_c n st W (HS.out W hW) hok)
       have hxl:=extP_lt s n st
       have hal:(s.attsP n st).length≤99:=by
        unfold JS.attsP
        rw [htp]
        simp only
        rw [if_neg (by rw [hn]; simp)]
        have:=attsFrom_le s.c.ents ((n:Int).toNat) st t.tries.toNat 1
        omega
       have HNUM:=Lib.hid (fun W=>snumber_i (.slice none 0 0) [] now x W.heap.size W hx (by simpa [byts] using World.ownsRow_nil W W.heap.size 5 1) (Nat.le_refl _) (by omega) (by simp))
       have HC:=Lib.hid (fun k (hk:k≤99) W (hW:Below w.heap.size w W) v (hv:W.ownsRow w.heap.size 5 1 v (numB x 4 ++ tx).length (byts (numB x 4 ++ tx)))=>set_c (akey n st (k+1)) (numB x 4 ++ tx) v W (HS.out W hW).jw (RdP.own hv (fun g h1 _=>h.new h1)) (by simp [akey,digP_len]; omega) (by rw [List.length_append,numB_length]; omega))
       have HKA:=Lib.hid (fun k (hk:k≤99) W=>attemptKey_c n st (k+1) W (by omega) (by omega) (by omega))
       have HCE:=Lib.hid (fun W (hW:Below w.heap.size w W)=>(HS.out W hW).cell)
       unfold subEnd at hr0
       have hxt:now.toNat=x:=by omega
       rw [hxt,Int.toNat_natCast,hm] at hr0
       generalize s.attsP n st=l at *
       generalize s.dueP n st=du at *
       generalize s.extP n st=ex at *
       obtain ⟨cls,name,frm,due,late,tries,body⟩:=t
       simp only at hm f0 f1 f2 f3 f4 f5 hr0
       subst hm
       have hwr:IntKind.i64.wrap (late+(ex:Int))=late+(ex:Int):=by rw [IntKind.wrap_i64]; omega
       clear hd h hn HS ht htp hF hok hx hxt
       by_cases he:now < frm
       ·have t2:decide (now < frm)=true:=decide_eq_true he
        rw [if_pos (Or.inl he)] at hr0
        have HE:=Lib.hid hr0.symm
        clear hr0 HV he hti h4 HC HKA HNUM HX HCE
        go_enter Tryz.func25,Tryz.ntmps25
        go_wp2_with fail
        refine HR.out.mono ?_
        rintro e w1 ⟨rfl,hb⟩
        go_wp2_with fail
        refine (HN.out _).mono ?_
        rintro e _ ⟨rfl,rfl⟩
        go_wp2_with fail
        refine (HTI.out _).mono ?_
        rintro e _ ⟨rfl,rfl⟩
        go_wp2_with fail
        refine (HT.out _ hb).mono ?_
        rintro e w3 ⟨⟨a,c,rfl, -⟩,hb3⟩
        have hb3':=hb.trans (hb3.mono hb.size)
        have HB4:=Lib.hid (hb3'.alloc hb3'.size (.cells #[strV cls,strV name,.int .i64 frm,.int .i64 due,.int .i64 late,.int .i64 (m:Int),.slice a body.length c] 35))
        have HY4:=Lib.hid (Blk.new w3 35 [strV cls,strV name,.int .i64 frm,.int .i64 due,.int .i64 late,.int .i64 (m:Int),.slice a body.length c])
        have hA4:=HA.out _ HB4.out
        clear hb hb3 HT hb3'
        go_wp2_with fail
        refine hA4.mono ?_
        rintro e w5 ⟨⟨v5,rfl,hv5⟩,hb5⟩
        have HB5:=Lib.hid (HB4.out.trans (hb5.mono HB4.out.size))
        have HY5:=Lib.hid (HY4.out.below hb5)
        obtain ⟨a5,c5,rfl,hsh⟩:=hv5.shape
        clear HB4 HY4 hb5 hA4 HA hv5
        generalize w3.heap.size=tb at *
        obtain ⟨y0,y1,y2,y3,y4,y5,y6,yf⟩:=t7_of HY5.out
        clear hsh
        go_wp2
        go_ret2
        rw [HE.out]
        exact ⟨rfl,ActPost.same HW.out HB5.out⟩
       have t2:decide (now < frm)=false:=decide_eq_false he
       rcases Nat.eq_zero_or_pos l.length with hl0 | hlp
       ·have hne:¬ (now < frm∨∃ x,l.getLast?=some x∧now < (x.1:Int)):=by
         obtain rfl:=List.eq_nil_of_length_eq_zero hl0
         rintro (e | ⟨x,e, -⟩)
         ·exact he e
         ·cases e
        rw [hl0] at hr0 hal
        have HL:=Lib.hid hl0
        clear hl0
        replace hr0:=(if_neg hne).symm.trans hr0
        by_cases hla:late+(ex:Int) < now
        ·have t4:decide (late+(ex:Int) < now)=true:=decide_eq_true hla
         replace hr0:=(if_pos hla).symm.trans hr0
         have HE:=Lib.hid hr0.symm
         clear hr0 HV he hti h4 HC HKA HNUM hne hla hal
         go_enter Tryz.func25,Tryz.ntmps25
         go_wp2_with fail
         refine HR.out.mono ?_
         rintro e w1 ⟨rfl,hb⟩
         go_wp2_with fail
         refine (HN.out _).mono ?_
         rintro e _ ⟨rfl,rfl⟩
         go_wp2_with fail
         refine (HTI.out _).mono ?_
         rintro e _ ⟨rfl,rfl⟩
         go_wp2_with fail
         refine (HT.out _ hb).mono ?_
         rintro e w3 ⟨⟨a,c,rfl, -⟩,hb3⟩
         have hb3':=hb.trans (hb3.mono hb.size)
         have HB4:=Lib.hid (hb3'.alloc hb3'.size (.cells #[strV cls,strV name,.int .i64 frm,.int .i64 due,.int .i64 late,.int .i64 (m:Int),.slice a body.length c] 35))
         have HY4:=Lib.hid (Blk.new w3 35 [strV cls,strV name,.int .i64 frm,.int .i64 due,.int .i64 late,.int .i64 (m:Int),.slice a body.length c])
         have hA4:=HA.out _ HB4.out
         clear hb hb3 HT hb3'
         go_wp2_with fail
         refine hA4.mono ?_
         rintro e w5 ⟨⟨v5,rfl,hv5⟩,hb5⟩
         have HB5:=Lib.hid (HB4.out.trans (hb5.mono HB4.out.size))
         have HY5:=Lib.hid (HY4.out.below hb5)
         obtain ⟨a5,c5,rfl,hsh⟩:=hv5.shape
         clear HB4 HY4 hb5 hA4 HA hv5
         generalize w3.heap.size=tb at *
         obtain ⟨y0,y1,y2,y3,y4,y5,y6,yf⟩:=t7_of HY5.out
         clear hsh
         rw [HL.out]
         clear HL
         have k0:=HCE.out _ HB5.out
         have B5:=HB5.out.drew
         go_upto_region 15 with (fail)
         go_region_held3 (fun w'=>w'.cell? ⟨tb,4,none⟩=some (.int .i64 late)) (first | exact y4 | exact keep_cell b6 y4)
          (first | (go_at_call 21; refine (HX.out _ B5).mono ?_; rintro e w6 ⟨rfl,b6⟩))
         have HB6:=Lib.hid (B5.trans (b6.mono B5.size))
         have HY6:=Lib.hid (HY5.out.below ((bl_drew w5).trans (b6.mono (Nat.le_refl _))))
         clear HY5 HB5 B5 b6 HX k0 y0 y1 y2 y3 y4 y5 y6 yf
         obtain ⟨y0,y1,y2,y3,y4,y5,y6,yf⟩:=t7_of HY6.out
         go_wp2
         go_ret2
         rw [HE.out]
         exact ⟨rfl,ActPost.same HW.out HB6.out⟩
        have t4:decide (late+(ex:Int) < now)=false:=decide_eq_false hla
        replace hr0:=(if_neg hla).symm.trans hr0
        have htr:¬ m≤0:=by omega
        have e5:¬ (m:Int)≤((0:Nat):Int):=fun h=>htr (Int.ofNat_le.1 h)
        have t5:decide ((m:Int)≤0)=false:=decide_eq_false e5
        replace hr0:=(if_neg e5).symm.trans hr0
        clear e5
        obtain ⟨j,hj⟩:∃ j,jCommit [⟨akey n st (0+1),numB x 4 ++ tx,false⟩] s=j:=⟨_,rfl⟩
        rw [hj] at hr0
        have HC:=Lib.hid (HC.out 0 hal)
        have HKA:=Lib.hid (HKA.out 0 hal)
        rw [hj] at HC
        have HRJ:=Lib.hid hr0
        have HAL:=Lib.hid (show 0≤99 from hal)
        obtain ⟨ak,hak⟩:∃ q,akey n st (0+1)=q:=⟨_,rfl⟩
        rw [hak] at HC HKA
        have ecast:((0+1:Nat):Int)=0+1:=rfl
        rw [ecast] at HKA
        rw [show (0:Int)+1=1 from rfl] at HKA
        clear hr0 hj hak ecast hal he hne hla htr
        go_enter Tryz.func25,Tryz.ntmps25
        go_wp2_with fail
        refine HR.out.mono ?_
        rintro e w1 ⟨rfl,hb⟩
        go_wp2_with fail
        refine (HN.out _).mono ?_
        rintro e _ ⟨rfl,rfl⟩
        go_wp2_with fail
        refine (HTI.out _).mono ?_
        rintro e _ ⟨rfl,rfl⟩
        go_wp2_with fail
        refine (HT.out _ hb).mono ?_
        rintro e w3 ⟨⟨a,c,rfl, -⟩,hb3⟩
        have hb3':=hb.trans (hb3.mono hb.size)
        have HB4:=Lib.hid (hb3'.alloc hb3'.size (.cells #[strV cls,strV name,.int .i64 frm,.int .i64 due,.int .i64 late,.int .i64 (m:Int),.slice a body.length c] 35))
        have HY4:=Lib.hid (Blk.new w3 35 [strV cls,strV name,.int .i64 frm,.int .i64 due,.int .i64 late,.int .i64 (m:Int),.slice a body.length c])
        have hA4:=HA.out _ HB4.out
        clear hb hb3 HT hb3'
        go_wp2_with fail
        refine hA4.mono ?_
        rintro e w5 ⟨⟨v5,rfl,hv5⟩,hb5⟩
        have HB5:=Lib.hid (HB4.out.trans (hb5.mono HB4.out.size))
        have HY5:=Lib.hid (HY4.out.below hb5)
        obtain ⟨a5,c5,rfl,hsh⟩:=hv5.shape
        clear HB4 HY4 hb5 hA4 HA hv5
        generalize w3.heap.size=tb at *
        obtain ⟨y0,y1,y2,y3,y4,y5,y6,yf⟩:=t7_of HY5.out
        clear hsh
        rw [HL.out]
        clear HL
        have k0:=HCE.out _ HB5.out
        have B5:=HB5.out.drew
        go_upto_region 15 with (fail)
        go_region_held3 (fun w'=>w'.cell? ⟨tb,4,none⟩=some (.int .i64 late)) (first | exact y4 | exact keep_cell b6 y4)
         (first | (go_at_call 21; refine (HX.out _ B5).mono ?_; rintro e w6 ⟨rfl,b6⟩))
        have HB6:=Lib.hid (B5.trans (b6.mono B5.size))
        have HY6:=Lib.hid (HY5.out.below ((bl_drew w5).trans (b6.mono (Nat.le_refl _))))
        clear HY5 HB5 B5 b6 HX k0 y0 y1 y2 y3 y4 y5 y6 yf
        obtain ⟨y0,y1,y2,y3,y4,y5,y6,yf⟩:=t7_of HY6.out
        have hs6:=HB6.out.size
        have htl:tx.length≤4000:=Nat.le_of_not_lt h4
        go_wp2_with fail
        refine (HNUM.out w6).mono ?_
        rintro e w7 ⟨⟨v7,rfl,y7⟩,b7, -⟩
        rw [List.nil_append] at y7
        have hB7:=HB6.out.trans (b7.mono hs6)
        have HV7:=Lib.hid ((HV.out.below hB7).mono hB7.size)
        have Y7:=own_up y7 hs6
        have HB7:=Lib.hid hB7
        have hs7:=hB7.size
        have hl4:(numB x 4).length=4:=numB_length _ _
        clear b7 y7 HNUM hB7 HV
        go_upto_region 20 with (at_builtin; go_must (refine wpList_appK rfl _ _ rfl w.heap.size _ (numB x 4).length (numB x 4) rfl Y7 _ tx rfl HV7.out (by omega) hs7 ?_); intro v8 w8 y8 b8 _)
        have HB8:=Lib.hid (HB7.out.trans b8)
        have HY8:=Lib.hid (show w8.ownsRow w.heap.size 5 1 v8 (numB x 4 ++ tx).length (byts (numB x 4 ++ tx)) by rw [List.length_append]; exact y8)
        clear y8 b8 Y7 HB7 HV7 hs7 hl4
        clear HAL
        have k0:=HCE.out _ HB8.out
        have B8:=HB8.out.drew
        have R8:=bl_drew w8
        go_region_held3 (fun w'=>w'.cell? ⟨sb,0,none⟩=some (.pointer (some ⟨jb,0,none⟩))) (first | exact k0 | exact HCE.out _ B9 | exact (ActPost.of HW.out B9 hJ hG).sw.cell)
         (first
          | (go_at_call 32; refine (HC.out _ B9 _ (own_below HY8.out R9)).mono ?_; rintro e w10 ⟨rfl,hJ,hG⟩)
          | (go_at_call 51; have _t:=B8; refine (HKA.out _).mono ?_; rintro e w9 ⟨rfl,b9⟩; have B9:=B8.trans (b9.mono B8.size); have R9:=R8.trans (b9.mono R8.size); clear b9 B8 R8))
        have HP:=Lib.hid (ActPost.of HW.out B9 hJ hG)
        clear hJ hG B9 R9
        by_cases hz:j.2=0
        ·have HE:=HRJ.out
         rw [if_pos hz] at HE
         have HE:=Lib.hid HE.symm
         have tz:(j.2 != 0)=false:=by rw [hz]; rfl
         clear hz
         go_wp2
         go_ret2
         rw [HE.out]
         exact ⟨rfl,HP.out⟩
        ·have HE:=HRJ.out
         rw [if_neg hz] at HE
         have HE:=Lib.hid HE.symm
         have tz:(j.2 != 0)=true:=by rw [bne_iff_ne]; exact hz
         clear hz
         go_wp2
         go_ret2
         rw [HE.out]
         exact ⟨rfl,HP.out⟩
       ·obtain ⟨k,hk⟩:∃ k,l.length=k+1:=⟨l.length - 1,by omega⟩
        obtain ⟨lt,hlt⟩:∃ z,(l[k]'(by omega)).1=z:=⟨_,rfl⟩
        have hlast:l.getLast?=some (l[k]'(by omega)):=by
         have e1:l.length - 1=k:=by omega
         rw [List.getLast?_eq_getElem?,e1]; exact List.getElem?_eq_getElem _
        have hal':k+1≤99:=by omega
        clear hal
        have hal:=hal'
        clear hal'
        have hkw:=Lib.hid (show wrap64 (k:Int)=(k:Int) by clear hwr; unfold wrap64; omega)
        have HL:=Lib.hid hk
        have HZ:=Lib.hid (show ∀ h:k < l.length,(l[k]'h).1=lt from fun _=>hlt)
        by_cases hel:now < (lt:Int)
        ·have t3:decide (now < (lt:Int))=true:=decide_eq_true hel
         rw [if_pos (Or.inr ⟨_,hlast,by subst hlt; exact hel⟩)] at hr0
         have HE:=Lib.hid hr0.symm
         clear hr0 HV he hti h4 HC HKA HNUM HX HCE hel hlast hlt hk hlp hal
         replace hkw:=hkw.out
         go_enter Tryz.func25,Tryz.ntmps25
         go_wp2_with fail
         refine HR.out.mono ?_
         rintro e w1 ⟨rfl,hb⟩
         go_wp2_with fail
         refine (HN.out _).mono ?_
         rintro e _ ⟨rfl,rfl⟩
         go_wp2_with fail
         refine (HTI.out _).mono ?_
         rintro e _ ⟨rfl,rfl⟩
         go_wp2_with fail
         refine (HT.out _ hb).mono ?_
         rintro e w3 ⟨⟨a,c,rfl, -⟩,hb3⟩
         have hb3':=hb.trans (hb3.mono hb.size)
         have HB4:=Lib.hid (hb3'.alloc hb3'.size (.cells #[strV cls,strV name,.int .i64 frm,.int .i64 due,.int .i64 late,.int .i64 (m:Int),.slice a body.length c] 35))
         have HY4:=Lib.hid (Blk.new w3 35 [strV cls,strV name,.int .i64 frm,.int .i64 due,.int .i64 late,.int .i64 (m:Int),.slice a body.length c])
         have hA4:=HA.out _ HB4.out
         clear hb hb3 HT hb3'
         go_wp2_with fail
         refine hA4.mono ?_
         rintro e w5 ⟨⟨v5,rfl,hv5⟩,hb5⟩
         have HB5:=Lib.hid (HB4.out.trans (hb5.mono HB4.out.size))
         have HY5:=Lib.hid (HY4.out.below hb5)
         obtain ⟨a5,c5,rfl,hsh⟩:=hv5.shape
         clear HB4 HY4 hb5 hA4 HA hv5
         generalize w3.heap.size=tb at *
         obtain ⟨y0,y1,y2,y3,y4,y5,y6,yf⟩:=t7_of HY5.out
         rcases hsh with e | ⟨g,rfl,hg,hc⟩
         ·have:=HL.out; rw [e] at this; simp at this
         have hk1:=HL.out
         obtain ⟨c0, -⟩:=hc k (by rw [hk1]; exact Nat.lt_succ_self k)
         rw [HZ.out (by rw [hk1]; exact Nat.lt_succ_self k)] at c0
         rw [hk1]
         clear hc hk1 HL HZ
         have pk:(0:Int) < ((k+1:Nat):Int):=Int.natCast_pos.2 (Nat.succ_pos k)
         have pk2:(k:Int) < ((k+1:Nat):Int):=Int.ofNat_lt.2 (Nat.lt_succ_self k)
         go_wp2
         go_ret2
         rw [HE.out]
         exact ⟨rfl,ActPost.same HW.out HB5.out⟩
        have t3:decide (now < (lt:Int))=false:=decide_eq_false hel
        have hne:¬ (now < frm∨∃ x,l.getLast?=some x∧now < (x.1:Int)):=by
         rintro (e | ⟨x,e,e2⟩)
         ·exact he e
         ·rw [hlast] at e; cases e; subst hlt; exact hel e2
        have hr0':=hr0
        rw [HL.out] at hr0'
        clear hr0
        have hr0:=hr0'
        clear hr0'
        clear hel hlast hk hlt hlp
        replace hr0:=(if_neg hne).symm.trans hr0
        by_cases hla:late+(ex:Int) < now
        ·have t4:decide (late+(ex:Int) < now)=true:=decide_eq_true hla
         replace hr0:=(if_pos hla).symm.trans hr0
         have HE:=Lib.hid hr0.symm
         clear hr0 HV he hti h4 HC HKA HNUM hne hla hal
         replace hkw:=hkw.out
         go_enter Tryz.func25,Tryz.ntmps25
         go_wp2_with fail
         refine HR.out.mono ?_
         rintro e w1 ⟨rfl,hb⟩
         go_wp2_with fail
         refine (HN.out _).mono ?_
         rintro e _ ⟨rfl,rfl⟩
         go_wp2_with fail
         refine (HTI.out _).mono ?_
         rintro e _ ⟨rfl,rfl⟩
         go_wp2_with fail
         refine (HT.out _ hb).mono ?_
         rintro e w3 ⟨⟨a,c,rfl, -⟩,hb3⟩
         have hb3':=hb.trans (hb3.mono hb.size)
         have HB4:=Lib.hid (hb3'.alloc hb3'.size (.cells #[strV cls,strV name,.int .i64 frm,.int .i64 due,.int .i64 late,.int .i64 (m:Int),.slice a body.length c] 35))
         have HY4:=Lib.hid (Blk.new w3 35 [strV cls,strV name,.int .i64 frm,.int .i64 due,.int .i64 late,.int .i64 (m:Int),.slice a body.length c])
         have hA4:=HA.out _ HB4.out
         clear hb hb3 HT hb3'
         go_wp2_with fail
         refine hA4.mono ?_
         rintro e w5 ⟨⟨v5,rfl,hv5⟩,hb5⟩
         have HB5:=Lib.hid (HB4.out.trans (hb5.mono HB4.out.size))
         have HY5:=Lib.hid (HY4.out.below hb5)
         obtain ⟨a5,c5,rfl,hsh⟩:=hv5.shape
         clear HB4 HY4 hb5 hA4 HA hv5
         generalize w3.heap.size=tb at *
         obtain ⟨y0,y1,y2,y3,y4,y5,y6,yf⟩:=t7_of HY5.out
         rcases hsh with e | ⟨g,rfl,hg,hc⟩
         ·have:=HL.out; rw [e] at this; simp at this
         have hk1:=HL.out
         obtain ⟨c0, -⟩:=hc k (by rw [hk1]; exact Nat.lt_succ_self k)
         rw [HZ.out (by rw [hk1]; exact Nat.lt_succ_self k)] at c0
         rw [hk1]
         clear hc hk1 HL HZ
         have pk:(0:Int) < ((k+1:Nat):Int):=Int.natCast_pos.2 (Nat.succ_pos k)
         have pk2:(k:Int) < ((k+1:Nat):Int):=Int.ofNat_lt.2 (Nat.lt_succ_self k)
         have k0:=HCE.out _ HB5.out
         have B5:=HB5.out.drew
         go_upto_region 15 with (fail)
         go_region_held3 (fun w'=>w'.cell? ⟨tb,4,none⟩=some (.int .i64 late)) (first | exact y4 | exact keep_cell b6 y4)
          (first | (go_at_call 21; refine (HX.out _ B5).mono ?_; rintro e w6 ⟨rfl,b6⟩))
         have HB6:=Lib.hid (B5.trans (b6.mono B5.size))
         have HY6:=Lib.hid (HY5.out.below ((bl_drew w5).trans (b6.mono (Nat.le_refl _))))
         clear HY5 HB5 B5 b6 HX k0 y0 y1 y2 y3 y4 y5 y6 yf
         obtain ⟨y0,y1,y2,y3,y4,y5,y6,yf⟩:=t7_of HY6.out
         go_wp2
         go_ret2
         rw [HE.out]
         exact ⟨rfl,ActPost.same HW.out HB6.out⟩
        have t4:decide (late+(ex:Int) < now)=false:=decide_eq_false hla
        replace hr0:=(if_neg hla).symm.trans hr0
        by_cases htr:m≤(k+1)
        ·have e5:(m:Int)≤(((k+1):Nat):Int):=Int.ofNat_le.2 htr
         have t5:decide ((m:Int)≤((k:Int)+1))=true:=decide_eq_true e5
         replace hr0:=(if_pos e5).symm.trans hr0
         clear e5
         have HE:=Lib.hid hr0.symm
         clear hr0 HV he hti h4 HC HKA HNUM hne hla hal htr
         replace hkw:=hkw.out
         go_enter Tryz.func25,Tryz.ntmps25
         go_wp2_with fail
         refine HR.out.mono ?_
         rintro e w1 ⟨rfl,hb⟩
         go_wp2_with fail
         refine (HN.out _).mono ?_
         rintro e _ ⟨rfl,rfl⟩
         go_wp2_with fail
         refine (HTI.out _).mono ?_
         rintro e _ ⟨rfl,rfl⟩
         go_wp2_with fail
         refine (HT.out _ hb).mono ?_
         rintro e w3 ⟨⟨a,c,rfl, -⟩,hb3⟩
         have hb3':=hb.trans (hb3.mono hb.size)
         have HB4:=Lib.hid (hb3'.alloc hb3'.size (.cells #[strV cls,strV name,.int .i64 frm,.int .i64 due,.int .i64 late,.int .i64 (m:Int),.slice a body.length c] 35))
         have HY4:=Lib.hid (Blk.new w3 35 [strV cls,strV name,.int .i64 frm,.int .i64 due,.int .i64 late,.int .i64 (m:Int),.slice a body.length c])
         have hA4:=HA.out _ HB4.out
         clear hb hb3 HT hb3'
         go_wp2_with fail
         refine hA4.mono ?_
         rintro e w5 ⟨⟨v5,rfl,hv5⟩,hb5⟩
         have HB5:=Lib.hid (HB4.out.trans (hb5.mono HB4.out.size))
         have HY5:=Lib.hid (HY4.out.below hb5)
         obtain ⟨a5,c5,rfl,hsh⟩:=hv5.shape
         clear HB4 HY4 hb5 hA4 HA hv5
         generalize w3.heap.size=tb at *
         obtain ⟨y0,y1,y2,y3,y4,y5,y6,yf⟩:=t7_of HY5.out
         rcases hsh with e | ⟨g,rfl,hg,hc⟩
         ·have:=HL.out; rw [e] at this; simp at this
         have hk1:=HL.out
         obtain ⟨c0, -⟩:=hc k (by rw [hk1]; exact Nat.lt_succ_self k)
         rw [HZ.out (by rw [hk1]; exact Nat.lt_succ_self k)] at c0
         rw [hk1]
         clear hc hk1 HL HZ
         have pk:(0:Int) < ((k+1:Nat):Int):=Int.natCast_pos.2 (Nat.succ_pos k)
         have pk2:(k:Int) < ((k+1:Nat):Int):=Int.ofNat_lt.2 (Nat.lt_succ_self k)
         have k0:=HCE.out _ HB5.out
         have B5:=HB5.out.drew
         go_upto_region 15 with (fail)
         go_region_held3 (fun w'=>w'.cell? ⟨tb,4,none⟩=some (.int .i64 late)) (first | exact y4 | exact keep_cell b6 y4)
          (first | (go_at_call 21; refine (HX.out _ B5).mono ?_; rintro e w6 ⟨rfl,b6⟩))
         have HB6:=Lib.hid (B5.trans (b6.mono B5.size))
         have HY6:=Lib.hid (HY5.out.below ((bl_drew w5).trans (b6.mono (Nat.le_refl _))))
         clear HY5 HB5 B5 b6 HX k0 y0 y1 y2 y3 y4 y5 y6 yf
         obtain ⟨y0,y1,y2,y3,y4,y5,y6,yf⟩:=t7_of HY6.out
         go_wp2
         go_ret2
         rw [HE.out]
         exact ⟨rfl,ActPost.same HW.out HB6.out⟩
        have e5:¬ (m:Int)≤(((k+1):Nat):Int):=fun h=>htr (Int.ofNat_le.1 h)
        have t5:decide ((m:Int)≤((k:Int)+1))=false:=decide_eq_false e5
        replace hr0:=(if_neg e5).symm.trans hr0
        clear e5
        obtain ⟨j,hj⟩:∃ j,jCommit [⟨akey n st ((k+1)+1),numB x 4 ++ tx,false⟩] s=j:=⟨_,rfl⟩
        rw [hj] at hr0
        have HC:=Lib.hid (HC.out (k+1) hal)
        have HKA:=Lib.hid (HKA.out (k+1) hal)
        rw [hj] at HC
        have HRJ:=Lib.hid hr0
        have HAL:=Lib.hid (show (k+1)≤99 from hal)
        obtain ⟨ak,hak⟩:∃ q,akey n st ((k+1)+1)=q:=⟨_,rfl⟩
        rw [hak] at HC HKA
        have ecast:(((k+1)+1:Nat):Int)=((k:Int)+1)+1:=rfl
        rw [ecast] at HKA
        clear hr0 hj hak ecast hal he hne hla htr
        replace hkw:=hkw.out
        go_enter Tryz.func25,Tryz.ntmps25
        go_wp2_with fail
        refine HR.out.mono ?_
        rintro e w1 ⟨rfl,hb⟩
        go_wp2_with fail
        refine (HN.out _).mono ?_
        rintro e _ ⟨rfl,rfl⟩
        go_wp2_with fail
        refine (HTI.out _).mono ?_
        rintro e _ ⟨rfl,rfl⟩
        go_wp2_with fail
        refine (HT.out _ hb).mono ?_
        rintro e w3 ⟨⟨a,c,rfl, -⟩,hb3⟩
        have hb3':=hb.trans (hb3.mono hb.size)
        have HB4:=Lib.hid (hb3'.alloc hb3'.size (.cells #[strV cls,strV name,.int .i64 frm,.int .i64 due,.int .i64 late,.int .i64 (m:Int),.slice a body.length c] 35))
        have HY4:=Lib.hid (Blk.new w3 35 [strV cls,strV name,.int .i64 frm,.int .i64 due,.int .i64 late,.int .i64 (m:Int),.slice a body.length c])
        have hA4:=HA.out _ HB4.out
        clear hb hb3 HT hb3'
        go_wp2_with fail
        refine hA4.mono ?_
        rintro e w5 ⟨⟨v5,rfl,hv5⟩,hb5⟩
        have HB5:=Lib.hid (HB4.out.trans (hb5.mono HB4.out.size))
        have HY5:=Lib.hid (HY4.out.below hb5)
        obtain ⟨a5,c5,rfl,hsh⟩:=hv5.shape
        clear HB4 HY4 hb5 hA4 HA hv5
        generalize w3.heap.size=tb at *
        obtain ⟨y0,y1,y2,y3,y4,y5,y6,yf⟩:=t7_of HY5.out
        rcases hsh with e | ⟨g,rfl,hg,hc⟩
        ·have:=HL.out; rw [e] at this; simp at this
        have hk1:=HL.out
        obtain ⟨c0, -⟩:=hc k (by rw [hk1]; exact Nat.lt_succ_self k)
        rw [HZ.out (by rw [hk1]; exact Nat.lt_succ_self k)] at c0
        rw [hk1]
        clear hc hk1 HL HZ
        have pk:(0:Int) < ((k+1:Nat):Int):=Int.natCast_pos.2 (Nat.succ_pos k)
        have pk2:(k:Int) < ((k+1:Nat):Int):=Int.ofNat_lt.2 (Nat.lt_succ_self k)
        have k0:=HCE.out _ HB5.out
        have B5:=HB5.out.drew
        go_upto_region 15 with (fail)
        go_region_held3 (fun w'=>w'.cell? ⟨tb,4,none⟩=some (.int .i64 late)) (first | exact y4 | exact keep_cell b6 y4)
         (first | (go_at_call 21; refine (HX.out _ B5).mono ?_; rintro e w6 ⟨rfl,b6⟩))
        have HB6:=Lib.hid (B5.trans (b6.mono B5.size))
        have HY6:=Lib.hid (HY5.out.below ((bl_drew w5).trans (b6.mono (Nat.le_refl _))))
        clear HY5 HB5 B5 b6 HX k0 y0 y1 y2 y3 y4 y5 y6 yf
        obtain ⟨y0,y1,y2,y3,y4,y5,y6,yf⟩:=t7_of HY6.out
        clear hkw pk pk2
        have hs6:=HB6.out.size
        have htl:tx.length≤4000:=Nat.le_of_not_lt h4
        go_wp2_with fail
        refine (HNUM.out w6).mono ?_
        rintro e w7 ⟨⟨v7,rfl,y7⟩,b7, -⟩
        rw [List.nil_append] at y7
        have hB7:=HB6.out.trans (b7.mono hs6)
        have HV7:=Lib.hid ((HV.out.below hB7).mono hB7.size)
        have Y7:=own_up y7 hs6
        have HB7:=Lib.hid hB7
        have hs7:=hB7.size
        have hl4:(numB x 4).length=4:=numB_length _ _
        clear b7 y7 HNUM hB7 HV
        go_upto_region 20 with (at_builtin; go_must (refine wpList_appK rfl _ _ rfl w.heap.size _ (numB x 4).length (numB x 4) rfl Y7 _ tx rfl HV7.out (by omega) hs7 ?_); intro v8 w8 y8 b8 _)
        have HB8:=Lib.hid (HB7.out.trans b8)
        have HY8:=Lib.hid (show w8.ownsRow w.heap.size 5 1 v8 (numB x 4 ++ tx).length (byts (numB x 4 ++ tx)) by rw [List.length_append]; exact y8)
        clear y8 b8 Y7 HB7 HV7 hs7 hl4
        have hkw3:IntKind.i64.wrap ((k:Int)+1+1)=(k:Int)+1+1:=by rw [IntKind.wrap_i64]; have:=HAL.out; omega
        clear HAL
        have k0:=HCE.out _ HB8.out
        have B8:=HB8.out.drew
        have R8:=bl_drew w8
        go_region_held3 (fun w'=>w'.cell? ⟨sb,0,none⟩=some (.pointer (some ⟨jb,0,none⟩))) (first | exact k0 | exact HCE.out _ B9 | exact (ActPost.of HW.out B9 hJ hG).sw.cell)
         (first
          | (go_at_call 32; refine (HC.out _ B9 _ (own_below HY8.out R9)).mono ?_; rintro e w10 ⟨rfl,hJ,hG⟩)
          | (go_at_call 51; have _t:=B8; refine (HKA.out _).mono ?_; rintro e w9 ⟨rfl,b9⟩; have B9:=B8.trans (b9.mono B8.size); have R9:=R8.trans (b9.mono R8.size); clear b9 B8 R8))
        have HP:=Lib.hid (ActPost.of HW.out B9 hJ hG)
        clear hJ hG B9 R9
        by_cases hz:j.2=0
        ·have HE:=HRJ.out
         rw [if_pos hz] at HE
         have HE:=Lib.hid HE.symm
         have tz:(j.2 != 0)=false:=by rw [hz]; rfl
         clear hz
         go_wp2
         go_ret2
         rw [HE.out]
         exact ⟨rfl,HP.out⟩
        ·have HE:=HRJ.out
         rw [if_neg hz] at HE
         have HE:=Lib.hid HE.symm
         have tz:(j.2 != 0)=true:=by rw [bne_iff_ne]; exact hz
         clear hz
         go_wp2
         go_ret2
         rw [HE.out]
         exact ⟨rfl,HP.out⟩
end
section
open Go.RowKit SeedP Go.Maps
end
section
open Go.RowKit SeedP Go.Maps
end
section
open Go.RowKit SeedP Go.Maps
/-- Pick -/
theorem pick_c (x n:Int) (w:World) (n0:1≤n) (n1:n≤9223372036854775807) :
 Calls Tryz.prog 23 #[.int .i64 x,.int .i64 n] w fun e w'=>e=.returned (.int .i64 (x % n))∧w=w':=by
 have m0:=Int.emod_nonneg x (show n ≠ 0 by omega)
 have m1:=Int.emod_lt_of_pos x (show 0 < n by omega)
 by_cases h:x.tmod n < 0
 ·have H:=Lib.hid (pick_low x n n0 h)
  have b:0≤x.tmod n+n∧x.tmod n+n < n:=by rw [H.out]; exact ⟨m0,m1⟩
  have b1:=b.1
  have b2:=b.2
  clear b m0 m1
  go_enter Tryz.func23,Tryz.ntmps23
  go_wp2
  go_ret
  exact ⟨ret_int H.out,rfl⟩
 ·have H:=Lib.hid (pick_high x n n0 (by omega))
  clear m0 m1
  go_enter Tryz.func23,Tryz.ntmps23
  go_wp2
  go_ret
  exact ⟨ret_int H.out,rfl⟩
end
end Go.Proofs.YtbcfpdlhieaepaaGreatDoor
