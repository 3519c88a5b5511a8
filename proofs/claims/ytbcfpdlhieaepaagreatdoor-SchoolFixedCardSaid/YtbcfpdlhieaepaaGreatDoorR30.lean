/- The walks of Attempts and Tasks. -/
import Derived.Test.YtbcfpdlhieaepaaGreatDoorR29
namespace Go.Proofs.YtbcfpdlhieaepaaGreatDoor
open Go.RowKit SeedP Go.Maps
/-- an attempt as a list holds it -/
structure AttV where
 tm:Nat
 tx:List UInt8
 v:Value
def rowA (due:Int) (xs:List AttV):List Value:=xs.flatMap fun x=>[.int .i64 x.tm,.bool (decide (due < x.tm)),x.v]
theorem rowA_append (due:Int) (a b:List AttV):rowA due (a ++ b)=rowA due a ++ rowA due b:=by simp [rowA]
theorem rowA_get (due:Int):∀ (xs:List AttV) (j:Nat) (h:j < xs.length),(rowA due xs)[j * 3]?=some (.int .i64 xs[j].tm)∧(rowA due xs)[j * 3+1]?=some (.bool (decide (due < xs[j].tm)))∧(rowA due xs)[j * 3+2]?=some xs[j].v
 | x :: xs,0,_=>⟨rfl,rfl,rfl⟩
 | x :: xs,j+1,h=>by
   have ih:=rowA_get due xs j (by simpa using h)
   rw [show (j+1) * 3=j * 3+1+1+1 by omega]
   exact ih
theorem infoA:(Tryz.prog.info? 65).map (fun i=>(i.zero,i.size,i.bytes))=some (some (.agg #[.int .i64 0,.bool false,.slice none 0 0]),3,40):=by kernel_rfl
/-- attempts in memory -/
structure AttsW (w:World) (B:Nat) (v:Value) (due:Int) (L:List (Nat × List UInt8)):Prop where
 ex:∃ xs:List AttV,w.ownsRow B 65 3 v xs.length (rowA due xs)∧xs.map (fun x=>(x.tm,x.tx))=L∧∀ x ∈ xs,RdP w (fun q=>v.ownBlock ≠ some q) x.v x.tx
theorem SchoolOk.att_len {P:PEnts} (h:SchoolOk P) {id n:Nat} {st v:List UInt8} (hf:pFind P (akey id st n)=some v):4≤v.length:=by
 obtain ⟨e,_,hk,hv,_⟩:=h _ _ hf
 cases e with
 | att i s n tm tx=>rw [hv]; show 4≤(numB tm 4 ++ tx).length; rw [List.length_append,numB_length]; omega
 | cls c=>have:=(List.cons.inj hk).1; exact absurd this (by decide)
 | mem c s=>have:=(List.cons.inj hk).1; exact absurd this (by decide)
 | tsk i t=>have:=(List.cons.inj hk).1; exact absurd this (by decide)
 | ext i s m=>have:=(List.cons.inj hk).1; exact absurd this (by decide)
/-- Get, while the power lasts: the bytes lie in a new block -/
theorem sgetP_c {jb db mb:Nat} {p:Nat→Prop} {s:JS} (k:List UInt8) (w:World) (h:JW w jb db mb p s) (hd:s.down=false) (hk:k.length≤140737488351232) :
 Calls Tryz.prog 40 #[.pointer (some ⟨jb,0,none⟩),strV k] w fun e w'=>(∃ a c,e=.returned (.tuple #[.slice a ((pFind s.c.ents k).getD []).length c,.bool (pFind s.c.ents k).isSome])∧RdP w' (fun q=>w.heap.size≤q∧q < w'.heap.size) (.slice a ((pFind s.c.ents k).getD []).length c) ((pFind s.c.ents k).getD []))∧Below w.heap.size w w':=by
 refine (get_c k w h hk).mono ?_
 rintro e w' ⟨⟨v,rfl,hv⟩,hb⟩
 rw [hd] at hv ⊢
 simp only [Bool.false_eq_true,if_false] at hv
 have hr:RdP w' (fun q=>w.heap.size≤q∧q < w'.heap.size) v ((pFind s.c.ents k).getD []):=RdP.own hv (fun g h1 h2=>⟨h1,h2⟩)
 obtain ⟨a,c,rfl,_,_,_⟩:=hr.toB.open_
 exact ⟨⟨a,c,rfl,hr⟩,hb⟩
theorem numV4_lt (v:List UInt8):numV (v.take 4) < 4294967296:=by
 have h:=numV_lt (v.take 4)
 have hl:(v.take 4).length≤4:=by rw [List.length_take]; omega
 have:256 ^ (v.take 4).length≤256 ^ 4:=Nat.pow_le_pow_right (by omega) hl
 have e:(256:Nat) ^ 4=4294967296:=rfl
 omega
theorem extP_lt (s:JS) (id:Int) (st:List UInt8):s.extP id st < 4294967296:=by
 unfold JS.extP
 split
 ·omega
 ·split
  ·omega
  ·exact numV4_lt _
/-- what holds while attempts are listed: k of them have come -/
structure AtM (W0:World) (P:PEnts) (id:Nat) (st:List UInt8) (due:Int) (tries:Nat) (k:Nat) (v:Value) (w:World):Prop where
 be:Below W0.heap.size W0 w
 le:k≤tries
 ex:∃ xs:List AttV,w.ownsRow W0.heap.size 65 3 v xs.length (rowA due xs)∧xs.length=k∧attsFrom P id st 1 tries=xs.map (fun x=>(x.tm,x.tx)) ++ attsFrom P id st (k+1) (tries - k)∧∀ x ∈ xs,RdP w (fun q=>v.ownBlock ≠ some q∧q < w.heap.size) x.v x.tx
theorem AtM.start (W0:World) (P:PEnts) (id:Nat) (st:List UInt8) (due:Int) (tries:Nat):AtM W0 P id st due tries 0 (.slice none 0 0) W0:=
 ⟨Below.refl _ _,Nat.zero_le _,[],by simpa [rowA] using World.ownsRow_nil W0 W0.heap.size 65 3,rfl,by simp,fun x hx=>by cases hx⟩
theorem AtM.below {W0 w w':World} {P:PEnts} {id:Nat} {st:List UInt8} {due:Int} {tries k:Nat} {v:Value} (h:AtM W0 P id st due tries k v w) (hb:Below w.heap.size w w'):AtM W0 P id st due tries k v w':=by
 obtain ⟨xs,h1,h2,h3,h4⟩:=h.ex
 exact ⟨h.be.trans (hb.mono h.be.size),h.le,xs,own_below h1 hb,h2,h3,fun x hx=>((h4 x hx).grown (Grown.of_below hb (S:=fun _=>False)) (fun _ _ h=>h)).mono (fun g _ hg=>⟨hg.1,Nat.lt_of_lt_of_le hg.2 hb.size⟩)⟩
theorem AtM.done {W0 w:World} {P:PEnts} {id:Nat} {st:List UInt8} {due:Int} {tries k:Nat} {v:Value} (h:AtM W0 P id st due tries k v w) (he:attsFrom P id st (k+1) (tries - k)=[]) {B:Nat} (hB:B≤W0.heap.size):AttsW w B v due (attsFrom P id st 1 tries):=by
 obtain ⟨xs,h1,h2,h3,h4⟩:=h.ex
 rw [he,List.append_nil] at h3
 exact ⟨xs,own_up h1 hB,h3.symm,fun x hx=>(h4 x hx).mono (fun g _ hg=>hg.1)⟩
/-- one more -/
theorem AtM.next {W0 w w2 w3:World} {P:PEnts} {id:Nat} {st:List UInt8} {due:Int} {tries k:Nat} {v v':Value} (h:AtM W0 P id st due tries k v w) {val:List UInt8} (hf:pFind P (akey id st (k+1))=some val) (hk:k < tries)
 (hb:Below w.heap.size w w2) {tv:Value} (ht:RdP w2 (fun q=>w.heap.size≤q∧q < w2.heap.size) tv (val.drop 4))
 (hown:w3.ownsRow W0.heap.size 65 3 v' (k+1) (rowA due (h.ex.choose) ++ [.int .i64 (numV (val.take 4)),.bool (decide (due < numV (val.take 4))),tv])) (hg:w2.grownBy w3 v.ownBlock) (hid:v'.ownBlock=v.ownBlock∨∃ q,v'.ownBlock=some q∧w2.heap.size≤q) :
 AtM W0 P id st due tries (k+1) v' w3:=by
 have hm:=h.below hb
 obtain ⟨h1,h2,h3,h4⟩:=h.ex.choose_spec
 generalize h.ex.choose=xs at *
 have hlt:∀ q,v.ownBlock=some q→q < w.heap.size:=fun q hq=>own_lt h1 hq
 have hg2:Grown (fun q=>v.ownBlock=some q) w2 w3:=Grown.of_row hg (fun k e=>e)
 refine ⟨hm.be.trans (hg2.below (fun q e=>(h1.lt q e).1) hm.be.size),hk,xs ++ [⟨numV (val.take 4),val.drop 4,tv⟩],?_,by rw [List.length_append,h2]; rfl,?_,?_⟩
 ·rw [List.length_append,h2,rowA_append]; exact hown
 ·rw [h3,List.map_append,List.append_assoc]
  congr 1
  rw [show tries - k=(tries - (k+1))+1 by omega,attsFrom,hf]
  rfl
 ·intro x hx
  rcases List.mem_append.1 hx with hx | hx
  ·have h5:=((h4 x hx).grown (Grown.of_below hb (S:=fun _=>False)) (fun _ _ h=>h))
   refine (h5.grown hg2 (fun q hq e=>hq.1 e)).mono (fun q _ hq=>?_)
   refine ⟨?_,by have:=hb.size; have:=hg2.size; omega⟩
   rcases hid with e | ⟨q',e,hle⟩
   ·rw [e]; exact hq.1
   ·rw [e]; intro e2; have:=hb.size; cases e2; omega
  ·obtain rfl:=List.mem_singleton.1 hx
   refine (ht.grown hg2 (fun q hq e=>by have:=hlt q e; omega)).mono (fun q _ hq=>?_)
   refine ⟨?_,by have:=hg2.size; omega⟩
   rcases hid with e | ⟨q',e,hle⟩
   ·rw [e]; intro e2; have:=hlt q e2; omega
   ·rw [e]; intro e2; cases e2; omega
/-- the time from which on an attempt is late -/
def JS.dueP (s:JS) (id:Int) (st:List UInt8):Int:=(match s.taskP id with | none=>0 | some t=>t.due)+s.extP id st
theorem AttsW.nil (w:World) (B:Nat) (due:Int):AttsW w B (.slice none 0 0) due []:=⟨[],by simpa [rowA] using World.ownsRow_nil w B 65 3,rfl,fun x hx=>by cases hx⟩
set_option maxRecDepth 100000 in
set_option maxHeartbeats 4000000 in
/-- Attempts -/
theorem attempts_c {sb jb db mb:Nat} {p:Nat→Prop} {s:JS} (id:Int) (st:List UInt8) (w:World) (h:SW w sb jb db mb p s) (hok:SOk s) :
 Calls Tryz.prog 22 #[sv sb,.int .i64 id,strV st] w fun e w'=>(∃ v,e=.returned v∧AttsW w' w.heap.size v (s.dueP id st) (s.attsP id st))∧Below w.heap.size w w':=by
 have hun:undef=Value.tuple #[]:=rfl
 have HT:=Lib.hid (task_c id w h)
 have HN:=Lib.hid (fun w=>isName_c st w)
 obtain ⟨r,hr0⟩:∃ r,s.attsP id st=r:=⟨_,rfl⟩
 obtain ⟨D,hD0⟩:∃ d,s.dueP id st=d:=⟨_,rfl⟩
 rw [hr0,hD0]
 cases ht:s.taskP id with
 | none=>
   have HE:Hid (r=[]):=Lib.hid (by rw [← hr0]; unfold JS.attsP; rw [ht])
   rw [ht] at HT
   clear hr0 ht h hok hD0 HN
   go_enter Tryz.func22,Tryz.ntmps22
   go_wp2_with fail
   refine HT.out.mono ?_
   rintro e w1 ⟨hp,hb⟩
   have hp:e=.returned (.tuple #[taskV zeroT (.slice none 0 0),.bool false]):=hp
   subst hp
   unfold zeroT
   have HB:=Lib.hid (hb.alloc hb.size (.cells #[.string ⟨#[]⟩,.string ⟨#[]⟩,.int .i64 0,.int .i64 0,.int .i64 0,.int .i64 0,.slice none 0 0] 35))
   go_wp2
   go_ret
   rw [HE.out]
   exact ⟨⟨_,rfl,AttsW.nil _ _ _⟩,HB.out⟩
 | some t=>
   have hfine:=JS.taskP_fine ht
   rw [ht] at HT
   cases hn:isNameP st with
   | false=>
     rw [hn] at HN
     have HE:Hid (r=[]):=Lib.hid (by rw [← hr0]; unfold JS.attsP; rw [ht]; simp only; rw [if_pos hn])
     clear hr0 ht h hok hD0 hn hfine
     obtain ⟨cls,name,frm,due,late,tries,body⟩:=t
     go_enter Tryz.func22,Tryz.ntmps22
     go_wp2_with fail
     refine HT.out.mono ?_
     rintro e w1 ⟨⟨a,c,rfl,hv⟩,hb⟩
     have HB:=Lib.hid (hb.alloc hb.size (.cells #[strV cls,strV name,.int .i64 frm,.int .i64 due,.int .i64 late,.int .i64 tries,.slice a body.length c] 35))
     go_wp2_with fail
     refine (HN.out _).mono ?_
     rintro e _ ⟨rfl,rfl⟩
     go_wp2
     go_ret
     rw [HE.out]
     exact ⟨⟨_,rfl,AttsW.nil _ _ _⟩,HB.out⟩
   | true=>
     have hl:=isNameP_len hn
     rw [hn] at HN
     obtain ⟨hd,i1,i2,hF,hbl⟩:=hfine
     obtain ⟨n,rfl⟩:∃ n:Nat,id=n:=⟨id.toNat,by omega⟩
     have h0:=hF.f0; have h2:=hF.f1; have h3:=hF.f2; have h4:=hF.f3; have h5:=hF.t0; have h6:=hF.t1
     obtain ⟨m,hm⟩:∃ m:Nat,t.tries=m:=⟨t.tries.toNat,by omega⟩
     have HRQ:Hid (r=attsFrom s.c.ents n st 1 m):=Lib.hid (by rw [← hr0]; unfold JS.attsP; rw [ht]; simp only; rw [if_neg (by rw [hn]; simp),hm]; rfl)
     have HDQ:Hid (D=t.due+s.extP n st):=Lib.hid (by rw [← hD0]; unfold JS.dueP; rw [ht])
     have HS:=Lib.hid (fun W (hW:Below w.heap.size w W)=>h.below hW)
     have HX:=Lib.hid (fun W (hW:Below w.heap.size w W)=>extension_c n st W (HS.out W hW) hok)
     have HLEN:Hid (∀ k v,pFind s.c.ents (akey n st k)=some v→4≤v.length):=Lib.hid (fun k v hf=>(hok hd).2.att_len hf)
     have hxl:=extP_lt s n st
     clear hr0 ht h hok hD0 hn hF
     obtain ⟨cls,name,frm,due,late,tries,body⟩:=t
     simp only at hm h0 h2 h3 h4 h5 h6 hbl HDQ
     subst hm
     go_enter Tryz.func22,Tryz.ntmps22
     go_wp2_with fail
     refine HT.out.mono ?_
     rintro e w1 ⟨⟨a,c,rfl,hv⟩,hb⟩
     have HB:=Lib.hid (hb.alloc hb.size (.cells #[strV cls,strV name,.int .i64 frm,.int .i64 due,.int .i64 late,.int .i64 (m:Int),.slice a body.length c] 35))
     have HY:=Lib.hid (Blk.new w1 35 [strV cls,strV name,.int .i64 frm,.int .i64 due,.int .i64 late,.int .i64 (m:Int),.slice a body.length c])
     clear HT hv hb
     go_wp2_with fail
     refine (HN.out _).mono ?_
     rintro e _ ⟨rfl,rfl⟩
     obtain ⟨y0,y1,y2,y3,y4,y5,y6,yf⟩:=t7_of HY.out
     go_upto_region 4 with (fail)
     change Code.wp _ _ _ _ (w1.alloc (.cells #[strV cls,strV name,.int .i64 frm,.int .i64 due,.int .i64 late,.int .i64 (m:Int),.slice a body.length c] 35))
     generalize w1.alloc (.cells #[strV cls,strV name,.int .i64 frm,.int .i64 due,.int .i64 late,.int .i64 (m:Int),.slice a body.length c] 35)=w2 at *
     generalize w1.heap.size=tb at *
     have B2:=HB.out.drew
     go_region_held3 (fun w'=>w'.cell? ⟨tb,3,none⟩=some (.int .i64 due)) (first | exact y3 | exact keep_cell b3 y3)
      (first | (go_at_call 21; refine (HX.out _ B2).mono ?_; rintro e w3 ⟨rfl,b3⟩))
     have HB3:=Lib.hid (B2.trans (b3.mono B2.size))
     have HY3:=Lib.hid (HY.out.below ((bl_drew w2).trans (b3.mono (Nat.le_refl _))))
     have htb:tb < w3.heap.size:=HY3.out.lt
     clear HX B2 b3 HY HB y0 y1 y2 y3 y4 y5 y6 yf
     have hwr:IntKind.i64.wrap (due+(s.extP n st:Int))=D:=by rw [IntKind.wrap_i64,HDQ.out]; omega
     rw [hwr]
     clear hwr
     go_wp2
     go_loopw [10,11] (fun v nv wr=>∃ k:Nat,nv=.int .i64 ((k:Int)+1)∧AtM w3 s.c.ents n st D m k v wr) (fun _ nv _=>m+1 - (intOf nv).toNat)
     case atStart=>exact ⟨0,rfl,AtM.start _ _ _ _ _ _⟩
     case round=>
      obtain ⟨k,rfl,hM⟩:=hrel
      have HM:=Lib.hid hM
      have hle:=hM.le
      obtain ⟨y0,y1,y2,y3,y4,y5,y6,yf⟩:=t7_of (HY3.out.below hM.be)
      clear hM
      by_cases hk:k < m
      ·have t1:decide ((k:Int)+1≤(m:Int))=true:=decide_eq_true (by omega)
       have HK:=Lib.hid (fun w=>attemptKey_c n st (k+1) w (by omega) (by omega) (by omega))
       have HG:=Lib.hid (fun W (hW:Below w.heap.size w W)=>And.intro (HS.out W hW).cell (sgetP_c (akey n st (k+1)) W (HS.out W hW).jw hd (by simp [akey,digP_len]; omega)))
       have hbr:=HB3.out.trans (HM.out.be.mono HB3.out.size)
       have k0:=(HG.out _ hbr).1
       have B1:=hbr.drew
       have R1:=(Below.refl wr.heap.size wr).drew
       have ek:((k+1:Nat):Int)=(k:Int)+1:=by omega
       rw [ek] at HK
       have HLN:=Lib.hid (HLEN.out (k+1))
       obtain ⟨tk,htk⟩:∃ t,akey n st (k+1)=t:=⟨_,rfl⟩
       have HTK:=Lib.hid htk
       rw [htk] at HK HG HLN
       clear htk ek hbr
       go_upto_region 9 with (fail)
       go_region_held3 (fun w'=>w'.cell? ⟨sb,0,none⟩=some (.pointer (some ⟨jb,0,none⟩))) (first | exact k0 | exact (HG.out _ B2).1 | exact (HG.out _ B3).1)
        (first
         | (go_at_call 40; refine (HG.out _ B2).2.mono ?_; rintro e w5 ⟨⟨a5,c5,rfl,hv⟩,b3⟩; have B3:=B2.trans (b3.mono B2.size); have R3:=R2.trans (b3.mono R2.size); have hvlo:=R2.size; clear b3 B2 R2)
         | (go_at_call 51; have _t:=B1; refine (HK.out _).mono ?_; rintro e w4 ⟨rfl,b2⟩; have B2:=B1.trans (b2.mono B1.size); have R2:=R1.trans (b2.mono R1.size); clear b2 B1 R1))
       have HB5:=Lib.hid B3
       have HR5:=Lib.hid R3
       have HV:=Lib.hid (hv.mono (p':=fun q=>wr.heap.size≤q∧q < w5.heap.size) (fun q _ hq=>⟨Nat.le_trans hvlo hq.1,hq.2⟩))
       clear B3 R3 hv HK HG k0 hvlo y0 y1 y2 y3 y4 y5 y6 yf
       cases hf:pFind s.c.ents tk with
       | none=>
         have HF:Hid (attsFrom s.c.ents n st (k+1) (m - k)=[]):=Lib.hid (by
          rw [show m - k=(m - (k+1))+1 by omega,attsFrom,HTK.out,hf])
         simp only [Option.isSome_none,Option.getD_none]
         clear hf HV HLN
         go_wp2
         go_ret
         refine ⟨⟨_,rfl,?_⟩,HB5.out⟩
         rw [HRQ.out]
         exact (HM.out.below HR5.out).done HF.out HB3.out.size
       | some val=>
         rw [hf] at HV
         have hvl:=HLN.out val hf
         have HF:Hid (pFind s.c.ents (akey n st (k+1))=some val):=Lib.hid (by rw [HTK.out]; exact hf)
         simp only [Option.isSome_some,Option.getD_some] at HV ⊢
         have HN2:=Lib.hid (readNumberP_c _ val _ w5 HV.out hvl)
         clear hf HV HLN
         go_wp2_with fail
         refine HN2.out.mono ?_
         rintro e w6 ⟨⟨tv,rfl,htv⟩,b6⟩
         have HR6:=Lib.hid (HR5.out.trans (b6.mono HR5.out.size))
         have HTV:=Lib.hid (htv.mono (p':=fun q=>wr.heap.size≤q∧q < w6.heap.size) (fun q _ hq=>⟨hq.1,Nat.lt_of_lt_of_le hq.2 b6.size⟩))
         obtain ⟨at6,ct6,rfl, -, -, -⟩:=htv.toB.open_
         have hnl:=numV4_lt val
         clear HN2 htv b6 HB5 HR5
         obtain ⟨R,hR⟩:∃ R,rowA D HM.out.ex.choose=R:=⟨_,rfl⟩
         have hown:=own_below HM.out.ex.choose_spec.1 HR6.out
         rw [HM.out.ex.choose_spec.2.1,hR] at hown
         have HRR:=Lib.hid hR
         clear hR
         have HB0:=Lib.hid (Nat.le_trans HM.out.be.size HR6.out.size)
         have hb0:=HB0.out
         obtain ⟨tm,htm⟩:∃ tm,numV (val.take 4)=tm:=⟨_,rfl⟩
         have HTM:=Lib.hid htm
         rw [htm] at hnl ⊢
         obtain ⟨tx,htx⟩:∃ tx,val.drop 4=tx:=⟨_,rfl⟩
         have HTX:=Lib.hid htx
         rw [htx] at HTV ⊢
         clear htm htx
         go_wp2_with (at_builtin; go_must (refine wpList_apG 49 65 _ 3 40 infoA Tryz.underlying49 rfl (by decide) rfl _ _ rfl w3.heap.size _ k R rfl (hown.alloc _) w6.heap.size 1 [.int .i64 (tm:Nat),.bool (decide (D < (tm:Nat))),.slice at6 tx.length ct6] rfl rfl (Blk.new w6 _ _) (by simp [Value.oneCell']) (by unfold maxLen; omega) (by omega) (by simp; omega) ?_); intro v' w8 hn8 hg8 hi8)
         have hba:=(Below.refl w6.heap.size w6).alloc (Nat.le_refl _) (.cells #[.int .i64 (tm:Nat),.bool (decide (D < (tm:Nat))),.slice at6 tx.length ct6] 65)
         have HNX:=Lib.hid (HM.out.next HF.out hk (HR6.out.trans (hba.mono HR6.out.size)) (((by rw [HTX.out]; exact HTV.out:RdP w6 (fun q=>wr.heap.size≤q∧q < w6.heap.size) (.slice at6 tx.length ct6) (val.drop 4)).grown (Grown.of_below hba (S:=fun _=>False)) (fun _ _ h=>h)).mono (fun q _ hq=>⟨hq.1,Nat.lt_of_lt_of_le hq.2 hba.size⟩)) (by rw [HRR.out,HTM.out]; exact hn8) hg8 (by rcases hi8 with e | e; exact Or.inl e; exact Or.inr ⟨_,e,Nat.le_refl _⟩))
         clear hn8 hg8 hi8 hba hown HRR HM hb0 HB0
         go_wp2
         go_roundw
         case rel=>exact ⟨k+1,by go_num,HNX.out⟩
         case measure=>simp [intOf]; omega
      ·obtain rfl:k=m:=by omega
       have t1:decide ((k:Int)+1≤(k:Int))=false:=decide_eq_false (by omega)
       go_wp2
       go_ret
       refine ⟨⟨_,rfl,?_⟩,HB3.out.trans (HM.out.be.mono HB3.out.size)⟩
       rw [HRQ.out]
       exact HM.out.done (by rw [Nat.sub_self]; rfl) HB3.out.size
/-- whole numbers in memory, of the call's own -/
def ownI (w:World) (B:Nat) (v:Value) (L:List Nat):Prop:=w.ownsRow B 3 1 v L.length (L.map fun n:Nat=>.int .i64 (n:Int))
theorem infoInt:(Tryz.prog.info? 3).map (fun i=>(i.zero,i.size,i.bytes))=some (some (.int .i64 0),1,8):=by kernel_rfl
end Go.Proofs.YtbcfpdlhieaepaaGreatDoor
