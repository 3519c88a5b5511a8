/- The law's like: whether a journal and its disk are as the reference has them. -/
import Derived.Test.YtondomklkapogaaGreatDoorM36
import Derived.Test.YtondomklkapogaaGreatDoorM37
import Derived.BigQuiet
namespace Go.Proofs.YtondomklkapogaaGreatDoor
section
open Go.RowKit SeedP Go.Maps
theorem find_at {P:PEnts} (ho:Ordered P) (j:Nat) (hj:j < P.length):pFind P P[j].1=some P[j].2:=by
 have h:∀ (A:PEnts) (e:List UInt8 × List UInt8) (R:PEnts),e.1 ∉ keysOf A→pFind (A ++ e :: R) e.1=some e.2:=by
  intro A e R hA
  induction A with
  | nil=>rw [List.nil_append,pFind_cons]; simp
  | cons x r ih=>
    rw [List.cons_append,pFind_cons]
    unfold keysOf at hA
    rw [List.map_cons,List.mem_cons,not_or] at hA
    have:(x.1 == e.1)=false:=by simpa using fun h=>hA.1 h.symm
    rw [this]
    simp only [Bool.false_eq_true,if_false]
    exact ih hA.2
 have hP:P.take j ++ P[j] :: P.drop (j+1)=P:=by rw [← List.drop_eq_getElem_cons hj,List.take_append_drop]
 have hn:P[j].1 ∉ keysOf (P.take j):=by
  intro hm
  obtain ⟨e,he,hek⟩:=List.mem_map.1 hm
  obtain ⟨i,hi,rfl⟩:=List.mem_take_iff_getElem.1 he
  have:=List.pairwise_iff_getElem.1 ho i j (by omega) hj (by omega)
  rw [hek,blt_irrefl] at this; cases this
 have:=h (P.take j) P[j] (P.drop (j+1)) hn
 rw [hP] at this
 exact this
theorem isPref_nil (l:List (List UInt8)):l.filter (isPref [])=l:=by
 rw [List.filter_eq_self]; intro a _; unfold isPref; simp
theorem keysOf_get (P:PEnts) (j:Nat) (h:j < (keysOf P).length) (h':j < P.length):(keysOf P)[j]=P[j].1:=List.getElem_map _
/-- OverBytes, of a row of a call's own -/
theorem over_own {w:World} {B n:Nat} {v:Value} {l:List UInt8} (h:w.ownsRow B 5 1 v n (byts l)) (hn:n≤1099511627776) :
 Calls Tryz.prog 28 #[v] w fun e w'=>e=.returned (.tuple #[])∧Grown (fun k=>v.ownBlock=some k) w w':=by
 rcases h.2 with ⟨rfl,rfl⟩ | ⟨g,cap,cur,rfl,hB,hg,hc,hm,hs,ht⟩
 ·refine (over_nil w).mono ?_
  rintro e w' ⟨rfl,rfl⟩
  exact ⟨rfl,Grown.refl _ _⟩
 ·refine (over_c g n cap cur.toList w (by unfold Blk; simpa using hg) (by rw [Array.length_toList,hs,Nat.mul_one]) hc hm hn).mono ?_
  rintro e w' ⟨rfl,hgr⟩
  exact ⟨rfl,hgr.mono (fun k _ e=>by subst e; rfl)⟩
section
variable {ρ:Operand→Value} {d:Option Tmp} {ty:TypeId} {pos:String} {af:Array Edge} {gd:Option (Nat × Bool)}
theorem xl_ents (x:Operand) (ad:Addr) (v:Value) (w:World) (hx:ρ x=.pointer (some ad)) (hc:w.cell? ad=some v) :
 (execOp ρ ⟨d,.load 50 x,ty,pos,af,gd⟩).run Tryz.prog w=.ok (.value v) w:=by
 simp [go_sem,hx,hc]
theorem xl_int (x:Operand) (ad:Addr) (v:Value) (w:World) (hx:ρ x=.pointer (some ad)) (hc:w.cell? ad=some v) :
 (execOp ρ ⟨d,.load 3 x,ty,pos,af,gd⟩).run Tryz.prog w=.ok (.value v) w:=by
 simp [go_sem,hx,hc]
theorem xl_neqI (x y:Operand) (a:Int) (w:World) (hx:ρ x=.int .i64 a) (hy:ρ y=.int .i64 a) :
 (execOp ρ ⟨d,.binOp .neq 3 x y 3,ty,pos,af,gd⟩).run Tryz.prog w=.ok (.value (.bool false)) w:=by
 simp [go_sem,hx,hy]
end
/-- while the numbers are compared -/
structure LkG (W:World) (wt:Int) (gen:Nat) (ds:List Bool) (vs:List Value) (w:World):Prop where
 gb:Below W.heap.size W w
 g0:ds.getD 0 false=true→vs.getD 0 undef=.int .i64 wt
 g1:ds.getD 1 false=true→vs.getD 1 undef=.int .i64 wt
 g2:ds.getD 2 false=true→vs.getD 2 undef=.int .i64 gen
theorem DZ.cells {B:Nat} {p:Nat→Prop} {w:World} {db:Nat} {d:DS} (h:DZ B p w db d):∃ a0 c0 a1 c1,w.cell? ⟨db,0,none⟩=some (.int .i64 d.pw)∧w.cell? ⟨db,1,none⟩=some (.slice a0 d.f0.length c0)∧w.cell? ⟨db,2,none⟩=some (.slice a1 d.f1.length c1) ∧
 RdB w w.heap.size (.slice a0 d.f0.length c0) d.f0∧RdB w w.heap.size (.slice a1 d.f1.length c1) d.f1∧(∀ o,w.frozen? ⟨db,o,none⟩=false):=by
 obtain ⟨v0,v1,q0,q1,hb,hr0,hr1,hq0,hq1,_⟩:=h.dw
 have r0:=hr0.toB
 have r1:=hr1.toB
 obtain ⟨a0,c0,rfl,_,_,_⟩:=r0.open_
 obtain ⟨a1,c1,rfl,_,_,_⟩:=r1.open_
 exact ⟨a0,c0,a1,c1,hb.cell 0 (by simp),hb.cell 1 (by simp),hb.cell 2 (by simp),r0,r1,fun o=>hb.frozen o⟩
set_option maxRecDepth 100000 in
set_option maxHeartbeats 8000000 in
/-- like, of a journal that is up -/
theorem like_up {B:Nat} {p:Nat→Prop} {w:World} {db jb mb:Nat} {s:JS} (h:JZ B p w db jb mb s) (hup:s.down=false) (v0 v1 ve:Value) (hrd:RD w v0 v1 s.d) (hen:EntsAt w w.heap.size ve s.c.ents) (fl ed sum:Int) :
 Calls Tryz.prog 21 #[.pointer (some ⟨jb,0,none⟩),.pointer (some ⟨db,0,none⟩),rjV s.d.pw v0 v1 ve s.c.gen fl ed sum false] w fun e w'=>e=.returned (.bool true)∧Below w.heap.size w w':=by
 obtain ⟨x0,c0,x1,c1,k0,k1,k2,hx0,hx1,_⟩:=h.dz.cells
 obtain ⟨a0,d0,a1,d1,rfl,rfl⟩:=hrd.slices
 obtain ⟨ae,ce,rfl⟩:∃ ae ce,ve=.slice ae s.c.ents.length ce:=by obtain ⟨a,c,e,_⟩:=hen; exact ⟨a,c,e⟩
 have hdlt:=h.jw.lt.2.1
 have hwt:=h.jw.ok.wt
 have hmax:=h.jw.ok.max
 have HOK:=Lib.hid h.jw.ok
 have HORD:=Lib.hid h.jw.ord
 have HSM:=Lib.hid h.jw.small
 have HBX:=Lib.hid ((Below.refl w.heap.size w).alloc (Nat.le_refl _) (.cells #[.int .i64 s.d.pw,.slice a0 s.d.f0.length d0,.slice a1 s.d.f1.length d1,.slice ae s.c.ents.length ce,.int .i64 s.c.gen,.int .i64 fl,.int .i64 ed,.int .u64 sum,.bool false] 52))
 have HRB:Hid (Blk (w.alloc (.cells #[.int .i64 s.d.pw,.slice a0 s.d.f0.length d0,.slice a1 s.d.f1.length d1,.slice ae s.c.ents.length ce,.int .i64 s.c.gen,.int .i64 fl,.int .i64 ed,.int .u64 sum,.bool false] 52)) w.heap.size 52 (rjC s.d.pw (.slice a0 s.d.f0.length d0) (.slice a1 s.d.f1.length d1) (.slice ae s.c.ents.length ce) s.c.gen fl ed sum false)):=Lib.hid (Blk.new w _ [.int .i64 s.d.pw,.slice a0 s.d.f0.length d0,.slice a1 s.d.f1.length d1,.slice ae s.c.ents.length ce,.int .i64 s.c.gen,.int .i64 fl,.int .i64 ed,.int .u64 sum,.bool false])
 have HJ:=Lib.hid h
 have HRD:=Lib.hid hrd
 have HEN:=Lib.hid hen
 have HK:=Lib.hid (And.intro k0 (And.intro k1 k2))
 have HX:=Lib.hid (And.intro hx0 hx1)
 have HUP:=Lib.hid hup
 have HWT:=Lib.hid hwt
 have HMX:=Lib.hid hmax
 clear k0 k1 k2 hx0 hx1 hup h hrd hen hwt hmax
 go_enter Tryz.func21,Tryz.ntmps21
 go_upto_region 1 with (fail)
 change Code.wp _ _ _ _ (w.alloc (.cells #[.int .i64 s.d.pw,.slice a0 s.d.f0.length d0,.slice a1 s.d.f1.length d1,.slice ae s.c.ents.length ce,.int .i64 s.c.gen,.int .i64 fl,.int .i64 ed,.int .u64 sum,.bool false] 52))
 generalize (w.alloc (.cells #[.int .i64 s.d.pw,.slice a0 s.d.f0.length d0,.slice a1 s.d.f1.length d1,.slice ae s.c.ents.length ce,.int .i64 s.c.gen,.int .i64 fl,.int .i64 ed,.int .u64 sum,.bool false] 52))=w1 at *
 have HJ1:=Lib.hid (HJ.out.below HBX.out)
 have y0:=keep_cell HBX.out HK.out.1
 have y1:=keep_cell HBX.out HK.out.2.1
 have y2:=keep_cell HBX.out HK.out.2.2
 have z0:=(rb_of HRB.out).k0
 have z1:=(rb_of HRB.out).k1
 have z2:=(rb_of HRB.out).k2
 have z8:=(rb_of HRB.out).k8
 have hne:db ≠ w.heap.size:=by omega
 have hcx0:∀ n,(convert 25 9 (.slice x0 s.d.f0.length c0)).run Tryz.prog (w1.drewN n)=.ok (.string ⟨(s.d.f0).toArray⟩) (w1.drewN n):=fun n=>conv_c (w:=w1.drewN n) ((HX.out.1.below HBX.out).mono (Nat.le_refl _))
 have hcx1:∀ n,(convert 25 9 (.slice x1 s.d.f1.length c1)).run Tryz.prog (w1.drewN n)=.ok (.string ⟨(s.d.f1).toArray⟩) (w1.drewN n):=fun n=>conv_c (w:=w1.drewN n) ((HX.out.2.below HBX.out).mono (Nat.le_refl _))
 have hca0:∀ n,(convert 25 9 (.slice a0 s.d.f0.length d0)).run Tryz.prog (w1.drewN n)=.ok (.string ⟨(s.d.f0).toArray⟩) (w1.drewN n):=fun n=>conv_c (w:=w1.drewN n) ((HRD.out.r0.below HBX.out).mono (Nat.le_refl _))
 have hca1:∀ n,(convert 25 9 (.slice a1 s.d.f1.length d1)).run Tryz.prog (w1.drewN n)=.ok (.string ⟨(s.d.f1).toArray⟩) (w1.drewN n):=fun n=>conv_c (w:=w1.drewN n) ((HRD.out.r1.below HBX.out).mono (Nat.le_refl _))
 go_quiet (fail)
 have HB2:Hid (Below w.heap.size w (w1.drewN nq)):=Lib.hid (below_drewN HBX.out nq)
 have HB12:Hid (Below w1.heap.size w1 (w1.drewN nq)):=Lib.hid (below_drewN (Below.refl _ _) nq)
 have z8:=(rb_of (HRB.out.below HB12.out)).k8
 clear hcx0 hcx1 hca0 hca1 y0 y1 y2 z0 z1 z2 hne
 generalize w1.drewN nq=w2 at *
 have HRB2:=Lib.hid (HRB.out.below HB12.out)
 have HJ2:=Lib.hid (HJ1.out.below HB12.out)
 clear HB12 HJ1 HRB HBX
 have HKY:Hid (Calls Tryz.prog 34 #[.pointer (some ⟨jb,0,none⟩),strV []] w2 fun e w'=>∃ ak ck,e=.returned (.slice ak (keysOf s.c.ents).length ck)∧(keysOf s.c.ents=[]∨∃ g,ak=some ⟨g,0,none⟩∧g < w'.heap.size∧∀ j (hj:j < (keysOf s.c.ents).length),w'.cell? ⟨g,j,none⟩=some (strV (keysOf s.c.ents)[j]))∧Below w2.heap.size w2 w'):=Lib.hid (by
  refine (keysFn_c [] w2 HJ2.out.jw (by decide)).mono ?_
  rw [if_neg (by rw [HUP.out]; decide),isPref_nil]
  rintro e w' ⟨v,rfl,hv,hb⟩
  obtain ⟨ak,ck,rfl,hk⟩:=key_at hv
  refine ⟨ak,ck,rfl,?_,hb⟩
  rcases hk with hk | ⟨g,e,_,hg,hk⟩
  ·exact Or.inl hk
  ·exact Or.inr ⟨g,e,hg,hk⟩)
 go_wp2_with fail
 refine HKY.out.mono ?_
 rintro e w3 ⟨ak,ck,rfl,hkc,hb3⟩
 have HKC:=Lib.hid hkc
 have HB3:=Lib.hid (HB2.out.trans (hb3.mono HB2.out.size))
 have HRB3:=Lib.hid (HRB2.out.below hb3)
 have HJ3:=Lib.hid (HJ2.out.below hb3)
 clear hkc hb3 HKY HRB2 HJ2 HB2 z8
 have HKL:Hid ((keysOf s.c.ents).length=s.c.ents.length):=Lib.hid (by unfold keysOf; rw [List.length_map])
 have HCB:Hid (∀ wx,Below w3.heap.size w3 wx→RB wx w.heap.size s.d.pw (.slice a0 s.d.f0.length d0) (.slice a1 s.d.f1.length d1) (.slice ae s.c.ents.length ce) s.c.gen fl ed sum false):=Lib.hid (fun wx hb=>rb_of (HRB3.out.below hb))
 have HWTC:Hid (∀ wx,Below w3.heap.size w3 wx→Calls Tryz.prog 32 #[.pointer (some ⟨jb,0,none⟩)] wx fun e w'=>e=.returned (.int .i64 s.c.wt)∧wx=w'):=Lib.hid (fun wx hb=>by
  have h:=weight_c wx (HJ3.out.below hb).jw
  rw [if_neg (by rw [HUP.out]; decide)] at h
  exact h)
 have HGN:Hid (∀ wx,Below w3.heap.size w3 wx→Calls Tryz.prog 33 #[.pointer (some ⟨jb,0,none⟩)] wx fun e w'=>e=.returned (.int .i64 s.c.gen)∧wx=w'):=Lib.hid (fun wx hb=>by
  have h:=generation_c wx (HJ3.out.below hb).jw
  rw [if_neg (by rw [HUP.out]; decide)] at h
  exact h)
 have HRW:Hid (∀ wx,Below w3.heap.size w3 wx→Calls Tryz.prog 53 #[.slice ae s.c.ents.length ce] wx fun e w'=>e=.returned (.int .i64 s.c.wt)∧Below wx.heap.size wx w'):=Lib.hid (fun wx hb=>by
  have h:=rweight_c (.slice ae s.c.ents.length ce) s.c.ents w.heap.size wx (HEN.out.below (HB3.out.trans (hb.mono HB3.out.size))) (by have:=HWT.out; have:=HMX.out; omega)
  rw [← HWT.out] at h
  exact h)
 go_upto_region 7 with (fail)
 refine wp_region_mix (by kernel_rfl) (by kernel_rfl) (by kernel_rfl) [some (.slice ak (keysOf s.c.ents).length ck),some (.int .i64 ((keysOf s.c.ents).length:Int)),some (.pointer (some ⟨w.heap.size,3,none⟩)),some (.slice ae s.c.ents.length ce),some (.int .i64 (s.c.ents.length:Int)),some (.bool false),some (.bool false),some (.pointer (some ⟨jb,0,none⟩)),none,some (.pointer (some ⟨w.heap.size,3,none⟩)),some (.slice ae s.c.ents.length ce),none,some (.bool false),some (.bool false),some (.bool false),some (.pointer (some ⟨jb,0,none⟩)),none,some (.pointer (some ⟨w.heap.size,4,none⟩)),some (.int .i64 s.c.gen),some (.bool false),some (.bool false)] [8,11,16] (by kernel_rfl) (by kernel_rfl) (LkG w3 s.c.wt s.c.gen) ⟨bl_drew _,(fun h=>by cases h),(fun h=>by cases h),(fun h=>by cases h)⟩ ?_ ?_
 ·refine EachI.cons (MixOk.pure (by kernel_rfl) (fun _=>by kernel_rfl) (fun _ _=>by kernel_rfl)) ?_
  refine EachI.cons (MixOk.pure (by kernel_rfl) (fun _=>by kernel_rfl) (fun _ _=>by kernel_rfl)) ?_
  refine EachI.cons (MixOk.pure (by kernel_rfl) (fun _=>by kernel_rfl) (fun _ _=>by kernel_rfl)) ?_
  refine EachI.cons (MixOk.look (by kernel_rfl) (fun _=>by kernel_rfl) (fun dn ws wx hG hdep hcl hni=>xl_ents _ ⟨w.heap.size,3,none⟩ _ wx (by kernel_rfl) (HCB.out wx hG.gb).k3)) ?_
  refine EachI.cons (MixOk.pure (by kernel_rfl) (fun _=>by kernel_rfl) (fun _ _=>by kernel_rfl)) ?_
  refine EachI.cons (MixOk.pure (by kernel_rfl) (fun _=>by kernel_rfl) (fun _ wx=>xl_neqI _ _ (s.c.ents.length:Int) wx (Eq.trans (b:=.int .i64 ((keysOf s.c.ents).length:Int)) (by kernel_rfl) (by rw [HKL.out])) (by kernel_rfl))) ?_
  refine EachI.cons (MixOk.pure (by kernel_rfl) (fun _=>by kernel_rfl) (fun _ _=>by kernel_rfl)) ?_
  refine EachI.cons (MixOk.pure (by kernel_rfl) (fun _=>by kernel_rfl) (fun _ _=>by kernel_rfl)) ?_
  refine EachI.cons (MixOk.turn (by kernel_rfl) (fun dn ws wx hG hdep hcl hni=>?_)) ?_
  ·refine turn_call (by kernel_rfl) 32 #[.pointer (some ⟨jb,0,none⟩)] (by kernel_rfl) ((HWTC.out wx hG.gb).mono ?_)
   rintro e w' ⟨rfl,rfl⟩
   exact ⟨_,rfl,hG.gb,fun _=>rfl,hG.g1,hG.g2⟩
  refine EachI.cons (MixOk.pure (by kernel_rfl) (fun _=>by kernel_rfl) (fun _ _=>by kernel_rfl)) ?_
  refine EachI.cons (MixOk.look (by kernel_rfl) (fun _=>by kernel_rfl) (fun dn ws wx hG hdep hcl hni=>xl_ents _ ⟨w.heap.size,3,none⟩ _ wx (by kernel_rfl) (HCB.out wx hG.gb).k3)) ?_
  refine EachI.cons (MixOk.turn (by kernel_rfl) (fun dn ws wx hG hdep hcl hni=>?_)) ?_
  ·refine turn_call (by kernel_rfl) 53 #[.slice ae s.c.ents.length ce] (by kernel_rfl) ((HRW.out wx hG.gb).mono ?_)
   rintro e w' ⟨rfl,hbl⟩
   exact ⟨_,rfl,hG.gb.trans (hbl.mono hG.gb.size),hG.g0,fun _=>rfl,hG.g2⟩
  refine EachI.cons (MixOk.look (by kernel_rfl) (fun _=>by kernel_rfl) (fun dn ws wx hG hdep hcl hni=>xl_neqI _ _ _ wx (Eq.trans (b:=ws 8) (by kernel_rfl) (hG.g0 (hdep 8 (by kernel_rfl)))) (Eq.trans (b:=ws 11) (by kernel_rfl) (hG.g1 (hdep 11 (by kernel_rfl)))))) ?_
  refine EachI.cons (MixOk.pure (by kernel_rfl) (fun _=>by kernel_rfl) (fun _ _=>by kernel_rfl)) ?_
  refine EachI.cons (MixOk.pure (by kernel_rfl) (fun _=>by kernel_rfl) (fun _ _=>by kernel_rfl)) ?_
  refine EachI.cons (MixOk.pure (by kernel_rfl) (fun _=>by kernel_rfl) (fun _ _=>by kernel_rfl)) ?_
  refine EachI.cons (MixOk.turn (by kernel_rfl) (fun dn ws wx hG hdep hcl hni=>?_)) ?_
  ·refine turn_call (by kernel_rfl) 33 #[.pointer (some ⟨jb,0,none⟩)] (by kernel_rfl) ((HGN.out wx hG.gb).mono ?_)
   rintro e w' ⟨rfl,rfl⟩
   exact ⟨_,rfl,hG.gb,hG.g0,hG.g1,fun _=>rfl⟩
  refine EachI.cons (MixOk.pure (by kernel_rfl) (fun _=>by kernel_rfl) (fun _ _=>by kernel_rfl)) ?_
  refine EachI.cons (MixOk.look (by kernel_rfl) (fun _=>by kernel_rfl) (fun dn ws wx hG hdep hcl hni=>xl_int _ ⟨w.heap.size,4,none⟩ _ wx (by kernel_rfl) (HCB.out wx hG.gb).k4)) ?_
  refine EachI.cons (MixOk.look (by kernel_rfl) (fun _=>by kernel_rfl) (fun dn ws wx hG hdep hcl hni=>xl_neqI _ _ _ wx (Eq.trans (b:=ws 16) (by kernel_rfl) (hG.g2 (hdep 16 (by kernel_rfl)))) (by kernel_rfl))) ?_
  refine EachI.cons (MixOk.pure (by kernel_rfl) (fun _=>by kernel_rfl) (fun _ _=>by kernel_rfl)) ?_
  exact EachI.nil
 intro ws L' hL' w7 hG7
 have HB7:=Lib.hid hG7.gb
 simp only [List.set_cons_succ,List.set_cons_zero,setAll,mix,List.getElem?_cons_succ,List.getElem?_cons_zero,Option.join_some,Option.getD_some,Option.getD_none,Nat.reduceAdd] at hL'
 subst hL'
 clear hG7
 have HPN:Hid (s.c.ents.length≤1000000):=Lib.hid (by
  have h1:=HWT.out
  have h2:=HMX.out
  have h3:∀ P:PEnts,3 * (P.length:Int)≤pWt P:=by
   intro P
   induction P with
   | nil=>exact Int.le_refl _
   | cons x r ih=>rw [pWt_cons,List.length_cons]; unfold eWt; omega
  have h4:=h3 s.c.ents
  omega)
 have W0:=Below.refl w7.heap.size w7
 go_wp2
 go_loopw [10] (fun iv wr=>∃ j:Nat,j≤s.c.ents.length∧iv=.int .i64 j∧Below w7.heap.size w7 wr) (fun i _=>s.c.ents.length - (intOf i).toNat)
 case atStart=>exact ⟨0,Nat.zero_le _,rfl,W0⟩
 case round=>
  obtain ⟨j,hj,rfl,hB⟩:=hrel
  clear W0
  have HBr:=Lib.hid hB
  have HB3r:=Lib.hid (HB7.out.trans (hB.mono HB7.out.size))
  have HB0r:=Lib.hid (HB3.out.trans (HB3r.out.mono HB3.out.size))
  have HJr:=Lib.hid (HJ3.out.below HB3r.out)
  have hnk1:=Nat.le_of_eq HKL.out
  have hnk2:=Nat.le_of_eq HKL.out.symm
  have hPN:=HPN.out
  clear hB
  by_cases hlt:j < s.c.ents.length
  ·have b1:decide ((j:Int) < ((keysOf s.c.ents).length:Int))=true:=decide_eq_true (by omega)
   have b2:(j:Int) < ((keysOf s.c.ents).length:Int):=by omega
   have b3:(j:Int) < (s.c.ents.length:Int):=by omega
   have hjk:j < (keysOf s.c.ents).length:=by omega
   rcases HKC.out with hkc | ⟨kg,rfl,hkg,hkc⟩
   ·rw [hkc] at hjk; simp at hjk
   have q0:=keep_cell HB3r.out (hkc j hjk)
   rw [keysOf_get _ _ hjk hlt] at q0
   have hfd:=find_at HORD.out j hlt
   obtain ⟨ae',ce',e',hx1,hx2,hec⟩:=HEN.out.below HB0r.out
   simp only [Value.slice.injEq] at e'
   obtain ⟨rfl,_,rfl⟩:=e'
   rcases hec with hec | ⟨g,off,rfl,hg,hcell⟩
   ·rw [hec] at hlt; simp at hlt
   obtain ⟨vv,e0,e1,hvv⟩:=hcell j hlt
   have hvl:=HSM.out.val _ (List.getElem_mem hlt)
   have hkl:=HSM.out.key _ (List.getElem_mem hlt)
   have HGET:Hid (Calls Tryz.prog 31 #[.pointer (some ⟨jb,0,none⟩),strV s.c.ents[j].1] wr fun e w'=>∃ ga gc,e=.returned (.tuple #[.slice ga s.c.ents[j].2.length gc,.bool true])∧w'.ownsRow wr.heap.size 5 1 (.slice ga s.c.ents[j].2.length gc) s.c.ents[j].2.length (byts s.c.ents[j].2)∧Below wr.heap.size wr w'):=Lib.hid (by
    refine (get_c s.c.ents[j].1 wr HJr.out.jw (by omega)).mono ?_
    rw [HUP.out,hfd]
    rintro e w' ⟨⟨v,rfl,hv⟩,hb⟩
    have hv:w'.ownsRow wr.heap.size 5 1 v s.c.ents[j].2.length (byts s.c.ents[j].2):=hv
    obtain ⟨ga,gc,rfl,_⟩:=rowV_form hv
    exact ⟨ga,gc,rfl,hv,hb⟩)
   have HRBr:=Lib.hid (rb_of (HRB3.out.below HB3r.out))
   obtain ⟨av,cv,rfl, -, -, -⟩:=hvv.open_
   have HVV:=Lib.hid hvv
   clear hkc hcell hx1 hx2 hfd hvv
   generalize s.c.ents[j].1=pk at *
   generalize s.c.ents[j].2=pv at *
   go_wp2_with fail
   refine HGET.out.mono ?_
   rintro e w4 ⟨ga,gc,rfl,hgr,hb4⟩
   have c0:=keep_cell hb4 q0
   have c1:=keep_cell hb4 e0
   have c2:=keep_cell hb4 e1
   have c3:=keep_cell hb4 HRBr.out.k3
   have hcv:∀ n,(convert 25 9 (.slice ga pv.length gc)).run Tryz.prog (w4.drewN n)=.ok (.string ⟨(pv).toArray⟩) (w4.drewN n):=fun n=>conv_c (w:=w4.drewN n) (RdB.of_own hgr)
   have hcw:∀ n,(convert 25 9 (.slice av pv.length cv)).run Tryz.prog (w4.drewN n)=.ok (.string ⟨(pv).toArray⟩) (w4.drewN n):=fun n=>conv_c (w:=w4.drewN n) (HVV.out.below (below_drewN (hb4.mono HB0r.out.size) n))
   have HOV:Hid (∀ n,Calls Tryz.prog 28 #[.slice ga pv.length gc] (w4.drewN n) fun e w'=>e=.returned (.tuple #[])∧Below w7.heap.size w7 w'):=Lib.hid (fun n=>by
    have hgr2:(w4.drewN n).ownsRow wr.heap.size 5 1 (.slice ga pv.length gc) pv.length (byts pv):=own_grown hgr (Grown.of_below (below_drewN (Below.refl w4.heap.size w4) n) (S:=fun _=>False)) (fun _ _ _ h=>h)
    refine (over_own hgr2 (by omega)).mono ?_
    rintro e w' ⟨rfl,hgw⟩
    refine ⟨rfl,((HBr.out.trans ((below_drewN hb4 n).mono HBr.out.size)).trans (hgw.below (fun k hk=>?_) ?_))⟩
    ·have:=(hgr2.lt k hk).1; have:=HBr.out.size; omega
    ·have:=HBr.out.size; have:=hb4.size; show _≤w4.heap.size; omega)
   clear q0 e0 e1 hgr hb4 HGET
   go_upto_region 13 with (fail)
   go_quiet (fail)
   go_wp2_with fail
   refine (HOV.out _).mono ?_
   rintro e w5 ⟨rfl,hb5⟩
   go_wp2
   go_roundw
   case rel=>exact ⟨j+1,by omega,by go_num,hb5⟩
   case measure=>simp [intOf]; omega
  ·have b1:decide ((j:Int) < ((keysOf s.c.ents).length:Int))=false:=decide_eq_false (by omega)
   have b2:¬ (j:Int) < ((keysOf s.c.ents).length:Int):=by omega
   go_wp2
   go_ret
   exact ⟨rfl,HB0r.out⟩
end
section
open Go.RowKit SeedP Go.Maps
set_option maxRecDepth 100000 in
set_option maxHeartbeats 8000000 in
/-- like, of a journal that is down -/
theorem like_down {B:Nat} {p:Nat→Prop} {w:World} {db jb mb:Nat} {s:JS} (h:JZ B p w db jb mb s) (hdn:s.down=true) (v0 v1 ve:Value) (hrd:RD w v0 v1 s.d) (hen:EntsAt w w.heap.size ve s.c.ents) (fl ed sum:Int) :
 Calls Tryz.prog 21 #[.pointer (some ⟨jb,0,none⟩),.pointer (some ⟨db,0,none⟩),rjV s.d.pw v0 v1 ve s.c.gen fl ed sum true] w fun e w'=>e=.returned (.bool true)∧(∃ p',JZ B p' w' db jb mb s∧∀ g,p' g→p g∨w.heap.size≤g)∧Grown (Sj db jb mb) w w':=by
 obtain ⟨x0,c0,x1,c1,k0,k1,k2,hx0,hx1,_⟩:=h.dz.cells
 obtain ⟨a0,d0,a1,d1,rfl,rfl⟩:=hrd.slices
 obtain ⟨ae,ce,rfl⟩:∃ ae ce,ve=.slice ae s.c.ents.length ce:=by obtain ⟨a,c,e,_⟩:=hen; exact ⟨a,c,e⟩
 have hdlt:=h.jw.lt.2.1
 have HBX:=Lib.hid ((Below.refl w.heap.size w).alloc (Nat.le_refl _) (.cells #[.int .i64 s.d.pw,.slice a0 s.d.f0.length d0,.slice a1 s.d.f1.length d1,.slice ae s.c.ents.length ce,.int .i64 s.c.gen,.int .i64 fl,.int .i64 ed,.int .u64 sum,.bool true] 52))
 have HRB:Hid (Blk (w.alloc (.cells #[.int .i64 s.d.pw,.slice a0 s.d.f0.length d0,.slice a1 s.d.f1.length d1,.slice ae s.c.ents.length ce,.int .i64 s.c.gen,.int .i64 fl,.int .i64 ed,.int .u64 sum,.bool true] 52)) w.heap.size 52 (rjC s.d.pw (.slice a0 s.d.f0.length d0) (.slice a1 s.d.f1.length d1) (.slice ae s.c.ents.length ce) s.c.gen fl ed sum true)):=Lib.hid (Blk.new w _ [.int .i64 s.d.pw,.slice a0 s.d.f0.length d0,.slice a1 s.d.f1.length d1,.slice ae s.c.ents.length ce,.int .i64 s.c.gen,.int .i64 fl,.int .i64 ed,.int .u64 sum,.bool true])
 have HJ:=Lib.hid h
 have HRD:=Lib.hid hrd
 have HK:=Lib.hid (And.intro k0 (And.intro k1 k2))
 have HX:=Lib.hid (And.intro hx0 hx1)
 have HDN:=Lib.hid hdn
 clear k0 k1 k2 hx0 hx1 hdn h hrd hen
 go_enter Tryz.func21,Tryz.ntmps21
 go_upto_region 1 with (fail)
 change Code.wp _ _ _ _ (w.alloc (.cells #[.int .i64 s.d.pw,.slice a0 s.d.f0.length d0,.slice a1 s.d.f1.length d1,.slice ae s.c.ents.length ce,.int .i64 s.c.gen,.int .i64 fl,.int .i64 ed,.int .u64 sum,.bool true] 52))
 generalize (w.alloc (.cells #[.int .i64 s.d.pw,.slice a0 s.d.f0.length d0,.slice a1 s.d.f1.length d1,.slice ae s.c.ents.length ce,.int .i64 s.c.gen,.int .i64 fl,.int .i64 ed,.int .u64 sum,.bool true] 52))=w1 at *
 have HJ1:=Lib.hid (HJ.out.below HBX.out)
 have y0:=keep_cell HBX.out HK.out.1
 have y1:=keep_cell HBX.out HK.out.2.1
 have y2:=keep_cell HBX.out HK.out.2.2
 have z0:=(rb_of HRB.out).k0
 have z1:=(rb_of HRB.out).k1
 have z2:=(rb_of HRB.out).k2
 have z8:=(rb_of HRB.out).k8
 have hne:db ≠ w.heap.size:=by omega
 have hcx0:∀ n,(convert 25 9 (.slice x0 s.d.f0.length c0)).run Tryz.prog (w1.drewN n)=.ok (.string ⟨(s.d.f0).toArray⟩) (w1.drewN n):=fun n=>conv_c (w:=w1.drewN n) ((HX.out.1.below HBX.out).mono (Nat.le_refl _))
 have hcx1:∀ n,(convert 25 9 (.slice x1 s.d.f1.length c1)).run Tryz.prog (w1.drewN n)=.ok (.string ⟨(s.d.f1).toArray⟩) (w1.drewN n):=fun n=>conv_c (w:=w1.drewN n) ((HX.out.2.below HBX.out).mono (Nat.le_refl _))
 have hca0:∀ n,(convert 25 9 (.slice a0 s.d.f0.length d0)).run Tryz.prog (w1.drewN n)=.ok (.string ⟨(s.d.f0).toArray⟩) (w1.drewN n):=fun n=>conv_c (w:=w1.drewN n) ((HRD.out.r0.below HBX.out).mono (Nat.le_refl _))
 have hca1:∀ n,(convert 25 9 (.slice a1 s.d.f1.length d1)).run Tryz.prog (w1.drewN n)=.ok (.string ⟨(s.d.f1).toArray⟩) (w1.drewN n):=fun n=>conv_c (w:=w1.drewN n) ((HRD.out.r1.below HBX.out).mono (Nat.le_refl _))
 go_quiet (fail)
 have HB2:Hid (Below w.heap.size w (w1.drewN nq)):=Lib.hid (below_drewN HBX.out nq)
 have HB12:Hid (Below w1.heap.size w1 (w1.drewN nq)):=Lib.hid (below_drewN (Below.refl _ _) nq)
 have z8:=(rb_of (HRB.out.below HB12.out)).k8
 clear hcx0 hcx1 hca0 hca1 y0 y1 y2 z0 z1 z2 hne
 generalize w1.drewN nq=w2 at *
 have HJ2:=Lib.hid (HJ1.out.below HB12.out)
 clear HB12 HJ1 HRB HBX
 have HGET:Hid (Calls Tryz.prog 31 #[.pointer (some ⟨jb,0,none⟩),strV [97]] w2 fun e w'=>∃ v,e=.returned (.tuple #[v,.bool false])∧Below w2.heap.size w2 w'):=Lib.hid (by
  refine (get_c [97] w2 HJ2.out.jw (by decide)).mono ?_
  rw [HDN.out]
  rintro e w' ⟨⟨v,rfl,_⟩,hb⟩
  exact ⟨v,rfl,hb⟩)
 go_wp2_with fail
 refine HGET.out.mono ?_
 rintro e w3 ⟨gv,rfl,hb3⟩
 have HB3:=Lib.hid (HB2.out.trans (hb3.mono HB2.out.size))
 have HJ3:=Lib.hid (HJ2.out.below hb3)
 clear hb3 HJ2 HB2 z8 HGET
 have HKY:Hid (Calls Tryz.prog 34 #[.pointer (some ⟨jb,0,none⟩),strV []] w3 fun e w'=>∃ ak ck,e=.returned (.slice ak 0 ck)∧Below w3.heap.size w3 w'):=Lib.hid (by
  refine (keysFn_c [] w3 HJ3.out.jw (by decide)).mono ?_
  rw [if_pos HDN.out]
  rintro e w' ⟨v,rfl,hv,hb⟩
  obtain ⟨ak,ck,rfl,_⟩:=key_at hv
  exact ⟨ak,ck,rfl,hb⟩)
 go_wp2_with fail
 refine HKY.out.mono ?_
 rintro e w4 ⟨ak,ck,rfl,hb4⟩
 have HB4:=Lib.hid (HB3.out.trans (hb4.mono HB3.out.size))
 have HJ4:=Lib.hid (HJ3.out.below hb4)
 clear hb4 HJ3 HB3 HKY
 have HWTC:Hid (Calls Tryz.prog 32 #[.pointer (some ⟨jb,0,none⟩)] w4 fun e w'=>e=.returned (.int .i64 0)∧w4=w'):=Lib.hid (by
  have h:=weight_c w4 HJ4.out.jw
  rw [if_pos HDN.out] at h
  exact h)
 have HGN:Hid (Calls Tryz.prog 33 #[.pointer (some ⟨jb,0,none⟩)] w4 fun e w'=>e=.returned (.int .i64 0)∧w4=w'):=Lib.hid (by
  have h:=generation_c w4 HJ4.out.jw
  rw [if_pos HDN.out] at h
  exact h)
 have HCO:Hid (Calls Tryz.prog 12 #[.pointer (some ⟨jb,0,none⟩)] w4 fun e w'=>e=.returned (.int .i64 360)∧JZ B (pNext p w4 w') w' db jb mb s∧Grown (Sj db jb mb) w4 w'):=Lib.hid (by
  have h:=compact_z HJ4.out
  rw [show jCompactOp s=(s,360) by unfold jCompactOp; rw [if_pos HDN.out]] at h
  exact h)
 go_wp2_with fail
 refine HWTC.out.mono ?_
 rintro e w5 ⟨rfl,rfl⟩
 go_wp2_with fail
 refine HGN.out.mono ?_
 rintro e w5 ⟨rfl,rfl⟩
 go_wp2_with fail
 refine HCO.out.mono ?_
 rintro e w5 ⟨rfl,hJ5,hg5⟩
 have HJ5:=Lib.hid hJ5
 have HG5:=Lib.hid ((Grown.of_below (S:=Sj db jb mb) HB4.out).trans hg5)
 have HP5:Hid (∀ g,pNext p w4 w5 g→p g∨w.heap.size≤g):=Lib.hid (fun g hg=>by rcases hg.1 with hg | hg; exact Or.inl hg; have:=HB4.out.size; exact Or.inr (by omega))
 clear hJ5 hg5 HJ4 HB4 HWTC HGN HCO
 have HSE:Hid (Calls Tryz.prog 25 #[.pointer (some ⟨jb,0,none⟩),strV [97],.slice none 0 0] w5 fun e w'=>e=.returned (.int .i64 360)∧JZ B (pNext (pNext p w4 w5) w5 w') w' db jb mb s∧Grown (Sj db jb mb) w5 w'):=Lib.hid (by
  have h:=set_z HJ5.out [97] [] (.slice none 0 0) (Or.inl ⟨Or.inl rfl,rfl⟩) (by decide) (by decide)
  rw [show jCommit [⟨[97],[],false⟩] s=(s,360) by unfold jCommit; rw [if_pos HDN.out]] at h
  exact h)
 go_wp2_with fail
 refine HSE.out.mono ?_
 rintro e w6 ⟨rfl,hJ6,hg6⟩
 have HF:=Lib.hid (And.intro hJ6 (HG5.out.trans hg6))
 have HPF:Hid (∀ g,pNext (pNext p w4 w5) w5 w6 g→p g∨w.heap.size≤g):=Lib.hid (fun g hg=>by rcases hg.1 with hg | hg; exact HP5.out g hg; have:=HG5.out.size; exact Or.inr (by omega))
 clear hJ6 hg6
 go_wp2
 go_ret
 exact ⟨rfl,⟨_,HF.out.1,HPF.out⟩,HF.out.2⟩
/-- like -/
theorem like_c {B:Nat} {p:Nat→Prop} {w:World} {db jb mb:Nat} {s:JS} (h:JZ B p w db jb mb s) (v0 v1 ve:Value) (hrd:RD w v0 v1 s.d) (hen:EntsAt w w.heap.size ve s.c.ents) (fl ed sum:Int) :
 Calls Tryz.prog 21 #[.pointer (some ⟨jb,0,none⟩),.pointer (some ⟨db,0,none⟩),rjV s.d.pw v0 v1 ve s.c.gen fl ed sum s.down] w fun e w'=>e=.returned (.bool true)∧(∃ p',JZ B p' w' db jb mb s∧∀ g,p' g→p g∨w.heap.size≤g)∧Grown (Sj db jb mb) w w':=by
 cases hd:s.down with
 | true=>exact like_down h hd v0 v1 ve hrd hen fl ed sum
 | false=>
   refine (like_up h hd v0 v1 ve hrd hen fl ed sum).mono ?_
   rintro e w' ⟨rfl,hb⟩
   exact ⟨rfl,⟨p,h.below hb,fun g hg=>Or.inl hg⟩,Grown.of_below hb⟩
end
end Go.Proofs.YtondomklkapogaaGreatDoor
