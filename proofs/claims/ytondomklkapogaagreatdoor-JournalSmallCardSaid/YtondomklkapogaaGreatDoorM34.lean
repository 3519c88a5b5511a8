/- The reference's Commit: the walk. -/
import Derived.Test.YtondomklkapogaaGreatDoorM33
import Derived.Test.YtondomklkapogaaGreatDoorM25
namespace Go.Proofs.YtondomklkapogaaGreatDoor
open Go.RowKit SeedP Go.Maps
theorem jCompact_ents (s:JS):(jCompact s).1.c.ents=s.c.ents:=by
 rcases jCompact_cases s with ⟨d,h,_⟩ | ⟨d,h,_⟩ <;> rw [h]
theorem xr_u64 (ρ:Operand→Value) (d:Option Tmp) (x:Operand) (ty:TypeId) (pos:String) (af:Array Edge) (gd:Option (Nat × Bool)) (ad:Addr) (v:Value) (w:World) (hx:ρ x=.pointer (some ad)) (hc:w.cell? ad=some v) :
 (execOp ρ ⟨d,.load 46 x,ty,pos,af,gd⟩).run Tryz.prog w=.ok (.value v) w:=by
 simp [go_sem,hx,hc]
theorem sum_bound (cs:List Chg) (h:∀ c ∈ cs,c.key.length≤1000000∧c.val.length≤1000000):(cs.map chgSize).sum≤cs.length * 2000004:=by
 induction cs with
 | nil=>simp
 | cons x r ih=>
   have h1:=ih (fun c hc=>h c (List.mem_cons_of_mem _ hc))
   have h2:=h x List.mem_cons_self
   have h3:chgSize x≤2000004:=by
    unfold chgSize
    split <;> omega
   simp only [List.map_cons,List.sum_cons,List.length_cons]
   omega
/-- Commit's memory: its journal, its result, the code -/
structure CmM (w W:World) (s:JS) (dn:Bool) (a0 a1 ae ac:Option Addr) (c0 c1 ce cc:Nat) (code:List UInt8):Prop where
 ab:Blk W w.heap.size 52 (rjC s.d.pw (.slice a0 s.d.f0.length c0) (.slice a1 s.d.f1.length c1) (.slice ae s.c.ents.length ce) s.c.gen (rFl s) s.c.ed s.c.sum dn)
 zb:Blk W (w.heap.size+1) 52 (rjC 0 (.slice none 0 0) (.slice none 0 0) (.slice none 0 0) 0 0 0 0 false)
 be:Below w.heap.size w W
 rd:RD W (.slice a0 s.d.f0.length c0) (.slice a1 s.d.f1.length c1) s.d
 en:EntsAt W W.heap.size (.slice ae s.c.ents.length ce) s.c.ents
 cd:RdB W W.heap.size (.slice ac code.length cc) code
section
variable {w W:World} {s:JS} {dn:Bool} {a0 a1 ae ac:Option Addr} {c0 c1 ce cc:Nat} {code:List UInt8}
theorem CmM.below (h:CmM w W s dn a0 a1 ae ac c0 c1 ce cc code) {W':World} (hb:Below W.heap.size W W'):CmM w W' s dn a0 a1 ae ac c0 c1 ce cc code:=
 ⟨h.ab.below hb,h.zb.below hb,h.be.trans (hb.mono h.be.size),h.rd.below hb,(h.en.below hb).mono hb.size,(h.cd.below hb).mono hb.size⟩
/-- the journal is stored anew -/
theorem CmM.store (h:CmM w W s dn a0 a1 ae ac c0 c1 ce cc code) {s':JS} {dn':Bool} {b0 b1:Option Addr} {e0 e1:Nat} {ae':Option Addr} {ce' n:Nat} (hn:n=s'.c.ents.length) (hrd:RD W (.slice b0 s'.d.f0.length e0) (.slice b1 s'.d.f1.length e1) s'.d) (hen:EntsAt W W.heap.size (.slice ae' n ce') s'.c.ents) :
 CmM w (set9 W w.heap.size (.int .i64 s'.d.pw) (.slice b0 s'.d.f0.length e0) (.slice b1 s'.d.f1.length e1) (.slice ae' n ce') (.int .i64 s'.c.gen) (.int .i64 (rFl s')) (.int .i64 s'.c.ed) (.int .u64 s'.c.sum) (.bool dn')) s' dn' b0 b1 ae' ac e0 e1 ce' cc code:=by
 subst hn
 have hg:=set9_grown W w.heap.size (.int .i64 s'.d.pw) (.slice b0 s'.d.f0.length e0) (.slice b1 s'.d.f1.length e1) (.slice ae' s'.c.ents.length ce') (.int .i64 s'.c.gen) (.int .i64 (rFl s')) (.int .i64 s'.c.ed) (.int .u64 s'.c.sum) (.bool dn')
 have hb:=rjC_nobyte s.d.pw a0 a1 ae s.d.f0.length c0 s.d.f1.length c1 s.c.ents.length ce s.c.gen (rFl s) s.c.ed s.c.sum dn
 have hs:=rjC_nostr s.d.pw a0 a1 ae s.d.f0.length c0 s.d.f1.length c1 s.c.ents.length ce s.c.gen (rFl s) s.c.ed s.c.sum dn
 exact ⟨set9_blk h.ab _ _ _ _ _ _ _ _ _,h.zb.grown hg (fun e=>by have e:w.heap.size+1=w.heap.size:=e; omega),h.be.trans (hg.below (fun q e=>by have e:q=w.heap.size:=e; omega) h.be.size),hrd.away h.ab hb hg,(hen.away h.ab hb hs hg).mono hg.size,(h.cd.away h.ab hb hg).mono hg.size⟩
/-- one cell of it is stored -/
theorem CmM.cell (h:CmM w W s dn a0 a1 ae ac c0 c1 ce cc code) {s':JS} (hd:s'.d=s.d) {ae':Option Addr} {ce':Nat} (hen:EntsAt W W.heap.size (.slice ae' s'.c.ents.length ce') s'.c.ents) (j:Nat) (v:Value)
 (hab:Blk (W.setCell ⟨w.heap.size,j,none⟩ v) w.heap.size 52 (rjC s'.d.pw (.slice a0 s'.d.f0.length c0) (.slice a1 s'.d.f1.length c1) (.slice ae' s'.c.ents.length ce') s'.c.gen (rFl s') s'.c.ed s'.c.sum dn)):CmM w (W.setCell ⟨w.heap.size,j,none⟩ v) s' dn a0 a1 ae' ac c0 c1 ce' cc code:=by
 have hg:Grown (fun q=>q=w.heap.size) W (W.setCell ⟨w.heap.size,j,none⟩ v):=Grown.setCell (S:=fun q=>q=w.heap.size) (Grown.refl _ W) (a:=⟨w.heap.size,j,none⟩) rfl v
 have hb:=rjC_nobyte s.d.pw a0 a1 ae s.d.f0.length c0 s.d.f1.length c1 s.c.ents.length ce s.c.gen (rFl s) s.c.ed s.c.sum dn
 have hs:=rjC_nostr s.d.pw a0 a1 ae s.d.f0.length c0 s.d.f1.length c1 s.c.ents.length ce s.c.gen (rFl s) s.c.ed s.c.sum dn
 refine ⟨hab,h.zb.other (by show w.heap.size+1 ≠ w.heap.size; omega) v,h.be.setCell (Nat.le_refl _) v,?_,(hen.away h.ab hb hs hg).mono hg.size,(h.cd.away h.ab hb hg).mono hg.size⟩
 rw [hd]
 exact h.rd.away h.ab hb hg
/-- what it hands back is copied -/
theorem CmM.copied (h:CmM w W s dn a0 a1 ae ac c0 c1 ce cc code) (y0 y1 y2 y3 y4 y5 y6 y7 y8:Value):Below w.heap.size w (set9 W (w.heap.size+1) y0 y1 y2 y3 y4 y5 y6 y7 y8)∧RD (set9 W (w.heap.size+1) y0 y1 y2 y3 y4 y5 y6 y7 y8) (.slice a0 s.d.f0.length c0) (.slice a1 s.d.f1.length c1) s.d∧EntsAt (set9 W (w.heap.size+1) y0 y1 y2 y3 y4 y5 y6 y7 y8) (set9 W (w.heap.size+1) y0 y1 y2 y3 y4 y5 y6 y7 y8).heap.size (.slice ae s.c.ents.length ce) s.c.ents:=by
 have hg:=set9_grown W (w.heap.size+1) y0 y1 y2 y3 y4 y5 y6 y7 y8
 exact ⟨h.be.trans (hg.below (fun q e=>by have e:q=w.heap.size+1:=e; omega) h.be.size),h.rd.away h.zb (rjC_nobyte _ _ _ _ _ _ _ _ _ _ _ _ _ _ _) hg,(h.en.away h.zb (rjC_nobyte _ _ _ _ _ _ _ _ _ _ _ _ _ _ _) (rjC_nostr _ _ _ _ _ _ _ _ _ _ _ _ _ _ _) hg).mono hg.size⟩
end
theorem CmM.start (w:World) (s:JS) (dn:Bool) {a0 a1 ae:Option Addr} {c0 c1 ce:Nat} (hrd:RD w (.slice a0 s.d.f0.length c0) (.slice a1 s.d.f1.length c1) s.d) (hve:EntsAt w w.heap.size (.slice ae s.c.ents.length ce) s.c.ents) :
 CmM w ((w.alloc (.cells (rjC s.d.pw (.slice a0 s.d.f0.length c0) (.slice a1 s.d.f1.length c1) (.slice ae s.c.ents.length ce) s.c.gen (rFl s) s.c.ed s.c.sum dn).toArray 52)).alloc (.cells (rjC 0 (.slice none 0 0) (.slice none 0 0) (.slice none 0 0) 0 0 0 0 false).toArray 52)) s dn a0 a1 ae none c0 c1 ce 0 []:=by
 obtain ⟨tA,tZ,tB,tS⟩:=rb_two w s.d.pw (.slice a0 s.d.f0.length c0) (.slice a1 s.d.f1.length c1) (.slice ae s.c.ents.length ce) s.c.gen (rFl s) s.c.ed s.c.sum dn
 exact ⟨tA,tZ,tB,hrd.below tB,(hve.below tB).mono tB.size,RdB.nil _ _⟩
/-- what Commit hands back -/
def CmRes (r:JS × Int) (e:Ending) (w:World):Prop:=
 ∃ a0 c0 a1 c1 ae ce,e=.returned (.tuple #[rjV r.1.d.pw (.slice a0 r.1.d.f0.length c0) (.slice a1 r.1.d.f1.length c1) (.slice ae r.1.c.ents.length ce) r.1.c.gen (rFl r.1) r.1.c.ed r.1.c.sum r.1.down,.int .i64 r.2])∧RD w (.slice a0 r.1.d.f0.length c0) (.slice a1 r.1.d.f1.length c1) r.1.d∧EntsAt w w.heap.size (.slice ae r.1.c.ents.length ce) r.1.c.ents
set_option maxRecDepth 100000 in
/-- Commit, of a journal that is down -/
theorem rcommit_down (s:JS) (v0 v1 ve vl:Value) (w:World) (hrd:RD w v0 v1 s.d) (hve:EntsAt w w.heap.size ve s.c.ents) (hdn:s.down=true) :
 Calls Tryz.prog 22 #[rjV s.d.pw v0 v1 ve s.c.gen (rFl s) s.c.ed s.c.sum true,vl] w fun e w'=>CmRes (s,360) e w'∧Below w.heap.size w w':=by
 obtain ⟨a0,c0,a1,c1,rfl,rfl⟩:=hrd.slices
 obtain ⟨ae,ce,rfl⟩:∃ ae ce,ve=.slice ae s.c.ents.length ce:=by obtain ⟨a,c,e,_⟩:=hve; exact ⟨a,c,e⟩
 have HM:=Lib.hid (CmM.start w s true hrd hve)
 have HD:=Lib.hid hdn
 clear hrd hve hdn
 go_enter Tryz.func22,Tryz.ntmps22
 go_upto_region 1 with (fail)
 change Code.wp _ _ _ _ ((w.alloc (.cells (rjC s.d.pw (.slice a0 s.d.f0.length c0) (.slice a1 s.d.f1.length c1) (.slice ae s.c.ents.length ce) s.c.gen (rFl s) s.c.ed s.c.sum true).toArray 52)).alloc (.cells (rjC 0 (.slice none 0 0) (.slice none 0 0) (.slice none 0 0) 0 0 0 0 false).toArray 52))
 generalize ((w.alloc (.cells (rjC s.d.pw (.slice a0 s.d.f0.length c0) (.slice a1 s.d.f1.length c1) (.slice ae s.c.ents.length ce) s.c.gen (rFl s) s.c.ed s.c.sum true).toArray 52)).alloc (.cells (rjC 0 (.slice none 0 0) (.slice none 0 0) (.slice none 0 0) 0 0 0 0 false).toArray 52))=W at *
 obtain ⟨k0,k1,k2,k3,k4,k5,k6,k7,k8,_⟩:=rb_of HM.out.ab
 obtain ⟨z0,z1,z2,z3,z4,z5,z6,z7,z8,zf⟩:=rb_of HM.out.zb
 have zf0:=zf 0
 have zf1:=zf 1
 have zf2:=zf 2
 have zf3:=zf 3
 have zf4:=zf 4
 have zf5:=zf 5
 have zf6:=zf 6
 have zf7:=zf 7
 have zf8:=zf 8
 clear zf
 go_wp2
 obtain ⟨hb9,hr9,he9⟩:=HM.out.copied (.int .i64 s.d.pw) (.slice a0 s.d.f0.length c0) (.slice a1 s.d.f1.length c1) (.slice ae s.c.ents.length ce) (.int .i64 s.c.gen) (.int .i64 (rFl s)) (.int .i64 s.c.ed) (.int .u64 s.c.sum) (.bool true)
 have hz9:=set9_blk HM.out.zb (.int .i64 s.d.pw) (.slice a0 s.d.f0.length c0) (.slice a1 s.d.f1.length c1) (.slice ae s.c.ents.length ce) (.int .i64 s.c.gen) (.int .i64 (rFl s)) (.int .i64 s.c.ed) (.int .u64 s.c.sum) (.bool true)
 change bodyPost _ _ _ _ _ (set9 W (w.heap.size+1) (.int .i64 s.d.pw) (.slice a0 s.d.f0.length c0) (.slice a1 s.d.f1.length c1) (.slice ae s.c.ents.length ce) (.int .i64 s.c.gen) (.int .i64 (rFl s)) (.int .i64 s.c.ed) (.int .u64 s.c.sum) (.bool true))
 generalize set9 W (w.heap.size+1) (.int .i64 s.d.pw) (.slice a0 s.d.f0.length c0) (.slice a1 s.d.f1.length c1) (.slice ae s.c.ents.length ce) (.int .i64 s.c.gen) (.int .i64 (rFl s)) (.int .i64 s.c.ed) (.int .u64 s.c.sum) (.bool true)=w9 at *
 obtain ⟨j0,j1,j2,j3,j4,j5,j6,j7,j8,_⟩:=rb_of hz9
 exact bodyPost_ret (v:=.tuple #[rjV s.d.pw (.slice a0 s.d.f0.length c0) (.slice a1 s.d.f1.length c1) (.slice ae s.c.ents.length ce) s.c.gen (rFl s) s.c.ed s.c.sum true,.int .i64 (360)]) (by simp [results,Tryz.results22,go_sem,j0,j1,j2,j3,j4,j5,j6,j7,j8]) rfl ⟨⟨_,_,_,_,_,_,by show _=Ending.returned (.tuple #[rjV _ _ _ _ _ _ _ _ s.down,_]); rw [HD.out],hr9,he9⟩,hb9⟩
set_option maxRecDepth 100000 in
/-- Commit, refused by Check -/
theorem rcommit_bad (s:JS) (cs:List Chg) (v0 v1 ve vl:Value) (w:World) (hrd:RD w v0 v1 s.d) (hve:EntsAt w w.heap.size ve s.c.ents) (hcs:ChgsAt w w.heap.size vl cs) (hok:s.Ok) (hn:cs.length≤1000) (hbd:∀ c ∈ cs,c.key.length≤1000000∧c.val.length≤1000000) (hdn:s.down=false) (hck:rCheckN s.c.ents cs ≠ 0) :
 Calls Tryz.prog 22 #[rjV s.d.pw v0 v1 ve s.c.gen (rFl s) s.c.ed s.c.sum false,vl] w fun e w'=>CmRes (s,rCheckN s.c.ents cs) e w'∧Below w.heap.size w w':=by
 obtain ⟨a0,c0,a1,c1,rfl,rfl⟩:=hrd.slices
 obtain ⟨ae,ce,rfl⟩:∃ ae ce,ve=.slice ae s.c.ents.length ce:=by obtain ⟨a,c,e,_⟩:=hve; exact ⟨a,c,e⟩
 have HM:=Lib.hid (CmM.start w s false hrd hve)
 have HD:=Lib.hid hdn
 clear hrd hve hdn
 go_enter Tryz.func22,Tryz.ntmps22
 go_upto_region 1 with (fail)
 change Code.wp _ _ _ _ ((w.alloc (.cells (rjC s.d.pw (.slice a0 s.d.f0.length c0) (.slice a1 s.d.f1.length c1) (.slice ae s.c.ents.length ce) s.c.gen (rFl s) s.c.ed s.c.sum false).toArray 52)).alloc (.cells (rjC 0 (.slice none 0 0) (.slice none 0 0) (.slice none 0 0) 0 0 0 0 false).toArray 52))
 generalize ((w.alloc (.cells (rjC s.d.pw (.slice a0 s.d.f0.length c0) (.slice a1 s.d.f1.length c1) (.slice ae s.c.ents.length ce) s.c.gen (rFl s) s.c.ed s.c.sum false).toArray 52)).alloc (.cells (rjC 0 (.slice none 0 0) (.slice none 0 0) (.slice none 0 0) 0 0 0 0 false).toArray 52))=W at *
 have HCH:=Lib.hid (rcheck_c (.slice ae s.c.ents.length ce) s.c.ents vl cs W HM.out.en ((hcs.below HM.out.be).raise HM.out.be.size) (by have h1:=hok.wt; have h2:=hok.max; have h3:=pWt_len s.c.ents; omega) (by omega) hbd (by have h1:=pChgs_bound cs s.c.ents hok.apart; have h2:=sum_bound cs hbd; have h3:=hok.wt; have h4:=hok.max; omega))
 generalize hckn:rCheckN s.c.ents cs=ck at *
 have HCN:=Lib.hid hckn
 clear hckn
 clear hcs hok hn hbd
 have k3:=(rb_of HM.out.ab).k3
 have k8:=(rb_of HM.out.ab).k8
 go_wp2_with fail
 refine HCH.out.mono ?_
 rintro e w3 ⟨rfl,hb3⟩
 have HM3:=Lib.hid (HM.out.below hb3)
 clear HM HCH hb3 k3 k8
 obtain ⟨k0,k1,k2,k3,k4,k5,k6,k7,k8,_⟩:=rb_of HM3.out.ab
 obtain ⟨z0,z1,z2,z3,z4,z5,z6,z7,z8,zf⟩:=rb_of HM3.out.zb
 have zf0:=zf 0
 have zf1:=zf 1
 have zf2:=zf 2
 have zf3:=zf 3
 have zf4:=zf 4
 have zf5:=zf 5
 have zf6:=zf 6
 have zf7:=zf 7
 have zf8:=zf 8
 clear zf
 go_wp2
 obtain ⟨hb9,hr9,he9⟩:=HM3.out.copied (.int .i64 s.d.pw) (.slice a0 s.d.f0.length c0) (.slice a1 s.d.f1.length c1) (.slice ae s.c.ents.length ce) (.int .i64 s.c.gen) (.int .i64 (rFl s)) (.int .i64 s.c.ed) (.int .u64 s.c.sum) (.bool false)
 have hz9:=set9_blk HM3.out.zb (.int .i64 s.d.pw) (.slice a0 s.d.f0.length c0) (.slice a1 s.d.f1.length c1) (.slice ae s.c.ents.length ce) (.int .i64 s.c.gen) (.int .i64 (rFl s)) (.int .i64 s.c.ed) (.int .u64 s.c.sum) (.bool false)
 change bodyPost _ _ _ _ _ (set9 w3 (w.heap.size+1) (.int .i64 s.d.pw) (.slice a0 s.d.f0.length c0) (.slice a1 s.d.f1.length c1) (.slice ae s.c.ents.length ce) (.int .i64 s.c.gen) (.int .i64 (rFl s)) (.int .i64 s.c.ed) (.int .u64 s.c.sum) (.bool false))
 generalize set9 w3 (w.heap.size+1) (.int .i64 s.d.pw) (.slice a0 s.d.f0.length c0) (.slice a1 s.d.f1.length c1) (.slice ae s.c.ents.length ce) (.int .i64 s.c.gen) (.int .i64 (rFl s)) (.int .i64 s.c.ed) (.int .u64 s.c.sum) (.bool false)=w9 at *
 obtain ⟨j0,j1,j2,j3,j4,j5,j6,j7,j8,_⟩:=rb_of hz9
 exact bodyPost_ret (v:=.tuple #[rjV s.d.pw (.slice a0 s.d.f0.length c0) (.slice a1 s.d.f1.length c1) (.slice ae s.c.ents.length ce) s.c.gen (rFl s) s.c.ed s.c.sum false,.int .i64 (ck)]) (by simp [results,Tryz.results22,go_sem,j0,j1,j2,j3,j4,j5,j6,j7,j8]) rfl ⟨⟨_,_,_,_,_,_,by show _=Ending.returned (.tuple #[rjV _ _ _ _ _ _ _ _ s.down,_]); rw [HD.out,HCN.out],hr9,he9⟩,hb9⟩
set_option maxRecDepth 100000 in
/-- Commit, of the last generation, where the file is full -/
theorem rcommit_full (s:JS) (cs:List Chg) (v0 v1 ve vl:Value) (w:World) (hrd:RD w v0 v1 s.d) (hve:EntsAt w w.heap.size ve s.c.ents) (hcs:ChgsAt w w.heap.size vl cs) (hok:s.Ok) (hn:cs.length≤1000) (hbd:∀ c ∈ cs,c.key.length≤1000000∧c.val.length≤1000000) (hdn:s.down=false) (hck:rCheckN s.c.ents cs=0) (hfull:s.c.gen=4611686018427387904∧overfullP s (codeOf cs).length=true) :
 Calls Tryz.prog 22 #[rjV s.d.pw v0 v1 ve s.c.gen (rFl s) s.c.ed s.c.sum false,vl] w fun e w'=>CmRes (s,4) e w'∧Below w.heap.size w w':=by
 obtain ⟨a0,c0,a1,c1,rfl,rfl⟩:=hrd.slices
 obtain ⟨ae,ce,rfl⟩:∃ ae ce,ve=.slice ae s.c.ents.length ce:=by obtain ⟨a,c,e,_⟩:=hve; exact ⟨a,c,e⟩
 have HM:=Lib.hid (CmM.start w s false hrd hve)
 have HD:=Lib.hid hdn
 have HFULL:=Lib.hid hfull
 clear hrd hve hdn hfull
 have hsz:=code_len cs
 have hval:=((rcheck_zero hok.apart).1 hck).2.2.1
 have hvd:=(valid_zero cs).1 hval
 have hn64:=((rcheck_zero hok.apart).1 hck).2.1
 have hcl:(codeOf cs).length≤65536:=by rw [hsz]; exact hvd.size
 go_enter Tryz.func22,Tryz.ntmps22
 go_upto_region 1 with (fail)
 change Code.wp _ _ _ _ ((w.alloc (.cells (rjC s.d.pw (.slice a0 s.d.f0.length c0) (.slice a1 s.d.f1.length c1) (.slice ae s.c.ents.length ce) s.c.gen (rFl s) s.c.ed s.c.sum false).toArray 52)).alloc (.cells (rjC 0 (.slice none 0 0) (.slice none 0 0) (.slice none 0 0) 0 0 0 0 false).toArray 52))
 generalize ((w.alloc (.cells (rjC s.d.pw (.slice a0 s.d.f0.length c0) (.slice a1 s.d.f1.length c1) (.slice ae s.c.ents.length ce) s.c.gen (rFl s) s.c.ed s.c.sum false).toArray 52)).alloc (.cells (rjC 0 (.slice none 0 0) (.slice none 0 0) (.slice none 0 0) 0 0 0 0 false).toArray 52))=W at *
 have HCH:=Lib.hid (rcheck_c (.slice ae s.c.ents.length ce) s.c.ents vl cs W HM.out.en ((hcs.below HM.out.be).raise HM.out.be.size) (by have h1:=hok.wt; have h2:=hok.max; have h3:=pWt_len s.c.ents; omega) (by omega) hbd (by have h1:=pChgs_bound cs s.c.ents hok.apart; have h2:=sum_bound cs hbd; have h3:=hok.wt; have h4:=hok.max; omega))
 have HCO:Hid (∀ W',Below w.heap.size w W'→Calls Tryz.prog 55 #[vl] W' fun e w'=>(∃ v',e=.returned v'∧w'.ownsRow W'.heap.size 5 1 v' (codeOf cs).length (byts (codeOf cs)))∧Below W'.heap.size W' w'):=Lib.hid (fun W' hb=>rcode_c vl cs W' ((hcs.below hb).raise hb.size) (by omega) (fun c hc=>⟨by have:=(hvd.key c hc).2; omega,by have:=hvd.val c hc; omega⟩))
 rw [hck] at HCH
 have HOK:=Lib.hid hok
 have HVD:=Lib.hid hvd
 have HCSA:Hid (∀ W',Below w.heap.size w W'→ChgsAt W' W'.heap.size vl cs):=Lib.hid (fun W' hb=>(hcs.below hb).raise hb.size)
 have hed0:=hok.ed
 have hgn0:=hok.gen
 clear hcs hok hbd hsz hval hvd
 have k3:=(rb_of HM.out.ab).k3
 have k8:=(rb_of HM.out.ab).k8
 go_wp2_with fail
 refine HCH.out.mono ?_
 rintro e w3 ⟨rfl,hb3⟩
 have HM3:=Lib.hid (HM.out.below hb3)
 have HC3:=Lib.hid (HCO.out w3 HM3.out.be)
 clear HM HCH HCO hb3 k3 k8
 go_wp2_with fail
 refine HC3.out.mono ?_
 rintro e w4 ⟨⟨vc,rfl,hown⟩,hb4⟩
 have hrow:=RdB.of_own hown
 obtain ⟨ac,cc,rfl⟩:∃ a c,vc=.slice a (codeOf cs).length c:=by obtain ⟨a,c,e,_⟩:=hrow.open_; exact ⟨a,c,e⟩
 have HM4:Hid (CmM w w4 s false a0 a1 ae ac c0 c1 ce cc (codeOf cs)):=Lib.hid (by have h:=HM3.out.below hb4; exact ⟨h.ab,h.zb,h.be,h.rd,h.en,hrow⟩)
 clear HM3 HC3 hb4 hown hrow
 have k4:=(rb_of HM4.out.ab).k4
 have k6:=(rb_of HM4.out.ab).k6
 have k8:=(rb_of HM4.out.ab).k8
 generalize hcode:codeOf cs=code at *
 have HCD:=Lib.hid hcode
 clear hcode
 have hfull:=HFULL.out
 have u1:((s.c.gen:Int) == 4611686018427387904)=true:=by rw [hfull.1]; rfl
 have u2:decide ((262144:Int) < (s.c.ed:Int)+12+(code.length:Int))=true:=by have:=hfull.2; unfold overfullP at this; rw [decide_eq_true_eq] at this; exact decide_eq_true (by omega)
 have hlI:(code.length:Int)≤65536:=by omega
 have heI:(s.c.ed:Int)≤262144:=by omega
 clear hfull hck hcl hed0 hgn0 k8
 obtain ⟨k0,k1,k2,k3,k4,k5,k6,k7,k8,_⟩:=rb_of HM4.out.ab
 obtain ⟨z0,z1,z2,z3,z4,z5,z6,z7,z8,zf⟩:=rb_of HM4.out.zb
 have zf0:=zf 0
 have zf1:=zf 1
 have zf2:=zf 2
 have zf3:=zf 3
 have zf4:=zf 4
 have zf5:=zf 5
 have zf6:=zf 6
 have zf7:=zf 7
 have zf8:=zf 8
 clear zf
 go_wp2
 obtain ⟨hb9,hr9,he9⟩:=HM4.out.copied (.int .i64 s.d.pw) (.slice a0 s.d.f0.length c0) (.slice a1 s.d.f1.length c1) (.slice ae s.c.ents.length ce) (.int .i64 s.c.gen) (.int .i64 (rFl s)) (.int .i64 s.c.ed) (.int .u64 s.c.sum) (.bool false)
 have hz9:=set9_blk HM4.out.zb (.int .i64 s.d.pw) (.slice a0 s.d.f0.length c0) (.slice a1 s.d.f1.length c1) (.slice ae s.c.ents.length ce) (.int .i64 s.c.gen) (.int .i64 (rFl s)) (.int .i64 s.c.ed) (.int .u64 s.c.sum) (.bool false)
 change bodyPost _ _ _ _ _ (set9 w4 (w.heap.size+1) (.int .i64 s.d.pw) (.slice a0 s.d.f0.length c0) (.slice a1 s.d.f1.length c1) (.slice ae s.c.ents.length ce) (.int .i64 s.c.gen) (.int .i64 (rFl s)) (.int .i64 s.c.ed) (.int .u64 s.c.sum) (.bool false))
 generalize set9 w4 (w.heap.size+1) (.int .i64 s.d.pw) (.slice a0 s.d.f0.length c0) (.slice a1 s.d.f1.length c1) (.slice ae s.c.ents.length ce) (.int .i64 s.c.gen) (.int .i64 (rFl s)) (.int .i64 s.c.ed) (.int .u64 s.c.sum) (.bool false)=w9 at *
 obtain ⟨j0,j1,j2,j3,j4,j5,j6,j7,j8,_⟩:=rb_of hz9
 exact bodyPost_ret (v:=.tuple #[rjV s.d.pw (.slice a0 s.d.f0.length c0) (.slice a1 s.d.f1.length c1) (.slice ae s.c.ents.length ce) s.c.gen (rFl s) s.c.ed s.c.sum false,.int .i64 (4)]) (by simp [results,Tryz.results22,go_sem,j0,j1,j2,j3,j4,j5,j6,j7,j8]) rfl ⟨⟨_,_,_,_,_,_,by show _=Ending.returned (.tuple #[rjV _ _ _ _ _ _ _ _ s.down,_]); rw [HD.out],hr9,he9⟩,hb9⟩
end Go.Proofs.YtondomklkapogaaGreatDoor
