/- The reference's oneEntry. -/
import Derived.Test.YtondomklkapogaaGreatDoorM20
import Derived.Test.YtondomklkapogaaGreatDoorM26
namespace Go.Proofs.YtondomklkapogaaGreatDoor
section
open Go.RowKit SeedP Go.Maps
/-- what oneEntry returns -/
def OneRes (B:Nat) (R:Option ((List UInt8 × List UInt8) × Nat)) (e:Ending) (w':World):Prop:=
 match R with
 | none=>e=.returned (.tuple #[.agg #[strV [],.slice none 0 0],.int .i64 0])
 | some (en,n)=>∃ v2,e=.returned (.tuple #[.agg #[strV en.1,v2],.int .i64 n])∧w'.ownsRow B 5 1 v2 en.2.length (byts en.2)
set_option maxRecDepth 100000 in
theorem one_short (v:Value) (l:List UInt8) (B:Nat) (w:World) (hv:RdB w B v l) (hB:B≤w.heap.size) (hl:l.length≤1073741824) (hs:l.length < 1∨l.length < 3+(l.getD 0 0).toNat) :
 Calls Tryz.prog 96 #[v] w fun e w'=>e=.returned (.tuple #[.agg #[strV [],.slice none 0 0],.int .i64 0])∧Below w.heap.size w w':=by
 have hba:=(Below.refl w.heap.size w).alloc (Nat.le_refl _) (.cells #[.string ⟨#[]⟩,.slice none 0 0] 96)
 have HB:=Lib.hid hba
 by_cases h1:l.length < 1
 ·obtain ⟨a,c,rfl,_⟩:=hv.open_
  have t1:decide ((l.length:Int) < 1)=true:=decide_eq_true (by omega)
  clear hs hv hba
  go_enter Tryz.func96,Tryz.ntmps96
  go_wp2
  exact bodyPost_ret (v:=.tuple #[.agg #[strV [],.slice none 0 0],.int .i64 0]) (by simp [results,Tryz.results96,go_sem]) rfl ⟨rfl,HB.out⟩
 ·rcases hv with ⟨_,rfl⟩ | ⟨g,off,cap,rfl,hlc,hcm,hg,hcell⟩
  ·simp at h1
  have hs2:l.length < 3+(l.getD 0 0).toNat:=by omega
  have c0:=hcell 0 (by omega)
  have hb:=(l.getD 0 0).toNat_lt
  generalize (l.getD 0 0).toNat=k at *
  have t1:decide ((l.length:Int) < 1)=false:=decide_eq_false (by omega)
  have t0:(0:Int) < (l.length:Int):=by omega
  have t2:decide ((l.length:Int) < 1+(k:Int)+2)=true:=decide_eq_true (by omega)
  have ca:=(hba.cell (p:=⟨g,off+0,none⟩) (by show g < w.heap.size; omega)).trans c0
  rw [Nat.add_zero] at ca
  clear hs hba hcell c0 hs2
  go_enter Tryz.func96,Tryz.ntmps96
  go_wp2
  exact bodyPost_ret (v:=.tuple #[.agg #[strV [],.slice none 0 0],.int .i64 0]) (by simp [results,Tryz.results96,go_sem]) rfl ⟨rfl,HB.out⟩
set_option maxRecDepth 100000 in
set_option maxHeartbeats 2000000 in
theorem one_long (v:Value) (l:List UInt8) (B:Nat) (w:World) (hv:RdB w B v l) (hB:B≤w.heap.size) (hl:l.length≤1073741824) (k m:Nat) (hk:(l.getD 0 0).toNat=k) (h1:1≤l.length) (h2:3+k≤l.length) (hm:numV ((l.drop (1+k)).take 2)=m) (h3:l.length < 3+k+m) :
 Calls Tryz.prog 96 #[v] w fun e w'=>e=.returned (.tuple #[.agg #[strV [],.slice none 0 0],.int .i64 0])∧Below w.heap.size w w':=by
 have hba:=(Below.refl w.heap.size w).alloc (Nat.le_refl _) (.cells #[.string ⟨#[]⟩,.slice none 0 0] 96)
 have HB:=Lib.hid hba
 rcases hv with ⟨_,rfl⟩ | ⟨g,off,cap,rfl,hlc,hcm,hg,hcell⟩
 ·simp at h1
 have c0:=hcell 0 (by omega)
 have hb:=(l.getD 0 0).toNat_lt
 rw [hk] at c0 hb
 have hm2:m < 65536:=by
  rw [← hm]
  have h:=numV_lt ((l.drop (1+k)).take 2)
  have e:((l.drop (1+k)).take 2).length=2:=by rw [List.length_take,List.length_drop]; omega
  rw [e] at h; exact h
 have hsub:=(RdB.sub (1+k) 2 (cap - (1+k)) (by omega) (by omega) (by omega) hg hcell hlc).below (hba.mono hB)
 have hsub:RdB (w.alloc (.cells #[.string ⟨#[]⟩,.slice none 0 0] 96)) B (.slice (some ⟨g,off+(1+k),none⟩) (3+k - (1+k)) (cap - (1+k))) ((l.drop (1+k)).take 2):=by rw [show 3+k - (1+k)=2 by omega]; exact hsub
 have HV:=Lib.hid (value_c _ _ B (w.alloc (.cells #[.string ⟨#[]⟩,.slice none 0 0] 96)) hsub (by rw [List.length_take,List.length_drop]; omega))
 rw [hm] at HV
 have t1:decide ((l.length:Int) < 1)=false:=decide_eq_false (by omega)
 have t0:(0:Int) < (l.length:Int):=by omega
 have t2:decide ((l.length:Int) < 1+(k:Int)+2)=false:=decide_eq_false (by omega)
 have t3:decide ((l.length:Int) < 3+(k:Int)+(m:Int))=true:=decide_eq_true (by omega)
 have ca:=(hba.cell (p:=⟨g,off+0,none⟩) (by show g < w.heap.size; omega)).trans c0
 rw [Nat.add_zero] at ca
 have b1:(1:Int)+(k:Int)≤3+(k:Int):=by omega
 have b2:(3:Int)+(k:Int)≤(cap:Int):=by omega
 have b3:¬ cap=1+k:=by omega
 clear hba hcell c0 hsub hk hm
 go_enter Tryz.func96,Tryz.ntmps96
 go_wp2_with fail
 refine HV.out.mono ?_
 rintro e w1 ⟨rfl,rfl⟩
 go_wp2
 exact bodyPost_ret (v:=.tuple #[.agg #[strV [],.slice none 0 0],.int .i64 0]) (by simp [results,Tryz.results96,go_sem]) rfl ⟨rfl,HB.out⟩
/-- what holds while oneEntry's region is under way -/
structure OnG (w3:World) (A:Nat) (key val:List UInt8) (ds:List Bool) (vs:List Value) (w:World):Prop where
 g0:ds.getD 3 false=false→Below w3.heap.size w3 w
 gb:Below A w3 w
 g1:ds.getD 0 false=true→ds.getD 1 false=false→w.ownsRow w3.heap.size 5 1 (vs.getD 0 undef) 0 (byts [])
 g2:ds.getD 1 false=true→∃ a c,vs.getD 1 undef=.slice a val.length c∧w.ownsRow w3.heap.size 5 1 (.slice a val.length c) val.length (byts val)
 g3:ds.getD 2 false=true→vs.getD 2 undef=.agg #[strV key,vs.getD 1 undef]
 g4:ds.getD 3 false=true→Blk w A 96 [strV key,vs.getD 1 undef]
set_option maxRecDepth 100000 in
set_option maxHeartbeats 2000000 in
theorem one_good (v:Value) (l:List UInt8) (B:Nat) (w:World) (hv:RdB w B v l) (hB:B≤w.heap.size) (hl:l.length≤1073741824) (k m:Nat) (hk:(l.getD 0 0).toNat=k) (h1:1≤l.length) (h2:3+k≤l.length) (hm:numV ((l.drop (1+k)).take 2)=m) (h3:3+k+m≤l.length) (key val:List UInt8) (hkey:(l.drop 1).take k=key) (hval:(l.drop (3+k)).take m=val) :
 Calls Tryz.prog 96 #[v] w fun e w'=>(∃ v2,e=.returned (.tuple #[.agg #[strV key,v2],.int .i64 ((3+k+m:Nat):Int)])∧w'.ownsRow w.heap.size 5 1 v2 val.length (byts val))∧Below w.heap.size w w':=by
 have hba:=(Below.refl w.heap.size w).alloc (Nat.le_refl _) (.cells #[.string ⟨#[]⟩,.slice none 0 0] 96)
 have HB:=Lib.hid hba
 have HZ:=Lib.hid (Blk.new w 96 [.string ⟨#[]⟩,.slice none 0 0])
 rcases hv with ⟨_,rfl⟩ | ⟨g,off,cap,rfl,hlc,hcm,hg,hcell⟩
 ·simp at h1
 have c0:=hcell 0 (by omega)
 have hb:=(l.getD 0 0).toNat_lt
 rw [hk] at c0 hb
 have hm2:m < 65536:=by
  rw [← hm]
  have h:=numV_lt ((l.drop (1+k)).take 2)
  have e:((l.drop (1+k)).take 2).length=2:=by rw [List.length_take,List.length_drop]; omega
  rw [e] at h; exact h
 have hsub:=(RdB.sub (1+k) 2 (cap - (1+k)) (by omega) (by omega) (by omega) hg hcell hlc).below (hba.mono hB)
 have hsub:RdB (w.alloc (.cells #[.string ⟨#[]⟩,.slice none 0 0] 96)) B (.slice (some ⟨g,off+(1+k),none⟩) (3+k - (1+k)) (cap - (1+k))) ((l.drop (1+k)).take 2):=by rw [show 3+k - (1+k)=2 by omega]; exact hsub
 have HV:=Lib.hid (value_c _ _ B (w.alloc (.cells #[.string ⟨#[]⟩,.slice none 0 0] 96)) hsub (by rw [List.length_take,List.length_drop]; omega))
 rw [hm] at HV
 have hkl:key.length=k:=by rw [← hkey,List.length_take,List.length_drop]; omega
 have hvl:val.length=m:=by rw [← hval,List.length_take,List.length_drop]; omega
 have HK:Hid (RdB w B (.slice (if cap=1 then some ⟨g,off,none⟩ else some ⟨g,off+1,none⟩) (1+k - 1) (cap - 1)) key):=Lib.hid (by
  rw [if_neg (by omega),show 1+k - 1=k by omega,← hkey]
  exact RdB.sub 1 k (cap - 1) (by omega) (by omega) (by omega) hg hcell hlc)
 have HVL:Hid (RdB w B (.slice (if cap=3+k then some ⟨g,off,none⟩ else some ⟨g,off+(3+k),none⟩) (3+k+m - (3+k)) (cap - (3+k))) val):=Lib.hid (by
  rw [show 3+k+m - (3+k)=m by omega,← hval]
  by_cases hc:cap=3+k
  ·rw [if_pos hc]
   have hm0:m=0:=by omega
   rw [hm0,List.take_zero]
   exact Or.inl ⟨Or.inr ⟨_,_,rfl⟩,rfl⟩
  ·rw [if_neg hc]
   exact RdB.sub (3+k) m (cap - (3+k)) (by omega) (by omega) (by omega) hg hcell hlc)
 have HL:=Lib.hid (And.intro hkl hvl)
 have t1:decide ((l.length:Int) < 1)=false:=decide_eq_false (by omega)
 have t0:(0:Int) < (l.length:Int):=by omega
 have t2:decide ((l.length:Int) < 1+(k:Int)+2)=false:=decide_eq_false (by omega)
 have t3:decide ((l.length:Int) < 3+(k:Int)+(m:Int))=false:=decide_eq_false (by omega)
 have ca:=(hba.cell (p:=⟨g,off+0,none⟩) (by show g < w.heap.size; omega)).trans c0
 rw [Nat.add_zero] at ca
 have b1:(1:Int)+(k:Int)≤3+(k:Int):=by omega
 have b2:(3:Int)+(k:Int)≤(cap:Int):=by omega
 have b3:¬ cap=1+k:=by omega
 clear hba hcell c0 hsub hk hm hkl hvl hkey hval
 go_enter Tryz.func96,Tryz.ntmps96
 go_wp2_with fail
 refine HV.out.mono ?_
 rintro e w1 ⟨rfl,rfl⟩
 go_upto_region 7 with (fail)
 change Code.wp _ _ _ _ (w.alloc (.cells #[.string ⟨#[]⟩,.slice none 0 0] 96))
 clear HV ca b3 t1 t2 t3
 generalize w.alloc (.cells #[.string ⟨#[]⟩,.slice none 0 0] 96)=w3 at *
 have hw1:IntKind.i64.wrap (1+(k:Int))=1+(k:Int):=IntWalk.i64_in _ (by omega)
 have hw3:IntKind.i64.wrap (3+(k:Int))=3+(k:Int):=IntWalk.i64_in _ (by omega)
 have hwm:IntKind.i64.wrap (3+(k:Int)+(m:Int))=3+(k:Int)+(m:Int):=IntWalk.i64_in _ (by omega)
 have e1:((1:Nat):Int)=1:=rfl
 have e1k:((1+k:Nat):Int)=1+(k:Int):=by omega
 have e3k:((3+k:Nat):Int)=3+(k:Int):=by omega
 have e3m:((3+k+m:Nat):Int)=3+(k:Int)+(m:Int):=by omega
 have hAlt:=HZ.out.lt
 have hBw:Below w.heap.size w3 w3.drew:=(bl_drew w3).mono (by omega)
 refine wp_region_mix (by kernel_rfl) (by kernel_rfl) (by kernel_rfl) [some (.slice (some ⟨g,off,none⟩) l.length cap),some (.int .i64 (k:Int)),some (.int .i64 (1+(k:Int))),some (.slice (if cap=1 then some ⟨g,off,none⟩ else some ⟨g,off+1,none⟩) (1+k - 1) (cap - 1)),some (strV key),none,some (.slice (some ⟨g,off,none⟩) l.length cap),some (.int .i64 (k:Int)),some (.int .i64 (3+(k:Int))),some (.int .i64 (k:Int)),some (.int .i64 (3+(k:Int))),some (.int .i64 (m:Int)),some (.int .i64 (3+(k:Int)+(m:Int))),some (.slice (if cap=3+k then some ⟨g,off,none⟩ else some ⟨g,off+(3+k),none⟩) (3+k+m - (3+k)) (cap - (3+k))),none,none,some (.int .i64 (k:Int)),some (.int .i64 (3+(k:Int))),some (.int .i64 (m:Int)),some (.int .i64 (3+(k:Int)+(m:Int))),none,some (.int .i64 (3+(k:Int)+(m:Int)))] [5,14,15,20] (by kernel_rfl) (by kernel_rfl) (OnG w3 w.heap.size key val) ⟨fun _=>bl_drew w3,hBw,(fun h=>by cases h),(fun h=>by cases h),(fun h=>by cases h),(fun h=>by cases h)⟩ ?_ ?_
 ·refine EachI.cons (MixOk.pure (by kernel_rfl) (fun _=>by kernel_rfl) (fun _ _=>by kernel_rfl)) ?_
  refine EachI.cons (MixOk.pure (by kernel_rfl) (fun _=>by kernel_rfl) (fun _ _=>by kernel_rfl)) ?_
  refine EachI.cons (MixOk.pure (by kernel_rfl) (fun _=>by kernel_rfl) (fun _ wx=>xr_add _ _ _ _ _ _ _ _ 1 k wx (by kernel_rfl) (by kernel_rfl) hw1)) ?_
  refine EachI.cons (MixOk.pure (by kernel_rfl) (fun _=>by kernel_rfl) (fun _ wx=>xr_slice _ _ _ _ _ _ _ _ _ g off l.length cap 1 (1+k) wx (by kernel_rfl) (by kernel_rfl) (Eq.trans (b:=.int .i64 (1+(k:Int))) (by kernel_rfl) (by rw [e1k])) (by omega) (by omega))) ?_
  refine EachI.cons (MixOk.look (by kernel_rfl) (fun _=>by kernel_rfl) (fun dn ws wx hG hdep hcl hni=>xr_bstr _ _ _ _ _ _ _ _ B key wx (by kernel_rfl) ((HK.out.below (HB.out.mono hB)).below (hG.gb.mono hB)))) ?_
  refine EachI.cons (MixOk.turn (by kernel_rfl) (fun dn ws wx hG hdep hcl hni=>?_)) ?_
  ·have h14:=not_done (hcl 14 5 (by kernel_rfl)) hni
   have h15:=not_done (hcl 15 14 (by kernel_rfl)) h14
   have h20:=not_done (hcl 20 15 (by kernel_rfl)) h15
   have hb0:=hG.g0 h20
   have hba:=(Below.refl wx.heap.size wx).alloc (Nat.le_refl _) (.cells #[] 5)
   exact turn_run (by kernel_rfl) (.slice (some ⟨wx.heap.size,0,none⟩) 0 0) (wx.alloc (.cells #[] 5)) (by kernel_rfl) ⟨fun _=>hb0.trans (hba.mono hb0.size),hG.gb.trans (hba.mono (by have:=hb0.size; omega)),fun _ _=>own_lit wx w3.heap.size [] (by simp [maxLen]) 0 rfl hb0.size,(fun h=>by have h:dn 14=true:=h; rw [h14] at h; cases h),(fun h=>by have h:dn 15=true:=h; rw [h15] at h; cases h),(fun h=>by have h:dn 20=true:=h; rw [h20] at h; cases h)⟩
  refine EachI.cons (MixOk.pure (by kernel_rfl) (fun _=>by kernel_rfl) (fun _ _=>by kernel_rfl)) ?_
  refine EachI.cons (MixOk.pure (by kernel_rfl) (fun _=>by kernel_rfl) (fun _ _=>by kernel_rfl)) ?_
  refine EachI.cons (MixOk.pure (by kernel_rfl) (fun _=>by kernel_rfl) (fun _ wx=>xr_add _ _ _ _ _ _ _ _ 3 k wx (by kernel_rfl) (by kernel_rfl) hw3)) ?_
  refine EachI.cons (MixOk.pure (by kernel_rfl) (fun _=>by kernel_rfl) (fun _ _=>by kernel_rfl)) ?_
  refine EachI.cons (MixOk.pure (by kernel_rfl) (fun _=>by kernel_rfl) (fun _ wx=>xr_add _ _ _ _ _ _ _ _ 3 k wx (by kernel_rfl) (by kernel_rfl) hw3)) ?_
  refine EachI.cons (MixOk.pure (by kernel_rfl) (fun _=>by kernel_rfl) (fun _ _=>by kernel_rfl)) ?_
  refine EachI.cons (MixOk.pure (by kernel_rfl) (fun _=>by kernel_rfl) (fun _ wx=>xr_add _ _ _ _ _ _ _ _ (3+(k:Int)) m wx (by kernel_rfl) (by kernel_rfl) hwm)) ?_
  refine EachI.cons (MixOk.pure (by kernel_rfl) (fun _=>by kernel_rfl) (fun _ wx=>xr_slice _ _ _ _ _ _ _ _ _ g off l.length cap (3+k) (3+k+m) wx (by kernel_rfl) (Eq.trans (b:=.int .i64 (3+(k:Int))) (by kernel_rfl) (by rw [e3k])) (Eq.trans (b:=.int .i64 (3+(k:Int)+(m:Int))) (by kernel_rfl) (by rw [e3m])) (by omega) (by omega))) ?_
  refine EachI.cons (MixOk.turn (by kernel_rfl) (fun dn ws wx hG hdep hcl hni=>?_)) ?_
  ·have h15:=not_done (hcl 15 14 (by kernel_rfl)) hni
   have h20:=not_done (hcl 20 15 (by kernel_rfl)) h15
   have hb0:=hG.g0 h20
   have ho1:wx.ownsRow w3.heap.size 5 1 (ws 5) 0 (byts []):=hG.g1 (hdep 5 (by kernel_rfl)) hni
   refine turn_app _ _ _ _ _ _ _ (by kernel_rfl) w3.heap.size (ws 5) 0 [] (by kernel_rfl) ho1 _ val (by kernel_rfl) ((HVL.out.below (HB.out.mono hB)).below (hG.gb.mono hB)) (by have:=HL.out.2; omega) hb0.size (fun v' w' hown hgr=>?_)
   have hown':w'.ownsRow w3.heap.size 5 1 v' val.length (byts val):=by simpa using hown
   obtain ⟨sa,sc,se,_⟩:=(RdB.of_own hown').open_
   have hbo:=below_own ho1 hgr hb0.size
   have hd5:dn 5=true:=hdep 5 (by kernel_rfl)
   exact ⟨fun _=>hb0.trans hbo,hG.gb.trans (hbo.mono (by omega)),(fun _ h=>by cases h),fun _=>⟨sa,sc,se,by rw [← se]; exact hown'⟩,(fun h=>by have h:dn 15=true:=h; rw [h15] at h; cases h),(fun h=>by have h:dn 20=true:=h; rw [h20] at h; cases h)⟩
  refine EachI.cons (MixOk.turn (by kernel_rfl) (fun dn ws wx hG hdep hcl hni=>?_)) ?_
  ·have h20:=not_done (hcl 20 15 (by kernel_rfl)) hni
   have hd14:dn 14=true:=hdep 14 (by kernel_rfl)
   obtain ⟨sa,sc,se,hown⟩:=hG.g2 hd14
   have se:ws 14=.slice sa val.length sc:=se
   refine turn_run (by kernel_rfl) (.agg #[strV key,.slice sa val.length sc]) wx (xr_entry _ _ _ _ _ _ _ _ _ _ _ _ wx (by kernel_rfl) (Eq.trans (b:=ws 14) (by kernel_rfl) se)) ⟨hG.g0,hG.gb,hG.g1,hG.g2,fun _=>?_,(fun h=>by have h:dn 20=true:=h; rw [h20] at h; cases h)⟩
   show Value.agg #[strV key,.slice sa val.length sc]=.agg #[strV key,ws 14]
   rw [se]
  refine EachI.cons (MixOk.pure (by kernel_rfl) (fun _=>by kernel_rfl) (fun _ _=>by kernel_rfl)) ?_
  refine EachI.cons (MixOk.pure (by kernel_rfl) (fun _=>by kernel_rfl) (fun _ wx=>xr_add _ _ _ _ _ _ _ _ 3 k wx (by kernel_rfl) (by kernel_rfl) hw3)) ?_
  refine EachI.cons (MixOk.pure (by kernel_rfl) (fun _=>by kernel_rfl) (fun _ _=>by kernel_rfl)) ?_
  refine EachI.cons (MixOk.pure (by kernel_rfl) (fun _=>by kernel_rfl) (fun _ wx=>xr_add _ _ _ _ _ _ _ _ (3+(k:Int)) m wx (by kernel_rfl) (by kernel_rfl) hwm)) ?_
  refine EachI.cons (MixOk.turn (by kernel_rfl) (fun dn ws wx hG hdep hcl hni=>?_)) ?_
  ·have hb0:=hG.g0 hni
   have hd15:dn 15=true:=hdep 15 (by kernel_rfl)
   have hd14:dn 14=true:=hcl 15 14 (by kernel_rfl) hd15
   obtain ⟨sa,sc,se,hown⟩:=hG.g2 hd14
   have se:ws 14=.slice sa val.length sc:=se
   have e15:ws 15=.agg #[strV key,ws 14]:=hG.g3 hd15
   rw [se] at e15
   have hz:=HZ.out.below hb0
   have hg2:Grown (fun q=>q=w.heap.size) wx ((wx.setCell ⟨w.heap.size,0,none⟩ (strV key)).setCell ⟨w.heap.size,1,none⟩ (.slice sa val.length sc)):=Grown.setCell (S:=fun q=>q=w.heap.size) (Grown.setCell (S:=fun q=>q=w.heap.size) (Grown.refl _ wx) (a:=⟨w.heap.size,0,none⟩) rfl _) (a:=⟨w.heap.size,1,none⟩) rfl _
   have hsz:=hb0.size
   refine turn_void (by kernel_rfl) _ (xr_store2 _ _ _ _ _ _ _ _ w.heap.size _ _ _ _ _ _ wx (by kernel_rfl) (Eq.trans (b:=ws 15) (by kernel_rfl) e15) (hz.cell 0 (by simp)) (hz.cell 1 (by simp)) (fun o=>hz.frozen o)) ?_
   refine ⟨(fun h=>by cases h),hG.gb.trans (hg2.below (fun q e=>by have e:q=w.heap.size:=e; omega) (by omega)),(fun _ h=>by have h:dn 14=false:=h; rw [hd14] at h; cases h),fun _=>⟨sa,sc,se,own_grown hown hg2 (fun q hq _ e=>by have e:q=w.heap.size:=e; omega)⟩,hG.g3,fun _=>?_⟩
   have h:=(hz.set 0 (strV key)).set 1 (.slice sa val.length sc)
   show Blk _ _ _ [strV key,ws 14]
   rw [se]; exact h
  refine EachI.cons (MixOk.pure (by kernel_rfl) (fun _=>by kernel_rfl) (fun _ _=>by kernel_rfl)) ?_
  exact EachI.nil
 ·intro ws L' hL' w7 hG7
  obtain ⟨sa,sc,se,hown⟩:=hG7.g2 rfl
  have hz:Blk w7 w.heap.size 96 [strV key,ws 14]:=hG7.g4 rfl
  have se:ws 14=.slice sa val.length sc:=se
  rw [se] at hz
  have k0:=hz.cell 0 (by simp)
  have k1:=hz.cell 1 (by simp)
  simp only [List.getD_cons_zero,List.getD_cons_succ] at k0 k1
  simp only [setAll,mix,List.set_cons_succ,List.set_cons_zero,List.getElem?_cons_succ,List.getElem?_cons_zero,Option.join_some,Option.getD_some,Option.getD_none,Nat.reduceAdd,se] at hL'
  subst hL'
  have HO:=Lib.hid (own_up hown (show w.heap.size≤w3.heap.size by omega))
  have HBF:=Lib.hid (HB.out.trans hG7.gb)
  clear hG7 hown hz
  go_wp2
  all_goals exact bodyPost_ret (v:=.tuple #[.agg #[strV key,.slice sa val.length sc],.int .i64 (3+(k:Int)+(m:Int))]) (by simp [results,Tryz.results96,go_sem,k0,k1]) rfl ⟨⟨_,rfl,HO.out⟩,HBF.out⟩
/-- oneEntry -/
theorem roneEntry_c (v:Value) (l:List UInt8) (B:Nat) (w:World) (hv:RdB w B v l) (hB:B≤w.heap.size) (hl:l.length≤1073741824) :
 Calls Tryz.prog 96 #[v] w fun e w'=>OneRes w.heap.size (rOne l) e w'∧Below w.heap.size w w':=by
 unfold rOne
 by_cases h1:l.length < 1
 ·rw [if_pos h1]
  exact one_short v l B w hv hB hl (Or.inl h1)
 ·rw [if_neg h1]
  by_cases h2:l.length < 3+(l.getD 0 0).toNat
  ·rw [if_pos h2]
   exact one_short v l B w hv hB hl (Or.inr h2)
  ·rw [if_neg h2]
   by_cases h3:l.length < 3+(l.getD 0 0).toNat+numV ((l.drop (1+(l.getD 0 0).toNat)).take 2)
   ·rw [if_pos h3]
    exact one_long v l B w hv hB hl _ _ rfl (by omega) (by omega) rfl h3
   ·rw [if_neg h3]
    exact one_good v l B w hv hB hl _ _ rfl (by omega) (by omega) rfl (by omega) _ _ rfl rfl
end
section
open Go.RowKit SeedP Go.Maps
structure ReRow (w:World) (B:Nat) (v:Value) (xs:List EV):Prop where
 row:w.ownsRow B 96 2 v xs.length (rowR xs)
 val:∀ p ∈ xs,w.ownsRow B 5 1 p.2 p.1.2.length (byts p.1.2)
theorem ReRow.nil (w:World) (B:Nat):ReRow w B (.slice none 0 0) []:=⟨World.ownsRow_nil w B _ 2,fun p hp=>by cases hp⟩
theorem ReRow.grown {w w':World} {S:Nat→Prop} {B:Nat} {v:Value} {xs:List EV} (h:ReRow w B v xs) (hg:Grown S w w') (hn:∀ g,B≤g→g < w.heap.size→¬ S g):ReRow w' B v xs:=
 ⟨own_grown h.row hg hn,fun p hp=>own_grown (h.val p hp) hg hn⟩
theorem ReRow.below {w w':World} {B:Nat} {v:Value} {xs:List EV} (h:ReRow w B v xs) (hb:Below w.heap.size w w'):ReRow w' B v xs:=h.grown (Grown.of_below hb) (fun _ _ _ h=>h)
theorem ReRow.toAt {w:World} {B:Nat} {v:Value} {xs:List EV} (h:ReRow w B v xs):EntsAt w w.heap.size v (xs.map (·.1)):=
 EntsAt.ofRow h.row (fun p hp=>RdB.of_own (h.val p hp)) (Nat.le_refl _)
/-- the last key -/
theorem ReRow.last {w:World} {B:Nat} {v:Value} {xs:List EV} (h:ReRow w B v xs) (hn:0 < xs.length):∃ g cap,v=.slice (some ⟨g,0,none⟩) xs.length cap∧w.cell? ⟨g,0+(xs.length - 1) * 2,none⟩=some (strV (xs[xs.length - 1]'(by omega)).1.1):=by
 have hr:=h.row
 rcases h.row.2 with ⟨rfl,h0⟩ | ⟨g,cap,cur,rfl,hB,hg,hn2,hc,_⟩
 ·omega
 ·obtain ⟨e0,_⟩:=rowR_get xs (xs.length - 1) (by omega)
  refine ⟨g,cap,rfl,?_⟩
  rw [Nat.zero_add,hr.cellAt _ (by rw [← rowR_length]; exact (List.getElem?_eq_some_iff.1 e0).1),e0]
theorem wpList_re {w:World} {ops:Array Oper} {rest:List Oper} {o:Oper} {a:Act} {Q:Exit→Act→World→Prop} (hgd:o.guard=none) (s x:Operand)
 (ho:o.op=.call { callee:=.builtin .append,args:=#[s,x],argTypes:=#[50,50] })
 (B:Nat) (v:Value) (xs:List EV) (hs:a.eval s=v) (h:ReRow w B v xs) (g c:Nat) (y:EV) (hx:a.eval x=.slice (some ⟨g,0,none⟩) 1 c)
 (hg:Blk w g 96 [strV y.1.1,y.2]) (hy:w.ownsRow B 5 1 y.2 y.1.2.length (byts y.1.2)) (h1:y.2.oneCell'=true) (hn:xs.length≤1000000) (hB:B≤w.heap.size)
 (hK:∀ v' w',ReRow w' B v' (xs ++ [y])→Below B w w'→wpList Tryz.prog ops Q rest (a.put o.dst v') w'):wpList Tryz.prog ops Q (o :: rest) a w:=by
 have hi:=infoRE
 obtain ⟨i,hi,hz⟩:=Option.map_eq_some_iff.1 hi
 simp only [Prod.mk.injEq] at hz
 obtain ⟨hz1,hz2,hz3⟩:=hz
 refine wpList_append_own (P:=Tryz.prog) _ hgd s x 50 ho B 96 i _ 2 40 Tryz.underlying50 hi hz1 hz2 hz3 rfl (by decide) v xs.length (rowR xs) hs h.row ⟨g,0,none⟩ 1 c [strV y.1.1,y.2] hx rfl ?_ ?_ ?_ ?_ hB ?_
 ·intro j u hu
  have e0:(⟨g,0,none⟩:Addr).add j=⟨g,j,none⟩:=by unfold Addr.add; split <;> simp_all
  have hj:=(List.getElem?_eq_some_iff.1 hu).1
  rw [e0,hg.cell j hj,List.getD_eq_getElem?_getD,hu]; rfl
 ·intro u hu
  simp only [List.mem_cons,List.not_mem_nil,or_false] at hu
  rcases hu with rfl | rfl
  ·rfl
  ·exact h1
 ·unfold maxLen; omega
 ·omega
 ·intro v' w' hown hgr _
  have hb:Below B w w':=(Below.refl _ _).grown hgr hB (fun k e=>(h.row.lt k e).1)
  refine hK v' w' ⟨?_,fun p hp=>?_⟩ hb
  ·rw [List.length_append,rowR_append]; exact hown
  ·have hne:∀ q:Value,∀ m zs,w.ownsRow B 5 1 q m zs→w'.ownsRow B 5 1 q m zs:=fun q m zs hq=>by
    refine hq.kept hgr ?_
    cases hq0:q.ownBlock with
    | none=>exact Or.inl rfl
    | some k=>
      refine Or.inr (fun e=>?_)
      rcases hq.2 with ⟨rfl,_⟩ | ⟨g1,c1,cur1,rfl,_,hh1,_⟩
      ·simp [Value.ownBlock] at hq0
      rcases h.row.2 with ⟨rfl,_⟩ | ⟨g2,c2,cur2,rfl,_,hh2,_⟩
      ·simp [Value.ownBlock] at e
      simp only [Value.ownBlock,Option.some.injEq] at hq0 e
      rw [hq0] at hh1
      rw [← e] at hh2
      rw [hh1] at hh2
      cases hh2
   rcases List.mem_append.1 hp with hp | hp
   ·exact hne _ _ _ (h.val p hp)
   ·obtain rfl:p=y:=by simpa using hp
    exact hne _ _ _ hy
/-- whether an entry may follow -/
def okE (P:PEnts) (e:List UInt8 × List UInt8):Bool:=
 !(decide (e.1.length < 1)) && !(decide (40 < e.1.length)) && !(decide (4096 < e.2.length)) && match P.getLast? with
   | none=>true
   | some l=>Op.bytesLess l.1 e.1
/-- the entries that bytes tell, behind some -/
def rStGo:Nat→List UInt8→PEnts→Option PEnts
 | 0,_,P=>some P
 | n+1,b,P=>if b.length < 1 then some P else match rOne b with
   | none=>none
   | some (e,m)=>if okE P e=true then rStGo n (b.drop m) (P ++ [e]) else none
def rStEnd (g many:Nat) (P:PEnts):Option (Nat × PEnts):=if P.length=many∧pWt P≤131072 then some (g,P) else none
def rStateR (b:List UInt8):Option (Nat × PEnts):=
 if b.length < 12∨numV (b.take 8) < 1∨4611686018427387904 < numV (b.take 8) then none
 else match rStGo b.length (b.drop 12) [] with
  | none=>none
  | some P=>rStEnd (numV (b.take 8)) (numV ((b.drop 8).take 4)) P
theorem okE_eq (xs:List EV) (e:List UInt8 × List UInt8):okE (xs.map (·.1)) e=(!(decide (e.1.length < 1)) && !(decide (40 < e.1.length)) && !(decide (4096 < e.2.length)) && if h:0 < xs.length then Op.bytesLess (xs[xs.length - 1]'(by omega)).1.1 e.1 else true):=by
 unfold okE
 congr 1
 by_cases h:0 < xs.length
 ·rw [dif_pos h,List.getLast?_eq_getElem?,List.length_map,List.getElem?_eq_getElem (by rw [List.length_map]; omega),List.getElem_map]
 ·have:xs=[]:=List.eq_nil_of_length_eq_zero (by omega)
  subst this
  rfl
/-- what state returns -/
def StResR (R:Option (Nat × PEnts)) (e:Ending) (w:World):Prop:=
 match R with
 | none=>e=.returned (.tuple #[.int .i64 0,.slice none 0 0])
 | some (g,P)=>∃ v,e=.returned (.tuple #[.int .i64 g,v])∧EntsAt w w.heap.size v P
theorem StResR.none {R:Option (Nat × PEnts)} {w:World} (h:R=none):StResR R (.returned (.tuple #[.int .i64 0,.slice none 0 0])) w:=by subst h; rfl
/-- how far it is -/
structure StAt (b:List UInt8) (P:PEnts) (i:Nat):Prop where
 good:¬ (b.length < 12∨numV (b.take 8) < 1∨4611686018427387904 < numV (b.take 8))
 tell:∃ n,rStGo b.length (b.drop 12) []=rStGo n (b.drop i) P∧b.length≤n+i
 len:P.length≤i
 wt:pWt P≤i
theorem StAt.start (b:List UInt8) (h:¬ (b.length < 12∨numV (b.take 8) < 1∨4611686018427387904 < numV (b.take 8))):StAt b [] 12:=⟨h,⟨b.length,rfl,by omega⟩,by simp,by simp [pWt]⟩
theorem StAt.step {b:List UInt8} {P:PEnts} {i:Nat} (h:StAt b P i) (hi:i < b.length) :
 (rOne (b.drop i)=none→rStateR b=none)∧∀ e m,rOne (b.drop i)=some (e,m)→(okE P e=false→rStateR b=none)∧(okE P e=true→StAt b (P ++ [e]) (i+m)):=by
 obtain ⟨hg,⟨n,h1,h2⟩,h3,h4⟩:=h
 cases n with
 | zero=>omega
 | succ n=>
   have hl:(b.drop i).length=b.length - i:=by rw [List.length_drop]
   have hno:rStGo b.length (b.drop 12) []=none→rStateR b=none:=fun h=>by
    unfold rStateR
    rw [if_neg hg,h]
   rw [rStGo,if_neg (by omega)] at h1
   refine ⟨fun ho=>?_,fun e m ho=>?_⟩
   ·rw [ho] at h1
    exact hno h1
   ·rw [ho] at h1
    dsimp only at h1
    refine ⟨fun hk=>?_,fun hk=>?_⟩
    ·rw [if_neg (by rw [hk]; decide)] at h1
     exact hno h1
    ·rw [if_pos hk,List.drop_drop] at h1
     have hm:=rOne_some ho
     refine ⟨hg,⟨n,h1,by omega⟩,by simp; omega,?_⟩
     unfold pWt at h4 ⊢
     rw [List.map_append,List.sum_append]
     simp [eWt]
     omega
theorem StAt.done {b:List UInt8} {P:PEnts} {i:Nat} (h:StAt b P i) (hi:b.length≤i):rStateR b=rStEnd (numV (b.take 8)) (numV ((b.drop 8).take 4)) P:=by
 obtain ⟨hg,⟨n,h2,_⟩,_,_⟩:=h
 have e:rStGo n (b.drop i) P=some P:=by
  cases n with
  | zero=>rfl
  | succ n=>rw [rStGo,if_pos (by rw [List.length_drop]; omega)]
 rw [e] at h2
 unfold rStateR
 rw [if_neg hg,h2]
end
end Go.Proofs.YtondomklkapogaaGreatDoor
