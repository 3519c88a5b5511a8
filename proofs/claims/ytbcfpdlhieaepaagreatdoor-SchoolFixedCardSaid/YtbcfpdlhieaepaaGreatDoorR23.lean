/- The walks of taskValue and readTask. -/
import Derived.Test.YtbcfpdlhieaepaaGreatDoorR20
import Derived.Test.YtbcfpdlhieaepaaGreatDoorR21
import Derived.Test.YtbcfpdlhieaepaaGreatDoorR22
import Derived.BigRegion
import Derived.Deep.RegionWith
import Derived.Deep.RegionHeld3
namespace Go.Proofs.YtbcfpdlhieaepaaGreatDoor
open Go.RowKit SeedP Go.Maps
section
variable {Y:Nat→Option Bool} {b:Act} {w:World} {C:Value→World→Prop} (d:Option Tmp) (ty:TypeId) (pos:String) (af:Array Edge) (gd:Option (Nat × Bool))
theorem turn_appS (s x:Operand) (hw:Region.wanted ⟨d,.call { callee:=.builtin .append,args:=#[s,x],argTypes:=#[26,9] },ty,pos,af,gd⟩ Y=true)
 (B:Nat) (v:Value) (n:Nat) (xs k:List UInt8) (hs:b.eval s=v) (hown:w.ownsRow B 5 1 v n (byts xs)) (hx:b.eval x=strV k) (hm:n+k.length≤4294967296) (hB:B≤w.heap.size)
 (h:∀ v' w',w'.ownsRow B 5 1 v' (n+k.length) (byts (xs ++ k))→w.grownBy w' v.ownBlock→C v' w'):TurnOk Tryz.prog Y b w ⟨d,.call { callee:=.builtin .append,args:=#[s,x],argTypes:=#[26,9] },ty,pos,af,gd⟩ C:=by
 obtain ⟨v',w',hr,h2,h3⟩:=appS_run ty B v n xs hown ⟨k.toArray⟩ (by rw [str_size]; exact hm) hB
 rw [str_size] at h2
 refine turn_run hw v' w' ?_ (h v' w' h2 h3)
 unfold execOp
 simp only [resolve,invoke,builtin,Sem.run_bind,Sem.run_pure,Result.andThen_ok,List.map_toArray,List.map_cons,List.map_nil,hs,hx,hr]
end
section
variable (ρ:Operand→Value) (d:Option Tmp) (ty:TypeId) (pos:String) (af:Array Edge) (gd:Option (Nat × Bool))
theorem sx_str (x:Operand) (ad:Addr) (v:Value) (w:World) (hx:ρ x=.pointer (some ad)) (hc:w.cell? ad=some v) :
 (execOp ρ ⟨d,.load 9 x,ty,pos,af,gd⟩).run Tryz.prog w=.ok (.value v) w:=by
 simp [go_sem,hx,hc]
theorem sx_byt (x:Operand) (ad:Addr) (v:Value) (w:World) (hx:ρ x=.pointer (some ad)) (hc:w.cell? ad=some v) :
 (execOp ρ ⟨d,.load 26 x,ty,pos,af,gd⟩).run Tryz.prog w=.ok (.value v) w:=by
 simp [go_sem,hx,hc]
theorem sx_lens (x:Operand) (l:List UInt8) (w:World) (hx:ρ x=strV l) :
 (execOp ρ ⟨d,.call { callee:=.builtin .len,args:=#[x],argTypes:=#[9] },3,pos,af,gd⟩).run Tryz.prog w=.ok (.value (.int .i64 (l.length:Int))) w:=by
 simp [go_sem,hx,str_size]
theorem sx_u8 (x:Operand) (n:Int) (b:Int) (w:World) (hx:ρ x=.int .i64 n) (hb:IntKind.u8.wrap n=b) :
 (execOp ρ ⟨d,.convert 3 5 x,ty,pos,af,gd⟩).run Tryz.prog w=.ok (.value (.int .u8 b)) w:=by
 simp [go_sem,hx,hb]
theorem sx_bs1 (x:Operand) (b:UInt8) (w:World) (hx:ρ x=.int .u8 b.toNat) :
 (execOp ρ ⟨d,.buildSlice 26 1 #[(0,x)],ty,pos,af,gd⟩).run Tryz.prog w=.ok (.value (.slice (some ⟨w.heap.size,0,none⟩) 1 1)) (w.alloc (.cells (byts [b]).toArray 5)):=by
 simp [go_sem,hx,byts]
end
/-- what holds while a name and a length are added -/
structure TvG (W1:World) (v5:Value) (acc cl:List UInt8) (bn:UInt8) (ds:List Bool) (vs:List Value) (w:World):Prop where
 gb:Below W1.heap.size W1 w
 g0:ds.getD 0 false=false→w.ownsRow W1.heap.size 5 1 v5 acc.length (byts acc)
 g1:ds.getD 0 false=true→ds.getD 2 false=false→w.ownsRow W1.heap.size 5 1 (vs.getD 0 undef) (acc ++ cl).length (byts (acc ++ cl))
 g2:ds.getD 1 false=true→ds.getD 2 false=false→RdP w (fun g=>ds.getD 0 false=false→v5.ownBlock ≠ some g) (vs.getD 1 undef) [bn]
 g3:ds.getD 2 false=true→w.ownsRow W1.heap.size 5 1 (vs.getD 2 undef) (acc ++ cl ++ [bn]).length (byts (acc ++ cl ++ [bn]))
 g4:ds.getD 3 false=true→vs.getD 3 undef=vs.getD 2 undef
/-- what holds while a name and a body are added -/
structure TwG (W1:World) (v5:Value) (acc nm bd:List UInt8) (ds:List Bool) (vs:List Value) (w:World):Prop where
 gb:Below W1.heap.size W1 w
 g0:ds.getD 0 false=false→w.ownsRow W1.heap.size 5 1 v5 acc.length (byts acc)
 g1:ds.getD 0 false=true→ds.getD 1 false=false→w.ownsRow W1.heap.size 5 1 (vs.getD 0 undef) (acc ++ nm).length (byts (acc ++ nm))
 g2:ds.getD 1 false=true→w.ownsRow W1.heap.size 5 1 (vs.getD 1 undef) (acc ++ nm ++ bd).length (byts (acc ++ nm ++ bd))
 g3:ds.getD 2 false=true→vs.getD 2 undef=vs.getD 1 undef
theorem own_lt {w:World} {B n m:Nat} {e:TypeId} {v:Value} {xs:List Value} (h:w.ownsRow B e m v n xs) {q:Nat} (hq:v.ownBlock=some q):q < w.heap.size:=by
 obtain ⟨_,h2⟩:=h
 rcases h2 with ⟨rfl,_⟩ | ⟨g,cap,cur,rfl,hB,hg,hn,hc,_⟩
 ·cases hq
 ·have e:g=q:=by simpa [Value.ownBlock] using hq
  subst e
  exact (Array.getElem?_eq_some_iff.1 hg).1
theorem own_below {w w':World} {B n m:Nat} {e:TypeId} {v:Value} {xs:List Value} (h:w.ownsRow B e m v n xs) (hb:Below w.heap.size w w'):w'.ownsRow B e m v n xs:=
 own_grown h (Grown.of_below hb (S:=fun _=>False)) (fun _ _ _ h=>h)
set_option maxRecDepth 100000 in
set_option maxHeartbeats 2000000 in
/-- taskValue -/
theorem taskValue_c (t:TaskP) (vb:Value) (w:World) (hf:t.Fine) (hb:RdB w w.heap.size vb t.body) (hbl:t.body.length≤4000) :
 Calls Tryz.prog 74 #[taskV t vb] w fun e w'=>(∃ v',e=.returned v'∧w'.ownsRow w.heap.size 5 1 v' (taskVal t).length (byts (taskVal t)))∧Below w.heap.size w w':=by
 have hc:=isNameP_len hf.cls
 have hn:=isNameP_len hf.name
 have f0:=hf.f0; have f1:=hf.f1; have f2:=hf.f2; have f3:=hf.f3; have f4:=hf.t0; have f5:=hf.t1
 obtain ⟨a,c,rfl,hbm, -, -⟩:=hb.open_
 have hb0:=Lib.hid hb
 clear hb hf
 obtain ⟨cls,name,frm,due,late,tries,body⟩:=t
 simp only at hc hn f0 f1 f2 f3 f4 f5 hbl hb0 hbm ⊢
 unfold taskVal
 simp only
 obtain ⟨x,rfl⟩:∃ x:Nat,frm=x:=⟨frm.toNat,by omega⟩
 obtain ⟨y,rfl⟩:∃ x:Nat,due=x:=⟨due.toNat,by omega⟩
 obtain ⟨z,rfl⟩:∃ x:Nat,late=x:=⟨late.toNat,by omega⟩
 obtain ⟨q,rfl⟩:∃ x:UInt8,tries=x.toNat:=⟨UInt8.ofNat tries.toNat,by rw [UInt8.toNat_ofNat']; omega⟩
 simp only [Int.toNat_natCast,UInt8.ofNat_toNat]
 obtain ⟨bc,hbc⟩:∃ b,UInt8.ofNat cls.length=b:=⟨_,rfl⟩
 obtain ⟨bn,hbn⟩:∃ b,UInt8.ofNat name.length=b:=⟨_,rfl⟩
 have lc:(cls.length:Int)=(bc.toNat:Int):=by rw [← hbc,UInt8.toNat_ofNat']; omega
 have ln:(name.length:Int)=(bn.toNat:Int):=by rw [← hbn,UInt8.toNat_ofNat']; omega
 rw [hbc,hbn]
 have hsc:=str_size cls
 have hsn:=str_size name
 clear hbc hbn
 have hB0:=(Below.refl _ w).alloc (Nat.le_refl _) (.cells #[strV cls,strV name,.int .i64 x,.int .i64 y,.int .i64 z,.int .i64 q.toNat,.slice a body.length c] 35)
 have hX:=Blk.new w 35 [strV cls,strV name,.int .i64 x,.int .i64 y,.int .i64 z,.int .i64 q.toNat,.slice a body.length c]
 have x0:=hX.cell 0 (by simp)
 have x1:=hX.cell 1 (by simp)
 have x2:=hX.cell 2 (by simp)
 have x3:=hX.cell 3 (by simp)
 have x4:=hX.cell 4 (by simp)
 have x5:=hX.cell 5 (by simp)
 have x6:=hX.cell 6 (by simp)
 simp only [List.getD_cons_zero,List.getD_cons_succ] at x0 x1 x2 x3 x4 x5 x6
 have hz0:(w.alloc (.cells #[strV cls,strV name,.int .i64 x,.int .i64 y,.int .i64 z,.int .i64 q.toNat,.slice a body.length c] 35)).heap.size=w.heap.size+1:=by simp
 go_enter Tryz.func74,Tryz.ntmps74
 go_upto_region 1 with (fail)
 change Code.wp _ _ _ _ (w.alloc (.cells #[strV cls,strV name,.int .i64 x,.int .i64 y,.int .i64 z,.int .i64 q.toNat,.slice a body.length c] 35))
 have HRB:=Lib.hid (hb0.out.below hB0)
 generalize w.alloc (.cells #[strV cls,strV name,.int .i64 x,.int .i64 y,.int .i64 z,.int .i64 q.toNat,.slice a body.length c] 35)=w1 at *
 generalize hg:w.heap.size=g at *
 have hg1:g < w1.heap.size:=by omega
 have HALL:Hid (∀ W,Below w1.heap.size w1 W→W.cell? ⟨g,0,none⟩=some (strV cls)∧W.cell? ⟨g,1,none⟩=some (strV name)∧W.cell? ⟨g,2,none⟩=some (.int .i64 x)∧W.cell? ⟨g,3,none⟩=some (.int .i64 y)∧W.cell? ⟨g,4,none⟩=some (.int .i64 z)∧W.cell? ⟨g,5,none⟩=some (.int .i64 q.toNat)∧W.cell? ⟨g,6,none⟩=some (.slice a body.length c)):=Lib.hid (fun W hW=>
  ⟨keep_cell hW x0,keep_cell hW x1,keep_cell hW x2,keep_cell hW x3,keep_cell hW x4,keep_cell hW x5,keep_cell hW x6⟩)
 have H1:=Lib.hid (fun (W:World) (hW:w1.heap.size≤W.heap.size)=>snumber_c (.slice none 0 0) [] x w1.heap.size W (by simpa [byts] using World.ownsRow_nil W w1.heap.size 5 1) hW (by omega) (by simp))
 have H2:=Lib.hid (fun v (W:World) hv (hW:w1.heap.size≤W.heap.size)=>snumber_c v (numB x 4) y w1.heap.size W hv hW (by omega) (by rw [numB_length]; omega))
 have H3:=Lib.hid (fun v (W:World) hv (hW:w1.heap.size≤W.heap.size)=>snumber_c v (numB x 4 ++ numB y 4) z w1.heap.size W hv hW (by omega) (by simp [numB_length]))
 have W0:=bl_drew w1
 go_region_held3 (fun w'=>w'.cell? ⟨g,2,none⟩=some (.int .i64 x)∧w'.cell? ⟨g,3,none⟩=some (.int .i64 y)∧w'.cell? ⟨g,4,none⟩=some (.int .i64 z)) (first | exact ⟨x2,x3,x4⟩ | exact ⟨(HALL.out _ B1).2.2.1,(HALL.out _ B1).2.2.2.1,(HALL.out _ B1).2.2.2.2.1⟩ | exact ⟨(HALL.out _ B2).2.2.1,(HALL.out _ B2).2.2.2.1,(HALL.out _ B2).2.2.2.2.1⟩ | exact ⟨(HALL.out _ B3).2.2.1,(HALL.out _ B3).2.2.2.1,(HALL.out _ B3).2.2.2.2.1⟩)
  (first
   | (go_at_call 56; have _t:=B2; refine (H3.out _ _ y2 B2.size).mono ?_; rintro e w4 ⟨⟨v3,rfl,y3⟩,b3,_⟩; have B3:=B2.trans b3; clear b3 B2)
   | (go_at_call 56; have _t:=B1; refine (H2.out _ _ y1 B1.size).mono ?_; rintro e w3 ⟨⟨v2,rfl,y2⟩,b2,_⟩; have B2:=B1.trans b2; clear b2 B1)
   | (go_at_call 56; have _t:=W0; refine (H1.out _ W0.size).mono ?_; rintro e w2 ⟨⟨v1,rfl,y1⟩,b1,_⟩; have B1:=W0.trans b1; clear b1 W0))
 clear H1 H2 H3 x0 x1 x2 x3 x4 x5 x6
 obtain ⟨c0,c1,c2,c3,c4,c5,c6⟩:=HALL.out _ B3
 generalize hnn:numB x 4 ++ numB y 4 ++ numB z 4=nn at *
 have hnl:nn.length=12:=by rw [← hnn]; simp [numB_length]
 go_upto_region 3 with (at_builtin; go_must (refine wpList_appK rfl _ _ rfl w1.heap.size v3 nn.length nn rfl (y3.alloc _) _ [q,bc] rfl (rdB_lit w4 [q,bc] (by simp [maxLen]) 2 rfl) (by simp; omega) (by have:=B3.size; simp; omega) ?_); intro v5 w5 y5 b5 _)
 have B5:=(B3.alloc B3.size (.cells (byts [q,bc]).toArray 5)).trans b5
 clear B3 b5 y3 c0 c1 c2 c3 c4 c5 c6 y1 y2
 have e5:nn.length+[q,bc].length=14:=by simp [hnl]
 rw [e5] at y5
 have HY5:=Lib.hid (show w5.ownsRow w1.heap.size 5 1 v5 (nn ++ [q,bc]).length (byts (nn ++ [q,bc])) by rw [List.length_append,hnl]; exact y5)
 clear y5 e5
 have hal:(nn ++ [q,bc]).length=14:=by rw [List.length_append,hnl]; rfl
 generalize hacc:nn ++ [q,bc]=acc at *
 have hw8:IntKind.u8.wrap (name.length:Int)=(bn.toNat:Int):=by rw [IntKind.wrap_u8]; omega
 refine wp_region_mixL (by kernel_rfl) 10 3 _ rfl rfl (by kernel_rfl) (by kernel_rfl) (Nat.le_of_ble_eq_true (by kernel_rfl)) [some v5,some (.pointer (some ⟨g,0,none⟩)),some (strV cls),none,some (.pointer (some ⟨g,1,none⟩)),some (strV name),some (.int .i64 (name.length:Int)),some (.int .u8 bn.toNat),none,none,none] [3,8,9,10] (by kernel_rfl) (by kernel_rfl) (by kernel_rfl) (TvG w1 v5 acc cls bn) ⟨B5.drew,fun _=>HY5.out.drew,(fun h=>by cases h),(fun h=>by cases h),(fun h=>by cases h),(fun h=>by cases h)⟩ ?_ ?_
 ·refine EachI.cons (MixOkL.pure (by kernel_rfl) (fun _=>by kernel_rfl) (fun _ _=>by kernel_rfl)) ?_
  refine EachI.cons (MixOkL.pure (by kernel_rfl) (fun _=>by kernel_rfl) (fun _ _=>by kernel_rfl)) ?_
  refine EachI.cons (MixOkL.look (by kernel_rfl) (fun _=>by kernel_rfl) (fun dn ws wx hG hdep hcl hni=>sx_str _ _ _ _ _ _ _ ⟨g,0,none⟩ _ wx (by kernel_rfl) (HALL.out wx hG.gb).1)) ?_
  refine EachI.cons (MixOkL.turn (by kernel_rfl) (fun dn ws wx hG hdep hcl hni=>?_)) ?_
  ·have h9:=not_done (hcl 9 3 (by kernel_rfl)) hni
   have h10:=not_done (hcl 10 9 (by kernel_rfl)) h9
   have ho:=hG.g0 hni
   refine turn_appS _ _ _ _ _ _ _ (by kernel_rfl) w1.heap.size v5 acc.length acc cls (by kernel_rfl) ho (by kernel_rfl) (by omega) hG.gb.size (fun v' w' hown hgr=>?_)
   refine ⟨hG.gb.trans (below_own ho hgr hG.gb.size),(fun h=>by cases h),fun _ _=>by rw [List.length_append]; exact hown,fun h h2=>?_,(fun h=>by have h:dn 9=true:=h; rw [h9] at h; cases h),(fun h=>by have h:dn 10=true:=h; rw [h10] at h; cases h)⟩
   exact ((hG.g2 h h2).grown (Grown.of_row hgr (S:=fun g=>v5.ownBlock=some g) (fun k e=>e)) (fun g hg e=>hg hni e)).mono (fun g _ _ h=>by cases h)
  refine EachI.cons (MixOkL.pure (by kernel_rfl) (fun _=>by kernel_rfl) (fun _ _=>by kernel_rfl)) ?_
  refine EachI.cons (MixOkL.look (by kernel_rfl) (fun _=>by kernel_rfl) (fun dn ws wx hG hdep hcl hni=>sx_str _ _ _ _ _ _ _ ⟨g,1,none⟩ _ wx (by kernel_rfl) (HALL.out wx hG.gb).2.1)) ?_
  refine EachI.cons (MixOkL.pure (by kernel_rfl) (fun _=>by kernel_rfl) (fun _ wx=>sx_lens _ _ _ _ _ _ name wx (by kernel_rfl))) ?_
  refine EachI.cons (MixOkL.pure (by kernel_rfl) (fun _=>by kernel_rfl) (fun _ wx=>sx_u8 _ _ _ _ _ _ _ _ _ wx (by kernel_rfl) hw8)) ?_
  refine EachI.cons (MixOkL.turn (by kernel_rfl) (fun dn ws wx hG hdep hcl hni=>?_)) ?_
  ·have h9:=not_done (hcl 9 8 (by kernel_rfl)) hni
   have h10:=not_done (hcl 10 9 (by kernel_rfl)) h9
   have hs:=hG.gb.size
   have hba:=(Below.refl wx.heap.size wx).alloc (Nat.le_refl _) (.cells (byts [bn]).toArray 5)
   refine turn_run (by kernel_rfl) _ _ (sx_bs1 _ _ _ _ _ _ _ bn wx (by kernel_rfl)) ?_
   refine ⟨hG.gb.trans (hba.mono hs),fun h=>own_below (hG.g0 h) hba,fun h h2=>own_below (hG.g1 h h2) hba,fun _ _=>?_,(fun h=>by have h:dn 9=true:=h; rw [h9] at h; cases h),(fun h=>by have h:dn 10=true:=h; rw [h10] at h; cases h)⟩
   refine Or.inr ⟨wx.heap.size,0,1,rfl,Nat.le_refl _,by unfold maxLen; omega,fun h0 e=>absurd (own_lt (hG.g0 h0) e) (Nat.lt_irrefl _),fun j hj=>?_⟩
   have hj:j < 1:=hj
   obtain rfl:j=0:=by omega
   exact (Blk.new wx 5 (byts [bn])).cell 0 (by simp [byts])
  refine EachI.cons (MixOkL.turn (by kernel_rfl) (fun dn ws wx hG hdep hcl hni=>?_)) ?_
  ·have h10:=not_done (hcl 10 9 (by kernel_rfl)) hni
   have hd3:dn 3=true:=hdep 3 (by kernel_rfl)
   have hd8:dn 8=true:=hdep 8 (by kernel_rfl)
   have ho:wx.ownsRow w1.heap.size 5 1 (ws 3) (acc ++ cls).length (byts (acc ++ cls)):=hG.g1 hd3 hni
   have hr:=(hG.g2 hd8 hni).toB
   refine turn_app _ _ _ _ _ _ _ (by kernel_rfl) w1.heap.size (ws 3) (acc ++ cls).length (acc ++ cls) (by kernel_rfl) ho (ws 8) [bn] (by kernel_rfl) hr (by simp only [List.length_append,List.length_cons,List.length_nil]; omega) hG.gb.size (fun v' w' hown hgr=>?_)
   exact ⟨hG.gb.trans (below_own ho hgr hG.gb.size),(fun h=>by have h:dn 3=false:=h; rw [hd3] at h; cases h),(fun _ h=>by cases h),(fun _ h=>by cases h),fun _=>by rw [List.length_append (bs:=[bn])]; exact hown,(fun h=>by have h:dn 10=true:=h; rw [h10] at h; cases h)⟩
  refine EachI.cons (MixOkL.turn (by kernel_rfl) (fun dn ws wx hG hdep hcl hni=>?_)) ?_
  ·refine turn_run (by kernel_rfl) (ws 9) wx (by kernel_rfl) ⟨hG.gb,hG.g0,hG.g1,hG.g2,hG.g3,fun _=>rfl⟩
  exact EachI.nil
 ·intro ws L' hL' w7 hG7
  have e5:ws 10=ws 9:=hG7.g4 rfl
  have ho:w7.ownsRow w1.heap.size 5 1 (ws 9) (acc ++ cls ++ [bn]).length (byts (acc ++ cls ++ [bn])):=hG7.g3 rfl
  have B7:=hG7.gb
  simp only [List.set_cons_succ,List.set_cons_zero,setAll,mix,List.getElem?_cons_succ,List.getElem?_cons_zero,Option.join_some,Option.getD_some,Option.getD_none,Nat.reduceAdd,e5] at hL'
  subst hL'
  clear hG7 e5
  generalize ws 9=v9 at *
  generalize ws 3=v10 at *
  generalize ws 8=v11 at *
  have HY7:=Lib.hid ho
  have hgg:g≤w1.heap.size:=by omega
  have hal2:(acc ++ cls ++ [bn]).length≤31:=by simp only [List.length_append,List.length_cons,List.length_nil]; omega
  clear ho HY5 B5
  have HE:Hid (numB x 4 ++ numB y 4 ++ numB z 4 ++ [q,bc] ++ cls ++ bn :: (name ++ body)=acc ++ cls ++ [bn] ++ name ++ body):=Lib.hid (by rw [hnn,hacc]; simp)
  generalize acc ++ cls ++ [bn]=acc2 at *
  go_upto_region 4 with (fail)
  refine wp_region_mix (by kernel_rfl) (by kernel_rfl) (by kernel_rfl) [some v9,some (.pointer (some ⟨g,1,none⟩)),some (strV name),none,some (.pointer (some ⟨g,6,none⟩)),some (.slice a body.length c),none,none] [3,6,7] (by kernel_rfl) (by kernel_rfl) (TwG w1 v9 acc2 name body) ⟨B7.drew,fun _=>HY7.out.drew,(fun h=>by cases h),(fun h=>by cases h),(fun h=>by cases h)⟩ ?_ ?_
  ·refine EachI.cons (MixOk.pure (by kernel_rfl) (fun _=>by kernel_rfl) (fun _ _=>by kernel_rfl)) ?_
   refine EachI.cons (MixOk.pure (by kernel_rfl) (fun _=>by kernel_rfl) (fun _ _=>by kernel_rfl)) ?_
   refine EachI.cons (MixOk.look (by kernel_rfl) (fun _=>by kernel_rfl) (fun dn ws wx hG hdep hcl hni=>sx_str _ _ _ _ _ _ _ ⟨g,1,none⟩ _ wx (by kernel_rfl) (HALL.out wx hG.gb).2.1)) ?_
   refine EachI.cons (MixOk.turn (by kernel_rfl) (fun dn ws wx hG hdep hcl hni=>?_)) ?_
   ·have h6:=not_done (hcl 6 3 (by kernel_rfl)) hni
    have h7:=not_done (hcl 7 6 (by kernel_rfl)) h6
    have ho:=hG.g0 hni
    refine turn_appS _ _ _ _ _ _ _ (by kernel_rfl) w1.heap.size v9 acc2.length acc2 name (by kernel_rfl) ho (by kernel_rfl) (by omega) hG.gb.size (fun v' w' hown hgr=>?_)
    exact ⟨hG.gb.trans (below_own ho hgr hG.gb.size),(fun h=>by cases h),fun _ _=>by rw [List.length_append]; exact hown,(fun h=>by have h:dn 6=true:=h; rw [h6] at h; cases h),(fun h=>by have h:dn 7=true:=h; rw [h7] at h; cases h)⟩
   refine EachI.cons (MixOk.pure (by kernel_rfl) (fun _=>by kernel_rfl) (fun _ _=>by kernel_rfl)) ?_
   refine EachI.cons (MixOk.look (by kernel_rfl) (fun _=>by kernel_rfl) (fun dn ws wx hG hdep hcl hni=>sx_byt _ _ _ _ _ _ _ ⟨g,6,none⟩ _ wx (by kernel_rfl) (HALL.out wx hG.gb).2.2.2.2.2.2)) ?_
   refine EachI.cons (MixOk.turn (by kernel_rfl) (fun dn ws wx hG hdep hcl hni=>?_)) ?_
   ·have h7:=not_done (hcl 7 6 (by kernel_rfl)) hni
    have hd3:dn 3=true:=hdep 3 (by kernel_rfl)
    have ho:wx.ownsRow w1.heap.size 5 1 (ws 3) (acc2 ++ name).length (byts (acc2 ++ name)):=hG.g1 hd3 hni
    refine turn_app _ _ _ _ _ _ _ (by kernel_rfl) w1.heap.size (ws 3) (acc2 ++ name).length (acc2 ++ name) (by kernel_rfl) ho (.slice a body.length c) body (by kernel_rfl) (HRB.out.below (hG.gb.mono hgg)) (by simp only [List.length_append]; omega) hG.gb.size (fun v' w' hown hgr=>?_)
    exact ⟨hG.gb.trans (below_own ho hgr hG.gb.size),(fun h=>by have h:dn 3=false:=h; rw [hd3] at h; cases h),(fun _ h=>by cases h),fun _=>by rw [List.length_append (bs:=body)]; exact hown,(fun h=>by have h:dn 7=true:=h; rw [h7] at h; cases h)⟩
   refine EachI.cons (MixOk.turn (by kernel_rfl) (fun dn ws wx hG hdep hcl hni=>?_)) ?_
   ·refine turn_run (by kernel_rfl) (ws 6) wx (by kernel_rfl) ⟨hG.gb,hG.g0,hG.g1,hG.g2,fun _=>rfl⟩
   exact EachI.nil
  ·intro ws L' hL' w8 hG8
   have e5:ws 7=ws 6:=hG8.g3 rfl
   have ho:w8.ownsRow w1.heap.size 5 1 (ws 6) (acc2 ++ name ++ body).length (byts (acc2 ++ name ++ body)):=hG8.g2 rfl
   have B8:=hG8.gb
   simp only [List.set_cons_succ,List.set_cons_zero,setAll,mix,List.getElem?_cons_succ,List.getElem?_cons_zero,Option.join_some,Option.getD_some,Option.getD_none,Nat.reduceAdd,e5] at hL'
   subst hL'
   clear hG8 e5 HY7
   generalize ws 6=v12 at *
   generalize ws 3=v13 at *
   go_wp2
   go_ret
   rw [HE.out]
   exact ⟨⟨_,rfl,own_up ho (by omega)⟩,by rw [hg]; exact hB0.trans (B8.mono hgg)⟩
end Go.Proofs.YtbcfpdlhieaepaaGreatDoor
