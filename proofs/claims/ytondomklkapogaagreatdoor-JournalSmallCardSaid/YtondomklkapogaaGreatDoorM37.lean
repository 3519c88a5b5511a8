/- The law's helpers: KeptBytes, OverBytes, SameTexts. -/
import Derived.Test.YtondomklkapogaaGreatDoorM36
import Derived.Test.YtondomklkapogaaGreatDoorM26
import Derived.Test.YtondomklkapogaaGreatDoorM25
namespace Go.Proofs.YtondomklkapogaaGreatDoor
section
open Go.RowKit SeedP Go.Maps
/-- the same world but for draws -/
def Dr (w w':World):Prop:=∃ m,w'=w.drewN m
theorem Dr.refl (w:World):Dr w w:=⟨0,rfl⟩
theorem Dr.drewN {w w':World} (h:Dr w w') (n:Nat):Dr w (w'.drewN n):=by obtain ⟨m,rfl⟩:=h; exact ⟨m+n,by rw [World.drewN_drewN]⟩
theorem Dr.cell {w w':World} (h:Dr w w') (a:Addr):w'.cell? a=w.cell? a:=by obtain ⟨m,rfl⟩:=h; rfl
theorem Dr.below {w w':World} (h:Dr w w') (B:Nat):Below B w w':=by obtain ⟨m,rfl⟩:=h; exact below_drewN (Below.refl _ _) _
set_option maxRecDepth 100000 in
set_option maxHeartbeats 1000000 in
/-- KeptBytes -/
theorem kept_c (g:Nat) (u:Value) (l:List UInt8) (B:Nat) (w:World) (hb:LentB w g l) (hu:RdB w B u l) (hr:l.length≤1073741824) :
 Calls Tryz.prog 27 #[.slice (some ⟨g,0,none⟩) l.length (l.length+12),u] w fun e w'=>e=.returned (.bool true)∧Below w.heap.size w w':=by
 obtain ⟨a,c,rfl,hm,_,hcell⟩:=hu.open_
 have hm:l.length≤17592186043904:=by omega
 have HC:=Lib.hid hcell
 have HB:=Lib.hid hb
 have t0:((l.length:Int) != l.length)=false:=by simp
 clear hcell hu hr hb
 go_enter Tryz.func27,Tryz.ntmps27
 go_wp2
 go_loopw [6] (fun i wr=>∃ k:Nat,k≤l.length+12∧i=.int .i64 k∧Dr w wr) (fun i _=>l.length+12 - (intOf i).toNat)
 case atStart=>exact ⟨0,Nat.zero_le _,rfl,Dr.refl w⟩
 case round=>
  obtain ⟨k,hk,rfl,hD⟩:=hrel
  by_cases hlt:k < l.length+12
  ·have c1:=(hD.cell _).trans (HB.out.cell k hlt)
   by_cases hin:k < l.length
   ·rcases HC.out with rfl | ⟨g',off',rfl,_,_,_,hc2⟩
    ·simp at hin
    have c2:=(hD.cell _).trans (hc2 k hin)
    have e1:(l ++ bmarks 1 12).getD k 0=l.getD k 0:=by simp [List.getD_eq_getElem?_getD,List.getElem?_append,hin]
    rw [e1] at c1
    have t1:decide (k < l.length)=true:=decide_eq_true hin
    have t2:decide (l.length≤k)=false:=decide_eq_false (by omega)
    have b1:(k:Int) < l.length:=by omega
    have b2:(k:Int) < (l.length:Int)+12:=by omega
    clear hc2 e1
    generalize (l.getD k 0).toNat=x at *
    go_wp2
    go_quiet (fail)
    go_wp2
    go_roundw
    case rel=>exact ⟨k+1,by omega,by go_num,hD.drewN nq⟩
    case measure=>simp [intOf]; omega
   ·have e1:(l ++ bmarks 1 12).getD k 0=mkB 1 ((k:Int) - l.length):=by
     have e2:(l ++ bmarks 1 12).getD k 0=(bmarks 1 12).getD (k - l.length) 0:=by simp [List.getD_eq_getElem?_getD,List.getElem?_append,hin]
     rw [e2,bmarks_getD 1 12 _ (by omega)]
     congr 1; omega
    rw [e1] at c1
    have t1:decide (k < l.length)=false:=decide_eq_false hin
    have t2:decide (l.length≤k)=true:=decide_eq_true (by omega)
    have b1:(l.length:Int)≤k:=by omega
    have b2:(k:Int) < (l.length:Int)+12:=by omega
    have HM:=Lib.hid (fun W=>markByte_q 1 ((k:Int) - l.length) W (by omega) (by omega) (by omega) (by omega))
    have q1:IntKind.i64.wrap ((k:Int) - l.length)=(k:Int) - l.length:=IntWalk.i64_in _ (by omega)
    clear e1
    generalize (mkB 1 ((k:Int) - l.length)).toNat=x at *
    go_wp2
    go_quiet ((go_at_call 60; exact Calls.quiet_of_same (HM.out _)))
    clear q1
    go_wp2
    go_roundw
    case rel=>exact ⟨k+1,by omega,by go_num,hD.drewN nq⟩
    case measure=>simp [intOf]; omega
  ·obtain rfl:k=l.length+12:=by omega
   go_wp2
   go_ret
   exact ⟨rfl,hD.below _⟩
set_option maxRecDepth 100000 in
set_option maxHeartbeats 1000000 in
/-- OverBytes, of a slice of a block's beginning -/
theorem over_c (g n cap:Nat) (cs:List Value) (w:World) (hb:Blk w g 5 cs) (hl:cs.length=cap) (hn:n≤cap) (hc:cap≤maxLen) (hn2:n≤1099511627776) :
 Calls Tryz.prog 28 #[.slice (some ⟨g,0,none⟩) n cap] w fun e w'=>e=.returned (.tuple #[])∧Grown (fun k=>k=g) w w':=by
 unfold maxLen at hc
 have HB:=Lib.hid hb
 have HL:=Lib.hid hl
 have e0:((n:Int)+12).toNat=n+12:=by omega
 clear hb hl
 by_cases hcn:cap≤n+12
 ·have b0:(cap:Int)≤(n:Int)+12:=by omega
  have d0:decide ((cap:Int)≤(n:Int)+12)=true:=decide_eq_true b0
  go_enter Tryz.func28,Tryz.ntmps28
  go_wp2
  go_loopw [3] (fun i wr=>∃ k:Nat,k≤cap∧i=.int .i64 k∧Grown (fun q=>q=g) w wr∧∃ cs':List Value,cs'.length=cap∧Blk wr g 5 cs') (fun i _=>cap - (intOf i).toNat)
  case atStart=>exact ⟨0,Nat.zero_le _,rfl,Grown.refl _ _,cs,HL.out,HB.out⟩
  case round=>
   obtain ⟨k,hk,rfl,hG,cs',hl',hb'⟩:=hrel
   by_cases hlt:k < cap
   ·have HM:=Lib.hid (markByte_c 2 k wr (by omega) (by omega) (by omega) (by omega))
    have c0:=hb'.cell k (by omega)
    have f0:=hb'.frozen k
    have HB2:=Lib.hid (hb'.set k (.int .u8 (mkB 2 (k:Int)).toNat))
    have HG2:Hid (Grown (fun q=>q=g) w (wr.setCell ⟨g,k,none⟩ (.int .u8 (mkB 2 (k:Int)).toNat))):=Lib.hid (Grown.setCell (S:=fun q=>q=g) hG (a:=⟨g,k,none⟩) rfl _)
    have HL2:=Lib.hid hl'
    have b1:(k:Int) < ((cap:Nat):Int):=by omega
    clear hG hb' hl'
    generalize (mkB 2 (k:Int)).toNat=x at *
    generalize cs'.getD k undef=y at *
    go_wp2_with fail
    refine HM.out.mono ?_
    rintro e w3 ⟨rfl,rfl⟩
    go_wp2
    go_roundw
    case rel=>exact ⟨k+1,by omega,by go_num,HG2.out,_,by rw [List.length_set]; exact HL2.out,HB2.out⟩
    case measure=>simp [intOf]; omega
   ·have b1:((cap:Nat):Int)≤(k:Int):=by omega
    go_wp2
    go_end0
    exact ⟨rfl,hG⟩
 ·have b0:(n:Int)+12 < (cap:Int):=by omega
  have d0:decide ((cap:Int)≤(n:Int)+12)=false:=decide_eq_false (by omega)
  go_enter Tryz.func28,Tryz.ntmps28
  go_wp2
  go_loopw [3] (fun i wr=>∃ k:Nat,k≤n+12∧i=.int .i64 k∧Grown (fun q=>q=g) w wr∧∃ cs':List Value,cs'.length=cap∧Blk wr g 5 cs') (fun i _=>n+12 - (intOf i).toNat)
  case atStart=>exact ⟨0,Nat.zero_le _,rfl,Grown.refl _ _,cs,HL.out,HB.out⟩
  case round=>
   obtain ⟨k,hk,rfl,hG,cs',hl',hb'⟩:=hrel
   by_cases hlt:k < n+12
   ·have HM:=Lib.hid (markByte_c 2 k wr (by omega) (by omega) (by omega) (by omega))
    have c0:=hb'.cell k (by omega)
    have f0:=hb'.frozen k
    have HB2:=Lib.hid (hb'.set k (.int .u8 (mkB 2 (k:Int)).toNat))
    have HG2:Hid (Grown (fun q=>q=g) w (wr.setCell ⟨g,k,none⟩ (.int .u8 (mkB 2 (k:Int)).toNat))):=Lib.hid (Grown.setCell (S:=fun q=>q=g) hG (a:=⟨g,k,none⟩) rfl _)
    have HL2:=Lib.hid hl'
    have b1:(k:Int) < (n:Int)+12:=by omega
    clear hG hb' hl'
    generalize (mkB 2 (k:Int)).toNat=x at *
    generalize cs'.getD k undef=y at *
    go_wp2_with fail
    refine HM.out.mono ?_
    rintro e w3 ⟨rfl,rfl⟩
    go_wp2
    go_roundw
    case rel=>exact ⟨k+1,by omega,by go_num,HG2.out,_,by rw [List.length_set]; exact HL2.out,HB2.out⟩
    case measure=>simp [intOf]; omega
   ·have b1:(n:Int)+12≤(k:Int):=by omega
    go_wp2
    go_end0
    exact ⟨rfl,hG⟩
set_option maxRecDepth 100000 in
/-- OverBytes, of nothing -/
theorem over_nil (w:World) :
 Calls Tryz.prog 28 #[.slice none 0 0] w fun e w'=>e=.returned (.tuple #[])∧w=w':=by
 go_enter Tryz.func28,Tryz.ntmps28
 go_wp2
 go_loopw [3] (fun i wr=>i=.int .i64 0∧wr=w) (fun i _=>0)
 case atStart=>exact ⟨rfl,rfl⟩
 case round=>
  obtain ⟨rfl,rfl⟩:=hrel
  go_wp2
  go_end0
  exact ⟨rfl,rfl⟩
theorem key_at {w:World} {B n:Nat} {v:Value} {ks:List (List UInt8)} (h:w.ownsRow B 9 1 v n (ks.map strV)):∃ a cap,v=.slice a ks.length cap∧(ks=[]∨∃ g,a=some ⟨g,0,none⟩∧B≤g∧g < w.heap.size∧∀ j (hj:j < ks.length),w.cell? ⟨g,j,none⟩=some (strV ks[j])):=by
 have hr:=h
 obtain ⟨hl,h2⟩:=h
 rw [List.length_map,Nat.mul_one] at hl
 subst hl
 rcases h2 with ⟨rfl,h0⟩ | ⟨g,cap,cur,rfl,hB,hg,hn,hc,_⟩
 ·obtain rfl:=List.eq_nil_of_length_eq_zero h0; exact ⟨none,0,rfl,Or.inl rfl⟩
 ·refine ⟨_,cap,rfl,Or.inr ⟨g,rfl,hB,(Array.getElem?_eq_some_iff.1 hg).1,fun j hj=>?_⟩⟩
  rw [hr.cellAt j (by omega),List.getElem?_map,List.getElem?_eq_getElem hj]; rfl
/-! ### what has is told -/
set_option maxRecDepth 100000 in
set_option maxHeartbeats 1000000 in
/-- SameTexts, of equal texts -/
theorem sameTexts_c (u v:Value) (ss:List (List UInt8)) (B B':Nat) (w:World) (hu:w.ownsRow B 9 1 u ss.length (ss.map strV)) (hv:w.ownsRow B' 9 1 v ss.length (ss.map strV)) (hn:ss.length≤1099511627776) :
 Calls Tryz.prog 62 #[u,v] w fun e w'=>e=.returned (.bool true)∧Below w.heap.size w w':=by
 obtain ⟨a,c,rfl,hac⟩:=key_at hu
 obtain ⟨a',c',rfl,hac'⟩:=key_at hv
 have HA:=Lib.hid hac
 have HA':=Lib.hid hac'
 have t0:((ss.length:Int) != ss.length)=false:=by simp
 clear hac hac' hu hv
 go_enter Tryz.func62,Tryz.ntmps62
 go_wp2
 go_loopw [5] (fun i wr=>∃ k:Nat,k≤ss.length∧i=.int .i64 k∧Dr w wr) (fun i _=>ss.length - (intOf i).toNat)
 case atStart=>exact ⟨0,Nat.zero_le _,rfl,Dr.refl w⟩
 case round=>
  obtain ⟨k,hk,rfl,hD⟩:=hrel
  by_cases hlt:k < ss.length
  ·rcases HA.out with h0 | ⟨g,rfl,_,_,h1⟩
   ·rw [h0] at hlt; simp at hlt
   rcases HA'.out with h0 | ⟨g',rfl,_,_,h1'⟩
   ·rw [h0] at hlt; simp at hlt
   have c0:=(hD.cell _).trans (h1 k hlt)
   have c1:=(hD.cell _).trans (h1' k hlt)
   have b1:(k:Int) < ss.length:=by omega
   clear h1 h1'
   generalize ss[k]=x at *
   go_wp2
   go_quiet (fail)
   go_wp2
   go_roundw
   case rel=>exact ⟨k+1,by omega,by go_num,hD.drewN nq⟩
   case measure=>simp [intOf]; omega
  ·obtain rfl:k=ss.length:=by omega
   go_wp2
   go_ret
   exact ⟨rfl,hD.below _⟩
end
section
open Go.RowKit SeedP Go.Maps
theorem app3_run {w:World} (tS t:TypeId) (hinfo:(Tryz.prog.info? t).map (fun i=>(i.zero,i.size,i.bytes))=some (some (.agg #[.string ⟨#[]⟩,.slice none 0 0,.bool false]),3,48)) (hu:Tryz.prog.underlying tS=some (.slice t)) (ty:TypeId) (B:Nat) (v:Value) (xs:List (Chg × Value)) (hown:w.ownsRow B t 3 v xs.length (crow xs)) (q:Nat) (y:Chg × Value) (h1:y.2.oneCell'=true) (hb:Blk w q t (chgCells y)) (hm:xs.length+1≤4294967296) (hB:B≤w.heap.size) :
 ∃ v' w',(Builtin.append_ #[tS,tS] ty #[v,.slice (some ⟨q,0,none⟩) 1 1]).run Tryz.prog w=.ok v' w'∧w'.ownsRow B t 3 v' (xs ++ [y]).length (crow (xs ++ [y]))∧w.grownBy w' v.ownBlock:=by
 obtain ⟨i,hi,hz⟩:=Option.map_eq_some_iff.1 hinfo
 simp only [Prod.mk.injEq] at hz
 obtain ⟨hz,hs1,hby⟩:=hz
 have hcells:∀ j u,(chgCells y)[j]?=some u→w.cell? ((⟨q,0,none⟩:Addr).add j)=some u:=fun j u hu=>by
  have e0:(⟨q,0,none⟩:Addr).add j=⟨q,j,none⟩:=by unfold Addr.add; split <;> simp_all
  have hj:=(List.getElem?_eq_some_iff.1 hu).1
  rw [e0,hb.cell j hj,List.getD_eq_getElem?_getD,hu]; rfl
 have hone:∀ u ∈ chgCells y,u.oneCell'=true:=fun u hu=>by
  simp only [chgCells,List.mem_cons,List.not_mem_nil,or_false] at hu
  rcases hu with rfl | rfl | rfl
  ·rfl
  ·exact h1
  ·rfl
 obtain ⟨v',w',hr,h2,h3,_,h5⟩:=run_append_own_at (P:=Tryz.prog) w B tS ty t i _ 3 48 hu hi hz hs1 hby rfl (by decide) v xs.length (crow xs) hown ⟨q,0,none⟩ 1 1 (chgCells y) rfl hcells hone (by unfold maxLen; omega) (by omega) hB
 exact ⟨v',w',hr,by rw [crow_snoc,List.length_append]; exact h2,h3⟩
theorem turn_app3 {Y:Nat→Option Bool} {b:Act} {w:World} {C:Value→World→Prop} (tS t:TypeId) (hinfo:(Tryz.prog.info? t).map (fun i=>(i.zero,i.size,i.bytes))=some (some (.agg #[.string ⟨#[]⟩,.slice none 0 0,.bool false]),3,48)) (hu:Tryz.prog.underlying tS=some (.slice t)) (d:Option Tmp) (ty:TypeId) (pos:String) (af:Array Edge) (gd:Option (Nat × Bool)) (s x:Operand) (hw:Region.wanted ⟨d,.call { callee:=.builtin .append,args:=#[s,x],argTypes:=#[tS,tS] },ty,pos,af,gd⟩ Y=true)
 (B:Nat) (v:Value) (xs:List (Chg × Value)) (hs:b.eval s=v) (hown:w.ownsRow B t 3 v xs.length (crow xs)) (q:Nat) (y:Chg × Value) (hx:b.eval x=.slice (some ⟨q,0,none⟩) 1 1) (h1:y.2.oneCell'=true) (hb:Blk w q t (chgCells y)) (hm:xs.length+1≤4294967296) (hB:B≤w.heap.size)
 (h:∀ v' w',w'.ownsRow B t 3 v' (xs ++ [y]).length (crow (xs ++ [y]))→w.grownBy w' v.ownBlock→C v' w'):TurnOk Tryz.prog Y b w ⟨d,.call { callee:=.builtin .append,args:=#[s,x],argTypes:=#[tS,tS] },ty,pos,af,gd⟩ C:=by
 obtain ⟨v',w',hr,h2,h3⟩:=app3_run tS t hinfo hu ty B v xs hown q y h1 hb hm hB
 refine turn_run hw v' w' ?_ (h v' w' h2 h3)
 unfold execOp
 simp only [resolve,invoke,builtin,Sem.run_bind,Sem.run_pure,Result.andThen_ok,List.map_toArray,List.map_cons,List.map_nil,hs,hx,hr]
/-- a row that grows is no block of another type -/
theorem row_blk {w w':World} {B m n g:Nat} {t t2:TypeId} {v:Value} {xs cs:List Value} (hrow:w.ownsRow B t m v n xs) (ht:t ≠ t2) (hgr:w.grownBy w' v.ownBlock) (hb:Blk w g t2 cs):Blk w' g t2 cs:=by
 refine (hgr.block g hb.lt (fun e=>?_)).trans hb
 rcases hrow.2 with ⟨rfl,_⟩ | ⟨g1,c1,cur1,rfl,_,hh1,_⟩
 ·simp [Value.ownBlock] at e
 ·simp only [Value.ownBlock,Option.some.injEq] at e
  unfold Blk at hb
  rw [e,hh1] at hb
  simp only [Option.some.injEq,Obj.cells.injEq] at hb
  exact ht hb.2.1
theorem row_row {w w':World} {B B2 m m2 n k:Nat} {t t2:TypeId} {v q:Value} {xs zs:List Value} (hrow:w.ownsRow B t m v n xs) (ht:t ≠ t2) (hgr:w.grownBy w' v.ownBlock) (hq:w.ownsRow B2 t2 m2 q k zs):w'.ownsRow B2 t2 m2 q k zs:=by
 refine hq.kept hgr ?_
 cases hq0:q.ownBlock with
 | none=>exact Or.inl rfl
 | some j=>
   refine Or.inr (fun e=>?_)
   rcases hq.2 with ⟨rfl,_⟩ | ⟨g1,c1,cur1,rfl,_,hh1,_⟩
   ·simp [Value.ownBlock] at hq0
   rcases hrow.2 with ⟨rfl,_⟩ | ⟨g2,c2,cur2,rfl,_,hh2,_⟩
   ·simp [Value.ownBlock] at e
   simp only [Value.ownBlock,Option.some.injEq] at hq0 e
   rw [hq0] at hh1
   rw [← e] at hh2
   rw [hh1] at hh2
   simp only [Option.some.injEq,Obj.cells.injEq] at hh2
   exact ht hh2.2.1.symm
section
variable {ρ:Operand→Value} {d:Option Tmp} {ty:TypeId} {pos:String} {af:Array Edge} {gd:Option (Nat × Bool)}
theorem xg_atJ (x y:Operand) (g off n c j:Nat) (w:World) (hx:ρ x=.slice (some ⟨g,off,none⟩) n c) (hy:ρ y=.int .i64 (j:Int)) (hj:j < n) :
 (execOp ρ ⟨d,.indexAddr 39 x y,ty,pos,af,gd⟩).run Tryz.prog w=.ok (.value (.pointer (some ⟨g,off+j * 3,none⟩))) w:=by
 have b1:(j:Int) < n:=by omega
 simp [go_sem,hx,hy,b1]
theorem xg_bool (x:Operand) (ad:Addr) (v:Value) (w:World) (hx:ρ x=.pointer (some ad)) (hc:w.cell? ad=some v) :
 (execOp ρ ⟨d,.load 4 x,ty,pos,af,gd⟩).run Tryz.prog w=.ok (.value v) w:=by
 simp [go_sem,hx,hc]
theorem xg_build (x y z:Operand) (s:ByteArray) (a:Option Addr) (n c:Nat) (b:Bool) (w:World) (hx:ρ x=.string s) (hy:ρ y=.slice a n c) (hz:ρ z=.bool b) :
 (execOp ρ ⟨d,.build 104 #[(0,x),(1,y),(2,z)],ty,pos,af,gd⟩).run Tryz.prog w=.ok (.value (.agg #[.string s,.slice a n c,.bool b])) w:=by
 simp [go_sem,hx,hy,hz]
theorem xg_buildJ (x y z:Operand) (s:ByteArray) (a:Option Addr) (n c:Nat) (b:Bool) (w:World) (hx:ρ x=.string s) (hy:ρ y=.slice a n c) (hz:ρ z=.bool b) :
 (execOp ρ ⟨d,.build 60 #[(0,x),(1,y),(2,z)],ty,pos,af,gd⟩).run Tryz.prog w=.ok (.value (.agg #[.string s,.slice a n c,.bool b])) w:=by
 simp [go_sem,hx,hy,hz]
theorem xg_bs (x:Operand) (s:ByteArray) (a:Option Addr) (n c:Nat) (b:Bool) (w:World) (hx:ρ x=.agg #[.string s,.slice a n c,.bool b]) :
 (execOp ρ ⟨d,.buildSlice 64 1 #[(0,x)],ty,pos,af,gd⟩).run Tryz.prog w=.ok (.value (.slice (some ⟨w.heap.size,0,none⟩) 1 1)) (w.alloc (.cells #[.string s,.slice a n c,.bool b] 104)):=by
 simp [go_sem,hx]
theorem xg_bsJ (x:Operand) (s:ByteArray) (a:Option Addr) (n c:Nat) (b:Bool) (w:World) (hx:ρ x=.agg #[.string s,.slice a n c,.bool b]) :
 (execOp ρ ⟨d,.buildSlice 39 1 #[(0,x)],ty,pos,af,gd⟩).run Tryz.prog w=.ok (.value (.slice (some ⟨w.heap.size,0,none⟩) 1 1)) (w.alloc (.cells #[.string s,.slice a n c,.bool b] 60)):=by
 simp [go_sem,hx]
end
theorem infoJC:(Tryz.prog.info? 60).map (fun i=>(i.zero,i.size,i.bytes))=some (some (.agg #[.string ⟨#[]⟩,.slice none 0 0,.bool false]),3,48):=by kernel_rfl
end
end Go.Proofs.YtondomklkapogaaGreatDoor
