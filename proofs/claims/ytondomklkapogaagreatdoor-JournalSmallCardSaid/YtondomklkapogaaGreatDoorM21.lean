/- Single operations of Changed's regions. -/
import Derived.Test.YtondomklkapogaaGreatDoorM20
namespace Go.Proofs.YtondomklkapogaaGreatDoor
open Go.RowKit SeedP Go.Maps
theorem gtr_before (a b:List UInt8):(!Op.bytesLess a b && !a == b)=bytesBefore b a:=by
 rw [bl_eq]
 by_cases e:a=b
 ·subst e; simp [blt_irrefl]
 ·have he:(a == b)=false:=by simpa using e
  rcases blt_total a b e with h | h
  ·have h2:bytesBefore b a=false:=by
    cases hb:bytesBefore b a with
    | false=>rfl
    | true=>have:=blt_trans _ _ _ h hb; rw [blt_irrefl] at this; cases this
   rw [h,h2,he]; rfl
  ·have h2:bytesBefore a b=false:=by
    cases hb:bytesBefore a b with
    | false=>rfl
    | true=>have:=blt_trans _ _ _ h hb; rw [blt_irrefl] at this; cases this
   rw [h,h2,he]; rfl
section
variable (ρ:Operand→Value) (d:Option Tmp) (ty:TypeId) (pos:String) (af:Array Edge) (gd:Option (Nat × Bool))
theorem xr_gtr (x y:Operand) (a b:List UInt8) (w:World) (hx:ρ x=strV a) (hy:ρ y=strV b) :
 (execOp ρ ⟨d,.binOp .gtr 9 x y 9,ty,pos,af,gd⟩).run Tryz.prog w=.ok (.value (.bool (bytesBefore b a))) w:=by
 rw [← gtr_before]
 simp [go_sem,hx,hy]
theorem xr_neqS (x y:Operand) (a b:List UInt8) (w:World) (hx:ρ x=strV a) (hy:ρ y=strV b) :
 (execOp ρ ⟨d,.binOp .neq 9 x y 9,ty,pos,af,gd⟩).run Tryz.prog w=.ok (.value (.bool (!(a == b)))) w:=by
 simp [go_sem,hx,hy]
theorem xr_atE (x y:Operand) (g off n c j:Nat) (w:World) (hx:ρ x=.slice (some ⟨g,off,none⟩) n c) (hy:ρ y=.int .i64 (j:Int)) (hj:j < n) :
 (execOp ρ ⟨d,.indexAddr 50 x y,ty,pos,af,gd⟩).run Tryz.prog w=.ok (.value (.pointer (some ⟨g,off+j * 2,none⟩))) w:=by
 have b1:(j:Int) < n:=by omega
 simp [go_sem,hx,hy,b1]
theorem xr_byt (x:Operand) (ad:Addr) (v:Value) (w:World) (hx:ρ x=.pointer (some ad)) (hc:w.cell? ad=some v) :
 (execOp ρ ⟨d,.load 25 x,ty,pos,af,gd⟩).run Tryz.prog w=.ok (.value v) w:=by
 simp [go_sem,hx,hc]
theorem xr_bsE (x:Operand) (s:ByteArray) (a:Option Addr) (n c:Nat) (w:World) (hx:ρ x=.agg #[.string s,.slice a n c]) :
 (execOp ρ ⟨d,.buildSlice 50 1 #[(0,x)],ty,pos,af,gd⟩).run Tryz.prog w=.ok (.value (.slice (some ⟨w.heap.size,0,none⟩) 1 1)) (w.alloc (.cells #[.string s,.slice a n c] 96)):=by
 simp [go_sem,hx]
end
theorem wpList_appR {w:World} {ops:Array Oper} {rest:List Oper} {o:Oper} {a:Act} {Q:Exit→Act→World→Prop} (hgd:o.guard=none) (s x:Operand) (ho:o.op=.call { callee:=.builtin .append,args:=#[s,x],argTypes:=#[50,50] })
 (B:Nat) (v:Value) (xs:List EV) (hs:a.eval s=v) (hown:w.ownsRow B 96 2 v xs.length (rowR xs)) (q:Nat) (key val:List UInt8) (vv:Value) (hx:a.eval x=.slice (some ⟨q,0,none⟩) 1 1) (h1:vv.oneCell'=true) (c0:w.cell? ⟨q,0,none⟩=some (strV key)) (c1:w.cell? ⟨q,1,none⟩=some vv) (hm:xs.length+1≤4294967296) (hB:B≤w.heap.size)
 (h:∀ v' w',w'.ownsRow B 96 2 v' (xs ++ [((key,val),vv)]).length (rowR (xs ++ [((key,val),vv)]))→Below B w w'→wpList Tryz.prog ops Q rest (a.put o.dst v') w'):wpList Tryz.prog ops Q (o :: rest) a w:=by
 refine wpList_plain hgd fun _ hK=>?_
 obtain ⟨v',w',hr,h2,h3⟩:=appR_run o.type B v xs hown q key val vv h1 c0 c1 hm hB
 unfold Go.Oper.wp execOp
 simp only [ho,resolve,invoke,builtin,Sem.run_bind,Sem.run_pure,Result.andThen_ok,List.map_toArray,List.map_cons,List.map_nil,hs,hx,hr]
 exact hK _ _ (h v' w' h2 ((Below.refl _ _).grown h3 hB (fun k hk=>(hown.lt k hk).1)))
theorem RdB.swap {w w1 w2:World} {B:Nat} {v:Value} {l:List UInt8} (h:RdB w1 B v l) (h1:Below B w w1) (h2:Below B w w2):RdB w2 B v l:=by
 rcases h with h | ⟨g,off,cap,e,a1,a2,a3,a4⟩
 ·exact Or.inl h
 ·refine Or.inr ⟨g,off,cap,e,a1,a2,a3,fun j hj=>?_⟩
  have hg:g < B:=a3
  rw [h2.cell (p:=⟨g,off+j,none⟩) hg,← h1.cell (p:=⟨g,off+j,none⟩) hg]
  exact a4 j hj
/-- what holds while one entry is appended -/
structure ChG (W0:World) (vo:Value) (xs:List EV) (key val:List UInt8) (vv:Value) (ds:List Bool) (vs:List Value) (w:World):Prop where
 gb:Below W0.heap.size W0 w
 g0:ds.getD 1 false=false→w.ownsRow W0.heap.size 96 2 vo xs.length (rowR xs)
 g1:ds.getD 0 false=true→ds.getD 1 false=false→∃ q,vs.getD 0 undef=.slice (some ⟨q,0,none⟩) 1 1∧w.cell? ⟨q,0,none⟩=some (strV key)∧w.cell? ⟨q,1,none⟩=some vv
 g2:ds.getD 1 false=true→w.ownsRow W0.heap.size 96 2 (vs.getD 1 undef) (xs ++ [((key,val),vv)]).length (rowR (xs ++ [((key,val),vv)]))
 g3:ds.getD 2 false=true→vs.getD 2 undef=vs.getD 1 undef
end Go.Proofs.YtondomklkapogaaGreatDoor
