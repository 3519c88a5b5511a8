/- The acts of a law, as they lie in memory. Plain law, no program's walk. -/
import Derived.Test.YtbcfpdlhieaepaaGreatDoorN18
import Derived.Test.YtbcfpdlhieaepaaGreatDoorN27
import Derived.Test.YtbcfpdlhieaepaaGreatDoorN17
namespace Go.Proofs.YtbcfpdlhieaepaaGreatDoor
section
open Go.RowKit SeedP Go.Maps
/-- the cells of an act -/
def actCells (a:SActP) (vb vt:Value):List Value:=
 [.int .i64 a.kind,strV a.cls,strV a.stu,strV a.task.cls,strV a.task.name,.int .i64 a.task.frm,.int .i64 a.task.due,.int .i64 a.task.late,.int .i64 a.task.tries,vb,.int .i64 a.id,.int .i64 a.n,vt]
def SActIn (w:World) (B g off:Nat) (a:SActP):Prop:=∃ vb vt,(∀ o,o < 13→w.cell? ⟨g,off+o,none⟩=(actCells a vb vt)[o]?)∧RdB w B vb a.task.body∧RdB w B vt a.text
def SActsAt (w:World) (B:Nat) (v:Value) (L:List SActP):Prop:=
 ∃ a cap,v=.slice a L.length cap∧L.length≤cap∧cap≤maxLen∧(L=[]∨∃ g off,a=some ⟨g,off,none⟩∧g < B∧∀ j (h:j < L.length),SActIn w B g (off+j * 13) L[j])
theorem SActIn.below {w w':World} {B g off:Nat} {a:SActP} (h:SActIn w B g off a) (hg:g < B) (hb:Below B w w'):SActIn w' B g off a:=by
 obtain ⟨vb,vt,h0,h1,h2⟩:=h
 exact ⟨vb,vt,fun o ho=>(hb.cell (p:=⟨g,off+o,none⟩) hg).trans (h0 o ho),h1.below hb,h2.below hb⟩
theorem SActsAt.below {w w':World} {B:Nat} {v:Value} {L:List SActP} (h:SActsAt w B v L) (hb:Below B w w'):SActsAt w' B v L:=by
 obtain ⟨a,cap,e,h1,h2,h3⟩:=h
 refine ⟨a,cap,e,h1,h2,?_⟩
 rcases h3 with h3 | ⟨g,off,e2,hg,h4⟩
 ·exact Or.inl h3
 ·exact Or.inr ⟨g,off,e2,hg,fun j hj=>(h4 j hj).below hg hb⟩
theorem SActsAt.raise {w:World} {B B':Nat} {v:Value} {L:List SActP} (h:SActsAt w B v L) (hB:B≤B'):SActsAt w B' v L:=by
 obtain ⟨a,cap,e,h1,h2,h3⟩:=h
 refine ⟨a,cap,e,h1,h2,?_⟩
 rcases h3 with h3 | ⟨g,off,e2,hg,h4⟩
 ·exact Or.inl h3
 ·refine Or.inr ⟨g,off,e2,by omega,fun j hj=>?_⟩
  obtain ⟨vb,vt,k0,k1,k2⟩:=h4 j hj
  exact ⟨vb,vt,k0,k1.mono hB,k2.mono hB⟩
/-- an act's numbers are those of a machine -/
structure SActP.Nums (a:SActP):Prop where
 k0: -9223372036854775808≤a.kind
 k1:a.kind≤9223372036854775807
 i0: -9223372036854775808≤a.id
 i1:a.id≤9223372036854775807
 n0: -9223372036854775808≤a.n
 n1:a.n≤9223372036854775807
 f0: -9223372036854775808≤a.task.frm
 f1:a.task.frm≤9223372036854775807
 d0: -9223372036854775808≤a.task.due
 d1:a.task.due≤9223372036854775807
 l0: -9223372036854775808≤a.task.late
 l1:a.task.late≤9223372036854775807
 t0: -9223372036854775808≤a.task.tries
 t1:a.task.tries≤9223372036854775807
/-- an act that is examined -/
structure SActP.Small (a:SActP):Prop where
 cls:a.cls.length≤40
 stu:a.stu.length≤40
 tcls:a.task.cls.length≤40
 tname:a.task.name.length≤40
 body:a.task.body.length≤4010
 text:a.text.length≤4010
/-- the j-th act's cells -/
theorem SActsAt.at {w:World} {B:Nat} {v:Value} {L:List SActP} (h:SActsAt w B v L) {j:Nat} (hj:j < L.length) :
 ∃ g off cap ab cb ax cx,v=.slice (some ⟨g,off,none⟩) L.length cap∧L.length≤cap∧cap≤maxLen∧g < B ∧
   (w.cell? ⟨g,off+j * 13,none⟩=some (.int .i64 L[j].kind)∧w.cell? ⟨g,off+j * 13+1,none⟩=some (strV L[j].cls)∧w.cell? ⟨g,off+j * 13+2,none⟩=some (strV L[j].stu) ∧
    w.cell? ⟨g,off+j * 13+3,none⟩=some (strV L[j].task.cls)∧w.cell? ⟨g,off+j * 13+4,none⟩=some (strV L[j].task.name)∧w.cell? ⟨g,off+j * 13+5,none⟩=some (.int .i64 L[j].task.frm)∧w.cell? ⟨g,off+j * 13+6,none⟩=some (.int .i64 L[j].task.due)∧w.cell? ⟨g,off+j * 13+7,none⟩=some (.int .i64 L[j].task.late)∧w.cell? ⟨g,off+j * 13+8,none⟩=some (.int .i64 L[j].task.tries) ∧
    w.cell? ⟨g,off+j * 13+9,none⟩=some (.slice ab L[j].task.body.length cb)∧w.cell? ⟨g,off+j * 13+10,none⟩=some (.int .i64 L[j].id)∧w.cell? ⟨g,off+j * 13+11,none⟩=some (.int .i64 L[j].n)∧w.cell? ⟨g,off+j * 13+12,none⟩=some (.slice ax L[j].text.length cx)) ∧
   RdB w B (.slice ab L[j].task.body.length cb) L[j].task.body∧RdB w B (.slice ax L[j].text.length cx) L[j].text:=by
 obtain ⟨a,cap,rfl,h1,h2,h3⟩:=h
 rcases h3 with rfl | ⟨g,off,rfl,hg,h4⟩
 ·simp at hj
 obtain ⟨vb,vt,h0,hb,ht⟩:=h4 j hj
 obtain ⟨ab,cb,rfl, -, -, -⟩:=hb.open_
 obtain ⟨ax,cx,rfl, -, -, -⟩:=ht.open_
 exact ⟨g,off,cap,ab,cb,ax,cx,rfl,h1,h2,hg,⟨h0 0 (by omega),h0 1 (by omega),h0 2 (by omega),h0 3 (by omega),h0 4 (by omega),h0 5 (by omega),h0 6 (by omega),h0 7 (by omega),h0 8 (by omega),h0 9 (by omega),h0 10 (by omega),h0 11 (by omega),h0 12 (by omega)⟩,hb,ht⟩
end
section
open Go.RowKit SeedP Go.Maps
theorem snumV_inj:∀ {a b:List UInt8},a.length=b.length→numV a=numV b→a=b
 | [],[],_,_=>rfl
 | [],_ :: _,h,_=>by cases h
 | _ :: _,[],h,_=>by cases h
 | x :: r,y :: t,h,e=>by
   have hl:r.length=t.length:=by simpa using h
   rw [numV_cons,numV_cons,hl] at e
   have h1:=numV_lt r
   have h2:=numV_lt t
   rw [hl] at h1
   have h3:x.toNat=y.toNat:=by
    rcases Nat.lt_trichotomy x.toNat y.toNat with g | g | g
    ·have:=Nat.mul_le_mul_right (256 ^ t.length) (show x.toNat+1≤y.toNat from g)
     rw [Nat.add_mul] at this; omega
    ·exact g
    ·have:=Nat.mul_le_mul_right (256 ^ t.length) (show y.toNat+1≤x.toNat from g)
     rw [Nat.add_mul] at this; omega
   rw [h3] at e
   rw [UInt8.toNat_inj.1 h3,snumV_inj hl (by omega)]
theorem numB_numV (l:List UInt8):numB (numV l) l.length=l:=by
 refine snumV_inj (numB_length _ _) ?_
 rw [numV_numB]
 exact Nat.mod_eq_of_lt (numV_lt l)
theorem num4 {l:List UInt8} (h:l.length=4):numB (numV l) 4=l:=by
 have:=numB_numV l
 rwa [h] at this
theorem rName_inv {b n r:List UInt8} (h:rName b=some (n,r)):b=UInt8.ofNat n.length :: (n ++ r):=by
 unfold rName at h
 cases b with
 | nil=>cases h
 | cons x q=>
   simp only at h
   split at h
   ·cases h
   ·rename_i hl
    simp only [Option.some.injEq,Prod.mk.injEq] at h
    obtain ⟨rfl,rfl⟩:=h
    rw [List.take_append_drop,List.length_take,Nat.min_eq_left (by omega)]
    simp
theorem readTask_inv {v:List UInt8} {t:TaskP} (h:readTaskP v=some t):t.Fine∧t.body.length≤4000∧v=taskVal t:=by
 unfold readTaskP at h
 split at h
 ·cases h
 rename_i hlen
 cases h1:rName (v.drop 13) with
 | none=>rw [h1] at h; cases h
 | some p=>
   obtain ⟨c,r⟩:=p
   rw [h1] at h
   simp only at h
   cases h2:rName r with
   | none=>rw [h2] at h; cases h
   | some q=>
     obtain ⟨n,body⟩:=q
     rw [h2] at h
     simp only at h
     split at h
     ·rename_i hc
      simp only [Bool.and_eq_true,decide_eq_true_eq] at hc
      cases Option.some.inj h
      refine ⟨(timelyB_iff _).1 hc.1,hc.2,?_⟩
      have e1:=rName_inv h1
      have e2:=rName_inv h2
      have d12:v.drop 12=v.getD 12 0 :: v.drop 13:=by
       rw [List.getD_eq_getElem?_getD,List.getElem?_eq_getElem (by omega),Option.getD_some]
       exact List.drop_eq_getElem_cons (by omega)
      have d8:v.drop 8=(v.drop 8).take 4 ++ v.drop 12:=by
       conv=>lhs; rw [← List.take_append_drop 4 (v.drop 8)]
       rw [List.drop_drop]
      have d4:v.drop 4=(v.drop 4).take 4 ++ v.drop 8:=by
       conv=>lhs; rw [← List.take_append_drop 4 (v.drop 4)]
       rw [List.drop_drop]
      have d0:v=v.take 4 ++ v.drop 4:=(List.take_append_drop 4 v).symm
      have n0:=num4 (l:=v.take 4) (by rw [List.length_take]; omega)
      have n4:=num4 (l:=(v.drop 4).take 4) (by rw [List.length_take,List.length_drop]; omega)
      have n8:=num4 (l:=(v.drop 8).take 4) (by rw [List.length_take,List.length_drop]; omega)
      have hb:UInt8.ofNat (v.getD 12 0).toNat=v.getD 12 0:=by simp
      unfold taskVal
      simp only [Int.toNat_natCast,n0,n4,n8,hb]
      conv=>lhs; rw [d0,d4,d8,d12,e1,e2]
      simp [List.append_assoc]
     ·cases h
end
end Go.Proofs.YtbcfpdlhieaepaaGreatDoor
