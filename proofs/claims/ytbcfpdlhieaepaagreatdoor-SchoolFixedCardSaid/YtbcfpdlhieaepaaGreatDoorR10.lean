/- A disk and a journal over it, without memory: what the functions of the journal do to them. -/
import Derived.Test.YtbcfpdlhieaepaaGreatDoorR09
namespace Go.Proofs.YtbcfpdlhieaepaaGreatDoor
section
open Go.RowKit SeedP Go.Maps
/-- a disk: its power and its two files -/
structure DS where
 pw:Int
 f0:List UInt8
 f1:List UInt8
/-- a journal over a disk -/
structure JS where
 d:DS
 down:Bool
 file:Bool
 c:Cont
def DS.get (d:DS) (f:Bool):List UInt8:=if f then d.f1 else d.f0
def DS.put (d:DS) (f:Bool) (l:List UInt8):DS:=if f then ⟨d.pw,d.f0,l⟩ else ⟨d.pw,l,d.f1⟩
def dCut (f:Bool) (n:Nat) (d:DS):DS × Bool:=
 if (d.get f).length=n then (d,true) else if d.pw=0 then (d,false)
 else ((DS.mk (if 0 < d.pw then d.pw - 1 else d.pw) d.f0 d.f1).put f ((d.get f).take n),true)
def dWrite (f:Bool) (b:List UInt8) (d:DS):DS × Bool:=
 if d.pw < 0 then (d.put f (d.get f ++ b),true)
 else if (b.length:Int)≤d.pw then ((DS.mk (d.pw - b.length) d.f0 d.f1).put f (d.get f ++ b),true)
 else ((DS.mk 0 d.f0 d.f1).put f (d.get f ++ b.take d.pw.toNat),false)
def blockB (sum:Int) (code:List UInt8):List UInt8:=numB code.length 4 ++ numB sum.toNat 8 ++ code
def entB (e:List UInt8 × List UInt8):List UInt8:=UInt8.ofNat e.1.length :: e.1 ++ numB e.2.length 2 ++ e.2
def stateB (gen:Nat) (P:PEnts):List UInt8:=numB gen 8 ++ numB P.length 4 ++ P.flatMap entB
def compactFile (s:JS):Bool:=if s.c.gen=0 then false else !s.file
def jCompact (s:JS):JS × Bool:=
 let code:=stateB (s.c.gen+1) s.c.ents
 match dCut (compactFile s) 0 s.d with
 | (d1,false)=>(⟨d1,s.down,s.file,s.c⟩,false)
 | (d1,true)=>match dWrite (compactFile s) (blockB (subI 0 code) code) d1 with
   | (d2,false)=>(⟨d2,s.down,s.file,s.c⟩,false)
   | (d2,true)=>(⟨d2,s.down,compactFile s,⟨s.c.gen+1,s.c.ents,s.c.wt,subI 0 code,12+code.length⟩⟩,true)
def overfullP (s:JS) (n:Nat):Bool:=decide (262144 < s.c.ed+12+n)
def jDo1 (s:JS):JS × Bool:=if s.c.gen=0 then jCompact s else (s,true)
def jDo2 (s:JS):JS × Bool:=if s.c.ed < (s.d.get s.file).length then (⟨(dCut s.file s.c.ed s.d).1,s.down,s.file,s.c⟩,(dCut s.file s.c.ed s.d).2) else (s,true)
def jDo3 (n:Nat) (s:JS):JS × Bool:=if overfullP s n then jCompact s else (s,true)
def jDo4 (cs:List Chg) (s:JS):JS × Bool:=
 let code:=codeOf cs
 match dWrite s.file (blockB (subI s.c.sum code) code) s.d with
 | (d2,false)=>(⟨d2,s.down,s.file,s.c⟩,false)
 | (d2,true)=>(⟨d2,s.down,s.file,⟨s.c.gen,pChgs s.c.ents cs,pWAfter s.c.ents s.c.wt cs,subI s.c.sum code,s.c.ed+12+code.length⟩⟩,true)
def jThen (r:JS × Bool) (k:JS→JS × Bool):JS × Bool:=if r.2 then k r.1 else r
def jDo (cs:List Chg) (s:JS):JS × Bool:=jThen (jThen (jThen (jDo1 s) jDo2) (jDo3 (codeOf cs).length)) (jDo4 cs)
def jPowered (r:JS × Bool):JS × Int:=if r.2 then (r.1,0) else (⟨r.1.d,true,r.1.file,r.1.c⟩,360)
def jCommit (cs:List Chg) (s:JS):JS × Int:=
 if s.down then (s,360)
 else if cs.length=0∨64 < cs.length then (s,5)
 else if validP cs ≠ 0 then (s,validP cs)
 else if (cs.any fun c=>c.drop && !(pFind s.c.ents c.key).isSome)=true then (s,6)
 else if 131072 < pWAfter s.c.ents s.c.wt cs∨(s.c.gen=4611686018427387904∧overfullP s (codeOf cs).length=true) then (s,4)
 else jPowered (jDo cs s)
/-- what holds of a journal that Open has returned, whatever was done with it -/
structure JS.Ok (s:JS):Prop where
 pw0: -1≤s.d.pw
 pw1:s.d.pw≤9223372036854775807
 f0:s.d.f0.length≤262144
 f1:s.d.f1.length≤262144
 apart:(keysOf s.c.ents).Nodup
 wt:s.c.wt=pWt s.c.ents
 max:s.c.wt≤131072
 gen:s.c.gen≤4611686018427387904
 ed:s.c.ed≤262144
 sum0:0≤s.c.sum
 sum1:s.c.sum≤18446744073709551615
end
section
open Go.RowKit SeedP Go.Maps
theorem blockB_len (x:Int) (code:List UInt8):(blockB x code).length=12+code.length:=by unfold blockB; simp only [List.length_append,numB_length]
theorem entB_len (e:List UInt8 × List UInt8):(entB e).length=3+e.1.length+e.2.length:=by unfold entB; simp only [List.length_append,List.length_cons,numB_length]; omega
theorem ents_len (P:PEnts):((P.flatMap entB).length:Int)=pWt P:=by
 induction P with
 | nil=>simp [pWt]
 | cons x r ih=>rw [List.flatMap_cons,List.length_append,pWt_cons,entB_len]; unfold eWt; omega
theorem stateB_len (gen:Nat) (P:PEnts):((stateB gen P).length:Int)=12+pWt P:=by
 have:=ents_len P
 unfold stateB; simp only [List.length_append,numB_length]; omega
theorem chgCode_size (c:Chg):(chgCode c).length=chgSize c:=by
 unfold chgCode chgSize
 cases c.drop <;> simp [numB_length] <;> omega
theorem codeOf_len (cs:List Chg):(codeOf cs).length=codeSize cs:=by
 unfold codeOf codeSize
 rw [List.length_cons]
 have:(cs.flatMap chgCode).length=(cs.map chgSize).sum:=by
  induction cs with
  | nil=>rfl
  | cons x r ih=>rw [List.flatMap_cons,List.length_append,List.map_cons,List.sum_cons,ih,chgCode_size]
 omega
structure DS.Ok (d:DS):Prop where
 pw0: -1≤d.pw
 pw1:d.pw≤9223372036854775807
 f0:d.f0.length≤262144
 f1:d.f1.length≤262144
theorem JS.Ok.d {s:JS} (h:s.Ok):s.d.Ok:=⟨h.pw0,h.pw1,h.f0,h.f1⟩
theorem DS.Ok.get {d:DS} (h:d.Ok) (f:Bool):(d.get f).length≤262144:=by cases f; exact h.f0; exact h.f1
theorem DS.get_put (d:DS) (f:Bool) (l:List UInt8):(d.put f l).get f=l:=by cases f <;> rfl
theorem DS.get_put_not (d:DS) (f:Bool) (l:List UInt8):(d.put f l).get (!f)=d.get (!f):=by cases f <;> rfl
theorem DS.Ok.put_ok {d:DS} (h:d.Ok) (f:Bool) {l:List UInt8} (hl:l.length≤262144):(d.put f l).Ok:=by
 cases f
 ·exact ⟨h.pw0,h.pw1,hl,h.f1⟩
 ·exact ⟨h.pw0,h.pw1,h.f0,hl⟩
theorem DS.Ok.pw_ok {d:DS} (h:d.Ok) {z:Int} (h0: -1≤z) (h1:z≤9223372036854775807):(DS.mk z d.f0 d.f1).Ok:=⟨h0,h1,h.f0,h.f1⟩
theorem dCut_ok {d:DS} (h:d.Ok) (f:Bool) (n:Nat):(dCut f n d).1.Ok:=by
 unfold dCut
 have h0:=h.pw0
 have h1:=h.pw1
 split
 ·exact h
 ·split
  ·exact h
  ·refine (h.pw_ok (z:=if 0 < d.pw then d.pw - 1 else d.pw) (by split <;> omega) (by split <;> omega)).put_ok f ?_
   have:=h.get f
   rw [List.length_take]; omega
theorem dCut_get {d:DS} {f:Bool} {n:Nat} (hk:(dCut f n d).2=true) (_hn:n≤(d.get f).length):((dCut f n d).1.get f)=(d.get f).take n∧(dCut f n d).1.get (!f)=d.get (!f):=by
 unfold dCut at hk ⊢
 split at hk <;> rename_i h1
 ·rw [if_pos h1]; exact ⟨by rw [← h1,List.take_length],rfl⟩
 ·rw [if_neg h1]
  split at hk <;> rename_i h2
  ·cases hk
  ·rw [if_neg h2]; exact ⟨DS.get_put _ _ _,DS.get_put_not _ _ _⟩
theorem dWrite_ok {d:DS} (h:d.Ok) (f:Bool) {b:List UInt8} (hb:(d.get f).length+b.length≤262144):(dWrite f b d).1.Ok:=by
 unfold dWrite
 have h0:=h.pw0
 have h1:=h.pw1
 split
 ·exact h.put_ok f (by rw [List.length_append]; exact hb)
 ·split
  ·exact (h.pw_ok (by omega) (by omega)).put_ok f (by rw [List.length_append]; exact hb)
  ·exact (h.pw_ok (by omega) (by omega)).put_ok f (by rw [List.length_append,List.length_take]; omega)
theorem dWrite_get {d:DS} {f:Bool} {b:List UInt8} (hk:(dWrite f b d).2=true):(dWrite f b d).1.get f=d.get f ++ b∧(dWrite f b d).1.get (!f)=d.get (!f):=by
 unfold dWrite at hk ⊢
 split at hk <;> rename_i h1
 ·rw [if_pos h1]; exact ⟨DS.get_put _ _ _,DS.get_put_not _ _ _⟩
 ·rw [if_neg h1]
  split at hk <;> rename_i h2
  ·rw [if_pos h2]; exact ⟨DS.get_put _ _ _,DS.get_put_not _ _ _⟩
  ·cases hk
theorem JS.Ok.setD {s:JS} (h:s.Ok) {d:DS} (hd:d.Ok):JS.Ok ⟨d,s.down,s.file,s.c⟩:=⟨hd.pw0,hd.pw1,hd.f0,hd.f1,h.apart,h.wt,h.max,h.gen,h.ed,h.sum0,h.sum1⟩
/-- what compact does, by whether the power lasts -/
theorem jCompact_cases (s:JS) :
 (∃ d,jCompact s=(⟨d,s.down,s.file,s.c⟩,false)∧(dCut (compactFile s) 0 s.d=(d,false)∨(dCut (compactFile s) 0 s.d).2=true∧dWrite (compactFile s) (blockB (subI 0 (stateB (s.c.gen+1) s.c.ents)) (stateB (s.c.gen+1) s.c.ents)) (dCut (compactFile s) 0 s.d).1=(d,false))) ∨
 ∃ d,jCompact s=(⟨d,s.down,compactFile s,⟨s.c.gen+1,s.c.ents,s.c.wt,subI 0 (stateB (s.c.gen+1) s.c.ents),12+(stateB (s.c.gen+1) s.c.ents).length⟩⟩,true)∧(dCut (compactFile s) 0 s.d).2=true∧dWrite (compactFile s) (blockB (subI 0 (stateB (s.c.gen+1) s.c.ents)) (stateB (s.c.gen+1) s.c.ents)) (dCut (compactFile s) 0 s.d).1=(d,true):=by
 unfold jCompact
 generalize stateB (s.c.gen+1) s.c.ents=code
 simp only []
 rcases hc:dCut (compactFile s) 0 s.d with ⟨d1,b1⟩
 cases b1
 ·exact Or.inl ⟨d1,rfl,Or.inl rfl⟩
 ·simp only []
  rcases hw:dWrite (compactFile s) (blockB (subI 0 code) code) d1 with ⟨d2,b2⟩
  cases b2
  ·exact Or.inl ⟨d2,rfl,Or.inr ⟨trivial,rfl⟩⟩
  ·exact Or.inr ⟨d2,rfl,trivial,rfl⟩
theorem subI_range (x:Int) (l:List UInt8):0≤subI x l∧subI x l≤18446744073709551615:=by unfold subI; exact subK_bd _ (mixI_nonneg _) (mixI_le _) l
theorem jCompact_ok {s:JS} (h:s.Ok) (hg:s.c.gen < 4611686018427387904):(jCompact s).1.Ok∧((jCompact s).2=true→(((jCompact s).1.d.get (jCompact s).1.file).length=(jCompact s).1.c.ed∧(jCompact s).1.c.ed≤131096)):=by
 have hl:=stateB_len (s.c.gen+1) s.c.ents
 have h1:=h.wt
 have h2:=h.max
 have hcut:=dCut_ok h.d (compactFile s) 0
 have hlen:(blockB (subI 0 (stateB (s.c.gen+1) s.c.ents)) (stateB (s.c.gen+1) s.c.ents)).length≤131096:=by rw [blockB_len]; omega
 have hw:(dCut (compactFile s) 0 s.d).2=true→(dWrite (compactFile s) (blockB (subI 0 (stateB (s.c.gen+1) s.c.ents)) (stateB (s.c.gen+1) s.c.ents)) (dCut (compactFile s) 0 s.d).1).1.Ok:=by
  intro hk
  refine dWrite_ok hcut _ ?_
  rw [(dCut_get hk (Nat.zero_le _)).1]
  simp only [List.take_zero,List.length_nil]; omega
 rcases jCompact_cases s with ⟨d,he,hd⟩ | ⟨d,he,hk,hd⟩
 ·rw [he]
  refine ⟨h.setD ?_,fun hf=>by cases hf⟩
  rcases hd with hd | ⟨hk,hd⟩
  ·rw [hd] at hcut; exact hcut
  ·have:=hw hk; rw [hd] at this; exact this
 ·rw [he]
  have hdo:=hw hk
  have hget:=dWrite_get (d:=(dCut (compactFile s) 0 s.d).1) (f:=compactFile s) (b:=blockB (subI 0 (stateB (s.c.gen+1) s.c.ents)) (stateB (s.c.gen+1) s.c.ents)) (by rw [hd])
  rw [hd] at hdo hget
  have hr:=subI_range 0 (stateB (s.c.gen+1) s.c.ents)
  refine ⟨⟨hdo.pw0,hdo.pw1,hdo.f0,hdo.f1,h.apart,h.wt,h.max,?_,?_,(by dsimp only; exact hr.1),(by dsimp only; exact hr.2)⟩,fun _=>⟨?_,?_⟩⟩
  ·show s.c.gen+1≤_; omega
  ·show 12+_≤_; omega
  ·show (d.get (compactFile s)).length=12+_
   rw [hget.1,(dCut_get hk (Nat.zero_le _)).1]
   simp only [List.take_zero,List.nil_append,blockB_len]
  ·show 12+_≤_; omega
/-- the file ends where the journal says, or earlier, and one more block of n bytes of code fits -/
def Fits (n:Nat) (s:JS):Prop:=(s.d.get s.file).length≤s.c.ed∧s.c.ed+12+n≤262144
theorem jDo4_ok {s:JS} {cs:List Chg} (h:s.Ok) (hf:Fits (codeOf cs).length s) (hv:Valid cs) (hw:pWAfter s.c.ents s.c.wt cs≤131072):(jDo4 cs s).1.Ok:=by
 unfold jDo4
 have hd:=dWrite_ok h.d s.file (b:=blockB (subI s.c.sum (codeOf cs)) (codeOf cs)) (by rw [blockB_len]; have:=hf.1; have:=hf.2; omega)
 simp only []
 rcases hx:dWrite s.file (blockB (subI s.c.sum (codeOf cs)) (codeOf cs)) s.d with ⟨d2,b2⟩
 rw [hx] at hd
 cases b2
 ·exact h.setD hd
 ·have h3:=pChgs_wt s.c.ents cs h.apart hv.apart
  have hr:=subI_range s.c.sum (codeOf cs)
  refine ⟨hd.pw0,hd.pw1,hd.f0,hd.f1,h3.1,?_,hw,h.gen,?_,(by dsimp only; exact hr.1),(by dsimp only; exact hr.2)⟩
  ·show pWAfter s.c.ents s.c.wt cs=_
   rw [h3.2,← h.wt]
  ·show s.c.ed+12+_≤_
   have:=hf.2; omega
/-- a commit, up to the writing of its block -/
theorem jDo3_ok {s:JS} {n:Nat} (h:s.Ok) (hn:n≤65536) (hg:s.c.gen=4611686018427387904→overfullP s n=false) :
 (jThen (jThen (jDo1 s) jDo2) (jDo3 n)).1.Ok∧((jThen (jThen (jDo1 s) jDo2) (jDo3 n)).2=true→Fits n (jThen (jThen (jDo1 s) jDo2) (jDo3 n)).1) ∧
 (jDo1 s).1.Ok∧((jDo1 s).2=true→(jDo2 (jDo1 s).1).1.Ok∧((jDo2 (jDo1 s).1).2=true→overfullP (jDo2 (jDo1 s).1).1 n=true→(jDo2 (jDo1 s).1).1.c.gen < 4611686018427387904)):=by
 have h1:(jDo1 s).1.Ok∧((jDo1 s).1.c.gen=4611686018427387904→(jDo1 s).2=true→overfullP (jDo1 s).1 n=false):=by
  unfold jDo1
  split
  ·rename_i h0
   have hc:=jCompact_ok h (by omega)
   refine ⟨hc.1,fun _ hk=>?_⟩
   have:=(hc.2 hk).2
   unfold overfullP; simp only [decide_eq_false_iff_not]; omega
  ·exact ⟨h,fun hg' _=>hg hg'⟩
 cases hb1:(jDo1 s).2 with
 | false=>
   have e1:jThen (jDo1 s) jDo2=jDo1 s:=by unfold jThen; rw [hb1]; simp
   rw [e1]
   have e2:jThen (jDo1 s) (jDo3 n)=jDo1 s:=by unfold jThen; rw [hb1]; simp
   rw [e2,hb1]
   exact ⟨h1.1,(fun hf=>by cases hf),h1.1,(fun hf=>by cases hf)⟩
 | true=>
   have e1:jThen (jDo1 s) jDo2=jDo2 (jDo1 s).1:=by unfold jThen; rw [hb1]; simp
   rw [e1]
   generalize hs1:(jDo1 s).1=s1 at *
   have h2:(jDo2 s1).1.Ok∧(jDo2 s1).1.c=s1.c∧(jDo2 s1).1.file=s1.file∧((jDo2 s1).2=true→((jDo2 s1).1.d.get s1.file).length≤s1.c.ed):=by
    unfold jDo2
    split
    ·rename_i hlt
     refine ⟨h1.1.setD (dCut_ok h1.1.d _ _),rfl,rfl,fun hk=>?_⟩
     show ((dCut s1.file s1.c.ed s1.d).1.get s1.file).length≤_
     rw [(dCut_get hk (by omega)).1,List.length_take]; omega
    ·rename_i hge
     exact ⟨h1.1,rfl,rfl,fun _=>Nat.le_of_not_lt hge⟩
   have hof:overfullP (jDo2 s1).1 n=overfullP s1 n:=by unfold overfullP; rw [h2.2.1]
   have hg2:overfullP (jDo2 s1).1 n=true→(jDo2 s1).1.c.gen < 4611686018427387904:=by
    intro ho
    have:=h2.1.gen
    rcases Nat.lt_or_ge (jDo2 s1).1.c.gen 4611686018427387904 with hlt | hge
    ·exact hlt
    ·have hx:=h1.2 (by rw [← h2.2.1]; omega) hb1
     rw [hof,hx] at ho; cases ho
   refine ⟨?_,?_,h1.1,fun _=>⟨h2.1,fun _=>hg2⟩⟩
   ·unfold jThen
    split
    ·unfold jDo3
     split
     ·rename_i ho
      exact (jCompact_ok h2.1 (hg2 ho)).1
     ·exact h2.1
    ·exact h2.1
   ·intro hk
    cases hb2:(jDo2 s1).2 with
    | false=>
      have e2:jThen (jDo2 s1) (jDo3 n)=jDo2 s1:=by unfold jThen; rw [hb2]; simp
      rw [e2,hb2] at hk; cases hk
    | true=>
      have e2:jThen (jDo2 s1) (jDo3 n)=jDo3 n (jDo2 s1).1:=by unfold jThen; rw [hb2]; simp
      rw [e2] at hk ⊢
      unfold jDo3 at hk ⊢
      split at hk
      ·rename_i ho
       rw [if_pos ho]
       have hc:=(jCompact_ok h2.1 (hg2 ho)).2 hk
       exact ⟨Nat.le_of_eq hc.1,by have:=hc.2; omega⟩
      ·rename_i ho
       rw [if_neg ho]
       refine ⟨by rw [h2.2.1,h2.2.2.1]; exact h2.2.2.2 hb2,?_⟩
       unfold overfullP at ho
       simpa using ho
end
section
open Go.RowKit SeedP Go.Maps
theorem numV_from:∀ (l:List UInt8) (a:Nat),l.foldl (fun n b=>n * 256+b.toNat) a=a * 256 ^ l.length+numV l
 | [],a=>by simp [numV]
 | b :: r,a=>by
   have h0:numV (b :: r)=(0 * 256+b.toNat) * 256 ^ r.length+numV r:=numV_from r (0 * 256+b.toNat)
   rw [List.foldl_cons,numV_from r,h0,List.length_cons,Nat.pow_succ,Nat.add_mul,Nat.zero_mul,Nat.zero_add,Nat.mul_assoc a,Nat.mul_comm 256 (256 ^ r.length)]
   omega
theorem numV_cons (b:UInt8) (r:List UInt8):numV (b :: r)=b.toNat * 256 ^ r.length+numV r:=by
 have h0:numV (b :: r)=(0 * 256+b.toNat) * 256 ^ r.length+numV r:=numV_from r (0 * 256+b.toNat)
 rw [h0,Nat.zero_mul,Nat.zero_add]
theorem numV_numB (n:Nat):∀ k,numV (numB n k)=n % 256 ^ k
 | 0=>by simp [numB,numV,Nat.mod_one]
 | k+1=>by
   rw [numB,numV_cons,numB_length,numV_numB n k,UInt8.toNat_ofNat',show 2 ^ 8=256 from rfl,Nat.pow_succ,Nat.mod_mul (a:=256 ^ k)]
   rw [Nat.mul_comm (256 ^ k)]
   omega
theorem rTake_app (a r:List UInt8) {n:Nat} (h:a.length=n):rTake n (a ++ r,false)=(a,r,false):=by
 subst h
 rw [rTake_ok (by rw [List.length_append]; omega)]
 simp
theorem rNum_app (n k:Nat) (r:List UInt8) (h:n < 256 ^ k):rNum k (numB n k ++ r,false)=(n,r,false):=by
 unfold rNum
 rw [rTake_app _ _ (numB_length n k)]
 simp only [numV_numB,Nat.mod_eq_of_lt h]
theorem rNum_one (b:UInt8) (r:List UInt8):rNum 1 (b :: r,false)=(b.toNat,r,false):=by
 unfold rNum
 rw [show b :: r=[b] ++ r from rfl,rTake_app [b] r (n:=1) rfl]
 simp [numV]
theorem toNat_small {n:Nat} (h:n < 256):(UInt8.ofNat n).toNat=n:=by rw [UInt8.toNat_ofNat']; omega
theorem rKey_app (k r:List UInt8) (h1:1≤k.length) (h2:k.length≤40):rKey (UInt8.ofNat k.length :: k ++ r,false)=(k,r,false):=by
 unfold rKey
 rw [List.cons_append,rNum_one,toNat_small (by omega)]
 simp only []
 rw [if_neg (by omega),rTake_app _ _ rfl]
theorem rVal_app (v r:List UInt8) (h:v.length≤4096):rVal (numB v.length 2 ++ v ++ r,false)=(v,r,false):=by
 unfold rVal
 rw [List.append_assoc,rNum_app _ _ _ (by omega)]
 simp only []
 rw [if_neg (by omega),rTake_app _ _ rfl]
theorem chg_ext {c:Chg} (h:c.drop=true) (hv:c.val=[]):(⟨c.key,[],true⟩:Chg)=c:=by cases c; simp_all
theorem rChg_app (c:Chg) (r:List UInt8) (h1:1≤c.key.length) (h2:c.key.length≤40) (h3:c.val.length≤4096) (h4:c.drop=true→c.val=[]):rChg (chgCode c ++ r,false)=some (c,r,false):=by
 unfold rChg chgCode
 cases hd:c.drop
 ·simp only [Bool.false_eq_true,if_false]
  rw [List.cons_append,rNum_one]
  rw [show (UInt8.ofNat c.key.length :: c.key ++ numB c.val.length 2 ++ c.val ++ r)=UInt8.ofNat c.key.length :: c.key ++ (numB c.val.length 2 ++ c.val ++ r) by simp]
  simp only [show ((0:UInt8).toNat=0) from rfl,if_true]
  rw [rKey_app _ _ h1 h2]
  simp only []
  rw [rVal_app _ _ h3]
  simp only [Bool.false_eq_true,if_false]
  rw [← hd]
 ·simp only [if_true]
  rw [List.cons_append,rNum_one]
  simp only [show ((1:UInt8).toNat=1) from rfl,show ¬ (1=0) by decide,if_false,if_true]
  rw [rKey_app _ _ h1 h2]
  simp only [Bool.false_eq_true,if_false]
  rw [chg_ext hd (h4 hd)]
theorem rChgs_app {cs:List Chg} (hv:Valid cs) (r:List UInt8):∀ j,j≤cs.length→rChgs j (cs.flatMap chgCode ++ r,false)=some (cs.take j,(cs.drop j).flatMap chgCode ++ r,false):=by
 intro j
 induction j with
 | zero=>intro _; simp [rChgs]
 | succ j ih=>
   intro hj
   have hm:=List.getElem_mem (l:=cs) (n:=j) (by omega)
   rw [rChgs,ih (by omega)]
   simp only []
   rw [List.drop_eq_getElem_cons (by omega),List.flatMap_cons,List.append_assoc,rChg_app _ _ (hv.key _ hm).1 (hv.key _ hm).2 (hv.val _ hm) (hv.drop _ hm)]
   simp only []
   rw [List.take_succ_eq_append_getElem (by omega)]
/-- what Commit writes reads as what was committed -/
theorem rComm_code {cs:List Chg} (hv:Valid cs) (h1:1≤cs.length) (h2:cs.length≤64):rComm (codeOf cs)=some cs:=by
 have hl:=codeOf_len cs
 have hs:=hv.size
 unfold rComm
 have hn:rNum 1 (codeOf cs,false)=(cs.length,cs.flatMap chgCode,false):=by
  unfold codeOf; rw [rNum_one,toNat_small (by omega)]
 rw [hn]
 simp only []
 rw [if_neg (by omega)]
 have:=rChgs_app hv [] cs.length (Nat.le_refl _)
 simp only [List.append_nil,List.take_length,List.drop_length,List.flatMap_nil] at this
 rw [this]
 simp only []
 rw [if_pos ⟨trivial,trivial,(valid_zero cs).2 hv⟩]
/-- entries in increasing order of keys -/
def Ordered (P:PEnts):Prop:=P.Pairwise (fun a b=>bytesBefore a.1 b.1=true)
theorem pIns_last {P:PEnts} {x:List UInt8 × List UInt8} (h:∀ e ∈ P,bytesBefore e.1 x.1=true):pIns x P=P ++ [x]:=by
 induction P with
 | nil=>rfl
 | cons y r ih=>
   have hy:=h y (List.mem_cons_self ..)
   have hn:(Lit.string x.1).before (Lit.string y.1)=false:=by
    show bytesBefore x.1 y.1=false
    cases hb:bytesBefore x.1 y.1 with
    | false=>rfl
    | true=>have:=blt_trans _ _ _ hb hy; rw [blt_irrefl] at this; cases this
   rw [pIns,hn,ih (fun e he=>h e (List.mem_cons_of_mem _ he))]
   simp
theorem pPut_last {P:PEnts} {x:List UInt8 × List UInt8} (h:∀ e ∈ P,bytesBefore e.1 x.1=true):pPut P x=P ++ [x]:=by
 unfold pPut
 rw [pDel_not,pIns_last h]
 intro hm
 obtain ⟨e,he,hk⟩:=List.mem_map.1 hm
 have:=h e he
 rw [hk,blt_irrefl] at this; cases this
theorem pWt_snoc (P:PEnts) (x:List UInt8 × List UInt8):pWt (P ++ [x])=pWt P+(3+(x.1.length:Int)+x.2.length):=by
 have:=pWt_perm (List.perm_append_comm (l₁:=P) (l₂:=[x]))
 rw [this,List.singleton_append,pWt_cons]; unfold eWt; omega
structure SmallEnts (P:PEnts):Prop where
 key:∀ e ∈ P,1≤e.1.length∧e.1.length≤40
 val:∀ e ∈ P,e.2.length≤4096
def lastKey (P:PEnts):Nat→List UInt8
 | 0=>[]
 | j+1=>((P[j]?).map (·.1)).getD []
theorem rEnts_app {P:PEnts} (ho:Ordered P) (hs:SmallEnts P) (r:List UInt8):∀ j,j≤P.length →
 rEnts j (P.flatMap entB ++ r,false)=some (P.take j,(lastKey P j),pWt (P.take j),(P.drop j).flatMap entB ++ r,false):=by
 intro j
 induction j with
 | zero=>intro _; simp [rEnts,pWt,lastKey]
 | succ j ih=>
   intro hj
   have hjl:j < P.length:=by omega
   have hm:=List.getElem_mem (l:=P) (n:=j) hjl
   rw [rEnts,ih (by omega)]
   simp only []
   rw [List.drop_eq_getElem_cons hjl,List.flatMap_cons,List.append_assoc]
   rw [show entB P[j] ++ ((P.drop (j+1)).flatMap entB ++ r)=UInt8.ofNat P[j].1.length :: P[j].1 ++ (numB P[j].2.length 2 ++ P[j].2 ++ ((P.drop (j+1)).flatMap entB ++ r)) by unfold entB; simp]
   rw [rKey_app _ _ (hs.key _ hm).1 (hs.key _ hm).2]
   simp only []
   rw [rVal_app _ _ (hs.val _ hm)]
   simp only []
   have hle:leB P[j].1 (lastKey P j)=false:=by
    cases hl:leB P[j].1 (lastKey P j) with
    | false=>rfl
    | true=>
      rw [leB_iff] at hl
      cases j with
      | zero=>
        have h1:=(hs.key _ hm).1
        rcases hl with hl | hl
        ·unfold lastKey at hl
         cases hk:P[0].1 with
         | nil=>rw [hk] at h1; simp at h1
         | cons a b=>rw [hk] at hl; simp [bytesBefore] at hl
        ·unfold lastKey at hl; rw [hl] at h1; simp at h1
      | succ i=>
        simp only [lastKey,List.getElem?_eq_getElem (show i < P.length by omega),Option.map_some,Option.getD_some] at hl
        have hb:=List.pairwise_iff_getElem.1 ho i (i+1) (by omega) hjl (by omega)
        rcases hl with hl | hl
        ·have:=blt_trans _ _ _ hl hb; rw [blt_irrefl] at this; cases this
        ·rw [hl,blt_irrefl] at hb; cases hb
   have hall:∀ e ∈ P.take j,bytesBefore e.1 P[j].1=true:=by
    intro e he
    obtain ⟨i,hi,rfl⟩:=List.getElem_of_mem he
    rw [List.length_take] at hi
    rw [List.getElem_take]
    exact List.pairwise_iff_getElem.1 ho i j (by omega) hjl (by omega)
   rw [if_neg (by rw [hle]; simp),pPut_last hall,List.take_succ_eq_append_getElem hjl,pWt_snoc]
   simp [lastKey,List.getElem?_eq_getElem hjl]
/-- what compact writes reads as the entries -/
theorem rState_code {P:PEnts} {gen:Nat} (ho:Ordered P) (hs:SmallEnts P) (hw:pWt P≤131072) (hg1:1≤gen) (hg2:gen≤4611686018427387904):rState (stateB gen P)=some (gen,P,pWt P):=by
 have hl:=pWt_len P
 have h8:rNum 8 (stateB gen P,false)=(gen,numB P.length 4 ++ P.flatMap entB,false):=by
  unfold stateB; rw [List.append_assoc,rNum_app _ _ _ (by omega)]
 have h4:rNum 4 (numB P.length 4 ++ P.flatMap entB,false)=(P.length,P.flatMap entB,false):=rNum_app _ _ _ (by omega)
 unfold rState
 rw [h8]
 simp only []
 rw [h4]
 simp only []
 rw [if_neg (by simp; omega)]
 have:=rEnts_app ho hs [] P.length (Nat.le_refl _)
 simp only [List.append_nil,List.take_length,List.drop_length,List.flatMap_nil] at this
 rw [this]
 simp only []
 rw [if_pos ⟨trivial,trivial,hw⟩]
end
section
open Go.RowKit SeedP Go.Maps
theorem seg (l r:List UInt8) {n a b:Nat} (h:a+b≤n) (hn:n≤l.length):((l.take n ++ r).drop a).take b=(l.drop a).take b:=by
 rw [List.drop_append_of_le_length (by rw [List.length_take]; omega),List.take_append_of_le_length (by rw [List.length_drop,List.length_take]; omega),List.drop_take,List.take_take,Nat.min_eq_left (by omega)]
theorem nextB_local {l:List UInt8} {x:Int} {code:List UInt8} {s:Int} (h:nextB l x=some (code,s)) (r:List UInt8):nextB (l.take (12+code.length) ++ r) x=some (code,s):=by
 obtain ⟨h1,h2,h3,h4,h5⟩:=nextB_some h
 have e1:bLen (l.take (12+code.length) ++ r)=bLen l:=by
  unfold bLen
  have:=seg l r (n:=12+code.length) (a:=0) (b:=4) (by omega) h1
  simp only [List.drop_zero] at this; rw [this]
 have e2:bSum (l.take (12+code.length) ++ r)=bSum l:=by unfold bSum; rw [seg l r (by omega) h1]
 have e3:bCode (l.take (12+code.length) ++ r)=bCode l:=by unfold bCode; rw [e1,seg l r (by omega) h1]
 rw [nextB_eq,e1,e2,e3,if_pos]
 ·rw [h3,h4]
 ·refine ⟨?_,?_,?_⟩
  ·rw [List.length_append,List.length_take]; omega
  ·rw [List.length_append,List.length_take]; omega
  ·rw [← h3,h5,h4]
theorem nextB_nil (x:Int):nextB [] x=none:=by rw [nextB_eq,if_neg (by simp)]
theorem block_parts (x:Int) (code r:List UInt8) (hc:code.length < 4294967296) (hx0:0≤x) (hx1:x≤18446744073709551615) :
 bLen (blockB x code ++ r)=code.length∧(bSum (blockB x code ++ r):Int)=x∧bCode (blockB x code ++ r)=code:=by
 have e1:bLen (blockB x code ++ r)=code.length:=by
  unfold bLen blockB
  rw [List.append_assoc,List.append_assoc,List.take_left' (numB_length _ _),numV_numB,Nat.mod_eq_of_lt (by omega)]
 have e2:(bSum (blockB x code ++ r):Int)=x:=by
  unfold bSum blockB
  rw [List.append_assoc,List.append_assoc,List.drop_left' (numB_length _ _),List.take_left' (numB_length _ _),numV_numB,Nat.mod_eq_of_lt (by omega)]
  omega
 refine ⟨e1,e2,?_⟩
 unfold bCode
 rw [e1]
 unfold blockB
 rw [List.append_assoc,List.drop_left' (by simp [numB_length]),List.take_left' rfl]
theorem nextB_block (x:Int) (code r:List UInt8) (hc:code.length < 4294967296):nextB (blockB (subI x code) code ++ r) x=some (code,subI x code):=by
 have hr:=subI_range x code
 obtain ⟨h1,h2,h3⟩:=block_parts (subI x code) code r hc hr.1 hr.2
 rw [nextB_eq,h1,h2,h3,if_pos]
 refine ⟨?_,?_,rfl⟩ <;> rw [List.length_append,blockB_len] <;> omega
theorem nextB_torn (x y:Int) (code:List UInt8) (k:Nat) (hc:code.length < 4294967296) (hk:k < 12+code.length):nextB ((blockB x code).take k) y=none:=by
 rw [nextB_eq,if_neg]
 rintro ⟨h1,h2,_⟩
 have hl:((blockB x code).take k).length=k:=by rw [List.length_take,blockB_len]; omega
 rw [hl] at h1 h2
 have:bLen ((blockB x code).take k)=code.length:=by
  unfold bLen
  rw [List.take_take,Nat.min_eq_left (by omega)]
  unfold blockB
  rw [List.append_assoc,List.take_left' (numB_length _ _),numV_numB,Nat.mod_eq_of_lt (by omega)]
 omega
inductive Chain (file:List UInt8):Cont→Prop
 | start {code:List UInt8} {s:Int} {gen:Nat} {P:PEnts} {wt:Int} (hn:nextB file 0=some (code,s)) (hr:rState code=some (gen,P,wt)):Chain file ⟨gen,P,wt,s,12+code.length⟩
 | next {c:Cont} {code:List UInt8} {s:Int} {cs:List Chg} (hc:Chain file c) (hn:nextB (file.drop c.ed) c.sum=some (code,s)) (hr:rComm code=some cs) (hp:pPoss c.ents c.wt cs=true):Chain file ⟨c.gen,pChgs c.ents cs,pWAfter c.ents c.wt cs,s,c.ed+12+code.length⟩
def Stops (file:List UInt8) (c:Cont):Prop:=
 nextB (file.drop c.ed) c.sum=none∨∃ code s,nextB (file.drop c.ed) c.sum=some (code,s)∧(rComm code=none∨∃ cs,rComm code=some cs∧pPoss c.ents c.wt cs=false)
theorem Chain.good {file:List UInt8} {c:Cont} (h:Chain file c):c.Good file:=by
 induction h with
 | start hn hr=>exact Good.start hn hr
 | next _ hn hr hp ih=>exact Good.next ih hn hr hp
theorem readGo_of_stops {file:List UInt8} {c:Cont} (h:Stops file c):∀ n,readGo file n c=c
 | 0=>rfl
 | n+1=>by
   rcases h with h | ⟨code,s,h,h2 | ⟨cs,h2,h3⟩⟩
   ·exact readGo_stop h
   ·exact readGo_stop2 h h2
   ·exact readGo_stop3 h h2 h3
theorem readGo_chain {file:List UInt8}:∀ n {c:Cont},Chain file c→file.length < n+c.ed→Chain file (readGo file n c)∧Stops file (readGo file n c):=by
 intro n
 induction n with
 | zero=>intro c h hl; have:=h.good.ed; omega
 | succ n ih=>
   intro c h hl
   cases hn:nextB (file.drop c.ed) c.sum with
   | none=>rw [readGo_stop hn]; exact ⟨h,Or.inl hn⟩
   | some p=>
     obtain ⟨code,s⟩:=p
     cases hr:rComm code with
     | none=>rw [readGo_stop2 hn hr]; exact ⟨h,Or.inr ⟨code,s,hn,Or.inl hr⟩⟩
     | some cs=>
       cases hp:pPoss c.ents c.wt cs with
       | false=>rw [readGo_stop3 hn hr hp]; exact ⟨h,Or.inr ⟨code,s,hn,Or.inr ⟨cs,hr,hp⟩⟩⟩
       | true=>rw [readGo_step hn hr hp]; exact ih (Chain.next h hn hr hp) (by show _ < n+(c.ed+12+code.length); omega)
theorem readF_chain {file:List UInt8} {c:Cont} (h:readF file=some c):Chain file c∧Stops file c:=by
 unfold readF at h
 split at h
 ·cases h
 ·rename_i code s hn
  split at h
  ·cases h
  ·rename_i gen P wt hr
   simp only [Option.some.injEq] at h
   subst h
   exact readGo_chain _ (Chain.start hn hr) (by show _ < _+(12+_); omega)
theorem chain_readF {file:List UInt8} {c:Cont} (h:Chain file c):∃ m,file.length < m+c.ed∧readF file=some (readGo file m c):=by
 induction h with
 | start hn hr=>exact ⟨file.length,by show _ < _+(12+_); omega,by unfold readF; simp only [hn,hr]⟩
 | @next c code s cs hc hn hr hp ih=>
   obtain ⟨m,hm,he⟩:=ih
   have:=hc.good.ed
   obtain ⟨m',rfl⟩:∃ m',m=m'+1:=⟨m - 1,by omega⟩
   rw [readGo_step hn hr hp] at he
   exact ⟨m',by show _ < m'+(c.ed+12+code.length); omega,he⟩
theorem readF_iff {file:List UInt8} {c:Cont}:readF file=some c ↔ Chain file c∧Stops file c:=by
 constructor
 ·exact readF_chain
 ·rintro ⟨h,hs⟩
  obtain ⟨m,_,he⟩:=chain_readF h
  rw [he,readGo_of_stops hs]
theorem Chain.local {file:List UInt8} {c:Cont} (h:Chain file c):∀ r,Chain (file.take c.ed ++ r) c:=by
 induction h with
 | start hn hr=>intro r; exact Chain.start (nextB_local hn r) hr
 | @next c code s cs hc hn hr hp ih=>
   intro r
   have h1:=(nextB_some hn).1
   rw [List.length_drop] at h1
   have e:file.take (c.ed+12+code.length) ++ r=file.take c.ed ++ ((file.drop c.ed).take (12+code.length) ++ r):=by
    rw [Nat.add_assoc,List.take_add,List.append_assoc]
   have hd:(file.take (c.ed+12+code.length) ++ r).drop c.ed=(file.drop c.ed).take (12+code.length) ++ r:=by
    rw [e,List.drop_left' (by rw [List.length_take]; have:=hc.good.ed; omega)]
   show Chain (file.take (c.ed+12+code.length) ++ r) _
   refine Chain.next (c:=c) ?_ ?_ hr hp
   ·rw [e]; exact ih _
   ·rw [hd]; exact nextB_local hn r
/-- a file that is cut off where its blocks end -/
theorem readF_cut {file:List UInt8} {c:Cont} (h:Chain file c):readF (file.take c.ed)=some c:=by
 rw [readF_iff]
 have h1:=h.local []
 rw [List.append_nil] at h1
 refine ⟨h1,Or.inl ?_⟩
 rw [List.drop_eq_nil_of_le (by rw [List.length_take]; omega)]
 exact nextB_nil _
theorem block_chain {file:List UInt8} {c:Cont} (h:Chain file c) (hl:file.length=c.ed) {cs:List Chg} (hv:Valid cs) (h1:1≤cs.length) (h2:cs.length≤64) (hp:pPoss c.ents c.wt cs=true) (r:List UInt8) :
 Chain (file ++ blockB (subI c.sum (codeOf cs)) (codeOf cs) ++ r) ⟨c.gen,pChgs c.ents cs,pWAfter c.ents c.wt cs,subI c.sum (codeOf cs),c.ed+12+(codeOf cs).length⟩:=by
 have hlen:=codeOf_len cs
 have hsz:=hv.size
 rw [List.append_assoc]
 refine Chain.next (c:=c) ?_ ?_ (rComm_code hv h1 h2) hp
 ·have:=h.local (blockB (subI c.sum (codeOf cs)) (codeOf cs) ++ r)
  rwa [List.take_of_length_le (by omega)] at this
 ·rw [List.drop_left' hl]
  exact nextB_block _ _ _ (by omega)
/-- Commit's block, read again -/
theorem readF_commit {file:List UInt8} {c:Cont} (h:Chain file c) (hl:file.length=c.ed) {cs:List Chg} (hv:Valid cs) (h1:1≤cs.length) (h2:cs.length≤64) (hp:pPoss c.ents c.wt cs=true) :
 readF (file ++ blockB (subI c.sum (codeOf cs)) (codeOf cs))=some ⟨c.gen,pChgs c.ents cs,pWAfter c.ents c.wt cs,subI c.sum (codeOf cs),c.ed+12+(codeOf cs).length⟩:=by
 have hb:=block_chain h hl hv h1 h2 hp []
 rw [List.append_nil] at hb
 rw [readF_iff]
 refine ⟨hb,Or.inl ?_⟩
 rw [List.drop_eq_nil_of_le (by show (file ++ _).length≤c.ed+12+_; rw [List.length_append,blockB_len]; omega)]
 exact nextB_nil _
/-- a torn block at the end of a file is not read -/
theorem readF_torn {file:List UInt8} {c:Cont} (h:Chain file c) (hl:file.length=c.ed) (x:Int) (code:List UInt8) (k:Nat) (hc:code.length < 4294967296) (hk:k < 12+code.length) :
 readF (file ++ (blockB x code).take k)=some c:=by
 rw [readF_iff]
 refine ⟨?_,Or.inl ?_⟩
 ·have:=h.local ((blockB x code).take k)
  rwa [List.take_of_length_le (by omega)] at this
 ·rw [List.drop_left' hl]; exact nextB_torn _ _ _ _ hc hk
theorem readF_nil:readF []=none:=by unfold readF; rw [nextB_nil]
theorem readF_torn0 (x:Int) (code:List UInt8) (k:Nat) (hc:code.length < 4294967296) (hk:k < 12+code.length):readF ((blockB x code).take k)=none:=by
 unfold readF; rw [nextB_torn _ _ _ _ hc hk]
/-- compact's file, read again -/
theorem readF_state {P:PEnts} {gen:Nat} (ho:Ordered P) (hs:SmallEnts P) (hw:pWt P≤131072) (hg1:1≤gen) (hg2:gen≤4611686018427387904) :
 readF (blockB (subI 0 (stateB gen P)) (stateB gen P))=some ⟨gen,P,pWt P,subI 0 (stateB gen P),12+(stateB gen P).length⟩:=by
 have hl:=stateB_len gen P
 have hn:=nextB_block 0 (stateB gen P) [] (by omega)
 rw [List.append_nil] at hn
 rw [readF_iff]
 refine ⟨Chain.start hn (rState_code ho hs hw hg1 hg2),Or.inl ?_⟩
 rw [List.drop_eq_nil_of_le (by show (blockB _ _).length≤12+_; rw [blockB_len]; omega)]
 exact nextB_nil _
end
section
open Go.RowKit SeedP Go.Maps
theorem pIns_mem (x:List UInt8 × List UInt8) (P:PEnts) (e:List UInt8 × List UInt8):e ∈ pIns x P ↔ e=x∨e ∈ P:=by
 rw [(pIns_perm x P).mem_iff,List.mem_cons]
theorem pIns_ord {x:List UInt8 × List UInt8} {P:PEnts} (h:Ordered P) (hx:x.1 ∉ keysOf P):Ordered (pIns x P):=by
 induction P with
 | nil=>exact List.pairwise_singleton _ _
 | cons y r ih=>
   have h1:=List.pairwise_cons.1 h
   have hb:(Lit.string x.1).before (Lit.string y.1)=bytesBefore x.1 y.1:=rfl
   rw [pIns,hb]
   cases hxy:bytesBefore x.1 y.1 with
   | true=>
     simp only [if_true]
     refine List.pairwise_cons.2 ⟨fun e he=>?_,h⟩
     rcases List.mem_cons.1 he with rfl | he
     ·exact hxy
     ·exact blt_trans _ _ _ hxy (h1.1 e he)
   | false=>
     simp only [Bool.false_eq_true,if_false]
     refine List.pairwise_cons.2 ⟨fun e he=>?_,ih h1.2 (fun hm=>hx (List.mem_cons_of_mem _ hm))⟩
     rcases (pIns_mem x r e).1 he with rfl | he
     ·rcases blt_total e.1 y.1 (fun e2=>hx (by rw [e2]; exact List.mem_cons_self ..)) with h2 | h2
      ·rw [hxy] at h2; cases h2
      ·exact h2
     ·exact h1.1 e he
theorem pDel_ord {P:PEnts} (h:Ordered P) (k:List UInt8):Ordered (pDel P k):=List.Pairwise.sublist List.filter_sublist h
theorem pPut_ord {P:PEnts} (h:Ordered P) (x:List UInt8 × List UInt8):Ordered (pPut P x):=
 pIns_ord (pDel_ord h _) (by rw [keys_pDel]; simp)
theorem pChg_ord {P:PEnts} (h:Ordered P) (c:Chg):Ordered (pChg P c):=by
 unfold pChg; split
 ·exact pDel_ord h _
 ·exact pPut_ord h _
theorem pChgs_ord {P:PEnts} (h:Ordered P) (cs:List Chg):Ordered (pChgs P cs):=by
 unfold pChgs
 induction cs generalizing P with
 | nil=>exact h
 | cons c r ih=>rw [List.foldl_cons]; exact ih (pChg_ord h c)
theorem SmallEnts.del {P:PEnts} (h:SmallEnts P) (k:List UInt8):SmallEnts (pDel P k):=
 ⟨fun e he=>h.key e (List.mem_filter.1 he).1,fun e he=>h.val e (List.mem_filter.1 he).1⟩
theorem SmallEnts.put {P:PEnts} (h:SmallEnts P) {x:List UInt8 × List UInt8} (h1:1≤x.1.length∧x.1.length≤40) (h2:x.2.length≤4096):SmallEnts (pPut P x):=by
 unfold pPut
 refine ⟨fun e he=>?_,fun e he=>?_⟩ <;> rcases (pIns_mem _ _ e).1 he with rfl | he
 ·exact h1
 ·exact (h.del _).key e he
 ·exact h2
 ·exact (h.del _).val e he
theorem SmallEnts.chgs {P:PEnts} (h:SmallEnts P) {cs:List Chg} (hk:∀ c ∈ cs,1≤c.key.length∧c.key.length≤40) (hv:∀ c ∈ cs,c.val.length≤4096):SmallEnts (pChgs P cs):=by
 unfold pChgs
 induction cs generalizing P with
 | nil=>exact h
 | cons c r ih=>
   rw [List.foldl_cons]
   refine ih ?_ (fun c hc=>hk c (List.mem_cons_of_mem _ hc)) (fun c hc=>hv c (List.mem_cons_of_mem _ hc))
   unfold pChg; split
   ·exact h.del _
   ·exact h.put (hk c (List.mem_cons_self ..)) (hv c (List.mem_cons_self ..))
theorem rTake_fine {n:Nat} {s:RSt} (h:(rTake n s).2.2=false):s.2=false∧(rTake n s).1.length=n:=by
 unfold rTake at h ⊢
 split at h
 ·cases h
 ·rename_i hc
  rw [if_neg hc]
  refine ⟨by cases hs:s.2 <;> simp_all,?_⟩
  rw [List.length_take]; omega
theorem rKey_fine {s:RSt} (h:(rKey s).2.2=false):1≤(rKey s).1.length∧(rKey s).1.length≤40:=by
 unfold rKey at h ⊢
 have h1:=rTake_fine h
 by_cases hn:(rNum 1 s).1 < 1∨40 < (rNum 1 s).1
 ·rw [if_pos hn] at h1; cases h1.1
 ·omega
theorem rVal_fine {s:RSt} (h:(rVal s).2.2=false):s.2=false∧(rVal s).1.length≤4096:=by
 unfold rVal at h ⊢
 have h1:=rTake_fine h
 by_cases hn:4096 < (rNum 2 s).1
 ·rw [if_pos hn] at h1; cases h1.1
 ·have h2:=h1.1
  rw [if_neg hn] at h2
  exact ⟨(rTake_fine h2).1,by omega⟩
theorem rEnts_ord {s:RSt}:∀ n {P:PEnts} {last:List UInt8} {wt:Int} {s':RSt},rEnts n s=some (P,last,wt,s')→Ordered P∧SmallEnts P:=by
 intro n
 induction n with
 | zero=>
   intro P last wt s' h
   simp only [rEnts,Option.some.injEq,Prod.mk.injEq] at h
   obtain ⟨rfl,_⟩:=h
   exact ⟨List.Pairwise.nil,⟨fun e he=>(by cases he),fun e he=>(by cases he)⟩⟩
 | succ n ih=>
   intro P last wt s' h
   rw [rEnts] at h
   split at h
   ·cases h
   ·rename_i P0 l0 w0 s0 h0
    have h1:=ih h0
    split at h
    ·cases h
    ·rename_i hc
     simp only [Option.some.injEq,Prod.mk.injEq] at h
     obtain ⟨rfl,_⟩:=h
     have hf:(rVal (rKey s0).2).2.2=false:=by
      cases hb:(rVal (rKey s0).2).2.2 with
      | false=>rfl
      | true=>exact absurd (Or.inl hb) hc
     have h2:=rVal_fine hf
     exact ⟨pPut_ord h1.1 _,h1.2.put (rKey_fine h2.1) h2.2⟩
theorem Chain.ord {file:List UInt8} {c:Cont} (h:Chain file c):Ordered c.ents∧SmallEnts c.ents:=by
 induction h with
 | start hn hr=>
   unfold rState at hr
   split at hr
   ·cases hr
   ·split at hr
    ·cases hr
    ·rename_i P _ wt s he
     split at hr
     ·simp only [Option.some.injEq,Prod.mk.injEq] at hr
      obtain ⟨_,rfl,_⟩:=hr
      exact rEnts_ord _ he
     ·cases hr
 | next hc hn hr hp ih=>
   have hv:=(rComm_ok hr).1
   exact ⟨pChgs_ord ih.1 _,ih.2.chgs hv.key hv.val⟩
def zeroC:Cont:=⟨0,[],0,0,0⟩
def pickC (o:Option Cont) (f:Bool) (s:Bool × Cont):Bool × Cont:=match o with
 | some c=>if s.2.gen < c.gen then (f,c) else s
 | none=>s
theorem pickC_none (f:Bool) (s:Bool × Cont):pickC none f s=s:=rfl
theorem pickC_lt {c:Cont} {f:Bool} {s:Bool × Cont} (h:s.2.gen < c.gen):pickC (some c) f s=(f,c):=by unfold pickC; simp only []; rw [if_pos h]
theorem pickC_ge {c:Cont} {f:Bool} {s:Bool × Cont} (h:¬ s.2.gen < c.gen):pickC (some c) f s=s:=by unfold pickC; simp only []; rw [if_neg h]
def openP (d:DS):Bool × Cont:=pickC (readF d.f1) true (pickC (readF d.f0) false (false,zeroC))
def jOpen (d:DS):JS:=⟨d,false,(openP d).1,(openP d).2⟩
structure Live (s:JS):Prop where
 ok:s.Ok
 up:s.down=false
 ord:Ordered s.c.ents
 small:SmallEnts s.c.ents
 cur:1≤s.c.gen→readF (s.d.get s.file)=some s.c
 other:∀ c',readF (s.d.get (!s.file))=some c'→c'.gen≤s.c.gen∧(s.file=true→c'.gen < s.c.gen)
 zero:s.c.gen=0→s.c=zeroC∧s.file=false∧readF s.d.f0=none
theorem readF_gen {file:List UInt8} {c:Cont} (h:readF file=some c):1≤c.gen:=(readF_good h).gen.1
theorem zeroC_ok (d:DS) (h:d.Ok) (b:Bool):JS.Ok ⟨d,b,false,zeroC⟩:=⟨h.pw0,h.pw1,h.f0,h.f1,List.nodup_nil,rfl,by show (0:Int)≤_; omega,by show 0≤_; omega,by show 0≤_; omega,by show (0:Int)≤0; omega,by show (0:Int)≤_; omega⟩
theorem good_ok {d:DS} (h:d.Ok) {f:Bool} {c:Cont} (hc:readF (d.get f)=some c) (b:Bool):JS.Ok ⟨d,b,f,c⟩:=by
 have g:=readF_good hc
 have:=h.get f
 exact ⟨h.pw0,h.pw1,h.f0,h.f1,g.apart,g.wt,g.max,g.gen.2,Nat.le_trans g.ed.2 this,g.sum.1,g.sum.2⟩
/-- Open returns a journal that agrees with its disk -/
theorem open_live {d:DS} (h:d.Ok):Live (jOpen d):=by
 unfold jOpen openP
 cases h0:readF d.f0 with
 | none=>
   cases h1:readF d.f1 with
   | none=>
     rw [pickC_none,pickC_none]
     refine ⟨zeroC_ok d h _,rfl,List.Pairwise.nil,⟨fun e he=>(by cases he),fun e he=>(by cases he)⟩,?_,?_,fun _=>⟨rfl,rfl,h0⟩⟩
     ·intro hg; have:1≤0:=hg; omega
     ·intro c' hc'
      have hc':readF d.f1=some c':=hc'
      rw [h1] at hc'; cases hc'
   | some c1=>
     have hg:=readF_gen h1
     rw [pickC_none,pickC_lt (s:=(false,zeroC)) hg]
     refine ⟨good_ok h (f:=true) h1 _,rfl,(readF_chain h1).1.ord.1,(readF_chain h1).1.ord.2,fun _=>h1,?_,?_⟩
     ·intro c' hc'
      have hc':readF d.f0=some c':=hc'
      rw [h0] at hc'; cases hc'
     ·intro hz; have hz:c1.gen=0:=hz; omega
 | some c0=>
   have hg:=readF_gen h0
   rw [pickC_lt (s:=(false,zeroC)) hg]
   cases h1:readF d.f1 with
   | none=>
     rw [pickC_none]
     refine ⟨good_ok h (f:=false) h0 _,rfl,(readF_chain h0).1.ord.1,(readF_chain h0).1.ord.2,fun _=>h0,?_,?_⟩
     ·intro c' hc'
      have hc':readF d.f1=some c':=hc'
      rw [h1] at hc'; cases hc'
     ·intro hz; have hz:c0.gen=0:=hz; omega
   | some c1=>
     by_cases hlt:c0.gen < c1.gen
     ·rw [pickC_lt (s:=(false,c0)) hlt]
      refine ⟨good_ok h (f:=true) h1 _,rfl,(readF_chain h1).1.ord.1,(readF_chain h1).1.ord.2,fun _=>h1,?_,?_⟩
      ·intro c' hc'
       have hc':readF d.f0=some c':=hc'
       rw [h0] at hc'
       cases hc'
       exact ⟨Nat.le_of_lt hlt,fun _=>hlt⟩
      ·intro hz; have hz:c1.gen=0:=hz; have:c0.gen < c1.gen:=hlt; omega
     ·rw [pickC_ge (s:=(false,c0)) hlt]
      refine ⟨good_ok h (f:=false) h0 _,rfl,(readF_chain h0).1.ord.1,(readF_chain h0).1.ord.2,fun _=>h0,?_,?_⟩
      ·intro c' hc'
       have hc':readF d.f1=some c':=hc'
       rw [h1] at hc'
       cases hc'
       exact ⟨Nat.le_of_not_lt hlt,fun hf=>by cases hf⟩
      ·intro hz; have hz:c0.gen=0:=hz; omega
/-- a journal that agrees with its disk is what Open finds -/
theorem openP_of {d:DS} {f:Bool} {c:Cont} (hc:readF (d.get f)=some c) (ho:∀ c',readF (d.get (!f))=some c'→c'.gen≤c.gen∧(f=true→c'.gen < c.gen)):openP d=(f,c):=by
 have hg:=readF_gen hc
 unfold openP
 cases f with
 | false=>
   have hc:readF d.f0=some c:=hc
   rw [hc,pickC_lt (s:=(false,zeroC)) hg]
   cases h1:readF d.f1 with
   | none=>rfl
   | some c1=>
     have:=(ho c1 h1).1
     rw [pickC_ge (s:=(false,c)) (by show ¬ (c.gen < c1.gen); omega)]
 | true=>
   have hc:readF d.f1=some c:=hc
   rw [hc]
   cases h0:readF d.f0 with
   | none=>rw [pickC_none,pickC_lt (s:=(false,zeroC)) hg]
   | some c0=>
     have h2:=(ho c0 h0).2 rfl
     have h3:=readF_gen h0
     rw [pickC_lt (s:=(false,zeroC)) h3,pickC_lt (s:=(false,c0)) h2]
theorem openP_zero {d:DS} (h0:readF d.f0=none) (h1:readF d.f1=none):openP d=(false,zeroC):=by unfold openP; rw [h0,h1]; rfl
theorem Live.other_none {s:JS} (h:Live s) (hg:s.c.gen=0):readF s.d.f1=none:=by
 cases h1:readF s.d.f1 with
 | none=>rfl
 | some c1=>
   have hz:=h.zero hg
   have:=h.other c1 (by rw [hz.2.1]; exact h1)
   have:=readF_gen h1
   omega
theorem live_open {s:JS} (h:Live s):openP s.d=(s.file,s.c):=by
 rcases Nat.eq_zero_or_pos s.c.gen with hg | hg
 ·have hz:=h.zero hg
  rw [openP_zero hz.2.2 (h.other_none hg),hz.1,hz.2.1]
 ·exact openP_of (h.cur hg) h.other
/-- the power alone has turned -/
theorem Live.power {s:JS} (h:Live s) {z:Int} (h0: -1≤z) (h1:z≤9223372036854775807):Live ⟨⟨z,s.d.f0,s.d.f1⟩,s.down,s.file,s.c⟩:=
 ⟨⟨h0,h1,h.ok.f0,h.ok.f1,h.ok.apart,h.ok.wt,h.ok.max,h.ok.gen,h.ok.ed,h.ok.sum0,h.ok.sum1⟩,h.up,h.ord,h.small,h.cur,h.other,h.zero⟩
end
section
open Go.RowKit SeedP Go.Maps
theorem dCut_fail {f:Bool} {n:Nat} {d:DS} (h:(dCut f n d).2=false):(dCut f n d).1=d:=by
 unfold dCut at h ⊢
 split at h <;> rename_i h1
 ·cases h
 ·rw [if_neg h1]
  split at h <;> rename_i h2
  ·rw [if_pos h2]
  ·cases h
theorem dWrite_fail {f:Bool} {b:List UInt8} {d:DS} (h:(dWrite f b d).2=false):∃ k,k < b.length∧(dWrite f b d).1.get f=d.get f ++ b.take k∧(dWrite f b d).1.get (!f)=d.get (!f)∧(dWrite f b d).1.pw=0:=by
 unfold dWrite at h ⊢
 split at h <;> rename_i h1
 ·cases h
 ·rw [if_neg h1]
  split at h <;> rename_i h2
  ·cases h
  ·rw [if_neg h2]
   exact ⟨d.pw.toNat,by omega,DS.get_put _ _ _,DS.get_put_not _ _ _,by cases f <;> rfl⟩
/-- the disk, opened again, has these entries, and no generation above g -/
structure Has (d:DS) (P:PEnts) (g:Nat):Prop where
 ok:d.Ok
 ents:(openP d).2.ents=P
 gen:(openP d).2.gen≤g
theorem Live.has {s:JS} (h:Live s):Has s.d s.c.ents s.c.gen:=⟨h.ok.d,by rw [live_open h],by rw [live_open h]; exact Nat.le_refl _⟩
theorem Has.mono {d:DS} {P:PEnts} {g g':Nat} (h:Has d P g) (hg:g≤g'):Has d P g':=⟨h.ok,h.ents,Nat.le_trans h.gen hg⟩
theorem Live.wt {s:JS} (h:Live s):pWt s.c.ents≤131072:=by have:=h.ok.wt; have:=h.ok.max; omega
theorem Live.chain {s:JS} (h:Live s) (hg:1≤s.c.gen):Chain (s.d.get s.file) s.c:=(readF_chain (h.cur hg)).1
theorem compactFile_zero {s:JS} (h:s.c.gen=0):compactFile s=false:=by unfold compactFile; rw [if_pos h]
theorem compactFile_pos {s:JS} (h:1≤s.c.gen):compactFile s=!s.file:=by unfold compactFile; rw [if_neg (by omega)]
/-- what the other file says has no weight, whatever it says below this generation -/
theorem compact_live {s:JS} (h:Live s) (hg:s.c.gen < 4611686018427387904) :
 ((jCompact s).2=true→Live (jCompact s).1∧(jCompact s).1.c.ents=s.c.ents∧(jCompact s).1.c.gen=s.c.gen+1∧(jCompact s).1.file=compactFile s∧(jCompact s).1.c.ed=12+(stateB (s.c.gen+1) s.c.ents).length ∧
   (jCompact s).1.d.get (compactFile s)=blockB (subI 0 (stateB (s.c.gen+1) s.c.ents)) (stateB (s.c.gen+1) s.c.ents)∧(jCompact s).1.d.get (!compactFile s)=s.d.get (!compactFile s)) ∧
 ((jCompact s).2=false→Has (jCompact s).1.d s.c.ents s.c.gen):=by
 have hok:=jCompact_ok h.ok hg
 have hl:=stateB_len (s.c.gen+1) s.c.ents
 have hwt:=h.wt
 have hst:=readF_state h.ord h.small hwt (show 1≤s.c.gen+1 by omega) (by omega)
 rcases jCompact_cases s with ⟨d,he,hd⟩ | ⟨d,he,hk,hd⟩
 ·rw [he] at hok ⊢
  refine ⟨(fun hf=>by cases hf),fun _=>?_⟩
  show Has d s.c.ents s.c.gen
  rcases hd with hd | ⟨hk,hd⟩
  ·have:=dCut_fail (f:=compactFile s) (n:=0) (d:=s.d) (by rw [hd])
   rw [hd] at this
   have this:d=s.d:=this
   rw [this]; exact h.has
  ·have hc:=dCut_get hk (Nat.zero_le _)
   obtain ⟨k,hk2,hf1,hf2,_⟩:=dWrite_fail (f:=compactFile s) (b:=blockB (subI 0 (stateB (s.c.gen+1) s.c.ents)) (stateB (s.c.gen+1) s.c.ents)) (d:=(dCut (compactFile s) 0 s.d).1) (by rw [hd])
   rw [hd,hc.1,List.take_zero,List.nil_append] at hf1
   rw [hd,hc.2] at hf2
   rw [blockB_len] at hk2
   have hn:=readF_torn0 (subI 0 (stateB (s.c.gen+1) s.c.ents)) (stateB (s.c.gen+1) s.c.ents) k (by omega) hk2
   rw [← hf1] at hn
   have hdo:d.Ok:=hok.1.d
   rcases Nat.eq_zero_or_pos s.c.gen with hz | hp
   ·rw [compactFile_zero hz] at hn hf2
    have h0:=h.zero hz
    have e:openP d=(false,zeroC):=openP_zero hn (by have hf2:d.f1=s.d.f1:=hf2; rw [hf2]; exact h.other_none hz)
    exact ⟨hdo,by rw [e,h0.1],by rw [e,h0.1]; exact Nat.le_refl _⟩
   ·rw [compactFile_pos hp] at hn hf2
    rw [Bool.not_not] at hf2
    have e:openP d=(s.file,s.c):=openP_of (by rw [hf2]; exact h.cur hp) (fun c' hc'=>by rw [hn] at hc'; cases hc')
    exact ⟨hdo,by rw [e],by rw [e]; exact Nat.le_refl _⟩
 ·rw [he] at hok ⊢
  refine ⟨fun _=>?_,fun hf=>by cases hf⟩
  have hc:=dCut_get hk (Nat.zero_le _)
  have hw:=dWrite_get (f:=compactFile s) (b:=blockB (subI 0 (stateB (s.c.gen+1) s.c.ents)) (stateB (s.c.gen+1) s.c.ents)) (d:=(dCut (compactFile s) 0 s.d).1) (by rw [hd])
  rw [hd,hc.1,hc.2,List.take_zero,List.nil_append] at hw
  refine ⟨⟨hok.1,h.up,h.ord,h.small,fun _=>?_,?_,fun hz=>?_⟩,rfl,rfl,rfl,rfl,hw.1,hw.2⟩
  ·show readF (d.get (compactFile s))=_
   rw [hw.1,hst,← h.ok.wt]
  ·intro c' hc'
   have hc':readF (d.get (!compactFile s))=some c':=hc'
   rw [hw.2] at hc'
   have hlt:c'.gen≤s.c.gen:=by
    rcases Nat.eq_zero_or_pos s.c.gen with hz | hp
    ·rw [compactFile_zero hz] at hc'
     rw [show s.d.get (!false)=s.d.f1 from rfl,h.other_none hz] at hc'; cases hc'
    ·rw [compactFile_pos hp,Bool.not_not,h.cur hp] at hc'
     cases hc'; exact Nat.le_refl _
   exact ⟨by show c'.gen≤s.c.gen+1; omega,fun _=>by show c'.gen < s.c.gen+1; omega⟩
  ·have hz:s.c.gen+1=0:=hz; omega
/-- a step of Commit keeps the entries, and the disk has them if the power fails in it -/
def Step (P:PEnts) (g:Nat) (r:JS × Bool):Prop:=(r.2=true→Live r.1∧r.1.c.ents=P∧r.1.c.gen≤g)∧(r.2=false→Has r.1.d P g)
theorem do1_live {s:JS} (h:Live s):Step s.c.ents (s.c.gen+if s.c.gen=0 then 1 else 0) (jDo1 s)∧((jDo1 s).2=true→1≤(jDo1 s).1.c.gen):=by
 unfold jDo1
 split
 ·rename_i hz
  have hc:=compact_live h (by omega)
  refine ⟨⟨fun hk=>?_,fun hk=>(hc.2 hk).mono (by omega)⟩,fun hk=>?_⟩
  ·have:=hc.1 hk; exact ⟨this.1,this.2.1,by omega⟩
  ·have:=hc.1 hk; omega
 ·exact ⟨⟨(fun _=>⟨h,rfl,Nat.le_add_right _ _⟩),(fun hk=>by cases hk)⟩,(fun _=>by show 1≤s.c.gen; omega)⟩
theorem do2_live {s:JS} (h:Live s) (hg:1≤s.c.gen):Step s.c.ents s.c.gen (jDo2 s)∧((jDo2 s).2=true→(jDo2 s).1.c=s.c∧((jDo2 s).1.d.get (jDo2 s).1.file).length=s.c.ed):=by
 have hch:=h.chain hg
 have hed:=hch.good.ed
 unfold jDo2
 split
 ·rename_i hlt
  cases hk:(dCut s.file s.c.ed s.d).2 with
  | false=>
    refine ⟨⟨(fun hf=>by cases hf),fun _=>?_⟩,(fun hf=>by cases hf)⟩
    show Has (dCut s.file s.c.ed s.d).1 _ _
    rw [dCut_fail hk]; exact h.has
  | true=>
    have hc:=dCut_get hk (Nat.le_of_lt hlt)
    refine ⟨⟨fun _=>⟨⟨h.ok.setD (dCut_ok h.ok.d _ _),h.up,h.ord,h.small,fun _=>?_,?_,fun hz=>?_⟩,rfl,Nat.le_refl _⟩,(fun hf=>by cases hf)⟩,fun _=>⟨rfl,?_⟩⟩
    ·show readF ((dCut s.file s.c.ed s.d).1.get s.file)=_
     rw [hc.1]; exact readF_cut hch
    ·intro c' hc'
     have hc':readF ((dCut s.file s.c.ed s.d).1.get (!s.file))=some c':=hc'
     rw [hc.2] at hc'; exact h.other c' hc'
    ·have hz:s.c.gen=0:=hz; omega
    ·show ((dCut s.file s.c.ed s.d).1.get s.file).length=_
     rw [hc.1,List.length_take]; omega
 ·exact ⟨⟨(fun _=>⟨h,rfl,Nat.le_refl _⟩),(fun hf=>by cases hf)⟩,(fun _=>⟨rfl,by show (s.d.get s.file).length=_; omega⟩)⟩
theorem do3_live {s:JS} {n:Nat} (h:Live s) (hg:1≤s.c.gen) (hl:(s.d.get s.file).length=s.c.ed) (hm:overfullP s n=true→s.c.gen < 4611686018427387904) :
 Step s.c.ents (s.c.gen+1) (jDo3 n s)∧((jDo3 n s).2=true→1≤(jDo3 n s).1.c.gen∧((jDo3 n s).1.d.get (jDo3 n s).1.file).length=(jDo3 n s).1.c.ed):=by
 unfold jDo3
 split
 ·rename_i ho
  have hc:=compact_live h (hm ho)
  refine ⟨⟨fun hk=>?_,fun hk=>(hc.2 hk).mono (by omega)⟩,fun hk=>?_⟩
  ·have:=hc.1 hk; exact ⟨this.1,this.2.1,by omega⟩
  ·obtain ⟨_,_,h2,h3,h4,h5,_⟩:=hc.1 hk
   refine ⟨by omega,?_⟩
   rw [h3,h5,h4,blockB_len]
 ·exact ⟨⟨(fun _=>⟨h,rfl,Nat.le_add_right _ _⟩),(fun hf=>by cases hf)⟩,(fun _=>⟨hg,hl⟩)⟩
theorem do4_live {s:JS} {cs:List Chg} (h:Live s) (hg:1≤s.c.gen) (hl:(s.d.get s.file).length=s.c.ed) (hok:(jDo4 cs s).1.Ok) (hv:Valid cs) (h1:1≤cs.length) (h2:cs.length≤64) (hp:pPoss s.c.ents s.c.wt cs=true) :
 ((jDo4 cs s).2=true→Live (jDo4 cs s).1∧(jDo4 cs s).1.c.ents=pChgs s.c.ents cs∧(jDo4 cs s).1.c.gen=s.c.gen)∧((jDo4 cs s).2=false→Has (jDo4 cs s).1.d s.c.ents s.c.gen):=by
 have hch:=h.chain hg
 have hlen:=codeOf_len cs
 have hsz:=hv.size
 unfold jDo4 at hok ⊢
 simp only [] at hok ⊢
 rcases hx:dWrite s.file (blockB (subI s.c.sum (codeOf cs)) (codeOf cs)) s.d with ⟨d2,b2⟩
 rw [hx] at hok
 cases b2
 ·refine ⟨(fun hf=>by cases hf),fun _=>?_⟩
  obtain ⟨k,hk,hf1,hf2,_⟩:=dWrite_fail (f:=s.file) (b:=blockB (subI s.c.sum (codeOf cs)) (codeOf cs)) (d:=s.d) (by rw [hx])
  rw [hx] at hf1 hf2
  rw [blockB_len] at hk
  have e:openP d2=(s.file,s.c):=openP_of (by
   have hf1:d2.get s.file=_:=hf1
   rw [hf1]; exact readF_torn hch hl _ _ _ (by omega) hk) (fun c' hc'=>h.other c' (by have hf2:d2.get (!s.file)=_:=hf2; rw [hf2] at hc'; exact hc'))
  exact ⟨hok.d,by show (openP d2).2.ents=_; rw [e],by show (openP d2).2.gen≤_; rw [e]; exact Nat.le_refl _⟩
 ·refine ⟨fun _=>?_,(fun hf=>by cases hf)⟩
  have hw:=dWrite_get (f:=s.file) (b:=blockB (subI s.c.sum (codeOf cs)) (codeOf cs)) (d:=s.d) (by rw [hx])
  rw [hx] at hw
  refine ⟨⟨hok,h.up,pChgs_ord h.ord cs,h.small.chgs hv.key hv.val,fun _=>?_,?_,fun hz=>?_⟩,rfl,rfl⟩
  ·show readF (d2.get s.file)=_
   have hw1:d2.get s.file=_:=hw.1
   rw [hw1]; exact readF_commit hch hl hv h1 h2 hp
  ·intro c' hc'
   have hc':readF (d2.get (!s.file))=some c':=hc'
   have hw2:d2.get (!s.file)=_:=hw.2
   rw [hw2] at hc'; exact h.other c' hc'
  ·have hz:s.c.gen=0:=hz; omega
theorem jThen_ok {r:JS × Bool} {k:JS→JS × Bool} (h:r.2=true):jThen r k=k r.1:=by unfold jThen; rw [if_pos h]
theorem jThen_no {r:JS × Bool} {k:JS→JS × Bool} (h:r.2=false):jThen r k=r:=by unfold jThen; rw [if_neg (by rw [h]; simp)]
theorem do_live {s:JS} {cs:List Chg} (h:Live s) (hv:Valid cs) (h1:1≤cs.length) (h2:cs.length≤64) (hp:pPoss s.c.ents s.c.wt cs=true) (hm:s.c.gen=4611686018427387904→overfullP s (codeOf cs).length=false) :
 ((jDo cs s).2=true→Live (jDo cs s).1∧(jDo cs s).1.c.ents=pChgs s.c.ents cs∧(jDo cs s).1.c.gen≤s.c.gen+2)∧((jDo cs s).2=false→Has (jDo cs s).1.d s.c.ents (s.c.gen+2))∧(jDo cs s).1.Ok:=by
 have hlen:=codeOf_len cs
 have hsz:=hv.size
 have hpw:pWAfter s.c.ents s.c.wt cs≤131072:=pPoss_ok hp
 have h3:=jDo3_ok (n:=(codeOf cs).length) h.ok (by omega) hm
 unfold jDo
 cases hb1:(jDo1 s).2 with
 | false=>
   have d1:=(do1_live h).1.2 hb1
   rw [jThen_no hb1,jThen_no hb1,jThen_no hb1]
   exact ⟨(fun hf=>by rw [hb1] at hf; cases hf),(fun _=>d1.mono (by split <;> omega)),h3.2.2.1⟩
 | true=>
   obtain ⟨l1,e1,g1⟩:=(do1_live h).1.1 hb1
   have p1:=(do1_live h).2 hb1
   have g1:(jDo1 s).1.c.gen≤s.c.gen+1:=by split at g1 <;> omega
   have o3:=h3.2.2.2 hb1
   have h30:=h3.1
   have h31:=h3.2.1
   rw [jThen_ok hb1] at h30 h31 ⊢
   generalize (jDo1 s).1=s1 at *
   cases hb2:(jDo2 s1).2 with
   | false=>
     have d2:=(do2_live l1 p1).1.2 hb2
     rw [jThen_no hb2,jThen_no hb2]
     exact ⟨(fun hf=>by rw [hb2] at hf; cases hf),(fun _=>by rw [← e1]; exact d2.mono (by omega)),o3.1⟩
   | true=>
     obtain ⟨l2,e2,g2⟩:=(do2_live l1 p1).1.1 hb2
     have q2:=(do2_live l1 p1).2 hb2
     have m2:=o3.2 hb2
     rw [jThen_ok hb2] at h30 h31 ⊢
     generalize (jDo2 s1).1=s2 at *
     have p2:1≤s2.c.gen:=by rw [q2.1]; exact p1
     have hl2:(s2.d.get s2.file).length=s2.c.ed:=by rw [q2.2,q2.1]
     have d3:=do3_live (n:=(codeOf cs).length) l2 p2 hl2 m2
     cases hb3:(jDo3 (codeOf cs).length s2).2 with
     | false=>
       have d3:=d3.1.2 hb3
       rw [jThen_no hb3]
       exact ⟨(fun hf=>by rw [hb3] at hf; cases hf),(fun _=>by rw [← e1,← e2]; exact d3.mono (by omega)),h30⟩
     | true=>
       obtain ⟨l3,e3,g3⟩:=d3.1.1 hb3
       have q3:=d3.2 hb3
       have h31:=h31 hb3
       rw [jThen_ok hb3]
       generalize (jDo3 (codeOf cs).length s2).1=s3 at *
       have ee:s3.c.ents=s.c.ents:=by rw [e3,e2,e1]
       have ew:s3.c.wt=s.c.wt:=by rw [l3.ok.wt,ee,← h.ok.wt]
       have ok4:=jDo4_ok l3.ok h31 hv (by rw [ee,ew]; exact hpw)
       have d4:=do4_live l3 q3.1 q3.2 ok4 hv h1 h2 (by rw [ee,ew]; exact hp)
       refine ⟨fun hk=>?_,fun hk=>?_,ok4⟩
       ·obtain ⟨l4,e4,g4⟩:=d4.1 hk
        exact ⟨l4,by rw [e4,ee],by omega⟩
       ·rw [← ee]; exact (d4.2 hk).mono (by omega)
end
section
open Go.RowKit SeedP Go.Maps
theorem validP_vals (cs:List Chg):validP cs=0∨validP cs=2∨validP cs=3:=by
 unfold validP; split
 ·exact Or.inr (Or.inl rfl)
 ·split
  ·exact Or.inr (Or.inr rfl)
  ·exact Or.inl rfl
/-- may these changes be committed -/
structure May (s:JS) (cs:List Chg):Prop where
 some:1≤cs.length
 many:cs.length≤64
 valid:Valid cs
 there:∀ c ∈ cs,c.drop=true→(pFind s.c.ents c.key).isSome=true
 weight:pWAfter s.c.ents s.c.wt cs≤131072
theorem May.any {s:JS} {cs:List Chg} (h:May s cs):(cs.any fun c=>c.drop && !(pFind s.c.ents c.key).isSome)=false:=by
 rw [List.any_eq_false]
 intro c hc
 cases hd:c.drop with
 | false=>simp
 | true=>rw [h.there c hc hd]; simp
theorem May.poss {s:JS} {cs:List Chg} (h:May s cs):pPoss s.c.ents s.c.wt cs=true:=by
 unfold pPoss; rw [h.any]; simp [h.weight]
theorem jCommit_eq {s:JS} {cs:List Chg} (hd:s.down=false) (h:May s cs) (hf:¬ (s.c.gen=4611686018427387904∧overfullP s (codeOf cs).length=true)):jCommit cs s=jPowered (jDo cs s):=by
 unfold jCommit
 rw [if_neg (by rw [hd]; simp),if_neg (by have:=h.some; have:=h.many; omega),if_neg (by rw [(valid_zero cs).2 h.valid]; simp),if_neg (by rw [h.any]; simp),if_neg]
 rintro (h1 | h1)
 ·have:=h.weight; omega
 ·exact hf h1
theorem jCommit_cases {s:JS} {cs:List Chg} (hd:s.down=false) :
 (May s cs∧¬ (s.c.gen=4611686018427387904∧overfullP s (codeOf cs).length=true)∧jCommit cs s=jPowered (jDo cs s))∨((jCommit cs s).1=s∧(jCommit cs s).2 ≠ 0∧(jCommit cs s).2 ≠ 360):=by
 by_cases h1:cs.length=0∨64 < cs.length
 ·right; unfold jCommit; rw [if_neg (by rw [hd]; simp),if_pos h1]; exact ⟨rfl,fun h=>(by cases h),fun h=>(by cases h)⟩
 by_cases h2:validP cs=0
 ·by_cases h3:(cs.any fun c=>c.drop && !(pFind s.c.ents c.key).isSome)=true
  ·right; unfold jCommit; rw [if_neg (by rw [hd]; simp),if_neg h1,if_neg (by simpa using h2),if_pos h3]; exact ⟨rfl,fun h=>(by cases h),fun h=>(by cases h)⟩
  ·by_cases h4:131072 < pWAfter s.c.ents s.c.wt cs∨(s.c.gen=4611686018427387904∧overfullP s (codeOf cs).length=true)
   ·right; unfold jCommit; rw [if_neg (by rw [hd]; simp),if_neg h1,if_neg (by simpa using h2),if_neg h3,if_pos h4]; exact ⟨rfl,fun h=>(by cases h),fun h=>(by cases h)⟩
   ·left
    have hm:May s cs:=by
     refine ⟨by omega,by omega,(valid_zero cs).1 h2,fun c hc hd=>?_,by omega⟩
     cases hf:(pFind s.c.ents c.key).isSome with
     | true=>rfl
     | false=>exact absurd (List.any_eq_true.2 ⟨c,hc,by rw [hd,hf]; rfl⟩) h3
    have hf:¬ (s.c.gen=4611686018427387904∧overfullP s (codeOf cs).length=true):=fun h=>h4 (Or.inr h)
    exact ⟨hm,hf,jCommit_eq hd hm hf⟩
 ·right; unfold jCommit; rw [if_neg (by rw [hd]; simp),if_neg h1,if_pos h2]
  rcases validP_vals cs with h | h | h
  ·exact absurd h h2
  ·rw [h]; exact ⟨rfl,fun h=>(by cases h),fun h=>(by cases h)⟩
  ·rw [h]; exact ⟨rfl,fun h=>(by cases h),fun h=>(by cases h)⟩
theorem jPowered_two (r:JS × Bool):(jPowered r).2=if r.2=true then 0 else 360:=by unfold jPowered; split <;> rfl
/-- a power failure leaves no power -/
theorem dCut_dead {f:Bool} {n:Nat} {d:DS} (h:(dCut f n d).2=false):(dCut f n d).1.pw=0:=by
 have h0:=dCut_fail h
 rw [h0]
 unfold dCut at h
 split at h
 ·cases h
 ·split at h
  ·assumption
  ·cases h
theorem dWrite_dead {f:Bool} {b:List UInt8} {d:DS} (h:(dWrite f b d).2=false):(dWrite f b d).1.pw=0:=by
 obtain ⟨k,_,_,_,h4⟩:=dWrite_fail h; exact h4
theorem jCompact_dead {s:JS} (h:(jCompact s).2=false):(jCompact s).1.d.pw=0:=by
 rcases jCompact_cases s with ⟨d,he,hd⟩ | ⟨d,he,hk,hd⟩
 ·rw [he]
  show d.pw=0
  rcases hd with hd | ⟨_,hd⟩
  ·have:=dCut_dead (f:=compactFile s) (n:=0) (d:=s.d) (by rw [hd])
   rw [hd] at this; exact this
  ·have:=dWrite_dead (f:=compactFile s) (b:=blockB (subI 0 (stateB (s.c.gen+1) s.c.ents)) (stateB (s.c.gen+1) s.c.ents)) (d:=(dCut (compactFile s) 0 s.d).1) (by rw [hd])
   rw [hd] at this; exact this
 ·rw [he] at h; cases h
theorem jDo1_dead {s:JS} (h:(jDo1 s).2=false):(jDo1 s).1.d.pw=0:=by
 unfold jDo1 at h ⊢
 split at h <;> rename_i hz
 ·rw [if_pos hz]; exact jCompact_dead h
 ·cases h
theorem jDo2_dead {s:JS} (h:(jDo2 s).2=false):(jDo2 s).1.d.pw=0:=by
 unfold jDo2 at h ⊢
 split at h <;> rename_i hz
 ·rw [if_pos hz]; exact dCut_dead h
 ·cases h
theorem jDo3_dead {s:JS} {n:Nat} (h:(jDo3 n s).2=false):(jDo3 n s).1.d.pw=0:=by
 unfold jDo3 at h ⊢
 split at h <;> rename_i hz
 ·rw [if_pos hz]; exact jCompact_dead h
 ·cases h
theorem jDo4_dead {s:JS} {cs:List Chg} (h:(jDo4 cs s).2=false):(jDo4 cs s).1.d.pw=0:=by
 unfold jDo4 at h ⊢
 simp only [] at h ⊢
 rcases hx:dWrite s.file (blockB (subI s.c.sum (codeOf cs)) (codeOf cs)) s.d with ⟨d2,b2⟩
 rw [hx] at h
 cases b2
 ·have:=dWrite_dead (f:=s.file) (b:=blockB (subI s.c.sum (codeOf cs)) (codeOf cs)) (d:=s.d) (by rw [hx])
  rw [hx] at this; exact this
 ·cases h
theorem jThen_dead {r:JS × Bool} {k:JS→JS × Bool} (h:(jThen r k).2=false) (h1:r.2=false→r.1.d.pw=0) (h2:(k r.1).2=false→(k r.1).1.d.pw=0):(jThen r k).1.d.pw=0:=by
 cases hb:r.2 with
 | false=>rw [jThen_no hb]; exact h1 hb
 | true=>rw [jThen_ok hb] at h ⊢; exact h2 h
theorem jDo_dead {s:JS} {cs:List Chg} (h:(jDo cs s).2=false):(jDo cs s).1.d.pw=0:=
 jThen_dead h (fun h=>jThen_dead h (fun h=>jThen_dead h jDo1_dead jDo2_dead) jDo3_dead) jDo4_dead
/-- power that does not fail -/
theorem DS.put_pw (d:DS) (f:Bool) (l:List UInt8):(d.put f l).pw=d.pw:=by cases f <;> rfl
theorem dCut_full {f:Bool} {n:Nat} {d:DS} (h:d.pw= -1):(dCut f n d).2=true∧(dCut f n d).1.pw= -1:=by
 unfold dCut
 split
 ·exact ⟨rfl,h⟩
 ·rw [if_neg (by omega)]
  refine ⟨rfl,?_⟩
  rw [DS.put_pw]
  show (if 0 < d.pw then d.pw - 1 else d.pw)= -1
  rw [if_neg (by omega),h]
theorem dWrite_full {f:Bool} {b:List UInt8} {d:DS} (h:d.pw= -1):(dWrite f b d).2=true∧(dWrite f b d).1.pw= -1:=by
 unfold dWrite
 rw [if_pos (by omega)]
 exact ⟨rfl,by rw [DS.put_pw]; exact h⟩
theorem jCompact_full {s:JS} (h:s.d.pw= -1):(jCompact s).2=true∧(jCompact s).1.d.pw= -1:=by
 have hc:=dCut_full (f:=compactFile s) (n:=0) h
 have hw:=dWrite_full (f:=compactFile s) (b:=blockB (subI 0 (stateB (s.c.gen+1) s.c.ents)) (stateB (s.c.gen+1) s.c.ents)) hc.2
 rcases jCompact_cases s with ⟨d,he,hd⟩ | ⟨d,he,hk,hd⟩
 ·rcases hd with hd | ⟨_,hd⟩
  ·rw [hd] at hc; cases hc.1
  ·rw [hd] at hw; cases hw.1
 ·rw [he]; rw [hd] at hw; exact ⟨rfl,hw.2⟩
theorem jDo_full {s:JS} {cs:List Chg} (h:s.d.pw= -1):(jDo cs s).2=true∧(jDo cs s).1.d.pw= -1:=by
 have h1:(jDo1 s).2=true∧(jDo1 s).1.d.pw= -1:=by
  unfold jDo1; split
  ·exact jCompact_full h
  ·exact ⟨rfl,h⟩
 have h2:∀ t:JS,t.d.pw= -1→(jDo2 t).2=true∧(jDo2 t).1.d.pw= -1:=by
  intro t ht
  unfold jDo2; split
  ·exact dCut_full ht
  ·exact ⟨rfl,ht⟩
 have h3:∀ t:JS,t.d.pw= -1→(jDo3 (codeOf cs).length t).2=true∧(jDo3 (codeOf cs).length t).1.d.pw= -1:=by
  intro t ht
  unfold jDo3; split
  ·exact jCompact_full ht
  ·exact ⟨rfl,ht⟩
 have h4:∀ t:JS,t.d.pw= -1→(jDo4 cs t).2=true∧(jDo4 cs t).1.d.pw= -1:=by
  intro t ht
  have hw:=dWrite_full (f:=t.file) (b:=blockB (subI t.c.sum (codeOf cs)) (codeOf cs)) ht
  unfold jDo4; simp only []
  rcases hx:dWrite t.file (blockB (subI t.c.sum (codeOf cs)) (codeOf cs)) t.d with ⟨d2,b2⟩
  rw [hx] at hw
  cases b2
  ·cases hw.1
  ·exact ⟨rfl,hw.2⟩
 unfold jDo
 rw [jThen_ok h1.1,jThen_ok (h2 _ h1.2).1,jThen_ok (h3 _ (h2 _ h1.2).2).1]
 exact h4 _ (h3 _ (h2 _ h1.2).2).2
/-- what a commit did -/
theorem commit_live {s:JS} {cs:List Chg} (h:Live s) :
 (jCommit cs s).1.Ok∧((jCommit cs s).2=0→May s cs∧Live (jCommit cs s).1∧(jCommit cs s).1.c.ents=pChgs s.c.ents cs∧(jCommit cs s).1.c.gen≤s.c.gen+2) ∧
 ((jCommit cs s).2=360→May s cs∧Has (jCommit cs s).1.d s.c.ents (s.c.gen+2)∧(jCommit cs s).1.down=true∧(jCommit cs s).1.d.pw=0) ∧
 ((jCommit cs s).2 ≠ 0→(jCommit cs s).2 ≠ 360→(jCommit cs s).1=s):=by
 rcases jCommit_cases (cs:=cs) h.up with ⟨hm,hf,he⟩ | ⟨h1,h2,h3⟩
 ·have hd:=do_live h hm.valid hm.some hm.many hm.poss (fun hg=>by cases ho:overfullP s (codeOf cs).length with | false=>rfl | true=>exact absurd ⟨hg,ho⟩ hf)
  rw [he]
  unfold jPowered
  split
  ·rename_i hk
   obtain ⟨l,e,g⟩:=hd.1 hk
   exact ⟨hd.2.2,fun _=>⟨hm,l,e,g⟩,fun h=>(by cases h),fun h=>absurd rfl h⟩
  ·rename_i hk
   have hk:(jDo cs s).2=false:=by simpa using hk
   have o:=hd.2.2
   exact ⟨⟨o.pw0,o.pw1,o.f0,o.f1,o.apart,o.wt,o.max,o.gen,o.ed,o.sum0,o.sum1⟩,fun h=>(by cases h),fun _=>⟨hm,hd.2.1 hk,rfl,jDo_dead hk⟩,fun _ h=>absurd rfl h⟩
 ·refine ⟨by rw [h1]; exact h.ok,fun h=>absurd h h2,fun h=>absurd h h3,fun _ _=>h1⟩
/-- what may be committed is, if the power lasts -/
theorem commit_may {s:JS} {cs:List Chg} (h:Live s) (hm:May s cs) (hg:s.c.gen < 4611686018427387904):((jCommit cs s).2=0∨(jCommit cs s).2=360)∧(s.d.pw= -1→(jCommit cs s).2=0∧(jCommit cs s).1.d.pw= -1):=by
 have he:=jCommit_eq h.up hm (by omega)
 rw [he]
 refine ⟨?_,fun hp=>?_⟩
 ·rw [jPowered_two]; split
  ·exact Or.inl rfl
  ·exact Or.inr rfl
 ·have:=jDo_full (cs:=cs) hp
  unfold jPowered
  rw [if_pos this.1]; exact ⟨rfl,this.2⟩
end
end Go.Proofs.YtbcfpdlhieaepaaGreatDoor
