/- Plain laws: the chapter's example. -/
import Derived.Test.YtondomklkapogaaGreatDoorM10
import Derived.Test.YtondomklkapogaaGreatDoorM16
import Derived.Test.YtondomklkapogaaGreatDoorM04
namespace Go.Proofs.YtondomklkapogaaGreatDoor
section
open Go.RowKit SeedP Go.Maps
theorem jCompact_plain {s:JS} (h:s.d.pw= -1):jCompact s=(⟨s.d.put (compactFile s) (blockB (subI 0 (stateB (s.c.gen+1) s.c.ents)) (stateB (s.c.gen+1) s.c.ents)),s.down,compactFile s,⟨s.c.gen+1,s.c.ents,s.c.wt,subI 0 (stateB (s.c.gen+1) s.c.ents),12+(stateB (s.c.gen+1) s.c.ents).length⟩⟩,true):=by
 unfold jCompact
 simp only []
 generalize stateB (s.c.gen+1) s.c.ents=code
 generalize compactFile s=f
 obtain ⟨⟨pw,f0,f1⟩,dn,fl,c⟩:=s
 have h:pw= -1:=h
 subst h
 by_cases e:((DS.mk (-1) f0 f1).get f).length=0
 ·have hc:dCut f 0 (DS.mk (-1) f0 f1)=(DS.mk (-1) f0 f1,true):=by unfold dCut; rw [if_pos e]
  rw [hc]
  simp only []
  have e2:(DS.mk (-1) f0 f1).get f=[]:=List.eq_nil_of_length_eq_zero e
  have hw:dWrite f (blockB (subI 0 code) code) (DS.mk (-1) f0 f1)=((DS.mk (-1) f0 f1).put f (blockB (subI 0 code) code),true):=by unfold dWrite; rw [if_pos (by show (-1:Int) < 0; omega),e2,List.nil_append]
  rw [hw]
 ·have hc:dCut f 0 (DS.mk (-1) f0 f1)=((DS.mk (-1) f0 f1).put f [],true):=by
   unfold dCut; rw [if_neg e,if_neg (by show ¬ ((-1:Int)=0); omega)]; rfl
  rw [hc]
  simp only []
  have hw:dWrite f (blockB (subI 0 code) code) ((DS.mk (-1) f0 f1).put f [])=((DS.mk (-1) f0 f1).put f (blockB (subI 0 code) code),true):=by
   unfold dWrite
   rw [if_pos (by rw [DS.put_pw]; show (-1:Int) < 0; omega),DS.get_put,List.nil_append]
   cases f <;> rfl
  rw [hw]
theorem jDo4_plain {s:JS} {cs:List Chg} (h:s.d.pw= -1):jDo4 cs s=(⟨s.d.put s.file (s.d.get s.file ++ blockB (subI s.c.sum (codeOf cs)) (codeOf cs)),s.down,s.file,⟨s.c.gen,pChgs s.c.ents cs,pWAfter s.c.ents s.c.wt cs,subI s.c.sum (codeOf cs),s.c.ed+12+(codeOf cs).length⟩⟩,true):=by
 unfold jDo4
 have hw:dWrite s.file (blockB (subI s.c.sum (codeOf cs)) (codeOf cs)) s.d=(s.d.put s.file (s.d.get s.file ++ blockB (subI s.c.sum (codeOf cs)) (codeOf cs)),true):=by unfold dWrite; rw [if_pos (by omega)]
 simp only []
 rw [hw]
/-- a commit, with power that does not fail, on a file that begins with what the journal has, and that is not full -/
theorem jDo_plain {s:JS} {cs:List Chg} (h:s.d.pw= -1) (hg:1≤s.c.gen) (he:s.c.ed≤(s.d.get s.file).length) (ho:overfullP s (codeOf cs).length=false) :
 jDo cs s=(⟨s.d.put s.file ((s.d.get s.file).take s.c.ed ++ blockB (subI s.c.sum (codeOf cs)) (codeOf cs)),s.down,s.file,⟨s.c.gen,pChgs s.c.ents cs,pWAfter s.c.ents s.c.wt cs,subI s.c.sum (codeOf cs),s.c.ed+12+(codeOf cs).length⟩⟩,true):=by
 have h1:jDo1 s=(s,true):=by unfold jDo1; rw [if_neg (by omega)]
 have h2:jDo2 s=(⟨s.d.put s.file ((s.d.get s.file).take s.c.ed),s.down,s.file,s.c⟩,true):=by
  unfold jDo2
  split
  ·rename_i hl
   have hc:dCut s.file s.c.ed s.d=(s.d.put s.file ((s.d.get s.file).take s.c.ed),true):=by
    unfold dCut; rw [if_neg (by omega),if_neg (by omega),if_neg (by omega)]
   rw [hc]
  ·have e:(s.d.get s.file).take s.c.ed=s.d.get s.file:=List.take_of_length_le (by omega)
   rw [e]
   have:s.d.put s.file (s.d.get s.file)=s.d:=by obtain ⟨d,_,f,_⟩:=s; cases f <;> rfl
   rw [this]
 unfold jDo
 rw [h1,show jThen (s,true) jDo2=jDo2 s from jThen_ok rfl,h2,show jThen (⟨s.d.put s.file ((s.d.get s.file).take s.c.ed),s.down,s.file,s.c⟩,true) (jDo3 (codeOf cs).length)=jDo3 (codeOf cs).length ⟨s.d.put s.file ((s.d.get s.file).take s.c.ed),s.down,s.file,s.c⟩ from jThen_ok rfl]
 have h3:jDo3 (codeOf cs).length (⟨s.d.put s.file ((s.d.get s.file).take s.c.ed),s.down,s.file,s.c⟩:JS)=(⟨s.d.put s.file ((s.d.get s.file).take s.c.ed),s.down,s.file,s.c⟩,true):=by
  unfold jDo3; rw [if_neg]; unfold overfullP at ho ⊢; simpa using ho
 rw [h3,jThen_ok rfl,jDo4_plain (by show (s.d.put _ _).pw= -1; rw [DS.put_pw]; exact h)]
 simp only [DS.get_put]
 cases s.file <;> rfl
theorem jOpen_empty (pw:Int):jOpen ⟨pw,[],[]⟩=⟨⟨pw,[],[]⟩,false,false,zeroC⟩:=by unfold jOpen; rw [openP_zero readF_nil readF_nil]
def emptyState:List UInt8:=stateB 1 []
theorem emptyState_len:emptyState.length=12:=rfl
/-- the first commit on an empty disk -/
theorem first_commit {cs:List Chg} (hm:May ⟨⟨-1,[],[]⟩,false,false,zeroC⟩ cs) :
 jCommit cs ⟨⟨-1,[],[]⟩,false,false,zeroC⟩=(⟨⟨-1,blockB (subI 0 emptyState) emptyState ++ blockB (subI (subI 0 emptyState) (codeOf cs)) (codeOf cs),[]⟩,false,false,⟨1,pChgs [] cs,pWAfter [] 0 cs,subI (subI 0 emptyState) (codeOf cs),36+(codeOf cs).length⟩⟩,0):=by
 have hl:=codeOf_len cs
 have hs:=hm.valid.size
 rw [jCommit_eq rfl hm (by rintro ⟨h,_⟩; cases h)]
 have h1:jDo1 (⟨⟨-1,[],[]⟩,false,false,zeroC⟩:JS)=(⟨⟨-1,blockB (subI 0 emptyState) emptyState,[]⟩,false,false,⟨1,[],0,subI 0 emptyState,24⟩⟩,true):=by
  unfold jDo1
  rw [if_pos (show zeroC.gen=0 from rfl),jCompact_plain rfl]
  rfl
 have h2:jDo cs (⟨⟨-1,[],[]⟩,false,false,zeroC⟩:JS)=jDo cs (⟨⟨-1,blockB (subI 0 emptyState) emptyState,[]⟩,false,false,⟨1,[],0,subI 0 emptyState,24⟩⟩:JS):=by
  have h3:jDo1 (⟨⟨-1,blockB (subI 0 emptyState) emptyState,[]⟩,false,false,⟨1,[],0,subI 0 emptyState,24⟩⟩:JS)=(⟨⟨-1,blockB (subI 0 emptyState) emptyState,[]⟩,false,false,⟨1,[],0,subI 0 emptyState,24⟩⟩,true):=by unfold jDo1; rw [if_neg (by show ¬ (1=0); omega)]
  unfold jDo
  rw [h1,h3]
 have hbl:(blockB (subI 0 emptyState) emptyState).length=24:=by rw [blockB_len,emptyState_len]
 rw [h2,jDo_plain rfl (by show 1≤1; omega) (by show 24≤(blockB _ _).length; omega) (by unfold overfullP; simp only [decide_eq_false_iff_not]; omega)]
 unfold jPowered
 simp only [if_true]
 have ht:(blockB (subI 0 emptyState) emptyState).take 24=blockB (subI 0 emptyState) emptyState:=List.take_of_length_le (by omega)
 show ((⟨⟨-1,(blockB (subI 0 emptyState) emptyState).take 24 ++ _,[]⟩,false,false,_⟩:JS),(0:Int))=_
 rw [ht]
def csA:List Chg:=[⟨[97],[7,8],false⟩]
theorem one_valid {k v:List UInt8} {b:Bool} (h1:1≤k.length) (h2:k.length≤40) (h3:v.length≤4096) (h4:b=true→v=[]):Valid [⟨k,v,b⟩]:=by
 refine ⟨fun c hc=>?_,fun c hc=>?_,fun c hc=>?_,by simp,?_⟩
 ·obtain rfl:=List.mem_singleton.1 hc; exact ⟨h1,h2⟩
 ·obtain rfl:=List.mem_singleton.1 hc; exact h3
 ·obtain rfl:=List.mem_singleton.1 hc; exact h4
 ·unfold codeSize chgSize
  cases b <;> simp <;> omega
def sumE:Int:=subI 0 emptyState
def blockE:List UInt8:=blockB sumE emptyState
def blockA:List UInt8:=blockB (subI sumE (codeOf csA)) (codeOf csA)
theorem blockE_len:blockE.length=24:=by unfold blockE; rw [blockB_len,emptyState_len]
theorem blockA_len:blockA.length=20:=by unfold blockA; rw [blockB_len]; rfl
def sA:JS:=⟨⟨-1,blockE ++ blockA,[]⟩,false,false,⟨1,[([97],[7,8])],6,subI sumE (codeOf csA),44⟩⟩
theorem awake_set:jCommit csA (jOpen ⟨-1,[],[]⟩)=(sA,0):=by
 have hm:May ⟨⟨-1,[],[]⟩,false,false,zeroC⟩ csA:=⟨by decide,by decide,one_valid (by decide) (by decide) (by decide) (fun h=>by cases h),(fun c hc h=>by obtain rfl:=List.mem_singleton.1 hc; cases h),by decide⟩
 rw [jOpen_empty,first_commit hm]
 rfl
theorem awake_len:sA.d.f0.length=44:=by show (blockE ++ blockA).length=44; rw [List.length_append,blockE_len,blockA_len]
theorem awake_drop:sA.d.f0.drop 36=[1,0,1,97,0,2,7,8]:=by
 show (blockE ++ blockA).drop 36=_
 rw [List.drop_append,List.drop_eq_nil_of_le (by rw [blockE_len]; omega),blockE_len,List.nil_append]
 unfold blockA blockB
 rw [List.drop_append_of_le_length (by simp [numB_length])]
 rw [List.drop_of_length_le (by simp [numB_length])]
 rfl
theorem empty_ok (pw:Int) (h0: -1≤pw) (h1:pw≤9223372036854775807):DS.Ok ⟨pw,[],[]⟩:=⟨h0,h1,Nat.zero_le _,Nat.zero_le _⟩
theorem awake_live:Live sA:=by
 have h:=(commit_live (cs:=csA) (open_live (empty_ok (-1) (by decide) (by decide)))).2.1
 rw [awake_set] at h
 exact (h rfl).2.1
theorem awake_open:jOpen sA.d=sA:=by unfold jOpen; rw [live_open awake_live]; rfl
theorem awake_none:jCommit [⟨[98],[],true⟩] sA=(sA,6):=by
 have hv:Valid [⟨[98],[],true⟩]:=one_valid (by decide) (by decide) (by decide) (fun _=>rfl)
 unfold jCommit
 rw [if_neg (by show ¬ (false=true); simp),if_neg (by simp),if_neg (by rw [(valid_zero _).2 hv]; simp),if_pos (by rfl)]
theorem awake_compact:∃ s,jCompactOp sA=(s,0)∧s.down=false∧s.d.f1.length=30∧s.c.gen=2:=by
 have hc:=jCompact_plain (s:=sA) rfl
 have he:jCompactOp sA=jPowered (jCompact sA):=by unfold jCompactOp; rw [if_neg (by show ¬ (false=true); simp),if_neg (by show ¬ (1=4611686018427387904); omega)]
 rw [he,hc]
 refine ⟨_,rfl,rfl,?_,rfl⟩
 show (blockB _ _).length=30
 rw [blockB_len]; rfl
/-! ### a disk with too little power -/
theorem jDo4_failP {s:JS} {cs:List Chg} (h:(dWrite s.file (blockB (subI s.c.sum (codeOf cs)) (codeOf cs)) s.d).2=false):jDo4 cs s=(⟨(dWrite s.file (blockB (subI s.c.sum (codeOf cs)) (codeOf cs)) s.d).1,s.down,s.file,s.c⟩,false):=by
 unfold jDo4; simp only []
 rcases hx:dWrite s.file (blockB (subI s.c.sum (codeOf cs)) (codeOf cs)) s.d with ⟨d2,b2⟩
 rw [hx] at h
 obtain rfl:b2=false:=h
 rfl
def sW:JS:=⟨⟨0,blockE ++ blockA.take 19,[]⟩,true,false,⟨1,[],0,sumE,24⟩⟩
theorem weak_set:jCommit csA (jOpen ⟨43,[],[]⟩)=(sW,360):=by
 have hm:May ⟨⟨43,[],[]⟩,false,false,zeroC⟩ csA:=⟨by decide,by decide,one_valid (by decide) (by decide) (by decide) (fun h=>by cases h),(fun c hc h=>by obtain rfl:=List.mem_singleton.1 hc; cases h),by decide⟩
 rw [jOpen_empty,jCommit_eq rfl hm (by rintro ⟨h,_⟩; cases h)]
 have hb:=blockE_len
 have ha:=blockA_len
 have h1:jDo1 (⟨⟨43,[],[]⟩,false,false,zeroC⟩:JS)=(⟨⟨19,blockE,[]⟩,false,false,⟨1,[],0,sumE,24⟩⟩,true):=by
  unfold jDo1
  rw [if_pos (show zeroC.gen=0 from rfl)]
  have hc:dCut false 0 (DS.mk 43 [] [])=(DS.mk 43 [] [],true):=by unfold dCut; rw [if_pos (show ((DS.mk 43 [] []).get false).length=0 from rfl)]
  have hw:dWrite false blockE (DS.mk 43 [] [])=(DS.mk 19 blockE [],true):=by
   unfold dWrite
   rw [if_neg (by show ¬ ((43:Int) < 0); omega),if_pos (by show ((blockE.length:Nat):Int)≤43; omega),hb]
   rfl
  have h0:(compactFile (⟨⟨43,[],[]⟩,false,false,zeroC⟩:JS))=false:=rfl
  rcases jCompact_cases (⟨⟨43,[],[]⟩,false,false,zeroC⟩:JS) with ⟨d,he,hd⟩ | ⟨d,he,hk,hd⟩
  ·rw [h0] at hd
   rcases hd with hd | ⟨_,hd⟩
   ·have:=hc.symm.trans hd; cases this
   ·have hd:dWrite false blockE (dCut false 0 (DS.mk 43 [] [])).1=(d,false):=hd
    rw [hc] at hd
    have:=hw.symm.trans hd; cases this
  ·rw [h0] at hd
   have hd:dWrite false blockE (dCut false 0 (DS.mk 43 [] [])).1=(d,true):=hd
   rw [hc] at hd
   have:=hw.symm.trans hd
   obtain rfl:DS.mk 19 blockE []=d:=by injection this
   rw [he]; rfl
 have h2:jDo2 (⟨⟨19,blockE,[]⟩,false,false,⟨1,[],0,sumE,24⟩⟩:JS)=(⟨⟨19,blockE,[]⟩,false,false,⟨1,[],0,sumE,24⟩⟩,true):=by
  unfold jDo2; rw [if_neg (by show ¬ (24 < blockE.length); omega)]
 have h3:jDo3 (codeOf csA).length (⟨⟨19,blockE,[]⟩,false,false,⟨1,[],0,sumE,24⟩⟩:JS)=(⟨⟨19,blockE,[]⟩,false,false,⟨1,[],0,sumE,24⟩⟩,true):=by
  unfold jDo3; rw [if_neg (by unfold overfullP; decide)]
 have h4:jDo4 csA (⟨⟨19,blockE,[]⟩,false,false,⟨1,[],0,sumE,24⟩⟩:JS)=(⟨⟨0,blockE ++ blockA.take 19,[]⟩,false,false,⟨1,[],0,sumE,24⟩⟩,false):=by
  have hw:dWrite false blockA (DS.mk 19 blockE [])=(DS.mk 0 (blockE ++ blockA.take 19) [],false):=by
   unfold dWrite
   rw [if_neg (by show ¬ ((19:Int) < 0); omega),if_neg (by show ¬ (((blockA.length:Nat):Int)≤19); omega)]
   rfl
  have hf:=jDo4_failP (cs:=csA) (s:=(⟨⟨19,blockE,[]⟩,false,false,⟨1,[],0,sumE,24⟩⟩:JS)) (by show (dWrite false blockA (DS.mk 19 blockE [])).2=false; rw [hw])
  rw [hf]
  show ((⟨(dWrite false blockA (DS.mk 19 blockE [])).1,false,false,_⟩:JS),false)=_
  rw [hw]
 unfold jDo
 rw [h1,show jThen ((⟨⟨19,blockE,[]⟩,false,false,⟨1,[],0,sumE,24⟩⟩:JS),true) jDo2=jDo2 _ from jThen_ok rfl,h2,show jThen ((⟨⟨19,blockE,[]⟩,false,false,⟨1,[],0,sumE,24⟩⟩:JS),true) (jDo3 (codeOf csA).length)=jDo3 (codeOf csA).length _ from jThen_ok rfl,h3,show jThen ((⟨⟨19,blockE,[]⟩,false,false,⟨1,[],0,sumE,24⟩⟩:JS),true) (jDo4 csA)=jDo4 csA _ from jThen_ok rfl,h4]
 rfl
theorem weak_len:sW.d.f0.length=43:=by
 show (blockE ++ blockA.take 19).length=43
 rw [List.length_append,blockE_len,List.length_take,blockA_len]; rfl
theorem chainE:Chain blockE ⟨1,[],0,sumE,24⟩:=by
 have h:=readF_state (P:=[]) (gen:=1) List.Pairwise.nil ⟨fun e he=>(by cases he),fun e he=>(by cases he)⟩ (by decide) (by decide) (by decide)
 exact (readF_chain h).1
/-- what is found on it -/
def sX:JS:=⟨⟨-1,blockE ++ blockA.take 19,[]⟩,false,false,⟨1,[],0,sumE,24⟩⟩
theorem weak_open:jOpen ⟨-1,blockE ++ blockA.take 19,[]⟩=sX:=by
 have h:=readF_torn chainE blockE_len (subI sumE (codeOf csA)) (codeOf csA) 19 (by decide) (by decide)
 have e:openP ⟨-1,blockE ++ blockA.take 19,[]⟩=(false,⟨1,[],0,sumE,24⟩):=openP_of (f:=false) h (fun c' hc'=>by
  have hc':readF []=some c':=hc'
  rw [readF_nil] at hc'; cases hc')
 unfold jOpen
 rw [e]; rfl
theorem weak_again:∃ s,jCommit [⟨[98],[],false⟩] sX=(s,0)∧s.d.f0.length=42:=by
 have hb:=blockE_len
 have hv:Valid [⟨[98],[],false⟩]:=one_valid (by decide) (by decide) (by decide) (fun _=>rfl)
 have hm:May sX [⟨[98],[],false⟩]:=⟨by decide,by decide,hv,(fun c hc h=>by obtain rfl:=List.mem_singleton.1 hc; cases h),by decide⟩
 have hl:(codeOf [⟨[98],[],false⟩]).length=6:=by decide
 rw [jCommit_eq rfl hm (by rintro ⟨h,_⟩; cases h),jDo_plain rfl (by decide) (by show 24≤(blockE ++ blockA.take 19).length; rw [List.length_append]; omega) (by unfold overfullP; decide)]
 refine ⟨_,rfl,?_⟩
 show ((blockE ++ blockA.take 19).take 24 ++ blockB _ _).length=42
 rw [List.length_append,blockB_len,hl,List.length_take,List.length_append]
 omega
end
section
open Go.RowKit SeedP Go.Maps
/-- a disk, above block B -/
structure DL (B:Nat) (w:World) (db:Nat) (d:DS):Prop where
 st:St w
 pos:0 < B
 le:B≤db
 disk:DW w db (fun g=>B≤g∧g ≠ db) d
/-- a journal over a disk, above block B -/
structure JL (B:Nat) (w:World) (db jb:Nat) (s:JS):Prop where
 pos:0 < B
 jle:B≤jb
 dle:B≤db
 jw:∃ mb,B≤mb∧JW w jb db mb (fun g=>B≤g∧g ≠ jb∧g ≠ db∧g ≠ mb) s
theorem JL.st {B:Nat} {w:World} {db jb:Nat} {s:JS} (h:JL B w db jb s):St w:=by obtain ⟨_,_,_,mb,_,h⟩:=h; exact h.st
theorem JL.ok {B:Nat} {w:World} {db jb:Nat} {s:JS} (h:JL B w db jb s):s.Ok:=by obtain ⟨_,_,_,mb,_,h⟩:=h; exact h.ok
theorem JL.dl {B:Nat} {w:World} {db jb:Nat} {s:JS} (h:JL B w db jb s):DL B w db s.d:=by
 obtain ⟨h0,h1,h2,mb,h3,h⟩:=h
 exact ⟨h.st,h0,h2,h.disk.mono (fun g hg=>⟨hg.1,hg.2.2.1⟩)⟩
theorem JL.below {B:Nat} {w w':World} {db jb:Nat} {s:JS} (h:JL B w db jb s) (hb:Below w.heap.size w w'):JL B w' db jb s:=by
 obtain ⟨h0,h1,h2,mb,h3,h⟩:=h
 exact ⟨h0,h1,h2,mb,h3,h.below hb⟩
theorem JL.size {B:Nat} {w:World} {db jb:Nat} {s:JS} (h:JL B w db jb s):B < w.heap.size:=by
 obtain ⟨h0,h1,h2,mb,h3,h⟩:=h
 have:=h.lt; omega
theorem JL.cut {B:Nat} {w w':World} {db jb:Nat} {s:JS} (h:JL B w db jb s) (hb:Below w.heap.size w w'):Below B w w':=hb.mono (by have:=h.size; omega)
theorem DL.size {B:Nat} {w:World} {db:Nat} {d:DS} (h:DL B w db d):B < w.heap.size:=by have:=h.disk.lt; have:=h.le; omega
theorem DL.cut {B:Nat} {w w':World} {db:Nat} {d:DS} (h:DL B w db d) (hb:Below w.heap.size w w'):Below B w w':=hb.mono (by have:=h.size; omega)
theorem DL.below {B:Nat} {w w':World} {db:Nat} {d:DS} (h:DL B w db d) (hb:Below w.heap.size w w'):DL B w' db d:=
 ⟨h.st.below hb h.st.pos,h.pos,h.le,h.disk.grown (Grown.of_below hb (S:=fun _=>False)) (fun h=>h) (fun _ _ h=>h)⟩
theorem JW.toL {B:Nat} {w:World} {jb db mb:Nat} {p:Nat→Prop} {s:JS} (h:JW w jb db mb p s) (h0:0 < B) (h1:B≤jb) (h2:B≤db) (h3:B≤mb) (hp:∀ g,p g→B≤g):JL B w db jb s:=
 ⟨h0,h1,h2,mb,h3,h.mono (fun g hg=>⟨hp g hg,(h.away g hg).1,(h.away g hg).2.1,(h.away g hg).2.2.1⟩) (fun g hg=>⟨hg.2.1,hg.2.2.1,hg.2.2.2,by omega⟩)⟩
theorem DL.new (w:World) (hs:St w) (pw:Int):DL w.heap.size (w.alloc (.cells #[.int .i64 pw,.slice none 0 0,.slice none 0 0] 28)) w.heap.size ⟨pw,[],[]⟩:=
 ⟨hs.alloc _,hs.pos,Nat.le_refl _,.slice none 0 0,.slice none 0 0,fun _=>False,fun _=>False,Blk.new w _ [.int .i64 pw,.slice none 0 0,.slice none 0 0],Or.inl ⟨Or.inl rfl,rfl⟩,Or.inl ⟨Or.inl rfl,rfl⟩,(fun _ h=>h.elim),(fun _ h=>h.elim),(fun _ h=>by rcases h with h | h <;> exact h.elim)⟩
/-- the power is set -/
theorem DL.power {B:Nat} {w:World} {db:Nat} {d:DS} (h:DL B w db d) (pw:Int):DL B (w.setCell ⟨db,0,none⟩ (.int .i64 pw)) db ⟨pw,d.f0,d.f1⟩:=by
 obtain ⟨hs,h0,h1,v0,v1,q0,q1,hb,hr0,hr1,hq0,hq1,hun⟩:=h
 have hg:Grown (fun k=>k=db) w (w.setCell ⟨db,0,none⟩ (.int .i64 pw)):=Grown.setCell (S:=fun k=>k=db) (Grown.refl _ _) (a:=⟨db,0,none⟩) rfl _
 exact ⟨hs.block (hg.block 0 hs.pos (fun e=>by omega)),h0,h1,v0,v1,q0,q1,hb.set 0 _,hr0.grown hg (fun g hq=>(hq0 g hq).1.2),hr1.grown hg (fun g hq=>(hq1 g hq).2),hq0,hq1,fun g hq=>⟨Nat.lt_of_lt_of_le (hun g hq).1 hg.size,(hun g hq).2.keep (hg.block g (hun g hq).1 (by rcases hq with hq | hq; exact (hq0 g hq).1.2; exact (hq1 g hq).2))⟩⟩
theorem DL.power_below {B:Nat} {w:World} {db:Nat} {d:DS} (h:DL B w db d) (v:Value):Below B w (w.setCell ⟨db,0,none⟩ v):=
 (Grown.setCell (S:=fun k=>k=db) (Grown.refl _ w) (a:=⟨db,0,none⟩) rfl v).below (fun k e=>by have:=h.le; omega) (by have:=h.size; omega)
/-- the cells of a disk -/
theorem DL.cells {B:Nat} {w:World} {db:Nat} {d:DS} (h:DL B w db d):∃ a0 c0 a1 c1,w.cell? ⟨db,0,none⟩=some (.int .i64 d.pw)∧w.cell? ⟨db,1,none⟩=some (.slice a0 d.f0.length c0)∧w.cell? ⟨db,2,none⟩=some (.slice a1 d.f1.length c1) ∧
 RdB w w.heap.size (.slice a0 d.f0.length c0) d.f0∧RdB w w.heap.size (.slice a1 d.f1.length c1) d.f1∧(∀ o,w.frozen? ⟨db,o,none⟩=false):=by
 obtain ⟨hs,h0,h1,v0,v1,q0,q1,hb,hr0,hr1,hq0,hq1⟩:=h
 have r0:=hr0.toB
 have r1:=hr1.toB
 obtain ⟨a0,c0,rfl,_,_,_⟩:=r0.open_
 obtain ⟨a1,c1,rfl,_,_,_⟩:=r1.open_
 exact ⟨a0,c0,a1,c1,hb.cell 0 (by simp),hb.cell 1 (by simp),hb.cell 2 (by simp),r0,r1,fun o=>hb.frozen o⟩
/-- what is written holds no block at the law's bottom -/
theorem JL.of_grown {B:Nat} {w w':World} {db jb mb:Nat} {s s':JS} (h0:0 < B) (h1:B≤jb) (h2:B≤db) (h3:B≤mb) (h:JW w jb db mb (fun g=>B≤g∧g ≠ jb∧g ≠ db∧g ≠ mb) s) (h':JW w' jb db mb (fun g=>(B≤g∧g ≠ jb∧g ≠ db∧g ≠ mb)∨w.heap.size≤g) s') (hg:Grown (fun k=>k=jb∨k=db∨k=mb) w w'):JL B w' db jb s'∧Below B w w':=by
 have:=h.lt
 refine ⟨h'.toL h0 h1 h2 h3 (fun g hg=>by rcases hg with hg | hg; exact hg.1; omega),hg.below (fun k e=>by omega) (by omega)⟩
/-- bytes that an act is given lie elsewhere -/
theorem JL.out {B:Nat} {w:World} {db jb:Nat} {s:JS} (h:JL B w db jb s) {v:Value} {l:List UInt8} (hv:RdB w B v l):∀ mb,B≤mb→RdP w (fun g=>g ≠ jb∧g ≠ db∧g ≠ mb) v l:=fun mb hm=>hv.toP (fun g hg=>by have:=h.jle; have:=h.dle; omega)
theorem Blk.type {w:World} {g:Nat} {t t':TypeId} {cs cs':List Value} (h:Blk w g t cs) (h':Blk w g t' cs'):t=t':=by
 unfold Blk at h h'
 rw [h] at h'
 simp only [Option.some.injEq,Obj.cells.injEq] at h'
 exact h'.2.1
/-- a block of another type is none of the journal's three -/
theorem JW.other {w:World} {jb db mb:Nat} {p:Nat→Prop} {s:JS} (h:JW w jb db mb p s) {g:Nat} {t:TypeId} {cs:List Value} (hb:Blk w g t cs) (h1:t ≠ 81) (h2:t ≠ 28):g ≠ jb∧g ≠ db∧g ≠ mb:=by
 obtain ⟨L,hM,_⟩:=h.map
 obtain ⟨v0,v1,q0,q1,hd,_⟩:=h.disk
 exact ⟨fun e=>h1 (hb.type (e ▸ h.blk)),fun e=>h2 (hb.type (e ▸ hd)),hb.not_map hM⟩
/-! ### the acts -/
theorem open_l {B:Nat} {w:World} {db:Nat} {d:DS} (h:DL B w db d) (hok:d.Ok) :
 Calls Tryz.prog 10 #[.pointer (some ⟨db,0,none⟩)] w fun e w'=>∃ jb,e=.returned (.tuple #[.pointer (some ⟨jb,0,none⟩),.int .i64 0])∧JL B w' db jb (jOpen d)∧Below w.heap.size w w':=by
 have hz:=h.size
 have h0:=h.pos
 have h1:=h.le
 refine (open_c db (fun g=>B≤g∧g ≠ db) d w h.st h.disk hok (fun g hg=>⟨hg.2,by omega⟩)).mono ?_
 rintro e w' ⟨jb,mb,rfl,hj,hm,hJ,hb⟩
 exact ⟨jb,rfl,hJ.toL h0 (by omega) h1 (by omega) (fun g hg=>by rcases hg with hg | hg; exact hg.1.1; omega),hb⟩
theorem set_l {B:Nat} {w:World} {db jb:Nat} {s:JS} (h:JL B w db jb s) (k val:List UInt8) (v:Value) (hv:∀ mb,B≤mb→JW w jb db mb (fun g=>B≤g∧g ≠ jb∧g ≠ db∧g ≠ mb) s→RdP w (fun g=>g ≠ jb∧g ≠ db∧g ≠ mb) v val) (hk:k.length≤1073741824) (hl:val.length≤1073741824) :
 Calls Tryz.prog 25 #[.pointer (some ⟨jb,0,none⟩),strV k,v] w fun e w'=>e=.returned (.int .i64 (jCommit [⟨k,val,false⟩] s).2)∧JL B w' db jb (jCommit [⟨k,val,false⟩] s).1∧Below B w w':=by
 obtain ⟨h0,h1,h2,mb,h3,hJ⟩:=h
 refine (set_c k val v w hJ (hv mb h3 hJ) hk hl).mono ?_
 rintro e w' ⟨rfl,hJ',hg⟩
 exact ⟨rfl,JL.of_grown h0 h1 h2 h3 hJ hJ' hg⟩
theorem drop_l {B:Nat} {w:World} {db jb:Nat} {s:JS} (h:JL B w db jb s) (k:List UInt8) (hk:k.length≤1073741824) :
 Calls Tryz.prog 26 #[.pointer (some ⟨jb,0,none⟩),strV k] w fun e w'=>e=.returned (.int .i64 (jCommit [⟨k,[],true⟩] s).2)∧JL B w' db jb (jCommit [⟨k,[],true⟩] s).1∧Below B w w':=by
 obtain ⟨h0,h1,h2,mb,h3,hJ⟩:=h
 refine (drop_c k w hJ hk).mono ?_
 rintro e w' ⟨rfl,hJ',hg⟩
 exact ⟨rfl,JL.of_grown h0 h1 h2 h3 hJ hJ' hg⟩
theorem compact_l {B:Nat} {w:World} {db jb:Nat} {s:JS} (h:JL B w db jb s) :
 Calls Tryz.prog 12 #[.pointer (some ⟨jb,0,none⟩)] w fun e w'=>e=.returned (.int .i64 (jCompactOp s).2)∧JL B w' db jb (jCompactOp s).1∧Below B w w':=by
 obtain ⟨h0,h1,h2,mb,h3,hJ⟩:=h
 refine (compactOp_c w hJ).mono ?_
 rintro e w' ⟨rfl,hJ',hg⟩
 exact ⟨rfl,JL.of_grown h0 h1 h2 h3 hJ hJ' hg⟩
theorem weight_l {B:Nat} {w:World} {db jb:Nat} {s:JS} (h:JL B w db jb s) :
 Calls Tryz.prog 32 #[.pointer (some ⟨jb,0,none⟩)] w fun e w'=>e=.returned (.int .i64 (if s.down then 0 else s.c.wt))∧w=w':=by
 obtain ⟨h0,h1,h2,mb,h3,hJ⟩:=h
 exact weight_c w hJ
theorem generation_l {B:Nat} {w:World} {db jb:Nat} {s:JS} (h:JL B w db jb s) :
 Calls Tryz.prog 33 #[.pointer (some ⟨jb,0,none⟩)] w fun e w'=>e=.returned (.int .i64 (if s.down then 0 else s.c.gen))∧w=w':=by
 obtain ⟨h0,h1,h2,mb,h3,hJ⟩:=h
 exact generation_c w hJ
/-- what a journal has -/
def JS.ents (s:JS):PEnts:=if s.down then [] else s.c.ents
theorem get_l {B:Nat} {w:World} {db jb:Nat} {s:JS} (h:JL B w db jb s) (k:List UInt8) (hk:k.length≤140737488351232) :
 Calls Tryz.prog 31 #[.pointer (some ⟨jb,0,none⟩),strV k] w fun e w'=>(∃ a c,e=.returned (.tuple #[.slice a ((pFind s.ents k).getD []).length c,.bool (pFind s.ents k).isSome])∧RdB w' w'.heap.size (.slice a ((pFind s.ents k).getD []).length c) ((pFind s.ents k).getD []))∧Below w.heap.size w w':=by
 obtain ⟨h0,h1,h2,mb,h3,hJ⟩:=h
 refine (get_c k w hJ hk).mono ?_
 rintro e w' ⟨⟨v,rfl,hv⟩,hb⟩
 refine ⟨?_,hb⟩
 have e1:(if s.down then [] else (pFind s.c.ents k).getD [])=(pFind s.ents k).getD []:=by unfold JS.ents; cases s.down <;> rfl
 have e2:(!s.down && (pFind s.c.ents k).isSome)=(pFind s.ents k).isSome:=by unfold JS.ents; cases s.down <;> simp [pFind]
 rw [e1] at hv
 rw [e2]
 have hr:=RdB.of_own hv
 obtain ⟨a,c,rfl,_,_,_⟩:=hr.open_
 exact ⟨a,c,rfl,hr⟩
theorem keys_l {B:Nat} {w:World} {db jb:Nat} {s:JS} (h:JL B w db jb s) (pf:List UInt8) (hpf:pf.length≤140737488351232) :
 Calls Tryz.prog 34 #[.pointer (some ⟨jb,0,none⟩),strV pf] w fun e w'=>∃ v,e=.returned v ∧
  w'.ownsRow w.heap.size 9 1 v ((keysOf s.ents).filter (isPref pf)).length (((keysOf s.ents).filter (isPref pf)).map strV)∧Below w.heap.size w w':=by
 obtain ⟨h0,h1,h2,mb,h3,hJ⟩:=h
 refine (keysFn_c pf w hJ hpf).mono ?_
 rintro e w' ⟨v,rfl,hv,hb⟩
 have e1:(if s.down then [] else (keysOf s.c.ents).filter (isPref pf))=(keysOf s.ents).filter (isPref pf):=by unfold JS.ents; cases s.down <;> rfl
 rw [e1] at hv
 exact ⟨v,rfl,hv,hb⟩
set_option maxRecDepth 100000 in
/-- empty -/
theorem empty_c (w:World) (hs:St w):Calls Tryz.prog 9 #[] w fun e w'=>e=.returned (.pointer (some ⟨w.heap.size,0,none⟩))∧DL w.heap.size w' w.heap.size ⟨-1,[],[]⟩∧Below w.heap.size w w':=by
 have hd:=Lib.hid (DL.new w hs (-1))
 have hb:=Lib.hid ((Below.refl _ w).alloc (Nat.le_refl _) (.cells #[.int .i64 (-1),.slice none 0 0,.slice none 0 0] 28))
 clear hs
 go_enter Tryz.func9,Tryz.ntmps9
 go_wp2
 go_ret
 exact ⟨rfl,hd.out,hb.out⟩
end
section
open Go.RowKit SeedP Go.Maps
/-- the entry at the front of bytes, and how many it has -/
def rOne (b:List UInt8):Option ((List UInt8 × List UInt8) × Nat):=
 if b.length < 1 then none
 else if b.length < 3+(b.getD 0 0).toNat then none
 else if b.length < 3+(b.getD 0 0).toNat+numV ((b.drop (1+(b.getD 0 0).toNat)).take 2) then none
 else some (((b.drop 1).take (b.getD 0 0).toNat,(b.drop (3+(b.getD 0 0).toNat)).take (numV ((b.drop (1+(b.getD 0 0).toNat)).take 2))),3+(b.getD 0 0).toNat+numV ((b.drop (1+(b.getD 0 0).toNat)).take 2))
def fineE (e:List UInt8 × List UInt8):Prop:=1≤e.1.length∧e.1.length≤40∧e.2.length≤4096
theorem rOne_some {b:List UInt8} {e:List UInt8 × List UInt8} {n:Nat} (h:rOne b=some (e,n)):n=3+e.1.length+e.2.length∧n≤b.length∧e.1.length=(b.getD 0 0).toNat:=by
 unfold rOne at h
 split at h
 ·cases h
 ·split at h
  ·cases h
  ·split at h
   ·cases h
   ·simp only [Option.some.injEq,Prod.mk.injEq] at h
    obtain ⟨rfl,rfl⟩:=h
    simp only [List.length_take,List.length_drop]
    omega
theorem rNum1 {b:List UInt8} (h:1≤b.length):rNum 1 (b,false)=((b.getD 0 0).toNat,b.drop 1,false):=by
 cases b with
 | nil=>simp at h
 | cons x r=>unfold rNum; rw [rTake_ok (by simp)]; simp [numV]
/-- the reader at one entry -/
theorem kv_step (b:List UInt8):(∃ e n,rOne b=some (e,n)∧fineE e∧rKey (b,false)=(e.1,b.drop (1+e.1.length),false)∧rVal (rKey (b,false)).2=(e.2,b.drop n,false))∨((rVal (rKey (b,false)).2).2.2=true∧∀ e n,rOne b=some (e,n)→¬ fineE e):=by
 by_cases h1:b.length < 1
 ·right
  have e1:rNum 1 (b,false)=(0,b,true):=by unfold rNum; rw [rTake_short (by omega)]; rfl
  refine ⟨?_,fun e n h=>?_⟩
  ·have ek:(rKey (b,false)).2=(b,true):=by unfold rKey; rw [e1]; simp only []; rw [if_pos (Or.inl (by omega)),rTake_bad]
   rw [ek]
   have e2:rNum 2 (b,true)=(0,b,true):=by unfold rNum; rw [rTake_bad]; rfl
   unfold rVal
   rw [e2]
   simp only []
   rw [if_neg (by omega),rTake_bad]
  ·unfold rOne at h; rw [if_pos h1] at h; cases h
 ·have e1:=rNum1 (b:=b) (by omega)
  have hk8:=(b.getD 0 0).toNat_lt
  generalize hk:(b.getD 0 0).toNat=k at *
  have bad:∀ l:List UInt8,(rVal (l,true)).2.2=true:=fun l=>by
   have e2:rNum 2 (l,true)=(0,l,true):=by unfold rNum; rw [rTake_bad]; rfl
   unfold rVal
   rw [e2]
   simp only []
   rw [if_neg (by omega),rTake_bad]
  by_cases hkk:k < 1∨40 < k
  ·right
   have ek:(rKey (b,false)).2=(b.drop 1,true):=by unfold rKey; rw [e1]; simp only []; rw [if_pos hkk,rTake_bad]
   refine ⟨by rw [ek]; exact bad _,fun e n h hf=>?_⟩
   have:=rOne_some h
   unfold fineE at hf
   omega
  ·have ek0:rKey (b,false)=rTake k (b.drop 1,false):=by unfold rKey; rw [e1]; simp only []; rw [if_neg hkk]
   by_cases hs:(b.drop 1).length < k
   ·right
    have ek:(rKey (b,false)).2=(b.drop 1,true):=by rw [ek0,rTake_short hs]
    refine ⟨by rw [ek]; exact bad _,fun e n h hf=>?_⟩
    have:=rOne_some h
    rw [List.length_drop] at hs
    omega
   ·have ek:rKey (b,false)=((b.drop 1).take k,b.drop (1+k),false):=by rw [ek0,rTake_ok (by omega),List.drop_drop]
    rw [List.length_drop] at hs
    have hkl:((b.drop 1).take k).length=k:=by rw [List.length_take,List.length_drop]; omega
    by_cases h2:(b.drop (1+k)).length < 2
    ·right
     rw [List.length_drop] at h2
     refine ⟨?_,fun e n h hf=>?_⟩
     ·rw [ek]
      have e2:rNum 2 (b.drop (1+k),false)=(0,b.drop (1+k),true):=by unfold rNum; rw [rTake_short (by rw [List.length_drop]; omega)]; rfl
      unfold rVal
      rw [e2]
      simp only []
      rw [if_neg (by omega),rTake_bad]
     ·have:=rOne_some h
      omega
    ·have e2:rNum 2 (b.drop (1+k),false)=(numV ((b.drop (1+k)).take 2),b.drop (3+k),false):=by
      unfold rNum
      rw [rTake_ok (by omega),List.drop_drop,show 1+k+2=3+k by omega]
     rw [List.length_drop] at h2
     generalize hm:numV ((b.drop (1+k)).take 2)=m at *
     by_cases hm4:4096 < m
     ·right
      refine ⟨?_,fun e n h hf=>?_⟩
      ·rw [ek]
       unfold rVal
       rw [e2]
       simp only []
       rw [if_pos hm4,rTake_bad]
      ·unfold rOne at h
       rw [hk,if_neg h1] at h
       split at h
       ·cases h
       ·split at h
        ·cases h
        ·rename_i h3
         simp only [Option.some.injEq,Prod.mk.injEq] at h
         obtain ⟨rfl,rfl⟩:=h
         rw [hm] at h3 hf
         have:=hf.2.2
         rw [List.length_take,List.length_drop] at this
         omega
     ·have ev:rVal (rKey (b,false)).2=rTake m (b.drop (3+k),false):=by rw [ek]; unfold rVal; rw [e2]; simp only []; rw [if_neg hm4]
      by_cases hv:(b.drop (3+k)).length < m
      ·right
       refine ⟨by rw [ev,rTake_short hv],fun e n h hf=>?_⟩
       rw [List.length_drop] at hv
       unfold rOne at h
       rw [hk,hm,if_neg h1] at h
       split at h
       ·cases h
       ·split at h
        ·cases h
        ·omega
      ·left
       rw [List.length_drop] at hv
       have hr:rOne b=some (((b.drop 1).take k,(b.drop (3+k)).take m),3+k+m):=by
        unfold rOne
        rw [hk,hm,if_neg h1,if_neg (by omega),if_neg (by omega)]
       have hvl:((b.drop (3+k)).take m).length=m:=by rw [List.length_take,List.length_drop]; omega
       refine ⟨_,_,hr,⟨by simp only []; omega,by simp only []; omega,by simp only []; omega⟩,?_,?_⟩
       ·rw [ek]; simp only []; rw [hkl]
       ·rw [ev,rTake_ok (by rw [List.length_drop]; omega),List.drop_drop]
end
section
open Go.RowKit SeedP Go.Maps
theorem conv_sb (w:World) (l:List UInt8) (hl:l.length≤maxLen):∃ c w',(convert 9 25 (strV l)).run Tryz.prog w=.ok (.slice (some ⟨w.heap.size,0,none⟩) l.length c) w'∧RdP w' (fun g=>g=w.heap.size) (.slice (some ⟨w.heap.size,0,none⟩) l.length c) l∧Below w.heap.size w w':=by
 have hr:=run_bytes_of_string (P:=Tryz.prog) w 9 25 5 ⟨l.toArray⟩ Tryz.underlying9 Tryz.underlying25 Tryz.underlying5
 have hs:(⟨l.toArray⟩:ByteArray).size=l.length:=List.size_toArray
 rw [hs] at hr
 have hge:=grownCap_ge w l.length 0 5
 have hle:=grownCap_le_maxLen w l.length 0 5 hl
 generalize grownCap w l.length 0 5=c at *
 refine ⟨c,_,hr,Or.inr ⟨w.heap.size,0,c,rfl,hge,hle,rfl,fun j hj=>?_⟩,(((Below.refl _ w).drew).alloc (Nat.le_refl _) _)⟩
 rw [Nat.zero_add,cell_of_row _ w.heap.size j (bytesRow ⟨l.toArray⟩ c) 5 _ (heap_alloc_new w.drew _)]
 unfold bytesRow
 rw [Array.getElem?_append_left (by simpa using hj)]
 rw [List.getD_eq_getElem?_getD,List.getElem?_eq_getElem hj]
 simp [hj]
end
end Go.Proofs.YtondomklkapogaaGreatDoor
