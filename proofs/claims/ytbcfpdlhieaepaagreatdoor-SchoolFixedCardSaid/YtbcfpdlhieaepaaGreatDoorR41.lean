/- The walk of Open of a school. -/
import Derived.Test.YtbcfpdlhieaepaaGreatDoorR40
import Derived.Test.YtbcfpdlhieaepaaGreatDoorR26
import Derived.Test.YtbcfpdlhieaepaaGreatDoorR27
import Derived.Test.YtbcfpdlhieaepaaGreatDoorR34
import Derived.Test.YtbcfpdlhieaepaaGreatDoorR35
import Derived.Test.YtbcfpdlhieaepaaGreatDoorR28
import Derived.BigQuiet
import Derived.Test.YtbcfpdlhieaepaaGreatDoorR30
namespace Go.Proofs.YtbcfpdlhieaepaaGreatDoor
section
open Go.RowKit SeedP Go.Maps
/-- what Open hands back, over a disk that may be opened -/
def OpenPost (w:World) (db:Nat) (p:Nat→Prop) (d:DS) (e:Ending) (w':World):Prop:=
 (isSchoolP (jOpen d).c.ents=true∧∃ sb jb mb p',e=.returned (.tuple #[sv sb,.int .i64 0])∧w.heap.size≤sb∧w.heap.size≤jb∧w.heap.size≤mb∧(∀ g,p' g→((p g∧g < w.heap.size)∨w.heap.size≤g)∧g < w'.heap.size)∧SW w' sb jb db mb p' (jOpen d)) ∨
 (isSchoolP (jOpen d).c.ents=false∧e=.returned (.tuple #[.pointer none,.int .i64 370]))
set_option maxRecDepth 100000 in
theorem sopen_c (db:Nat) (p:Nat→Prop) (d:DS) (w:World) (hs:St w) (hd:DW w db p d) (hok:d.Ok) (hp:∀ g,p g→g ≠ db∧g ≠ 0) :
 Calls Tryz.prog 13 #[.pointer (some ⟨db,0,none⟩)] w fun e w'=>OpenPost w db p d e w'∧Below w.heap.size w w':=by
 have HO:=Lib.hid (open_c db p d w hs hd hok hp)
 have hup:(jOpen d).down=false:=(open_live hok).up
 unfold OpenPost
 generalize jOpen d=s at *
 clear hs hd hok
 go_enter Tryz.func13,Tryz.ntmps13
 go_wp2_with fail
 refine HO.out.mono ?_
 rintro e w1 ⟨jb,mb,rfl,hj,hm,hJ,hb⟩
 have HS:=Lib.hid (isSchool_c w1 hJ hup)
 have HB:=Lib.hid hb
 have HJ:=Lib.hid hJ
 clear hJ hb HO hp
 obtain ⟨b,hb0⟩:∃ b,isSchoolP s.c.ents=b:=⟨_,rfl⟩
 rw [hb0] at HS
 have HB0:=Lib.hid hb0
 clear hb0
 cases b with
 | true=>
   go_wp2_with fail
   refine HS.out.mono ?_
   rintro e w2 ⟨rfl,hb2⟩
   go_wp2
   refine bodyPost_ret (results_tmp2 rfl _ _ _) rfl ?_
   have hB2:=HB.out.trans (hb2.mono HB.out.size)
   have hz:=HB.out.size
   have hz2:=hb2.size
   refine ⟨Or.inl ⟨HB0.out,w2.heap.size,jb,mb,_,rfl,by omega,hj,hm,?_,⟨(((HJ.out.below hb2).low).below ((Below.refl _ _).alloc (Nat.le_refl _) _)),Blk.new w2 _ _⟩⟩,hB2.alloc hB2.size _⟩
   rintro g ⟨hg,hlt⟩
   refine ⟨?_,by simp; omega⟩
   rcases hg with hg | hg
   ·exact Or.inl hg
   ·exact Or.inr hg.1
 | false=>
   go_wp2_with fail
   refine HS.out.mono ?_
   rintro e w2 ⟨rfl,hb2⟩
   go_wp2
   refine bodyPost_ret (results_tmp2 rfl _ _ _) rfl ?_
   exact ⟨Or.inr ⟨HB0.out,rfl⟩,HB.out.trans (hb2.mono HB.out.size)⟩
end
section
open Go.RowKit SeedP Go.Maps
/-- a school of these entries, as far as plans see it -/
def dum (P:PEnts):JS:=⟨⟨-1,[],[]⟩,false,false,⟨0,P,0,0,0⟩⟩
/-- a school at full power that has these entries -/
structure AtP (s:JS) (g:Nat) (P:PEnts):Prop where
 full:SFull s g
 ents:s.c.ents=P
theorem AtP.plan {s:JS} {g:Nat} {P:PEnts} (h:AtP s g P) (a:SActP):doP a s=runPlan (planP a (dum P)) s:=by
 rw [do_plan a h.full.live.up]
 exact congrArg (fun q=>runPlan q s) (plan_ents (s:=dum P) (s':=s) rfl h.full.live.up h.ents a)
theorem AtP.no {s:JS} {g:Nat} {P:PEnts} (h:AtP s g P) {a:SActP} {e:Int} (hp:planP a (dum P)=.no e):doP a s=(s,0,e):=by
 rw [h.plan,hp]; rfl
theorem AtP.put {s:JS} {g:Nat} {P:PEnts} (h:AtP s g P) (hg:g+2 < 4611686018427387904) {a:SActP} {k v:List UInt8} {n:Nat} (hp:planP a (dum P)=.one ⟨k,v,false⟩ n) (hk:1≤k.length∧k.length≤40) (hv:v.length≤4096) (hw:pWAfter P (pWt P) [⟨k,v,false⟩]≤131072) :
 (doP a s).2=(n,0)∧AtP (doP a s).1 (g+2) (pPut P (k,v)):=by
 have hd:=h.plan a
 rw [hp,run_one] at hd
 have hc:(jCommit [⟨k,v,false⟩] s).2=0:=by
  rcases put_code h.full hg hk hv with h0 | h4
  ·exact h0
  ·exfalso
   have hval:Valid [⟨k,v,false⟩]:=by
    refine ⟨by simpa using hk,by simpa using hv,by simp,by simp,?_⟩
    simp only [codeSize,chgSize,List.map_cons,List.map_nil,List.sum_cons,List.sum_nil,Bool.false_eq_true,if_false]
    omega
   have hm:May s [⟨k,v,false⟩]:=⟨by simp,by simp,hval,by simp,by rw [h.full.live.ok.wt,h.ents]; exact hw⟩
   have hgen:=h.full.gen
   have:=((commit_may h.full.live hm (by omega)).2 h.full.pw).1
   rw [h4] at this
   cases this
 rw [if_pos hc] at hd
 rcases full_commit h.full hg ⟨k,v,false⟩ with ⟨h1, -⟩ | ⟨-, -, -, -,h5⟩
 ·exact absurd hc h1
 ·have ho:=(h.full.do_ hg a).1.full h.full
  rw [hd] at ho ⊢
  exact ⟨rfl,ho,by rw [h5,h.ents]; rfl⟩
/-! ### the example -/
def A1:List UInt8:=[97,49]
def ANN:List UInt8:=[97,110,110]
def BOB:List UInt8:=[98,111,98]
def T1:TaskP:=⟨[97,49],[111,110,101],10,20,30,2,[]⟩
def P1:PEnts:=pPut [] (ckey A1,[])
def P2:PEnts:=pPut P1 (mkey A1 ANN,[])
def P3:PEnts:=pPut P2 (tkey 1,taskVal T1)
def P4:PEnts:=pPut P3 (akey 1 ANN 1,numB 20 4 ++ [120])
def P5:PEnts:=pPut P4 (akey 1 ANN 2,numB 25 4 ++ [121,122])
def P6:PEnts:=pPut P5 (xkey 1 ANN,numB 5 4)
def awk (k:Int) (st:List UInt8) (n:Int) (tx:List UInt8):SActP:=⟨k,A1,st,T1,1,n,tx⟩
theorem aw0 {s:JS} {g:Nat} (h:AtP s g []) (hg:g+2 < 4611686018427387904):(addClassP A1 s).2=0∧AtP (addClassP A1 s).1 (g+2) P1:=by
 obtain ⟨h1,h2⟩:=h.put hg (a:=awk 0 ANN 0 []) (k:=ckey A1) (v:=[]) (n:=0) (by kernel_rfl) (by decide) (by decide) (by decide)
 exact ⟨congrArg Prod.snd h1,h2⟩
theorem aw1 {s:JS} {g:Nat} (h:AtP s g P1) (hg:g+2 < 4611686018427387904):(enrollP A1 ANN s).2=0∧AtP (enrollP A1 ANN s).1 (g+2) P2:=by
 obtain ⟨h1,h2⟩:=h.put hg (a:=awk 1 ANN 0 []) (k:=mkey A1 ANN) (v:=[]) (n:=0) (by kernel_rfl) (by decide) (by decide) (by decide)
 exact ⟨congrArg Prod.snd h1,h2⟩
theorem aw2 {s:JS} {g:Nat} (h:AtP s g P2) (hg:g+2 < 4611686018427387904):(addTaskP T1 s).2=(1,0)∧AtP (addTaskP T1 s).1 (g+2) P3:=
 h.put hg (a:=awk 3 ANN 0 []) (k:=tkey 1) (v:=taskVal T1) (n:=1) (by kernel_rfl) (by decide) (by decide) (by decide)
theorem aw3 {s:JS} {g:Nat} (h:AtP s g P3):submitP 1 ANN 9 [] s=(s,0,372):=h.no (a:=awk 5 ANN 9 []) (by kernel_rfl)
theorem aw4 {s:JS} {g:Nat} (h:AtP s g P3) (hg:g+2 < 4611686018427387904):(submitP 1 ANN 20 [120] s).2=(1,0)∧AtP (submitP 1 ANN 20 [120] s).1 (g+2) P4:=
 h.put hg (a:=awk 5 ANN 20 [120]) (k:=akey 1 ANN 1) (v:=numB 20 4 ++ [120]) (n:=1) (by kernel_rfl) (by decide) (by decide) (by decide)
theorem aw5 {s:JS} {g:Nat} (h:AtP s g P4) (hg:g+2 < 4611686018427387904):(submitP 1 ANN 25 [121,122] s).2=(2,0)∧AtP (submitP 1 ANN 25 [121,122] s).1 (g+2) P5:=
 h.put hg (a:=awk 5 ANN 25 [121,122]) (k:=akey 1 ANN 2) (v:=numB 25 4 ++ [121,122]) (n:=2) (by kernel_rfl) (by decide) (by decide) (by decide)
theorem aw6 {s:JS} {g:Nat} (h:AtP s g P5):submitP 1 ANN 26 [] s=(s,0,374):=h.no (a:=awk 5 ANN 26 []) (by kernel_rfl)
theorem aw7 {s:JS} {g:Nat} (h:AtP s g P5):submitP 1 BOB 20 [] s=(s,0,6):=h.no (a:=awk 5 BOB 20 []) (by kernel_rfl)
theorem aw8 {s:JS} {g:Nat} (h:AtP s g P5) (hg:g+2 < 4611686018427387904):(extendP 1 ANN 5 s).2=0∧AtP (extendP 1 ANN 5 s).1 (g+2) P6:=by
 obtain ⟨h1,h2⟩:=h.put hg (a:=awk 4 ANN 5 []) (k:=xkey 1 ANN) (v:=numB 5 4) (n:=0) (by kernel_rfl) (by decide) (by decide) (by decide)
 exact ⟨congrArg Prod.snd h1,h2⟩
theorem AtP.atts {s:JS} {g:Nat} {P:PEnts} (h:AtP s g P) (id:Int) (st:List UInt8):s.attsP id st=(dum P).attsP id st:=(pre_ents (s:=dum P) (s':=s) rfl h.full.live.up h.ents id st 0 []).2
theorem AtP.task {s:JS} {g:Nat} {P:PEnts} (h:AtP s g P) (id:Int):s.taskP id=(dum P).taskP id:=by unfold JS.taskP; rw [h.full.live.up,h.ents]; rfl
theorem AtP.ext {s:JS} {g:Nat} {P:PEnts} (h:AtP s g P) (id:Int) (st:List UInt8):s.extP id st=(dum P).extP id st:=by unfold JS.extP; rw [h.full.live.up,h.ents]; rfl
theorem att5:(dum P5).attsP 1 ANN=[(20,[120]),(25,[121,122])]∧(dum P5).extP 1 ANN=0∧(dum P5).taskP 1=some T1:=by
 refine ⟨?_,?_,?_⟩ <;> kernel_rfl
theorem att6:(dum P6).attsP 1 ANN=[(20,[120]),(25,[121,122])]∧(dum P6).extP 1 ANN=5∧(dum P6).taskP 1=some T1:=by
 refine ⟨?_,?_,?_⟩ <;> kernel_rfl
theorem get6:pFind P6 [97,48,48,48,49,32,97,110,110,32,48,50]=some [0,0,0,25,121,122]:=by kernel_rfl
end
section
open Go.RowKit SeedP Go.Maps
/-- a school over a journal over a disk, all from block n0 on -/
structure SX (n0:Nat) (w:World) (sb db jb mb:Nat) (s:JS):Prop where
 pos:0 < n0
 sle:n0≤sb
 dle:n0≤db
 jle:n0≤jb
 mle:n0≤mb
 mem:∃ p:Nat→Prop,(∀ g,p g→n0≤g)∧SW w sb jb db mb p s
/-- a disk from block n0 on -/
structure DX (n0:Nat) (w:World) (db:Nat) (d:DS):Prop where
 pos:0 < n0
 dle:n0≤db
 st:St w
 mem:∃ p:Nat→Prop,(∀ g,p g→n0≤g∧g ≠ db)∧DW w db p d
section
variable {n0:Nat} {w w':World} {sb db jb mb:Nat} {s:JS}
theorem SX.low (h:SX n0 w sb db jb mb s):∃ p:Nat→Prop,(∀ g,p g→n0≤g∧g < w.heap.size)∧SW w sb jb db mb p s:=by
 obtain ⟨p,h1,h2⟩:=h.mem
 exact ⟨_,fun g hg=>⟨h1 g hg.1,hg.2⟩,h2.jw.low,h2.sc⟩
theorem SX.st (h:SX n0 w sb db jb mb s):St w:=by obtain ⟨p, -,h2⟩:=h.mem; exact h2.jw.st
theorem SX.lt (h:SX n0 w sb db jb mb s):sb < w.heap.size∧jb < w.heap.size∧db < w.heap.size∧mb < w.heap.size:=by
 obtain ⟨p, -,h2⟩:=h.mem
 have:=h2.jw.lt
 exact ⟨h2.lt,by omega,by omega,by omega⟩
theorem SX.size (h:SX n0 w sb db jb mb s):n0 < w.heap.size:=by have:=h.lt; have:=h.sle; omega
/-- other blocks turn -/
theorem SX.grown {S:Nat→Prop} (h:SX n0 w sb db jb mb s) (hg:Grown S w w') (hS:∀ g,S g→g < w.heap.size→g < n0∧g ≠ 0):SX n0 w' sb db jb mb s:=by
 obtain ⟨p,h1,h2⟩:=h.low
 have hl:=h.lt
 have h3:=h.sle; have h4:=h.dle; have h5:=h.jle; have h6:=h.mle; have h7:=h.pos
 refine ⟨h.pos,h.sle,h.dle,h.jle,h.mle,p,fun g hg=>(h1 g hg).1,h2.jw.grown hg (fun e=>(hS 0 e (by omega)).2 rfl) (fun e=>by have:=(hS _ e hl.2.1).1; omega) (fun e=>by have:=(hS _ e hl.2.2.1).1; omega) (fun e=>by have:=(hS _ e hl.2.2.2).1; omega) (fun g hp e=>by have:=(hS _ e (h1 g hp).2).1; have:=(h1 g hp).1; omega),h2.sc.grown hg (fun e=>by have:=(hS _ e hl.1).1; omega)⟩
theorem SX.below (h:SX n0 w sb db jb mb s) (hb:Below w.heap.size w w'):SX n0 w' sb db jb mb s:=by
 obtain ⟨p,h1,h2⟩:=h.mem
 exact ⟨h.pos,h.sle,h.dle,h.jle,h.mle,p,h1,h2.below hb⟩
theorem SX.sj (h:SX n0 w sb db jb mb s):∀ g,Sj jb db mb g→n0≤g∧g < w.heap.size:=fun g hg=>by
 have hl:=h.lt
 have h4:=h.dle; have h5:=h.jle; have h6:=h.mle
 rcases hg with rfl | rfl | rfl
 ·exact ⟨h5,hl.2.1⟩
 ·exact ⟨h4,hl.2.2.1⟩
 ·exact ⟨h6,hl.2.2.2⟩
/-- what an act leaves -/
structure ActX (n0:Nat) (w:World) (sb db jb mb:Nat) (s':JS) (w':World):Prop where
 sx:SX n0 w' sb db jb mb s'
 gr:Grown (Sj jb db mb) w w'
 bl:Below n0 w w'
theorem SX.act (h:SX n0 w sb db jb mb s) {p:Nat→Prop} (hp:∀ g,p g→n0≤g) {s':JS} (hA:ActPost w sb jb db mb p s' w'):ActX n0 w sb db jb mb s' w':=
 ⟨⟨h.pos,h.sle,h.dle,h.jle,h.mle,_,fun g hg=>hg.elim (hp g) (fun hg=>by have:=h.size; omega),hA.sw⟩,hA.gr,hA.gr.below (fun k hk=>(h.sj k hk).1) (Nat.le_of_lt h.size)⟩
theorem addClass_x (c:List UInt8) (h:SX n0 w sb db jb mb s):Calls Tryz.prog 27 #[sv sb,strV c] w fun e w'=>e=.returned (.int .i64 (addClassP c s).2)∧ActX n0 w sb db jb mb (addClassP c s).1 w':=by
 obtain ⟨p,h1,h2⟩:=h.mem
 exact (addClass_c c w h2).mono (fun e w' hh=>⟨hh.1,h.act h1 hh.2⟩)
theorem enroll_x (c st:List UInt8) (h:SX n0 w sb db jb mb s):Calls Tryz.prog 37 #[sv sb,strV c,strV st] w fun e w'=>e=.returned (.int .i64 (enrollP c st s).2)∧ActX n0 w sb db jb mb (enrollP c st s).1 w':=by
 obtain ⟨p,h1,h2⟩:=h.mem
 exact (enroll_c c st w h2).mono (fun e w' hh=>⟨hh.1,h.act h1 hh.2⟩)
theorem extend_x (id:Int) (st:List UInt8) (more:Int) (h:SX n0 w sb db jb mb s):Calls Tryz.prog 39 #[sv sb,.int .i64 id,strV st,.int .i64 more] w fun e w'=>e=.returned (.int .i64 (extendP id st more s).2)∧ActX n0 w sb db jb mb (extendP id st more s).1 w':=by
 obtain ⟨p,h1,h2⟩:=h.mem
 exact (extend_c id st more w h2).mono (fun e w' hh=>⟨hh.1,h.act h1 hh.2⟩)
theorem addTask_x (t:TaskP) (a:Option Addr) (c:Nat) (h:SX n0 w sb db jb mb s) (hv:RdB w w.heap.size (.slice a t.body.length c) t.body) (hbl:t.body.length≤1000000):Calls Tryz.prog 38 #[sv sb,taskV t (.slice a t.body.length c)] w fun e w'=>e=.returned (.tuple #[.int .i64 (addTaskP t s).2.1,.int .i64 (addTaskP t s).2.2])∧ActX n0 w sb db jb mb (addTaskP t s).1 w':=by
 obtain ⟨p,h1,h2⟩:=h.mem
 exact (addTask_c t a c w h2 hv hbl).mono (fun e w' hh=>⟨hh.1,h.act h1 hh.2⟩)
theorem submit_x (id:Int) (st:List UInt8) (now:Int) (tx:List UInt8) (ax:Option Addr) (cx:Nat) (h:SX n0 w sb db jb mb s) (hok:SOk s) (hv:RdB w w.heap.size (.slice ax tx.length cx) tx) (hbl:tx.length≤1000000):Calls Tryz.prog 25 #[sv sb,.int .i64 id,strV st,.int .i64 now,.slice ax tx.length cx] w fun e w'=>e=.returned (.tuple #[.int .i64 (submitP id st now tx s).2.1,.int .i64 (submitP id st now tx s).2.2])∧ActX n0 w sb db jb mb (submitP id st now tx s).1 w':=by
 obtain ⟨p,h1,h2⟩:=h.mem
 exact (submit_c id st now tx ax cx w h2 hok hv hbl).mono (fun e w' hh=>⟨hh.1,h.act h1 hh.2⟩)
theorem act_x (a:SActP) (ab ax:Option Addr) (cb cx:Nat) (h:SX n0 w sb db jb mb s) (hok:SOk s) (hvb:RdB w w.heap.size (.slice ab a.task.body.length cb) a.task.body) (hvt:RdB w w.heap.size (.slice ax a.text.length cx) a.text) (hbl:a.task.body.length≤1000000) (htl:a.text.length≤1000000) :
 Calls Tryz.prog 14 #[sv sb,actV a (.slice ab a.task.body.length cb) (.slice ax a.text.length cx)] w fun e w'=>e=.returned (.tuple #[.int .i64 (doP a s).2.1,.int .i64 (doP a s).2.2])∧ActX n0 w sb db jb mb (doP a s).1 w':=by
 obtain ⟨p,h1,h2⟩:=h.mem
 exact (sdo_c a ab ax cb cx w h2 hok hvb hvt hbl htl).mono (fun e w' hh=>⟨hh.1,h.act h1 hh.2⟩)
theorem attempts_x (id:Int) (st:List UInt8) (h:SX n0 w sb db jb mb s) (hok:SOk s):Calls Tryz.prog 22 #[sv sb,.int .i64 id,strV st] w fun e w'=>(∃ v,e=.returned v∧AttsW w' w.heap.size v (s.dueP id st) (s.attsP id st))∧Below w.heap.size w w':=by
 obtain ⟨p,h1,h2⟩:=h.mem
 exact attempts_c id st w h2 hok
theorem extension_x (id:Int) (st:List UInt8) (h:SX n0 w sb db jb mb s) (hok:SOk s):Calls Tryz.prog 21 #[sv sb,.int .i64 id,strV st] w fun e w'=>e=.returned (.int .i64 (s.extP id st))∧Below w.heap.size w w':=by
 obtain ⟨p,h1,h2⟩:=h.mem
 exact extension_c id st w h2 hok
theorem task_x (id:Int) (h:SX n0 w sb db jb mb s):Calls Tryz.prog 24 #[sv sb,.int .i64 id] w fun e w'=>TaskPost w'.heap.size (s.taskP id) e w'∧Below w.heap.size w w':=by
 obtain ⟨p,h1,h2⟩:=h.mem
 exact task_c id w h2
theorem classes_x (h:SX n0 w sb db jb mb s):Calls Tryz.prog 17 #[sv sb] w fun e w'=>(∃ v,e=.returned v∧ownS w' w.heap.size v s.classesP)∧Below w.heap.size w w':=by
 obtain ⟨p,h1,h2⟩:=h.mem
 exact classes_c w h2
theorem students_x (c:List UInt8) (h:SX n0 w sb db jb mb s):Calls Tryz.prog 18 #[sv sb,strV c] w fun e w'=>(∃ v,e=.returned v∧ownS w' w.heap.size v (s.studentsP c))∧Below w.heap.size w w':=by
 obtain ⟨p,h1,h2⟩:=h.mem
 exact students_c c w h2
/-! ### disks -/
theorem SX.dx (h:SX n0 w sb db jb mb s):DX n0 w db s.d:=by
 obtain ⟨p,h1,h2⟩:=h.mem
 exact ⟨h.pos,h.dle,h2.jw.st,p,fun g hg=>⟨h1 g hg,(h2.jw.away g hg).2.1⟩,h2.jw.disk⟩
theorem DX.below {d:DS} (h:DX n0 w db d) (hb:Below w.heap.size w w'):DX n0 w' db d:=by
 obtain ⟨p,h1,h2⟩:=h.mem
 exact ⟨h.pos,h.dle,h.st.below hb h.st.pos,p,h1,h2.grown (Grown.of_below hb (S:=fun _=>False)) (fun h=>h) (fun _ _ h=>h)⟩
theorem DX.lt {d:DS} (h:DX n0 w db d):db < w.heap.size:=by obtain ⟨p, -,h2⟩:=h.mem; exact h2.lt
theorem DX.cells {d:DS} (h:DX n0 w db d):∃ a0 c0 a1 c1,w.cell? ⟨db,0,none⟩=some (.int .i64 d.pw)∧w.cell? ⟨db,1,none⟩=some (.slice a0 d.f0.length c0)∧w.cell? ⟨db,2,none⟩=some (.slice a1 d.f1.length c1) ∧
 RdB w w.heap.size (.slice a0 d.f0.length c0) d.f0∧RdB w w.heap.size (.slice a1 d.f1.length c1) d.f1∧(∀ o,w.frozen? ⟨db,o,none⟩=false):=by
 obtain ⟨p,h1,v0,v1,q0,q1,hb,hr0,hr1,hq0,hq1⟩:=h.mem
 have r0:=hr0.toB
 have r1:=hr1.toB
 obtain ⟨a0,c0,rfl,_,_,_⟩:=r0.open_
 obtain ⟨a1,c1,rfl,_,_,_⟩:=r1.open_
 exact ⟨a0,c0,a1,c1,hb.cell 0 (by simp),hb.cell 1 (by simp),hb.cell 2 (by simp),r0,r1,fun o=>hb.frozen o⟩
/-- the power is set -/
theorem DX.power {d:DS} (h:DX n0 w db d) (pw:Int):DX n0 (w.setCell ⟨db,0,none⟩ (.int .i64 pw)) db ⟨pw,d.f0,d.f1⟩:=by
 obtain ⟨p,h1,v0,v1,q0,q1,hb,hr0,hr1,hq0,hq1,hun⟩:=h.mem
 have hg:Grown (fun k=>k=db) w (w.setCell ⟨db,0,none⟩ (.int .i64 pw)):=Grown.setCell (S:=fun k=>k=db) (Grown.refl _ _) (a:=⟨db,0,none⟩) rfl _
 have h7:=h.pos; have h8:=h.dle
 exact ⟨h.pos,h.dle,h.st.block (hg.block 0 h.st.pos (fun e=>by omega)),p,h1,v0,v1,q0,q1,hb.set 0 _,hr0.grown hg (fun g hq=>(h1 g (hq0 g hq).1).2),hr1.grown hg (fun g hq=>(h1 g (hq1 g hq)).2),hq0,hq1,fun g hq=>⟨Nat.lt_of_lt_of_le (hun g hq).1 hg.size,(hun g hq).2.keep (hg.block g (hun g hq).1 (by rcases hq with hq | hq; exact (h1 g (hq0 g hq).1).2; exact (h1 g (hq1 g hq)).2))⟩⟩
theorem DX.new (w:World) (hs:St w) (pw:Int):DX w.heap.size (w.alloc (.cells #[.int .i64 pw,.slice none 0 0,.slice none 0 0] 29)) w.heap.size ⟨pw,[],[]⟩:=
 ⟨hs.pos,Nat.le_refl _,hs.alloc _,_,fun _ hg=>hg,(DL.new w hs pw).disk⟩
/-- a disk is opened: its entries are a school -/
theorem open_x {d:DS} (h:DX n0 w db d) (hok:d.Ok) (hsch:isSchoolP (jOpen d).c.ents=true) :
 Calls Tryz.prog 13 #[.pointer (some ⟨db,0,none⟩)] w fun e w'=>(∃ sb jb mb,e=.returned (.tuple #[sv sb,.int .i64 0])∧w.heap.size≤sb∧w.heap.size≤jb∧w.heap.size≤mb∧SX n0 w' sb db jb mb (jOpen d))∧Below w.heap.size w w':=by
 obtain ⟨p,h1,h2⟩:=h.mem
 have hlt:=h.lt
 have h7:=h.pos; have h8:=h.dle
 refine (sopen_c db p d w h.st h2 hok (fun g hg=>⟨(h1 g hg).2,by have:=(h1 g hg).1; omega⟩)).mono ?_
 rintro e w' ⟨hp | hp,hb⟩
 ·obtain ⟨-,sb,jb,mb,p',rfl,hs,hj,hm,hp',hW⟩:=hp
  exact ⟨⟨sb,jb,mb,rfl,hs,hj,hm,h.pos,by omega,h.dle,by omega,by omega,p',fun g hg=>by
   rcases (hp' g hg).1 with hq | hq
   ·exact (h1 g hq.1).1
   ·omega,hW⟩,hb⟩
 ·rw [hsch] at hp; cases hp.1
end
end
section
open Go.RowKit SeedP Go.Maps
theorem plan_key {a:SActP} {s:JS} {c:Chg} {n:Nat} (h:planP a s=.one c n) (h4:a.kind % 10 ≠ 4):c.key.head? ≠ some 120:=by
 unfold planP at h
 repeat' (split at h)
 all_goals first | (cases h; done) | (cases h; simp [ckey,mkey,tkey,akey]; done) | exact absurd ‹_› h4
theorem do_x {s:JS} {g:Nat} (h:SFull s g) (hg:g+2 < 4611686018427387904) {a:SActP} (h4:a.kind % 10 ≠ 4) {k:List UInt8} (hk:k.head?=some 120):pFind (doP a s).1.c.ents k=pFind s.c.ents k:=by
 rw [do_plan a h.live.up]
 cases hp:planP a s with
 | no e=>rfl
 | nil=>rfl
 | one c n=>
   have hkey:=plan_key hp h4
   have e1:(runPlan (.one c n) s).1=(jCommit [c] s).1:=by rw [run_one]; split <;> rfl
   rw [e1]
   rcases full_commit h hg c with ⟨_,h2⟩ | ⟨_,_,_,_,h5⟩
   ·rw [h2]
   ·rw [h5,pChg_find _ _ _ (fun e=>hkey (by rw [← e]; exact hk))]
theorem do_ext {s:JS} {g:Nat} (h:SFull s g) (hg:g+2 < 4611686018427387904) {a:SActP} (h4:a.kind % 10 ≠ 4) (id:Int) (st:List UInt8):(doP a s).1.extP id st=s.extP id st:=by
 have hf:=((h.do_ hg a).1).full h
 unfold JS.extP
 rw [h.live.up,hf.live.up,do_x h hg h4 (k:=xkey id.toNat st) rfl]
theorem task_prefix {k p:List UInt8} {c:UInt8} (h:isPref (c :: p) k=true):k.head?=some c:=by
 obtain ⟨x,rfl⟩:=isPref_iff.1 h
 rfl
/-- what SchoolFixed asks of one act -/
structure FixedStep (s s':JS) (a:SActP):Prop where
 cls:∀ x ∈ s.classesP,x ∈ s'.classesP
 ord:s'.classesP.Pairwise (fun a b=>bytesBefore a b=true)
 num:s.allP.length≤s'.allP.length
 tsk:∀ i t,s.allP[i]?=some t→s'.taskP (i+1:Nat)=some t
 att:∃ q,s'.attsP a.id a.stu=s.attsP a.id a.stu ++ q
 stu:a.kind % 10 ≠ 2→∀ x ∈ s.studentsP a.cls,x ∈ s'.studentsP a.cls
 sord:(s'.studentsP a.cls).Pairwise (fun a b=>bytesBefore a b=true)
 ext:a.kind % 10 ≠ 4→s'.extP a.id a.stu=s.extP a.id a.stu
 due:∀ t,s.taskP a.id=some t→s'.taskP a.id=some t
theorem classes_ord {s:JS} {g:Nat} (h:SFull s g):s.classesP.Pairwise (fun a b=>bytesBefore a b=true):=by
 unfold JS.classesP
 rw [h.live.up]
 exact behind_ord h.live.ord
theorem students_ord {s:JS} {g:Nat} (h:SFull s g) (c:List UInt8):(s.studentsP c).Pairwise (fun a b=>bytesBefore a b=true):=by
 unfold JS.studentsP
 split
 ·exact List.Pairwise.nil
 ·exact behind_ord h.live.ord
theorem fixed_step {s:JS} {g:Nat} (h:SFull s g) (hg:g+2 < 4611686018427387904) (a:SActP):FixedStep s (doP a s).1 a:=by
 have hf:=((h.do_ hg a).1).full h
 have hst:=fun (k:List UInt8)=>do_stays h hg a (k:=k)
 have h99:∀ k,isPref [99] k=true→StaysAt s (doP a s).1 k:=fun k hk=>by
  have:=task_prefix hk
  exact hst k (fun _=>by rw [this]; decide) (fun _=>by rw [this]; decide)
 have h116:∀ k,k.head?=some 116→StaysAt s (doP a s).1 k:=fun k hk=>hst k (fun _=>by rw [hk]; decide) (fun _=>by rw [hk]; decide)
 have h97:∀ k,k.head?=some 116∨k.head?=some 97→StaysAt s (doP a s).1 k:=fun k hk=>by
  rcases hk with hk | hk
  ·exact h116 k hk
  ·exact hst k (fun _=>by rw [hk]; decide) (fun _=>by rw [hk]; decide)
 refine ⟨?_,classes_ord hf,by rw [h.all_len,hf.all_len]; exact tasksN_stays h hf h116,fun i t hi=>?_,atts_stay h.live.up hf.live.up h97,fun h2=>?_,students_ord hf _,fun h4=>do_ext h hg h4 _ _,fun t ht=>task_stays h.live.up hf.live.up h116 ht⟩
 ·unfold JS.classesP
  rw [h.live.up,hf.live.up]
  exact fun x hx=>behind_stays h99 hx
 ·have hlt:i < tasksN s.c.ents:=by
   have:=(List.getElem?_eq_some_iff.1 hi).1
   rwa [h.all_len] at this
  rw [h.all_at hlt] at hi
  exact task_stays h.live.up hf.live.up h116 hi
 ·unfold JS.studentsP
  rw [h.live.up,hf.live.up]
  by_cases hc:isNameP a.cls=false
  ·rw [if_pos (Or.inr hc)]; exact fun x hx=>absurd hx (by simp)
  rw [if_neg (by simp [hc]),if_neg (by simp [hc])]
  refine fun x hx=>behind_stays (fun k hk=>?_) hx
  have:=task_prefix (c:=109) hk
  exact hst k (fun e=>absurd e h2) (fun _=>by rw [this]; decide)
/-- a school that is opened again -/
theorem fixed_open {s t:JS} {g g':Nat} (h:SFull s g) (h':SFull t g') (he:t.c.ents=s.c.ents) (a:SActP):FixedStep s t a:=by
 have hd:=h.live.up; have hd':=h'.live.up
 have e1:t.classesP=s.classesP:=by unfold JS.classesP; rw [hd,hd',he]
 have e2:t.studentsP a.cls=s.studentsP a.cls:=by unfold JS.studentsP; rw [hd,hd',he]
 have e3:∀ id,t.taskP id=s.taskP id:=fun id=>by unfold JS.taskP; rw [hd,hd',he]
 have e4:t.attsP a.id a.stu=s.attsP a.id a.stu:=by unfold JS.attsP; rw [e3,he]
 have e5:t.extP a.id a.stu=s.extP a.id a.stu:=by unfold JS.extP; rw [hd,hd',he]
 refine ⟨by rw [e1]; exact fun _ h=>h,classes_ord h',by rw [h.all_len,h'.all_len,he]; exact Nat.le_refl _,fun i t hi=>?_,⟨[],by rw [e4,List.append_nil]⟩,fun _=>by rw [e2]; exact fun _ h=>h,students_ord h' _,fun _=>e5,fun t ht=>by rw [e3]; exact ht⟩
 have hlt:i < tasksN s.c.ents:=by
  have:=(List.getElem?_eq_some_iff.1 hi).1
  rwa [h.all_len] at this
 rw [h.all_at hlt] at hi
 rw [e3]; exact hi
end
section
open Go.RowKit SeedP Go.Maps
/-- a student of a class has a name -/
theorem SchoolOk.stu_name {P:PEnts} (h:SchoolOk P) {c st:List UInt8} (hc:isNameP c=true) (hm:(pFind P (mkey c st)).isSome=true):isNameP st=true:=by
 obtain ⟨v,hv⟩:=Option.isSome_iff_exists.1 hm
 obtain ⟨e,hw,hk,_,_⟩:=h _ _ hv
 cases e with
 | cls c'=>exact absurd (congrArg List.head? hk) (by simp [mkey,SE.key,ckey])
 | tsk i t=>exact absurd (congrArg List.head? hk) (by simp [mkey,SE.key,tkey])
 | ext i s m=>exact absurd (congrArg List.head? hk) (by simp [mkey,SE.key,xkey])
 | att i s m tm tx=>exact absurd (congrArg List.head? hk) (by simp [mkey,SE.key,akey])
 | mem c' s'=>
   obtain ⟨w1,w2⟩:=hw
   rw [(mkey_inj hc w1 hk).2]; exact w2
/-- what the law asks ahead of a submission -/
structure LawFits (id:Int) (st:List UInt8) (now:Int) (tx:List UInt8) (s:JS) (t:TaskP):Prop where
 task:s.taskP id=some t
 in_:st ∈ s.studentsP t.cls
 n0:0≤now
 n1:now≤2147483647
 tx:tx.length≤4000
 from_:t.frm≤now
 last:∀ x,(s.attsP id st).getLast?=some x→(x.1:Int)≤now
 late:now≤t.late+s.extP id st
 tries:((s.attsP id st).length:Int) < t.tries
theorem fits_iff {s:JS} {g:Nat} (h:SFull s g) {id:Int} {st:List UInt8} {now:Int} {tx:List UInt8} {t:TaskP}:LawFits id st now tx s t ↔ SubFit id st now tx s t:=by
 constructor
 ·intro k
  obtain ⟨_,_,hf,_⟩:=JS.taskP_some h.ok k.task
  have hm:=(mem_students h.live.up hf.cls).1 k.in_
  exact ⟨h.ok.stu_name hf.cls hm,k.n0,k.n1,k.tx,k.task,hm,k.from_,k.last,k.late,k.tries⟩
 ·intro k
  obtain ⟨_,_,hf,_⟩:=JS.taskP_some h.ok k.task
  exact ⟨k.task,(mem_students h.live.up hf.cls).2 k.mem,k.n0,k.n1,k.tx,k.from_,k.last,k.late,k.tries⟩
/-- what SchoolRules asks of one submission -/
structure RulesStep (id:Int) (st:List UInt8) (now:Int) (tx:List UInt8) (s:JS) (r:JS × Nat × Int):Prop where
 bad:r.2.2 ≠ 0→r.2.1=0∧((∃ t,LawFits id st now tx s t)→r.2.2=4)∧r.1=s
 good:r.2.2=0→(∃ t,LawFits id st now tx s t)∧r.2.1=(s.attsP id st).length+1∧r.1.attsP id st=s.attsP id st ++ [(now.toNat,tx)]∧r.1.taskP id=s.taskP id∧r.1.extP id st=s.extP id st
theorem rules_step {s:JS} {g:Nat} (h:SFull s g) (hg:g+2 < 4611686018427387904) (id:Int) (st:List UInt8) (now:Int) (tx:List UInt8):RulesStep id st now tx s (submitP id st now tx s):=by
 have ho:=submit_out h hg id st now tx
 generalize submitP id st now tx s=r at ho
 cases ho with
 | no e k=>
   subst k
   refine ⟨fun _=>⟨rfl,fun ⟨t,ht⟩=>?_,rfl⟩,fun k=>absurd k e⟩
   exact absurd (subPre_fit.2 ⟨t,(fits_iff h).1 ht⟩) e
 | full e k=>
   subst k
   exact ⟨fun _=>⟨rfl,fun _=>rfl,rfl⟩,fun k=>absurd k (by show ¬ (4:Int)=0; decide)⟩
 | yes e n c ents f=>
   refine ⟨fun k=>absurd c k,fun _=>?_⟩
   obtain ⟨t,ht⟩:=subPre_fit.1 e
   obtain ⟨a1,a2,a3⟩:=atts_after ht h.ok h.live.up f.live.up ents
   exact ⟨⟨t,(fits_iff h).2 ht⟩,n,a1,a2,a3⟩
/-- what is done once: SchoolAgain's last question -/
theorem again {s t:JS} {g:Nat} (h:SFull s g) (hg:g+2 < 4611686018427387904) {a:SActP} (e0:(doP a s).2.2=0) (hd:t.down=false) (he:t.c.ents=(doP a s).1.c.ents) :
 ((a.kind % 10=0∨a.kind % 10=1)→(doP a t).2.2=371)∧(a.kind % 10=2→(doP a t).2.2=6):=by
 refine ⟨fun hk=>?_,fun hk=>?_⟩
 ·rcases hk with hk | hk
  ·unfold doP at e0 he ⊢
   rw [if_pos hk] at e0 he ⊢
   exact again0 h hg e0 hd he
  ·have h0:¬ a.kind % 10=0:=by omega
   unfold doP at e0 he ⊢
   rw [if_neg h0,if_pos hk] at e0 he ⊢
   exact again1 h hg e0 hd he
 ·have h0:¬ a.kind % 10=0:=by omega
  have h1:¬ a.kind % 10=1:=by omega
  unfold doP at e0 he ⊢
  rw [if_neg h0,if_neg h1,if_pos hk] at e0 he ⊢
  exact again2 h hg e0 hd he
end
section
open Go.RowKit SeedP Go.Maps
/-- a list of values in memory -/
structure LstAt {α:Type} (enc:α→Value) (w:World) (v:Value) (L:List α):Prop where
 form:∃ a c,v=.slice a L.length c
 at_:L=[]∨∃ g cap,v=.slice (some ⟨g,0,none⟩) L.length cap∧g < w.heap.size∧∀ j (hj:j < L.length),w.cell? ⟨g,j,none⟩=some (enc L[j])
theorem LstAt.below {α:Type} {enc:α→Value} {w w':World} {v:Value} {L:List α} (h:LstAt enc w v L) (hb:Below w.heap.size w w'):LstAt enc w' v L:=
 ⟨h.form,h.at_.imp_right (fun ⟨g,cap,e,hg,hc⟩=>⟨g,cap,e,Nat.lt_of_lt_of_le hg hb.size,fun j hj=>(hb.cell (p:=⟨g,j,none⟩) hg).trans (hc j hj)⟩)⟩
theorem ownS.lst {w:World} {B:Nat} {v:Value} {L:List (List UInt8)} (h:ownS w B v L):LstAt strV w v L:=
 ⟨own_slice h,(ownS_at h).imp_right (fun ⟨g,cap,e,_,h2,h3⟩=>⟨g,cap,e,h2,h3⟩)⟩
abbrev intV (n:Nat):Value:=.int .i64 (n:Int)
theorem ownI.lst {w:World} {B:Nat} {v:Value} {L:List Nat} (h:ownI w B v L):LstAt intV w v L:=by
 refine ⟨own_slice h,?_⟩
 rcases h.2 with ⟨-,h0⟩ | ⟨g,cap,cur,rfl,hB,hg,hn,hc,hs,ht⟩
 ·exact Or.inl (List.length_eq_zero_iff.1 h0)
 ·refine Or.inr ⟨g,cap,rfl,(Array.getElem?_eq_some_iff.1 hg).1,fun j hj=>?_⟩
  have e:w.cell? ⟨g,j,none⟩=cur[j]?:=by simp [World.cell?,hg]
  rw [e]
  have h3:(cur.toList.take (L.length * 1))[j]?=(L.map fun n:Nat=>Value.int .i64 (n:Int))[j]?:=by rw [ht]
  rw [List.getElem?_take,if_pos (by omega)] at h3
  rw [← Array.getElem?_toList,h3,List.getElem?_map,List.getElem?_eq_getElem hj]
  rfl
end
section
open Go.RowKit SeedP Go.Maps
theorem AttsW.len {w:World} {B:Nat} {v:Value} {due:Int} {L:List (Nat × List UInt8)} (h:AttsW w B v due L):∃ a c,v=.slice a L.length c:=by
 obtain ⟨xs,hr,hm, -⟩:=h.ex
 have hl:xs.length=L.length:=by rw [← hm,List.length_map]
 obtain ⟨a,c,e⟩:=own_slice hr
 exact ⟨a,c,by rw [e,hl]⟩
theorem AttsW.get {w:World} {B:Nat} {v:Value} {due:Int} {L:List (Nat × List UInt8)} (h:AttsW w B v due L) (j:Nat) (hj:j < L.length) :
 ∃ g cap a c,v=.slice (some ⟨g,0,none⟩) L.length cap∧B≤g∧g < w.heap.size∧w.cell? ⟨g,j * 3,none⟩=some (.int .i64 (L[j].1:Nat))∧w.cell? ⟨g,j * 3+1,none⟩=some (.bool (decide (due < ((L[j].1:Nat):Int))))∧w.cell? ⟨g,j * 3+2,none⟩=some (.slice a L[j].2.length c) ∧
   RdP w (fun q=>q ≠ g) (.slice a L[j].2.length c) L[j].2:=by
 obtain ⟨xs,hr,hm,hp⟩:=h.ex
 have hl:xs.length=L.length:=by rw [← hm,List.length_map]
 have hjx:j < xs.length:=by omega
 have hLj:L[j]=(xs[j].tm,xs[j].tx):=by simp [← hm]
 obtain ⟨g0,g1,g2⟩:=rowA_get due xs j hjx
 obtain ⟨h1,h2⟩:=hr
 rcases h2 with ⟨-,h0⟩ | ⟨g,cap,cur,rfl,hB,hg,hn,hc,hs,ht⟩
 ·omega
 have cellAt:∀ o,o < xs.length * 3→w.cell? ⟨g,o,none⟩=(rowA due xs)[o]?:=fun o ho=>by
  have e:w.cell? ⟨g,o,none⟩=cur[o]?:=by simp [World.cell?,hg]
  rw [e,← ht,List.getElem?_take,if_pos ho,← Array.getElem?_toList]
 have hr2:=hp _ (List.getElem_mem hjx)
 obtain ⟨a,c,hv, -, -, -⟩:=hr2.toB.open_
 refine ⟨g,cap,a,c,by rw [hl],hB,(Array.getElem?_eq_some_iff.1 hg).1,?_,?_,?_,?_⟩
 ·rw [cellAt _ (by omega),g0,hLj]
 ·rw [cellAt _ (by omega),g1,hLj]
 ·rw [cellAt _ (by omega),g2,hv,hLj]
 ·rw [hLj]
  simp only
  rw [← hv]
  exact hr2.mono (fun q _ hq e=>hq (by rw [e]; rfl))
end
section
open Go.RowKit SeedP Go.Maps
theorem SFull.reopen {s:JS} {g:Nat} (h:SFull s g):s.d.Ok∧isSchoolP (jOpen s.d).c.ents=true∧SFull (jOpen s.d) g∧(jOpen s.d).c.ents=s.c.ents:=by
 have hh:=(h.live.has).mono h.gen
 obtain ⟨h1,h2⟩:=hh.open_ h.ok h.pw
 refine ⟨hh.ok,?_,h1,h2⟩
 rw [h2]
 exact isSchool_ok h.live.ord h.ok
/-- the j-th act, in a later world -/
theorem SActsAt.get {w wr:World} {v:Value} {L:List SActP} (h:SActsAt w w.heap.size v L) (hb:Below w.heap.size w wr) {j:Nat} (hj:j < L.length) :
 ∃ g off cap ab cb ax cx,v=.slice (some ⟨g,off,none⟩) L.length cap ∧
   (wr.cell? ⟨g,off+j * 13,none⟩=some (.int .i64 L[j].kind)∧wr.cell? ⟨g,off+j * 13+1,none⟩=some (strV L[j].cls)∧wr.cell? ⟨g,off+j * 13+2,none⟩=some (strV L[j].stu) ∧
    wr.cell? ⟨g,off+j * 13+3,none⟩=some (strV L[j].task.cls)∧wr.cell? ⟨g,off+j * 13+4,none⟩=some (strV L[j].task.name)∧wr.cell? ⟨g,off+j * 13+5,none⟩=some (.int .i64 L[j].task.frm)∧wr.cell? ⟨g,off+j * 13+6,none⟩=some (.int .i64 L[j].task.due)∧wr.cell? ⟨g,off+j * 13+7,none⟩=some (.int .i64 L[j].task.late)∧wr.cell? ⟨g,off+j * 13+8,none⟩=some (.int .i64 L[j].task.tries) ∧
    wr.cell? ⟨g,off+j * 13+9,none⟩=some (.slice ab L[j].task.body.length cb)∧wr.cell? ⟨g,off+j * 13+10,none⟩=some (.int .i64 L[j].id)∧wr.cell? ⟨g,off+j * 13+11,none⟩=some (.int .i64 L[j].n)∧wr.cell? ⟨g,off+j * 13+12,none⟩=some (.slice ax L[j].text.length cx)) ∧
   RdB w w.heap.size (.slice ab L[j].task.body.length cb) L[j].task.body∧RdB w w.heap.size (.slice ax L[j].text.length cx) L[j].text:=by
 obtain ⟨g,off,cap,ab,cb,ax,cx,e, -, -,hg,⟨c0,c1,c2,c3,c4,c5,c6,c7,c8,c9,c10,c11,c12⟩,hr1,hr2⟩:=h.at hj
 have k:∀ o x,w.cell? ⟨g,o,none⟩=some x→wr.cell? ⟨g,o,none⟩=some x:=fun o x hx=>(hb.cell (p:=⟨g,o,none⟩) hg).trans hx
 exact ⟨g,off,cap,ab,cb,ax,cx,e,⟨k _ _ c0,k _ _ c1,k _ _ c2,k _ _ c3,k _ _ c4,k _ _ c5,k _ _ c6,k _ _ c7,k _ _ c8,k _ _ c9,k _ _ c10,k _ _ c11,k _ _ c12⟩,hr1,hr2⟩
/-- the cells of an act that has been copied -/
theorem actBlk {w:World} {g:Nat} {t:TypeId} {a:SActP} {vb vt:Value} (h:Blk w g t (actCells a vb vt)) :
 w.cell? ⟨g,0,none⟩=some (.int .i64 a.kind)∧w.cell? ⟨g,1,none⟩=some (strV a.cls)∧w.cell? ⟨g,2,none⟩=some (strV a.stu)∧w.cell? ⟨g,3,none⟩=some (strV a.task.cls)∧w.cell? ⟨g,4,none⟩=some (strV a.task.name)∧w.cell? ⟨g,5,none⟩=some (.int .i64 a.task.frm)∧w.cell? ⟨g,6,none⟩=some (.int .i64 a.task.due)∧w.cell? ⟨g,7,none⟩=some (.int .i64 a.task.late)∧w.cell? ⟨g,8,none⟩=some (.int .i64 a.task.tries) ∧
  w.cell? ⟨g,9,none⟩=some vb∧w.cell? ⟨g,10,none⟩=some (.int .i64 a.id)∧w.cell? ⟨g,11,none⟩=some (.int .i64 a.n)∧w.cell? ⟨g,12,none⟩=some vt:=
 ⟨h.cell 0 (by simp [actCells]),h.cell 1 (by simp [actCells]),h.cell 2 (by simp [actCells]),h.cell 3 (by simp [actCells]),h.cell 4 (by simp [actCells]),h.cell 5 (by simp [actCells]),h.cell 6 (by simp [actCells]),h.cell 7 (by simp [actCells]),h.cell 8 (by simp [actCells]),h.cell 9 (by simp [actCells]),h.cell 10 (by simp [actCells]),h.cell 11 (by simp [actCells]),h.cell 12 (by simp [actCells])⟩
theorem behind_len (p:List UInt8) (P:PEnts):(behindP p P).length≤P.length:=by
 unfold behindP
 rw [List.length_map]
 refine Nat.le_trans (List.length_filter_le _ _) ?_
 unfold keysOf
 rw [List.length_map]
 exact Nat.le_refl _
theorem Live.len {s:JS} (h:Live s):s.c.ents.length≤131072:=by
 have h1:=pWt_len s.c.ents
 have h2:=h.ok.wt
 have h3:=h.ok.max
 omega
theorem classes_len {s:JS} (h:Live s):s.classesP.length≤1000000:=by
 have:=h.len
 have:=behind_len [99] s.c.ents
 unfold JS.classesP
 split
 ·simp
 ·omega
theorem students_len {s:JS} (h:Live s) (c:List UInt8):(s.studentsP c).length≤1000000:=by
 have:=h.len
 have:=behind_len (mkey c []) s.c.ents
 unfold JS.studentsP
 split
 ·simp
 ·omega
/-- the act's memory, later -/
theorem RdB.later {w wr:World} {v:Value} {l:List UInt8} (h:RdB w w.heap.size v l) (hb:Below w.heap.size w wr):RdB wr wr.heap.size v l:=(h.below hb).mono hb.size
/-! ### the five questions, asked of either school -/
section
variable {n0 n1:Nat} {w7 W:World} {sb sb2 jb jb2 mb mb2 db db2:Nat} {s t:JS} {x:Nat}
end
end
end Go.Proofs.YtbcfpdlhieaepaaGreatDoor
