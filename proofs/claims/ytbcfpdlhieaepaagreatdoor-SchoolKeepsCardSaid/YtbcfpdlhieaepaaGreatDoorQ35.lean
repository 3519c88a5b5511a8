/- What holds of the content behind entries that were read well. Plain law. -/
import Derived.Test.YtbcfpdlhieaepaaGreatDoorQ17
import Derived.Test.YtbcfpdlhieaepaaGreatDoorQ28
import Derived.Test.YtbcfpdlhieaepaaGreatDoorQ18
import Derived.Shelf.Abstract
import Derived.Shelf.RegionOpen
import Derived.WalkKit
import Derived.OwnWalkIn
import Derived.TacticsInMore
import Derived.LoopNIn
import Derived.LoopIn
import Derived.Test.YtbcfpdlhieaepaaGreatDoorQ34
import Derived.Test.YtbcfpdlhieaepaaGreatDoorQ30
import Derived.Test.YtbcfpdlhieaepaaGreatDoorQ26
import Derived.Test.YtbcfpdlhieaepaaGreatDoorQ03
namespace Go.Proofs.YtbcfpdlhieaepaaGreatDoor
section
open Go.RowKit SeedP Go.Maps
structure GoodC (c:ContP):Prop where
 inC:∀ x ∈ c.inClass,x.length≤1000000
 tk:c.tasks.length≤9999
 tr:∀ e ∈ c.tries,e.2 ∈ c.ofTask
theorem GoodC.z:GoodC contZ:=⟨fun x hx=>(by cases hx),(by simp [contZ]),fun e he=>(by cases he)⟩
theorem setT_in {l:List (List UInt8 × Nat)} {k:List UInt8} {n:Nat} {e:List UInt8 × Nat} (h:e ∈ setT l k n):e ∈ l∨e.2=n:=by
 unfold setT at h
 split at h
 ·obtain ⟨y,hy,he⟩:=List.mem_map.1 h
  split at he
  ·right; rw [← he]
  ·left; rw [← he]; exact hy
 ·rcases List.mem_append.1 h with h | h
  ·exact Or.inl h
  ·right; rw [List.mem_singleton.1 h]
theorem entStep_good {c:ContP} {e:List UInt8 × List UInt8} (h:GoodC c) (hs:(entStep c e).2=true):GoodC (entStep c e).1:=by
 obtain ⟨k,v⟩:=e
 cases k with
 | nil=>cases hs
 | cons k rest=>
   unfold entStep at hs ⊢
   simp only at hs ⊢
   split at hs
   ·next h1=>
    rw [if_pos h1]
    exact ⟨h.inC,h.tk,h.tr⟩
   ·next h1=>
    rw [if_neg h1]
    split at hs
    ·next h2=>
     rw [if_pos h2]
     unfold memStep at hs ⊢
     simp only [Bool.and_eq_true] at hs
     refine ⟨fun x hx=>?_,h.tk,h.tr⟩
     rcases List.mem_append.1 hx with hx | hx
     ·exact h.inC x hx
     ·rw [List.mem_singleton.1 hx]
      have:=isNameP_len hs.1.1.2
      omega
    ·next h2=>
     rw [if_neg h2]
     split at hs
     ·next h3=>
      rw [if_pos h3]
      unfold tskStep at hs ⊢
      simp only [Bool.and_eq_true,decide_eq_true_eq] at hs ⊢
      refine ⟨fun x hx=>?_,by simp only [List.length_append,List.length_cons,List.length_nil]; exact hs.1.2,h.tr⟩
      rcases List.mem_append.1 hx with hx | hx
      ·exact h.inC x hx
      ·rw [List.mem_singleton.1 hx]
       obtain ⟨t,ht⟩:=Option.isSome_iff_exists.1 hs.1.1
       rw [ht,Option.getD_some]
       have ht2:=ht
       unfold readTaskP at ht2
       split at ht2
       ·cases ht2
       ·split at ht2
        ·cases ht2
        ·split at ht2
         ·cases ht2
         ·simp only at ht2
          split at ht2
          ·next hc=>
           have hc:=(Bool.and_eq_true _ _ ▸ hc:_∧_).1
           have:=((timelyB_iff _).1 hc).cls
           rw [← Option.some.inj ht2]
           have:=isNameP_len this
           simp only at this ⊢
           omega
          ·cases ht2
     ·next h3=>
      rw [if_neg h3]
      split at hs
      ·next h4=>
       rw [if_pos h4]
       unfold extStep
       exact ⟨h.inC,h.tk,fun e he=>List.mem_append.2 (Or.inl (h.tr e he))⟩
      ·next h4=>
       rw [if_neg h4]
       split at hs
       ·next h5=>
        rw [if_pos h5]
        unfold attStep at hs ⊢
        simp only at hs ⊢
        split at hs
        ·cases hs
        ·next h6=>
         rw [if_neg h6]
         split at hs
         ·cases hs
         ·next h7=>
          rw [if_neg h7]
          refine ⟨h.inC,h.tk,fun e he=>?_⟩
          simp only at he ⊢
          rcases setT_in he with he | he
          ·exact List.mem_append.2 (Or.inl (h.tr e he))
          ·exact List.mem_append.2 (Or.inr (by rw [he]; exact List.mem_singleton_self _))
       ·cases hs
theorem entsGo_good:∀ (P:PEnts) (c c':ContP),GoodC c→entsGo c P=some c'→GoodC c'
 | [],c,c',h,he=>by cases he; exact h
 | e :: r,c,c',h,he=>by
   unfold entsGo at he
   split at he
   ·next hs=>exact entsGo_good r _ _ (entStep_good h hs) he
   ·cases he
theorem entsGo_app:∀ (P Q:PEnts) (c:ContP),entsGo c (P ++ Q)=(entsGo c P).bind (fun c'=>entsGo c' Q)
 | [],Q,c=>rfl
 | e :: r,Q,c=>by
   rw [List.cons_append,entsGo,entsGo]
   split
   ·exact entsGo_app r Q _
   ·rfl
theorem entsGo_one (c:ContP) (e:List UInt8 × List UInt8):entsGo c [e]=if (entStep c e).2 then some (entStep c e).1 else none:=rfl
/-- what came first was read well -/
theorem entsGo_pre {P Q:PEnts} {c:ContP} (h:entsGo c P=none):entsGo c (P ++ Q)=none:=by rw [entsGo_app,h]; rfl
end
section
open Go.RowKit SeedP Go.Maps
structure BackI (L:List SE) (c:ContP):Prop where
 wf:∀ e ∈ L,e.Wf
 cl:∀ x ∈ c.classes,SE.cls x ∈ L
 im:∀ x s,SE.mem x s ∈ L→x ∈ c.inClass
 it:∀ i t,SE.tsk i t ∈ L→t.cls ∈ c.inClass∧i≤c.tasks.length
 tl:∀ i t,c.tasks[i]?=some t→SE.tsk (i+1) t ∈ L
 ox:∀ i s m,SE.ext i s m ∈ L→i ∈ c.ofTask
 oa:∀ i s n tm tx,SE.att i s n tm tx ∈ L→i ∈ c.ofTask∧(digP i 4 ++ s,i) ∈ c.tries∧(c.atts (digP i 4 ++ s))[n - 1]?=some tm
 al:∀ i s j tm,i≤9999→(c.atts (digP i 4 ++ s))[j]?=some tm→∃ tx,SE.att i s (j+1) tm tx ∈ L
 ord:∀ i s j a b,i≤9999→(c.atts (digP i 4 ++ s))[j]?=some a→(c.atts (digP i 4 ++ s))[j+1]?=some b→a≤b
theorem BackI.start:BackI [] contZ:=
 ⟨fun _ h=>(by cases h),fun _ h=>(by cases h),fun _ _ h=>(by cases h),fun _ _ h=>(by cases h),fun _ _ h=>(by simp [contZ] at h),fun _ _ _ h=>(by cases h),fun _ _ _ _ _ h=>(by cases h),fun _ _ _ _ _ h=>(by simp [contZ] at h),fun _ _ _ _ _ _ h=>(by simp [contZ] at h)⟩
theorem BackI.cls {L:List SE} {c:ContP} (h:BackI L c) {x:List UInt8} (hw:(SE.cls x).Wf):BackI (L ++ [.cls x]) { c with classes:=x :: c.classes }:=by
 refine ⟨fun e he=>?_,fun y hy=>?_,fun y s hm=>?_,fun i t hm=>?_,fun i t ht=>?_,fun i s m hm=>?_,fun i s n tm tx hm=>?_,fun i s j tm hi hj=>?_,h.ord⟩
 ·rcases List.mem_append.1 he with he | he
  ·exact h.wf e he
  ·rw [List.mem_singleton.1 he]; exact hw
 ·rcases List.mem_cons.1 hy with rfl | hy
  ·exact List.mem_append_right _ (List.mem_singleton.2 rfl)
  ·exact List.mem_append_left _ (h.cl y hy)
 ·exact h.im y s (by simpa using hm)
 ·exact h.it i t (by simpa using hm)
 ·exact List.mem_append_left _ (h.tl i t ht)
 ·exact h.ox i s m (by simpa using hm)
 ·exact h.oa i s n tm tx (by simpa using hm)
 ·obtain ⟨tx,ht⟩:=h.al i s j tm hi hj
  exact ⟨tx,List.mem_append_left _ ht⟩
theorem BackI.mem {L:List SE} {c:ContP} (h:BackI L c) {x s0:List UInt8} (hw:(SE.mem x s0).Wf):BackI (L ++ [.mem x s0]) { c with inClass:=c.inClass ++ [x] }:=by
 refine ⟨fun e he=>?_,fun y hy=>List.mem_append_left _ (h.cl y hy),fun y s hm=>?_,fun i t hm=>?_,fun i t ht=>?_,fun i s m hm=>?_,fun i s n tm tx hm=>?_,fun i s j tm hi hj=>?_,h.ord⟩
 ·rcases List.mem_append.1 he with he | he
  ·exact h.wf e he
  ·rw [List.mem_singleton.1 he]; exact hw
 ·rcases List.mem_append.1 hm with hm | hm
  ·exact List.mem_append_left _ (h.im y s hm)
  ·have e:=List.mem_singleton.1 hm
   cases e
   exact List.mem_append_right _ (List.mem_singleton.2 rfl)
 ·obtain ⟨k1,k2⟩:=h.it i t (by simpa using hm)
  exact ⟨List.mem_append_left _ k1,k2⟩
 ·exact List.mem_append_left _ (h.tl i t ht)
 ·exact h.ox i s m (by simpa using hm)
 ·exact h.oa i s n tm tx (by simpa using hm)
 ·obtain ⟨tx,ht⟩:=h.al i s j tm hi hj
  exact ⟨tx,List.mem_append_left _ ht⟩
theorem BackI.tsk {L:List SE} {c:ContP} (h:BackI L c) {t0:TaskP} (hw:(SE.tsk (c.tasks.length+1) t0).Wf):BackI (L ++ [.tsk (c.tasks.length+1) t0]) { c with tasks:=c.tasks ++ [t0],inClass:=c.inClass ++ [t0.cls] }:=by
 refine ⟨fun e he=>?_,fun y hy=>List.mem_append_left _ (h.cl y hy),fun y s hm=>?_,fun i t hm=>?_,fun i t ht=>?_,fun i s m hm=>?_,fun i s n tm tx hm=>?_,fun i s j tm hi hj=>?_,h.ord⟩
 ·rcases List.mem_append.1 he with he | he
  ·exact h.wf e he
  ·rw [List.mem_singleton.1 he]; exact hw
 ·exact List.mem_append_left _ (h.im y s (by simpa using hm))
 ·rcases List.mem_append.1 hm with hm | hm
  ·obtain ⟨k1,k2⟩:=h.it i t hm
   exact ⟨List.mem_append_left _ k1,by rw [List.length_append]; omega⟩
  ·have e:=List.mem_singleton.1 hm
   cases e
   exact ⟨List.mem_append_right _ (List.mem_singleton.2 rfl),by rw [List.length_append]; exact Nat.le_refl _⟩
 ·have ht:(c.tasks ++ [t0])[i]?=some t:=ht
  by_cases hl:i < c.tasks.length
  ·rw [List.getElem?_append_left hl] at ht
   exact List.mem_append_left _ (h.tl i t ht)
  ·rw [List.getElem?_append_right (by omega)] at ht
   by_cases h0:i - c.tasks.length=0
   ·rw [h0] at ht
    cases ht
    rw [show i=c.tasks.length by omega]
    exact List.mem_append_right _ (List.mem_singleton.2 rfl)
   ·rw [List.getElem?_eq_none (by rw [List.length_singleton]; omega)] at ht
    cases ht
 ·exact h.ox i s m (by simpa using hm)
 ·exact h.oa i s n tm tx (by simpa using hm)
 ·obtain ⟨tx,ht⟩:=h.al i s j tm hi hj
  exact ⟨tx,List.mem_append_left _ ht⟩
theorem BackI.ext {L:List SE} {c:ContP} (h:BackI L c) {id m0:Nat} {s0:List UInt8} (hw:(SE.ext id s0 m0).Wf):BackI (L ++ [.ext id s0 m0]) { c with ofTask:=c.ofTask ++ [id] }:=by
 refine ⟨fun e he=>?_,fun y hy=>List.mem_append_left _ (h.cl y hy),fun y s hm=>?_,fun i t hm=>?_,fun i t ht=>?_,fun i s m hm=>?_,fun i s n tm tx hm=>?_,fun i s j tm hi hj=>?_,h.ord⟩
 ·rcases List.mem_append.1 he with he | he
  ·exact h.wf e he
  ·rw [List.mem_singleton.1 he]; exact hw
 ·exact h.im y s (by simpa using hm)
 ·exact h.it i t (by simpa using hm)
 ·exact List.mem_append_left _ (h.tl i t ht)
 ·rcases List.mem_append.1 hm with hm | hm
  ·exact List.mem_append_left _ (h.ox i s m hm)
  ·have e:=List.mem_singleton.1 hm
   cases e
   exact List.mem_append_right _ (List.mem_singleton.2 rfl)
 ·obtain ⟨k1,k2,k3⟩:=h.oa i s n tm tx (by simpa using hm)
  exact ⟨List.mem_append_left _ k1,k2,k3⟩
 ·obtain ⟨tx,ht⟩:=h.al i s j tm hi hj
  exact ⟨tx,List.mem_append_left _ ht⟩
theorem setT_new (l:List (List UInt8 × Nat)) (k:List UInt8) (n:Nat):(k,n) ∈ setT l k n:=by
 unfold setT
 split
 ·rename_i h
  obtain ⟨e,he,hk⟩:=List.any_eq_true.1 h
  exact List.mem_map.2 ⟨e,he,by rw [if_pos hk]⟩
 ·exact List.mem_append_right _ (List.mem_singleton.2 rfl)
theorem setT_old {l:List (List UInt8 × Nat)} {k w:List UInt8} {n i:Nat} (h:(w,i) ∈ l) (hn:w=k→i=n):(w,i) ∈ setT l k n:=by
 unfold setT
 split
 ·refine List.mem_map.2 ⟨(w,i),h,?_⟩
  by_cases e:w=k
  ·rw [if_pos (by simpa using e),e,hn e]
  ·rw [if_neg (by simpa using e)]
 ·exact List.mem_append_left _ h
theorem BackI.att {L:List SE} {c:ContP} (h:BackI L c) {id tm0:Nat} {s0 tx0:List UInt8} (hw:(SE.att id s0 ((c.atts (digP id 4 ++ s0)).length+1) tm0 tx0).Wf) (ho:¬ (1 < (c.atts (digP id 4 ++ s0)).length+1∧tm0 < (c.atts (digP id 4 ++ s0)).getD ((c.atts (digP id 4 ++ s0)).length+1 - 2) 0)) :
 BackI (L ++ [.att id s0 ((c.atts (digP id 4 ++ s0)).length+1) tm0 tx0]) { c with ofTask:=c.ofTask ++ [id],atts:=updA c.atts (digP id 4 ++ s0) (c.atts (digP id 4 ++ s0) ++ [tm0]),tries:=setT c.tries (digP id 4 ++ s0) id }:=by
 have hid:id≤9999:=hw.2.1
 refine ⟨fun e he=>?_,fun y hy=>List.mem_append_left _ (h.cl y hy),fun y s hm=>?_,fun i t hm=>?_,fun i t ht=>?_,fun i s m hm=>?_,fun i s n tm tx hm=>?_,fun i s j tm hi hj=>?_,fun i s j a b hi ha hb=>?_⟩
 ·rcases List.mem_append.1 he with he | he
  ·exact h.wf e he
  ·rw [List.mem_singleton.1 he]; exact hw
 ·exact h.im y s (by simpa using hm)
 ·exact h.it i t (by simpa using hm)
 ·exact List.mem_append_left _ (h.tl i t ht)
 ·exact List.mem_append_left _ (h.ox i s m (by simpa using hm))
 ·show i ∈ c.ofTask ++ [id]∧(digP i 4 ++ s,i) ∈ setT c.tries _ _∧(updA c.atts (digP id 4 ++ s0) (c.atts (digP id 4 ++ s0) ++ [tm0]) (digP i 4 ++ s))[n - 1]?=some tm
  rcases List.mem_append.1 hm with hm | hm
  ·obtain ⟨k1,k2,k3⟩:=h.oa i s n tm tx hm
   have hi:i≤9999:=(h.wf _ hm).2.1
   refine ⟨List.mem_append_left _ k1,setT_old k2 (fun e=>(whose_inj hi hid e).1),?_⟩
   unfold updA
   by_cases e:digP i 4 ++ s=digP id 4 ++ s0
   ·rw [if_pos e,← e,List.getElem?_append_left (List.getElem?_eq_some_iff.1 k3).1]
    exact k3
   ·rw [if_neg e]; exact k3
  ·have e:=List.mem_singleton.1 hm
   cases e
   refine ⟨List.mem_append_right _ (List.mem_singleton.2 rfl),setT_new _ _ _,?_⟩
   unfold updA
   rw [if_pos rfl,Nat.add_sub_cancel,List.getElem?_append_right (Nat.le_refl _),Nat.sub_self]
   rfl
 ·have hj:(updA c.atts (digP id 4 ++ s0) (c.atts (digP id 4 ++ s0) ++ [tm0]) (digP i 4 ++ s))[j]?=some tm:=hj
  unfold updA at hj
  by_cases e:digP i 4 ++ s=digP id 4 ++ s0
  ·obtain ⟨rfl,rfl⟩:=whose_inj hi hid e
   rw [if_pos rfl] at hj
   by_cases hl:j < (c.atts (digP i 4 ++ s)).length
   ·rw [List.getElem?_append_left hl] at hj
    obtain ⟨tx,ht⟩:=h.al i s j tm hi hj
    exact ⟨tx,List.mem_append_left _ ht⟩
   ·rw [List.getElem?_append_right (by omega)] at hj
    by_cases h0:j - (c.atts (digP i 4 ++ s)).length=0
    ·rw [h0] at hj
     cases hj
     rw [show j=(c.atts (digP i 4 ++ s)).length by omega]
     exact ⟨tx0,List.mem_append_right _ (List.mem_singleton.2 rfl)⟩
    ·rw [List.getElem?_eq_none (by rw [List.length_singleton]; omega)] at hj
     cases hj
  ·rw [if_neg e] at hj
   obtain ⟨tx,ht⟩:=h.al i s j tm hi hj
   exact ⟨tx,List.mem_append_left _ ht⟩
 ·have ha:(updA c.atts (digP id 4 ++ s0) (c.atts (digP id 4 ++ s0) ++ [tm0]) (digP i 4 ++ s))[j]?=some a:=ha
  have hb:(updA c.atts (digP id 4 ++ s0) (c.atts (digP id 4 ++ s0) ++ [tm0]) (digP i 4 ++ s))[j+1]?=some b:=hb
  unfold updA at ha hb
  by_cases e:digP i 4 ++ s=digP id 4 ++ s0
  ·rw [if_pos e] at ha hb
   have hord:=h.ord id s0 j
   generalize c.atts (digP id 4 ++ s0)=l at ha hb ho hord
   by_cases hl:j+1 < l.length
   ·rw [List.getElem?_append_left hl] at hb
    rw [List.getElem?_append_left (by omega)] at ha
    exact hord a b hid ha hb
   ·have hlen:=(List.getElem?_eq_some_iff.1 hb).1
    rw [List.length_append,List.length_singleton] at hlen
    have e1:j+1=l.length:=by omega
    rw [List.getElem?_append_left (by omega)] at ha
    rw [List.getElem?_append_right (by omega),e1,Nat.sub_self] at hb
    cases hb
    have e2:l.getD (l.length+1 - 2) 0=a:=by
     rw [show l.length+1 - 2=j by omega,List.getD_eq_getElem?_getD,ha]; rfl
    rw [e2] at ho
    omega
  ·rw [if_neg e] at ha hb
   exact h.ord i s j a b hi ha hb
theorem mem_find {P:PEnts} (hn:(keysOf P).Nodup) {k v:List UInt8} (h:(k,v) ∈ P):pFind P k=some v:=by
 induction P with
 | nil=>cases h
 | cons x r ih=>
   have hn:(x.1 :: keysOf r).Nodup:=hn
   obtain ⟨h1,h2⟩:=List.nodup_cons.1 hn
   rw [pFind_cons]
   rcases List.mem_cons.1 h with rfl | h
   ·rw [if_pos (by simp)]
   ·rw [if_neg,ih h2 h]
    intro e
    have e:=eq_of_beq e
    exact h1 (by rw [e]; exact List.mem_map.2 ⟨(k,v),h,rfl⟩)
end
section
open Go.RowKit SeedP Go.Maps Go.Shelf
attribute [local go_sem] Oper.semAt_some
/-- an entry, as it is handed out -/
structure EntX where
 k:List UInt8
 v:List UInt8
 a:Option Addr
 cap:Nat
def EntX.kv (x:EntX):List UInt8 × List UInt8:=(x.k,x.v)
def EntX.enc (x:EntX):Array Value:=#[strV x.k,.slice x.a x.v.length x.cap]
def EntX.Rd (x:EntX) (N:Nat) (w:World):Prop:=RdP w (fun g=>N≤g) (.slice x.a x.v.length x.cap) x.v∧x.k.length≤1000000∧x.v.length≤1000000∧1≤x.k.length
theorem find_i {P:PEnts} (hn:(keysOf P).Nodup) {j:Nat} (hj:j < P.length):pFind P (P[j]).1=some (P[j]).2:=mem_find hn (List.getElem_mem hj)
theorem keys_all (P:PEnts):(keysOf P).filter (isPref [])=P.map (·.1):=by
 unfold keysOf
 rw [List.filter_eq_self]
 intro k _
 rfl
theorem ownS_at {w:World} {B:Nat} {v:Value} {L:List (List UInt8)} (h:ownS w B v L):L=[]∨∃ g cap,v=.slice (some ⟨g,0,none⟩) L.length cap∧B≤g∧g < w.heap.size∧∀ j (hj:j < L.length),w.cell? ⟨g,j,none⟩=some (strV L[j]):=by
 rcases h.2 with ⟨-,h0⟩ | ⟨g,cap,cur,rfl,hB,hg,hn,hc,hs,ht⟩
 ·exact Or.inl (List.length_eq_zero_iff.1 h0)
 ·refine Or.inr ⟨g,cap,rfl,hB,(Array.getElem?_eq_some_iff.1 hg).1,fun j hj=>?_⟩
  have e:w.cell? ⟨g,j,none⟩=cur[j]?:=by simp [World.cell?,hg]
  rw [e]
  have h3:(cur.toList.take (L.length * 1))[j]?=(L.map strV)[j]?:=by rw [ht]
  rw [List.getElem?_take,if_pos (by omega)] at h3
  rw [← Array.getElem?_toList,h3,List.getElem?_map,List.getElem?_eq_getElem hj]
  rfl
set_option maxRecDepth 100000 in
/-- all -/
theorem all_c (jb:Nat) (w:World) :
 Calls Tryz.prog 83 #[.pointer (some ⟨jb,0,none⟩)] w fun e w'=>e=.returned (.func (.func 125) #[] #[.pointer (some ⟨w.heap.size,0,none⟩)])∧w'=w.alloc (.cells #[.pointer (some ⟨jb,0,none⟩)] 52):=by
 go_enter Tryz.func83,Tryz.ntmps83
 go_wp2
 go_ret
 exact ⟨rfl,rfl⟩
/-- what holds ahead of the i-th entry -/
structure AllM (jb db mb:Nat) (pj p1:Nat→Prop) (s:JS) (bx:Nat) (v:Value) (K:List (List UInt8)) (W:World):Prop where
 jw:JW W jb db mb pj s
 box:W.cell? ⟨bx,0,none⟩=some (.pointer (some ⟨jb,0,none⟩))
 bp:p1 bx
 row:K=[]∨∃ g cap,v=.slice (some ⟨g,0,none⟩) K.length cap∧p1 g∧∀ j (hj:j < K.length),W.cell? ⟨g,j,none⟩=some (strV K[j])
theorem AllM.grown {jb db mb:Nat} {pj p1:Nat→Prop} {s:JS} {bx:Nat} {v:Value} {K:List (List UInt8)} {W W':World} (h:AllM jb db mb pj p1 s bx v K W) (hp:p1 0∧p1 jb∧p1 db∧p1 mb∧∀ g,pj g→p1 g) (hg:Grown (fun g=>¬ p1 g) W W'):AllM jb db mb pj p1 s bx v K W':=by
 obtain ⟨h0,h1,h2,h3,h4⟩:=hp
 have hc:∀ g o x,p1 g→W.cell? ⟨g,o,none⟩=some x→W'.cell? ⟨g,o,none⟩=some x:=fun g o x hpg hc=>by
  have hlt:=World.block_lt_of_cell? W _ hc
  have hb:=hg.block g hlt (fun hn=>hn hpg)
  rw [← hc]
  unfold World.cell?
  rw [hb]
 refine ⟨h.jw.grown hg (fun hn=>hn h0) (fun hn=>hn h1) (fun hn=>hn h2) (fun hn=>hn h3) (fun g hp hn=>hn (h4 g hp)),hc _ _ _ h.bp h.box,h.bp,?_⟩
 rcases h.row with h5 | ⟨g,cap,h5,h6,h7⟩
 ·exact Or.inl h5
 ·exact Or.inr ⟨g,cap,h5,h6,fun j hj=>hc _ _ _ h6 (h7 j hj)⟩
theorem AllM.below {jb db mb:Nat} {pj p1:Nat→Prop} {s:JS} {bx:Nat} {v:Value} {K:List (List UInt8)} {W W':World} (h:AllM jb db mb pj p1 s bx v K W) (hp:p1 0∧p1 jb∧p1 db∧p1 mb∧∀ g,pj g→p1 g) (hb:Below W.heap.size W W'):AllM jb db mb pj p1 s bx v K W':=
 h.grown hp (Grown.of_below hb)
set_option maxRecDepth 100000 in
set_option maxHeartbeats 2000000 in
/-- the iterator -/
theorem all_iter {jb db mb:Nat} {pj p0:Nat→Prop} {s:JS} (w:World) (h:JW w jb db mb pj s) (hd:s.down=false) (bx:Nat) (hbx:w.cell? ⟨bx,0,none⟩=some (.pointer (some ⟨jb,0,none⟩))) (hp:p0 0∧p0 jb∧p0 db∧p0 mb∧∀ g,pj g→p0 g) (hpb:p0 bx) (n:Nat) (hn:1≤n) :
 Iter Fence.wide n Tryz.prog 125 #[.pointer (some ⟨bx,0,none⟩)] EntX.enc EntX.Rd (fun xs=>xs.map EntX.kv=s.c.ents) (fun pre=>pre.map EntX.kv <+: s.c.ents) s.c.ents.length w p0:=by
 intro l J Jx W hW hJ hJx hY h0
 have hJW:=h.below hW
 have hbx':W.cell? ⟨bx,0,none⟩=some (.pointer (some ⟨jb,0,none⟩)):=(hW.cell (p:=⟨bx,0,none⟩) (World.block_lt_of_cell? w _ hbx)).trans hbx
 have HK:=Lib.hid (keysFn_c [] W hJW (by simp))
 rw [hd] at HK
 simp only [Bool.false_eq_true,if_false,keys_all] at HK
 have hll:s.c.ents.length≤131072:=by
  have h1:=pWt_len s.c.ents
  have h2:=h.ok.wt
  have h3:=h.ok.max
  omega
 have HW:=Lib.hid hW
 have H0:=Lib.hid h0
 have HJW:=Lib.hid hJW
 refine callsIn_of_wp Tryz.func125 rfl trivial ?_ rfl
 simp only [Tryz.ntmps125,List.size_toArray,List.length_cons,List.length_nil,Nat.reduceAdd,Nat.reduceSub,Array.replicate_succ,Array.replicate_zero,List.push_toArray,List.append_toArray,List.nil_append,List.cons_append]
 obtain ⟨K,hK⟩:∃ K,s.c.ents.map (·.1)=K:=⟨_,rfl⟩
 rw [hK] at HK
 have hKl:K.length=s.c.ents.length:=by rw [← hK,List.length_map]
 have HKat:Hid (∀ j (h:j < K.length),∃ x:List UInt8 × List UInt8,x.1=K[j]∧s.c.ents.take (j+1)=s.c.ents.take j ++ [x]∧pFind s.c.ents K[j]=some x.2∧1≤x.1.length∧x.1.length≤40∧x.2.length≤4096):=Lib.hid (fun j hj=>by
  have hj2:j < s.c.ents.length:=by omega
  have e:K[j]=(s.c.ents[j]).1:=by subst hK; simp
  have hm:=h.small.key _ (List.getElem_mem hj2)
  exact ⟨s.c.ents[j],e.symm,List.take_succ_eq_append_getElem hj2,by rw [e]; exact find_i h.ok.apart hj2,hm.1,hm.2,h.small.val _ (List.getElem_mem hj2)⟩)
 have HKL:=Lib.hid hKl
 have hkl1:K.length≤131072:=by rw [hKl]; exact hll
 clear hKl hll
 gi_wp2_with (refine ⟨trivial,?_⟩; gi_at_call 48; refine (callsIn_wide.2 HK.out).mono ?_; rintro e w1 ⟨v,rfl,hv,hb1⟩; obtain ⟨av,cv,rfl⟩:=own_slice hv; clear HK)
 have J1:=hJ p0 (fun g=>p0 g∨(W.heap.size≤g∧g < w1.heap.size)) [] W w1 H0.out hb1 (fun g h=>h)
 have HM:AllM jb db mb pj (fun g=>p0 g∨(W.heap.size≤g∧g < w1.heap.size)) s bx (.slice av K.length cv) K w1:=⟨HJW.out.below hb1,(hb1.cell (p:=⟨bx,0,none⟩) (World.block_lt_of_cell? W _ hbx')).trans hbx',Or.inl hpb,(ownS_at hv).imp_right (fun ⟨g,cap,e,h1,h2,h3⟩=>⟨g,cap,e,Or.inr ⟨h1,h2⟩,h3⟩)⟩
 have hp1:(fun g=>p0 g∨(W.heap.size≤g∧g < w1.heap.size)) 0∧(fun g=>p0 g∨(W.heap.size≤g∧g < w1.heap.size)) jb∧(fun g=>p0 g∨(W.heap.size≤g∧g < w1.heap.size)) db∧(fun g=>p0 g∨(W.heap.size≤g∧g < w1.heap.size)) mb∧∀ g,pj g→(fun g=>p0 g∨(W.heap.size≤g∧g < w1.heap.size)) g:=⟨Or.inl hp.1,Or.inl hp.2.1,Or.inl hp.2.2.1,Or.inl hp.2.2.2.1,fun g hg=>Or.inl (hp.2.2.2.2 g hg)⟩
 have HP0:Hid (∀ g,p0 g→(fun g=>p0 g∨(W.heap.size≤g∧g < w1.heap.size)) g):=Lib.hid (fun g hg=>Or.inl hg)
 generalize (fun g=>p0 g∨(W.heap.size≤g∧g < w1.heap.size))=p1 at *
 have HP1:=Lib.hid hp1
 have HJJ:=Lib.hid hJ
 have HJJX:=Lib.hid hJx
 have HYY:=Lib.hid hY
 have HMM:=Lib.hid HM
 have HJ1:=Lib.hid J1
 clear hJ hJx hY h0 hJW hbx' HW H0 HJW hv hb1 J1 HM hp1 hp hpb hbx hW h
 gi_loopw [10] (fun iv wr=>∃ (j:Nat) (pre:List EntX),j≤K.length∧iv=.int .i64 j∧pre.map EntX.kv=s.c.ents.take j∧J p1 pre wr∧AllM jb db mb pj p1 s bx (.slice av K.length cv) K wr) (fun i _=>K.length - (intOf i).toNat)
 case atStart=>exact ⟨0,[],Nat.zero_le _,rfl,rfl,HJ1.out,HMM.out⟩
 case round=>
  obtain ⟨j,pre,hj,rfl,hpre,hJr,hM⟩:=hrel
  have HM:=Lib.hid hM
  have HJr:=Lib.hid hJr
  have HPRE:=Lib.hid hpre
  clear hM hJr hpre
  have HPLj:Hid (pre.length=min j s.c.ents.length):=Lib.hid (by have:=congrArg List.length HPRE.out; simpa using this)
  by_cases hlt:j < K.length
  ·have b1:decide ((j:Int) < (K.length:Int))=true:=decide_eq_true (by omega)
   have b2:(j:Int) < (K.length:Int):=by omega
   obtain ⟨g,cap,e,hpg,hcell⟩:∃ g cap,Value.slice av K.length cv=.slice (some ⟨g,0,none⟩) K.length cap∧p1 g∧∀ j (hj:j < K.length),wr.cell? ⟨g,j,none⟩=some (strV K[j]):=by
    rcases HM.out.row with h | h
    ·rw [h] at hlt; simp at hlt
    ·exact h
   simp only [Value.slice.injEq,true_and] at e
   obtain ⟨rfl,rfl⟩:=e
   have hc:=hcell j hlt
   have k0:=HM.out.box
   have HPL:Hid (pre.length < s.c.ents.length):=Lib.hid (by have h1:=HPLj.out; have h2:=HKL.out; omega)
   obtain ⟨⟨xk,xv⟩,hx1,hx2,hx3,hx4,hx5,hx6⟩:=HKat.out j hlt
   simp only at hx1 hx2 hx3 hx4 hx5 hx6
   have HG:=Lib.hid (sgetP_c K[j] wr HM.out.jw hd (by rw [← hx1]; omega))
   rw [hx3] at HG
   simp only [Option.getD_some,Option.isSome_some] at HG
   rw [← hx1] at HG hc
   have HX:=Lib.hid (And.intro hx2 (And.intro hx4 (And.intro hx5 hx6)))
   clear hcell hx1 hx2 hx3 hx4 hx5 hx6 hpg
   gi_wp2_with (refine ⟨trivial,?_⟩; gi_at_call 40; refine (callsIn_wide.2 HG.out).mono ?_; rintro e w2 ⟨⟨a2,c2,rfl,hr2⟩,hb2⟩; clear HG; obtain ⟨fn,tmps,assign,body,hy,hR⟩:=HYY.out p1 pre ⟨xk,xv,a2,c2⟩ wr w2 HJr.out HPL.out hb2 ⟨hr2.mono (fun q _ hq=>hq.1),Nat.le_trans HX.out.2.2.1 (by omega),Nat.le_trans HX.out.2.2.2 (by omega),HX.out.2.1⟩; dsimp only [EntX.enc] at hy; have HR:=Lib.hid hR; have HB2:=Lib.hid hb2; clear hr2 hb2 hR)
   refine HR.out.mono ?_
   rintro e w3 (⟨rfl,hJ3,hg3⟩ | ⟨rfl,hJx3⟩)
   ·have HJ3:=Lib.hid hJ3
    have HM3:=Lib.hid ((HM.out.below HP1.out HB2.out).grown HP1.out hg3)
    clear hJ3 hg3 HB2 HR hy
    gi_wp2
    go_roundw
    case rel=>exact ⟨j+1,_,by omega,by go_num,by rw [List.map_append,HPRE.out,HX.out.1]; rfl,HJ3.out,HM3.out⟩
    case measure=>simp [intOf]; omega
   ·have HJ3:=Lib.hid hJx3
    clear hJx3 HB2 HR hy
    gi_wp2
    refine bodyPost_ret (results_none rfl _ _ _) rfl ?_
    exact ⟨⟨_,rfl⟩,.inr ⟨_,⟨s.c.ents.drop (j+1),by rw [List.map_append,HPRE.out]; exact (congrArg (· ++ _) HX.out.1.symm).trans (List.take_append_drop _ _)⟩,HJJX.out p1 p0 _ w3 w3 HJ3.out (Below.refl _ _) (fun g hg=>Or.inl (HP0.out g hg))⟩⟩
  ·obtain rfl:j=K.length:=by omega
   have b1:decide ((K.length:Int) < (K.length:Int))=false:=by simp
   gi_wp2
   go_end0
   exact ⟨⟨_,rfl⟩,.inl ⟨pre,by rw [HPRE.out,HKL.out,List.take_length],HJJ.out p1 p0 _ wr wr HJr.out (Below.refl _ _) (fun g hg=>Or.inl (HP0.out g hg))⟩⟩
end
section
open Go.RowKit SeedP Go.Maps
/-- an entry as a piece of text -/
def entT (e:List UInt8 × List UInt8):List UInt8:=e.1 ++ 61 :: (e.2 ++ [0,0])
def contentP (P:PEnts):List UInt8:=P.flatMap entT
theorem contentP_snoc (P:PEnts) (e:List UInt8 × List UInt8):contentP (P ++ [e])=contentP P ++ entT e:=by simp [contentP]
theorem entT_str (k v:List UInt8):(⟨k.toArray⟩:ByteArray) ++ ⟨#[61]⟩ ++ ⟨v.toArray⟩ ++ ⟨#[0,0]⟩=⟨(entT (k,v)).toArray⟩:=by
 apply ByteArray.ext
 simp [entT]
theorem contentP_len (P:PEnts):((contentP P).length:Int)=pWt P:=by
 induction P with
 | nil=>rfl
 | cons e r ih=>
   rw [pWt_cons,← ih]
   unfold contentP eWt
   rw [List.flatMap_cons,List.length_append]
   unfold entT
   simp only [List.length_append,List.length_cons,List.length_nil]
   omega
theorem pWt_app (P Q:PEnts):pWt (P ++ Q)=pWt P+pWt Q:=by
 induction P with
 | nil=>simp [pWt]
 | cons e r ih=>rw [List.cons_append,pWt_cons,pWt_cons,ih]; omega
theorem contentP_take (P:PEnts) (j:Nat):((contentP (P.take j)).length:Int)≤pWt P:=by
 rw [contentP_len]
 have h:=pWt_app (P.take j) (P.drop j)
 rw [List.take_append_drop] at h
 have:=pWt_nonneg (P.drop j)
 omega
set_option maxRecDepth 100000 in
set_option maxHeartbeats 2000000 in
/-- content -/
theorem content_c (db:Nat) (p:Nat→Prop) (d:DS) (w:World) (hs:St w) (hd:DW w db p d) (hok:d.Ok) (hp:∀ g,p g→g ≠ db∧g ≠ 0) :
 Calls Tryz.prog 26 #[.pointer (some ⟨db,0,none⟩)] w fun e w'=>e=.returned (strV (contentP (jOpen d).c.ents))∧Below w.heap.size w w':=by
 have HO:=Lib.hid (open_c db p d w hs hd hok hp)
 have hup:(jOpen d).down=false:=(open_live hok).up
 generalize jOpen d=s at *
 clear hs hd hok
 go_enter Tryz.func26,Tryz.ntmps26
 go_wp2_with fail
 refine HO.out.mono ?_
 rintro e w1 ⟨jb,mb,rfl, -, -,hJ,hb⟩
 have HB:=Lib.hid hb
 have HJ:=Lib.hid hJ
 have HK:=Lib.hid (keysFn_c [] w1 hJ (by simp))
 rw [hup] at HK
 simp only [Bool.false_eq_true,if_false,keys_all] at HK
 obtain ⟨K,hK⟩:∃ K,s.c.ents.map (·.1)=K:=⟨_,rfl⟩
 rw [hK] at HK
 have hkl1:K.length≤131072:=by
  have h1:=pWt_len s.c.ents
  have h2:=hJ.ok.wt
  have h3:=hJ.ok.max
  rw [← hK,List.length_map]
  omega
 have HTL:Hid (∀ j,(contentP (s.c.ents.take j)).length≤131072):=Lib.hid (fun j=>by
  have h1:=contentP_take s.c.ents j
  have h2:=hJ.ok.wt
  have h3:=hJ.ok.max
  omega)
 have HKL:Hid (K.length=s.c.ents.length):=Lib.hid (by rw [← hK,List.length_map])
 have HKat:Hid (∀ j (h:j < K.length),∃ x:List UInt8 × List UInt8,x.1=K[j]∧s.c.ents.take (j+1)=s.c.ents.take j ++ [x]∧pFind s.c.ents K[j]=some x.2∧x.1.length≤40∧x.2.length≤4096):=Lib.hid (fun j hj=>by
  have hj2:j < s.c.ents.length:=by rw [← HKL.out]; exact hj
  have e:K[j]=(s.c.ents[j]).1:=by subst hK; simp
  exact ⟨s.c.ents[j],e.symm,List.take_succ_eq_append_getElem hj2,by rw [e]; exact find_i hJ.ok.apart hj2,(hJ.small.key _ (List.getElem_mem hj2)).2,hJ.small.val _ (List.getElem_mem hj2)⟩)
 clear hJ hb HO hp hK
 go_wp2_with fail
 refine HK.out.mono ?_
 rintro e w2 ⟨v,rfl,hv,hb2⟩
 obtain ⟨av,cv,rfl⟩:=own_slice hv
 have HJ2:=Lib.hid (HJ.out.below hb2)
 have HB2:=Lib.hid (HB.out.trans (hb2.mono HB.out.size))
 have HROW:=Lib.hid (ownS_at hv)
 clear hv hb2 HJ HB HK
 go_wp2
 go_loopw [5,20] (fun ov iv wr=>∃ j:Nat,j≤K.length∧iv=.int .i64 j∧ov=strV (contentP (s.c.ents.take j))∧Below w2.heap.size w2 wr) (fun _ i _=>K.length - (intOf i).toNat)
 case atStart=>exact ⟨0,Nat.zero_le _,rfl,rfl,Below.refl _ _⟩
 case round=>
  obtain ⟨j,hj,rfl,rfl,hbr⟩:=hrel
  have HBR:=Lib.hid hbr
  by_cases hlt:j < K.length
  ·have b1:decide ((j:Int) < (K.length:Int))=true:=decide_eq_true (by omega)
   have b2:(j:Int) < (K.length:Int):=by omega
   obtain ⟨g,cap,e, -,hgl,hcell⟩:∃ g cap,Value.slice av K.length cv=.slice (some ⟨g,0,none⟩) K.length cap∧w1.heap.size≤g∧g < w2.heap.size∧∀ j (hj:j < K.length),w2.cell? ⟨g,j,none⟩=some (strV K[j]):=by
    rcases HROW.out with h | h
    ·rw [h] at hlt; simp at hlt
    ·exact h
   simp only [Value.slice.injEq,true_and] at e
   obtain ⟨rfl,rfl⟩:=e
   have hc:=(hbr.cell (p:=⟨g,j,none⟩) hgl).trans (hcell j hlt)
   obtain ⟨⟨xk,xv⟩,hx1,hx2,hx3,hx4,hx5⟩:=HKat.out j hlt
   simp only at hx1 hx2 hx3 hx4 hx5
   have HG:=Lib.hid (sgetP_c K[j] wr (HJ2.out.below hbr) hup (by rw [← hx1]; omega))
   rw [hx3] at HG
   simp only [Option.getD_some,Option.isSome_some] at HG
   rw [← hx1] at HG hc
   have HX:=Lib.hid hx2
   clear hcell hx1 hx2 hx3 hgl hbr
   have hTl:=HTL.out j
   have z1:=str_size xk
   have z2:=str_size xv
   obtain ⟨T,hT⟩:∃ T,contentP (s.c.ents.take j)=T:=⟨_,rfl⟩
   rw [hT]
   rw [hT] at hTl
   have z3:=str_size T
   have HT:=Lib.hid hT
   clear hT
   have HNT:Hid (contentP (s.c.ents.take (j+1))=T ++ entT (xk,xv)):=Lib.hid (by rw [HX.out,contentP_snoc,HT.out])
   go_wp2_with fail
   refine HG.out.mono ?_
   rintro e w3 ⟨⟨a3,c3,rfl,hr3⟩,hb3⟩
   have hcv:=conv_c hr3.toB
   have HB3:=Lib.hid (HBR.out.trans (hb3.mono HBR.out.size))
   clear hr3 hb3 HG
   go_wp2
   go_roundw
   case rel=>
    refine ⟨j+1,by omega,by go_num,?_,HB3.out⟩
    rw [HNT.out]
    show Value.string _=Value.string _
    rw [entT_str,app_str]
   case measure=>simp [intOf]; omega
  ·obtain rfl:j=K.length:=by omega
   have b1:decide ((K.length:Int) < (K.length:Int))=false:=by simp
   have HE:Hid (s.c.ents.take K.length=s.c.ents):=Lib.hid (by rw [HKL.out,List.take_length])
   clear hbr
   go_wp2
   go_ret
   rw [HE.out]
   exact ⟨rfl,HB2.out.trans (HBR.out.mono HB2.out.size)⟩
end
end Go.Proofs.YtbcfpdlhieaepaaGreatDoor
