/- What the methods leave is read as a school. No program in sight. -/
import Derived.Test.YtbcfpdlhieaepaaGreatDoorR17
namespace Go.Proofs.YtbcfpdlhieaepaaGreatDoor
section
open Go.RowKit SeedP Go.Maps
/-! ### order -/
theorem bb_app (a:List UInt8):∀ (b c:List UInt8),bytesBefore (a ++ b) (a ++ c)=bytesBefore b c:=by
 induction a with
 | nil=>intro b c; rfl
 | cons x r ih=>
   intro b c
   rw [List.cons_append,List.cons_append,bytesBefore,ih]
   have:¬ x < x:=UInt8.lt_irrefl x
   simp [this]
theorem dig_lt:∀ (k n m:Nat),n < m→m < 10 ^ k→bytesBefore (digP n k) (digP m k)=true
 | 0,n,m,h,h2=>by simp at h2; omega
 | k+1,n,m,h,h2=>by
   rw [Nat.pow_succ] at h2
   rw [digP,digP]
   by_cases e:n / 10=m / 10
   ·rw [e,bb_app]
    have hlt:UInt8.ofNat (48+n % 10) < UInt8.ofNat (48+m % 10):=by
     rw [UInt8.lt_iff_toNat_lt,dig_byte,dig_byte]; omega
    generalize UInt8.ofNat (48+n % 10)=a at *
    generalize UInt8.ofNat (48+m % 10)=b at *
    simp [bytesBefore,hlt]
   ·have h3:=dig_lt k (n / 10) (m / 10) (by omega) (by omega)
    exact bb_longer _ _ _ _ (by rw [digP_len,digP_len]) h3
where
 bb_longer:∀ (a b c d:List UInt8),a.length=b.length→bytesBefore a b=true→bytesBefore (a ++ c) (b ++ d)=true
  | [],[],c,d,_,h=>by simp [bytesBefore] at h
  | [],_ :: _,c,d,h,_=>by simp at h
  | _ :: _,[],c,d,h,_=>by simp at h
  | x :: r,y :: q,c,d,hl,h=>by
    rw [bytesBefore,Bool.or_eq_true,decide_eq_true_eq,Bool.and_eq_true] at h
    rw [List.cons_append,List.cons_append,bytesBefore,Bool.or_eq_true,decide_eq_true_eq,Bool.and_eq_true]
    rcases h with h | ⟨h1,h2⟩
    ·exact Or.inl h
    ·exact Or.inr ⟨h1,bb_longer r q c d (by simpa using hl) h2⟩
theorem tkey_lt {n m:Nat} (h:n < m) (h2:m≤9999):bytesBefore (tkey n) (tkey m)=true:=by
 have:=bb_app [116] (digP n 4) (digP m 4)
 unfold tkey
 rw [show (116:UInt8) :: digP n 4=[116] ++ digP n 4 from rfl,show (116:UInt8) :: digP m 4=[116] ++ digP m 4 from rfl,this]
 exact dig_lt 4 n m h (by omega)
theorem akey_lt (id:Nat) (s:List UInt8) {n m:Nat} (h:n < m) (h2:m≤99):bytesBefore (akey id s n) (akey id s m)=true:=by
 have e:∀ n,akey id s n=(97 :: (digP id 4 ++ 32 :: (s ++ [32]))) ++ digP n 2:=fun n=>by unfold akey; simp
 rw [e,e,bb_app]
 exact dig_lt 2 n m h (by omega)
/-! ### ahead of an entry -/
theorem ahead {A R:PEnts} {x:List UInt8 × List UInt8} (ho:Ordered (A ++ x :: R)) {k v:List UInt8} (hf:pFind (A ++ x :: R) k=some v) (hb:bytesBefore k x.1=true):pFind A k=some v:=by
 have h2:=List.pairwise_append.1 ho
 have h3:=List.pairwise_cons.1 h2.2.1
 cases ha:pFind A k with
 | some u=>
   have:pFind (A ++ x :: R) k=some u:=by
    unfold pFind at ha ⊢
    rw [List.find?_append]
    cases hx:A.find? (fun e=>e.1 == k) with
    | none=>rw [hx] at ha; cases ha
    | some e=>rw [hx] at ha; simpa using ha
   rw [this] at hf; exact hf
 | none=>
   exfalso
   have:pFind (A ++ x :: R) k=pFind (x :: R) k:=by
    unfold pFind at ha ⊢
    rw [List.find?_append]
    cases hx:A.find? (fun e=>e.1 == k) with
    | none=>rfl
    | some e=>rw [hx] at ha; cases ha
   rw [this] at hf
   have hm:k ∈ keysOf (x :: R):=find_keys.1 (by rw [hf]; rfl)
   unfold keysOf at hm
   rw [List.map_cons,List.mem_cons] at hm
   rcases hm with e | hm
   ·rw [e,blt_irrefl] at hb; cases hb
   ·obtain ⟨y,hy,e⟩:=List.mem_map.1 hm
    have h4:=h3.1 y hy
    rw [e] at h4
    have:=blt_trans _ _ _ hb h4
    rw [blt_irrefl] at this; cases this
theorem not_ahead {A R:PEnts} {x:List UInt8 × List UInt8} (ho:Ordered (A ++ x :: R)) {k:List UInt8} (hb:bytesBefore k x.1=false):pFind A k=none:=by
 have h2:=List.pairwise_append.1 ho
 cases ha:pFind A k with
 | none=>rfl
 | some v=>
   have hm:k ∈ keysOf A:=find_keys.1 (by rw [ha]; rfl)
   obtain ⟨y,hy,e⟩:=List.mem_map.1 hm
   have:=h2.2.2 y hy x (List.mem_cons_self ..)
   rw [e,hb] at this; cases this
theorem find_at_ {A R:PEnts} {x:List UInt8 × List UInt8} (ho:Ordered (A ++ x :: R)):pFind (A ++ x :: R) x.1=some x.2:=by
 have ha:=not_ahead ho (k:=x.1) (blt_irrefl _)
 unfold pFind at ha ⊢
 rw [List.find?_append]
 cases hx:A.find? (fun e=>e.1 == x.1) with
 | none=>simp
 | some e=>rw [hx] at ha; cases ha
theorem find_snoc {A:PEnts} {x:List UInt8 × List UInt8} (k:List UInt8) (hn:pFind A x.1=none):pFind (A ++ [x]) k=if x.1=k then some x.2 else pFind A k:=by
 unfold pFind at hn ⊢
 rw [List.find?_append]
 by_cases e:x.1=k
 ·rw [if_pos e,← e]
  cases hx:A.find? (fun e=>e.1 == x.1) with
  | none=>simp
  | some y=>rw [hx] at hn; cases hn
 ·rw [if_neg e]
  cases hx:A.find? (fun e=>e.1 == k) with
  | none=>simp [e]
  | some y=>simp
theorem attsFrom_congr {P Q:PEnts} {id:Nat} {st:List UInt8}:∀ k n,(∀ j,n≤j→j < n+k→pFind P (akey id st j)=pFind Q (akey id st j))→attsFrom P id st n k=attsFrom Q id st n k
 | 0,n,h=>rfl
 | k+1,n,h=>by
   rw [attsFrom,attsFrom,h n (Nat.le_refl _) (by omega),attsFrom_congr k (n+1) (fun j h1 h2=>h j (by omega) (by omega))]
theorem attsFrom_len {P:PEnts} {id:Nat} {st:List UInt8}:∀ k n m,n≤m→m≤n+k→(∀ j,n≤j→j < m→(pFind P (akey id st j)).isSome=true)→(m < n+k→pFind P (akey id st m)=none)→(attsFrom P id st n k).length=m - n
 | 0,n,m,h1,h2,_,_=>by rw [attsFrom]; simp; omega
 | k+1,n,m,h1,h2,h3,h4=>by
   rw [attsFrom]
   by_cases e:n=m
   ·subst e; rw [h4 (by omega)]; simp
   ·obtain ⟨v,hv⟩:=Option.isSome_iff_exists.1 (h3 n (Nat.le_refl _) (by omega))
    rw [hv]
    simp only [List.length_cons]
    rw [attsFrom_len k (n+1) m (by omega) (by omega) (fun j h5 h6=>h3 j (by omega) h6) (fun h5=>h4 (by omega))]
    omega
theorem attsFrom_snoc {P Q:PEnts} {id:Nat} {st v:List UInt8}:∀ k n,(attsFrom P id st n k).length < k→(∀ j,n≤j→j < n+k→j ≠ n+(attsFrom P id st n k).length→pFind Q (akey id st j)=pFind P (akey id st j))→pFind Q (akey id st (n+(attsFrom P id st n k).length))=some v→(n+(attsFrom P id st n k).length+1 < n+k→pFind P (akey id st (n+(attsFrom P id st n k).length+1))=none) →
 attsFrom Q id st n k=attsFrom P id st n k ++ [(numV (v.take 4),v.drop 4)]
 | 0,n,h,_,_,_=>by simp at h
 | k+1,n,h,h1,h2,h3=>by
   rw [attsFrom] at h h1 h2 h3 ⊢
   rw [attsFrom]
   cases hp:pFind P (akey id st n) with
   | none=>
     rw [hp] at h1 h2 h3
     simp only [List.length_nil,Nat.add_zero] at h1 h2 h3
     rw [h2]
     simp only [List.nil_append]
     congr 1
     cases k with
     | zero=>rfl
     | succ k=>
       rw [attsFrom,h1 (n+1) (by omega) (by omega) (by omega),h3 (by omega)]
   | some u=>
     rw [hp] at h h1 h2 h3
     simp only [List.length_cons] at h h1 h2 h3
     have hq:=h1 n (Nat.le_refl _) (by omega) (by omega)
     rw [hq,hp]
     simp only [List.cons_append]
     congr 1
     refine attsFrom_snoc k (n+1) (by omega) (fun j h5 h6 h7=>h1 j (by omega) (by omega) (by omega)) ?_ (fun h5=>?_)
     ·rw [show n+1+(attsFrom P id st (n+1) k).length=n+((attsFrom P id st (n+1) k).length+1) by omega]; exact h2
     ·rw [show n+1+(attsFrom P id st (n+1) k).length+1=n+((attsFrom P id st (n+1) k).length+1)+1 by omega]; exact h3 (by omega)
/-! ### the entries, one by one -/
theorem t_count_of {A:PEnts} (hn:(keysOf A).Nodup) (hkey:∀ k ∈ keysOf A,k.head?=some 116→∃ id,1≤id∧id≤9999∧k=tkey id) (hdown:∀ id,2≤id→id≤9999→(pFind A (tkey id)).isSome=true→(pFind A (tkey (id - 1))).isSome=true) {id:Nat} (h1:1≤id) (h2:id≤9999):(pFind A (tkey id)).isSome=true ↔ id≤tasksN A:=by
 have hall:∀ id,id≤9999→(pFind A (tkey id)).isSome=true→∀ d j,1≤j→j+d=id→(pFind A (tkey j)).isSome=true:=by
  intro id h2 hf d
  induction d with
  | zero=>intro j _ e; rw [show j=id by omega]; exact hf
  | succ d ih=>
    intro j hj e
    have h3:=ih (j+1) (by omega) (by omega)
    have:=hdown (j+1) (by omega) (by omega) h3
    rwa [Nat.add_sub_cancel] at this
 have hmap:∀ m,m≤9999→((List.range m).map (fun i=>tkey (i+1))).Nodup:=fun m hm=>by
  rw [List.nodup_iff_pairwise_ne,List.pairwise_map]
  refine List.Pairwise.imp_of_mem ?_ (List.nodup_iff_pairwise_ne.1 List.nodup_range)
  intro i j hi hj hij e
  rw [List.mem_range] at hi hj
  exact hij (Nat.succ.inj (tkey_inj (by omega) (by omega) e))
 constructor
 ·intro hf
  have hle:=List.Nodup.length_le_of_subset (hmap id h2) (l₂:=(keysOf A).filter (isPref [116])) (fun k hk=>by
   obtain ⟨i,hi,rfl⟩:=List.mem_map.1 hk
   rw [List.mem_range] at hi
   rw [List.mem_filter]
   exact ⟨find_keys.1 (hall id h2 hf (id - (i+1)) (i+1) (by omega) (by omega)),by rw [isPref_t]; rfl⟩)
  rw [List.length_map,List.length_range] at hle
  exact hle
 ·intro hle
  refine Decidable.byContradiction fun hno=>?_
  have hle2:=List.Nodup.length_le_of_subset (hn.filter (isPref [116])) (l₂:=(List.range (id - 1)).map (fun i=>tkey (i+1))) (fun k hk=>by
   rw [List.mem_filter,isPref_t] at hk
   obtain ⟨j,hj1,hj2,rfl⟩:=hkey k hk.1 hk.2
   refine List.mem_map.2 ⟨j - 1,?_,by rw [Nat.sub_add_cancel hj1]⟩
   rw [List.mem_range]
   refine Decidable.byContradiction fun hge=>hno ?_
   exact hall j hj2 (find_keys.2 hk.1) (j - id) id h1 (by omega))
  rw [List.length_map,List.length_range] at hle2
  unfold tasksN at hle
  omega
/-- what was read of the entries A, of all the entries P -/
structure FoldI (P A:PEnts) (c:ContP):Prop where
 cl:∀ x,(pFind A (ckey x)).isSome=true→x ∈ c.classes
 tn:c.tasks.length=tasksN A
 ts:∀ i (h:i < c.tasks.length),(c.tasks[i]).Fine∧(c.tasks[i]).body.length≤4000∧pFind P (tkey (i+1))=some (taskVal c.tasks[i])
 ic:∀ x ∈ c.inClass,(pFind P (ckey x)).isSome=true
 ot:∀ i ∈ c.ofTask,1≤i∧i≤9999∧(pFind P (tkey i)).isSome=true
 at_:∀ id s,id≤9999→isNameP s=true→c.atts (digP id 4 ++ s)=(attsFrom A id s 1 99).map (·.1)
 tr:∀ e ∈ c.tries,∃ id s,1≤id∧id≤9999∧isNameP s=true∧e=(digP id 4 ++ s,id)∧(pFind P (tkey id)).isSome=true
theorem FoldI.start (P:PEnts):FoldI P [] contZ:=by
 exact ⟨fun x h=>(by cases h),rfl,fun i h=>(by simp [contZ] at h),fun x h=>(by cases h),fun i h=>(by cases h),fun id s _ _=>rfl,fun e h=>(by cases h)⟩
theorem tasksN_snoc (A:PEnts) (x:List UInt8 × List UInt8):tasksN (A ++ [x])=tasksN A+if isPref [116] x.1 then 1 else 0:=by
 unfold tasksN keysOf
 rw [List.map_append,List.filter_append,List.length_append]
 congr 1
 simp only [List.map_cons,List.map_nil,List.filter_cons,List.filter_nil]
 split <;> rfl
theorem whose_inj {id id':Nat} {s s':List UInt8} (hi:id≤9999) (hi':id'≤9999) (h:digP id 4 ++ s=digP id' 4 ++ s'):id=id'∧s=s':=by
 have h1:=List.append_inj h (by rw [digP_len,digP_len])
 exact ⟨digP_inj 4 _ _ (by omega) (by omega) h1.1,h1.2⟩
theorem setT_mem {l:List (List UInt8 × Nat)} {k:List UInt8} {n:Nat} {e:List UInt8 × Nat} (h:e ∈ setT l k n):e=(k,n)∨e ∈ l:=by
 unfold setT at h
 split at h
 ·obtain ⟨x,hx,e2⟩:=List.mem_map.1 h
  split at e2
  ·exact Or.inl e2.symm
  ·rw [← e2]; exact Or.inr hx
 ·rcases List.mem_append.1 h with h | h
  ·exact Or.inr h
  ·exact Or.inl (List.mem_singleton.1 h)
/-- an entry that is no attempt leaves the attempts as they are -/
theorem atts_same {A:PEnts} {x:List UInt8 × List UInt8} (hn:pFind A x.1=none) (hx:x.1.head? ≠ some 97) (id:Nat) (s:List UInt8):attsFrom (A ++ [x]) id s 1 99=attsFrom A id s 1 99:=
 attsFrom_congr 99 1 fun j _ _=>by rw [find_snoc _ hn,if_neg (fun e=>hx (by rw [e]; rfl))]
theorem FoldI.step {P A R:PEnts} {x:List UInt8 × List UInt8} {c:ContP} (hP:P=A ++ x :: R) (ho:Ordered P) (hs:SchoolOk P) (h:FoldI P A c):(entStep c x).2=true∧FoldI P (A ++ [x]) (entStep c x).1:=by
 subst hP
 obtain ⟨k,v⟩:=x
 have hf:=find_at_ ho
 have hn:pFind A k=none:=not_ahead ho (k:=k) (blt_irrefl _)
 obtain ⟨e,hw,he,hv,hl⟩:=hs k v hf
 have hkeep:∀ k2,k ≠ k2→pFind (A ++ [(k,v)]) k2=pFind A k2:=fun k2 hne=>by rw [find_snoc k2 hn,if_neg hne]
 cases e with
 | cls n=>
   have he:k=ckey n:=he
   have hv:v=[]:=hv
   subst he hv
   have hw:isNameP n=true:=hw
   have e1:entStep c (ckey n,[])=clsStep c n []:=rfl
   rw [e1]
   unfold clsStep
   refine ⟨by simp [hw],fun y hy=>?_,?_,h.ts,h.ic,h.ot,fun id s h1 h2=>?_,h.tr⟩
   ·by_cases e2:y=n
    ·rw [e2]; exact List.mem_cons_self ..
    ·rw [hkeep (ckey y) (fun e=>e2 ((List.cons.inj e).2).symm)] at hy
     exact List.mem_cons_of_mem _ (h.cl y hy)
   ·rw [tasksN_snoc]; exact h.tn
   ·rw [atts_same hn (by simp [ckey])]; exact h.at_ id s h1 h2
 | mem n s=>
   have he:k=mkey n s:=he
   have hv:v=[]:=hv
   subst he hv
   have hw:isNameP n=true∧isNameP s=true:=hw
   have e1:entStep c (mkey n s,[])=memStep c (n ++ 32 :: s) []:=rfl
   rw [e1]
   unfold memStep
   rw [cutP_at (isNameP_space hw.1)]
   refine ⟨by simp [hw.1,hw.2],fun y hy=>?_,?_,h.ts,fun y hy=>?_,h.ot,fun id s h1 h2=>?_,h.tr⟩
   ·rw [hkeep _ (by simp [mkey,ckey])] at hy; exact h.cl y hy
   ·rw [tasksN_snoc]; exact h.tn
   ·rcases List.mem_append.1 hy with hy | hy
    ·exact h.ic y hy
    ·rw [List.mem_singleton.1 hy]; exact hl
   ·rw [atts_same hn (by simp [mkey])]; exact h.at_ id s h1 h2
 | tsk id t=>
   have he:k=tkey id:=he
   have hv:v=taskVal t:=hv
   subst he hv
   obtain ⟨i0,i1,hfi,hb⟩:1≤id∧id≤9999∧t.Fine∧t.body.length≤4000:=hw
   have hrd:=readTask_val hfi hb
   have hA:(keysOf A).Nodup:=ordKeys_nodup (List.pairwise_append.1 ho).1
   have hup:∀ {k2 u},pFind A k2=some u→pFind (A ++ (tkey id,taskVal t) :: R) k2=some u:=fun {k2 u} hu=>by
    unfold pFind at hu ⊢
    rw [List.find?_append]
    cases hx:A.find? (fun e=>e.1 == k2) with
    | none=>rw [hx] at hu; cases hu
    | some e=>rw [hx] at hu; simpa using hu
   have hcnt:∀ id2,1≤id2→id2≤9999→((pFind A (tkey id2)).isSome=true ↔ id2≤tasksN A):=fun id2 q1 q2=>t_count_of hA (fun k2 hk2 ht=>hs.t_key (find_keys.1 (by obtain ⟨u,hu⟩:=Option.isSome_iff_exists.1 (find_keys.2 hk2); rw [hup hu]; rfl)) ht) (fun j j2 j3 hj=>by
    obtain ⟨u,hu⟩:=Option.isSome_iff_exists.1 hj
    have h4:=hs.t_down j2 j3 (by rw [hup hu]; rfl)
    obtain ⟨u2,hu2⟩:=Option.isSome_iff_exists.1 h4
    have hlt:j < id:=Decidable.byContradiction fun hge=>by
     have:=not_ahead ho (k:=tkey j) (by
      rcases Nat.lt_or_ge id j with h6 | h6
      ·cases hb2:bytesBefore (tkey j) (tkey id) with
       | false=>rfl
       | true=>have:=blt_trans _ _ _ hb2 (tkey_lt h6 (by omega)); rw [blt_irrefl] at this; cases this
      ·rw [show j=id by omega]; exact blt_irrefl _)
     rw [hu] at this; cases this
    rw [ahead ho hu2 (tkey_lt (by omega) i1)]; rfl) q1 q2
   have hid:tasksN A+1=id:=by
    have h5:=hcnt id i0 i1
    rw [hn] at h5
    have h6:¬ id≤tasksN A:=fun h=>by have:=h5.2 h; cases this
    rcases hl.2 with h7 | h7
    ·omega
    ·by_cases h8:id=1
     ·omega
     obtain ⟨u2,hu2⟩:=Option.isSome_iff_exists.1 h7
     have h9:=ahead ho hu2 (tkey_lt (by omega) i1)
     have:=(hcnt (id - 1) (by omega) (by omega)).1 (by rw [h9]; rfl)
     omega
   have e1:entStep c (tkey id,taskVal t)=tskStep c (digP id 4) (taskVal t):=rfl
   rw [e1]
   unfold tskStep
   rw [hrd]
   refine ⟨?_,fun y hy=>?_,?_,fun i hi=>?_,fun y hy=>?_,h.ot,fun id s h1 h2=>?_,h.tr⟩
   ·rw [h.tn,hid]
    simp [i1]
   ·rw [hkeep _ (by simp [tkey,ckey])] at hy; exact h.cl y hy
   ·rw [tasksN_snoc,← h.tn]
    simp [isPref,tkey]
   ·simp only [Option.getD_some,List.length_append,List.length_cons,List.length_nil] at hi ⊢
    by_cases hi2:i < c.tasks.length
    ·simp only [List.getElem_append_left hi2]
     exact h.ts i hi2
    ·obtain rfl:i=c.tasks.length:=by omega
     simp only [List.getElem_append_right (Nat.le_refl _),Nat.sub_self,List.getElem_cons_zero]
     refine ⟨hfi,hb,?_⟩
     rw [h.tn,hid]; exact hf
   ·rcases List.mem_append.1 hy with hy | hy
    ·exact h.ic y hy
    ·rw [List.mem_singleton.1 hy]; exact hl.1
   ·rw [atts_same hn (by simp [tkey])]; exact h.at_ id s h1 h2
 | ext id s m=>
   have he:k=xkey id s:=he
   have hv:v=numB m 4:=hv
   subst he hv
   obtain ⟨i0,i1,hname,m0,m1⟩:1≤id∧id≤9999∧isNameP s=true∧1≤m∧m≤1048576:=hw
   have e1:entStep c (xkey id s,numB m 4)=extStep c (digP id 4 ++ 32 :: s) (numB m 4):=rfl
   rw [e1]
   unfold extStep
   rw [ofSt_x id i1 hname]
   refine ⟨?_,fun y hy=>?_,?_,h.ts,h.ic,fun i hi=>?_,fun id s h1 h2=>?_,h.tr⟩
   ·have h1:(digP id 4).length=4:=digP_len _ _
    have h2:(numB m 4).length=4:=numB_length _ _
    have h3:numV (numB m 4)=m:=numV_num m (by omega)
    have ha:(digP id 4 ++ 32 :: s).length=5+s.length:=by rw [List.length_append,List.length_cons,h1]; omega
    simp only [ha,h2,h3]
    simp [m0,m1]
   ·rw [hkeep _ (by simp [xkey,ckey])] at hy; exact h.cl y hy
   ·rw [tasksN_snoc]; exact h.tn
   ·rcases List.mem_append.1 hi with hi | hi
    ·exact h.ot i hi
    ·rw [List.mem_singleton.1 hi]; exact ⟨i0,i1,hl⟩
   ·rw [atts_same hn (by simp [xkey])]; exact h.at_ id s h1 h2
 | att id s n tm tx=>
   have he:k=akey id s n:=he
   have hv:v=numB tm 4 ++ tx:=hv
   subst he hv
   obtain ⟨i0,i1,hname,n0,n1,ht,htx⟩:1≤id∧id≤9999∧isNameP s=true∧1≤n∧n≤99∧tm≤2147483647∧tx.length≤4000:=hw
   have h4:(numB tm 4).length=4:=numB_length _ _
   obtain ⟨hv4,hd4⟩:=take_num tm (by omega) tx
   have hvl:(numB tm 4 ++ tx).length=4+tx.length:=by rw [List.length_append,h4]
   have hdown:∀ d j,1≤j→j+d=n→(pFind (A ++ (akey id s n,numB tm 4 ++ tx) :: R) (akey id s j)).isSome=true:=by
    intro d
    induction d with
    | zero=>intro j _ e; rw [show j=n by omega,hf]; rfl
    | succ d ih=>
      intro j hj e
      obtain ⟨u,hu⟩:=Option.isSome_iff_exists.1 (ih (j+1) (by omega) (by omega))
      obtain ⟨tm2,tx2,_,_,_,hl2⟩:=hs.att_at hname i1 (n:=j+1) (by omega) hu
      rcases hl2.2 with h5 | ⟨tm3,tx3,_,h6⟩
      ·omega
      ·rw [Nat.add_sub_cancel] at h6; rw [h6]; rfl
   have hin:∀ j,1≤j→j < n→(pFind A (akey id s j)).isSome=true:=fun j hj1 hj2=>by
    obtain ⟨u,hu⟩:=Option.isSome_iff_exists.1 (hdown (n - j) j hj1 (by omega))
    rw [ahead ho hu (akey_lt id s hj2 n1)]; rfl
   have hout:∀ j,n≤j→j≤99→pFind A (akey id s j)=none:=fun j hj1 hj2=>not_ahead ho (by
    show bytesBefore (akey id s j) (akey id s n)=false
    rcases Nat.lt_or_ge n j with h6 | h6
    ·cases hb2:bytesBefore (akey id s j) (akey id s n) with
     | false=>rfl
     | true=>have:=blt_trans _ _ _ hb2 (akey_lt id s h6 hj2); rw [blt_irrefl] at this; cases this
    ·rw [show j=n by omega]; exact blt_irrefl _)
   have hlen:(attsFrom A id s 1 99).length=n - 1:=attsFrom_len 99 1 n n0 (by omega) hin (fun _=>hout n (Nat.le_refl _) n1)
   have hat:=h.at_ id s i1 hname
   have e1:entStep c (akey id s n,numB tm 4 ++ tx)=attStep c (digP id 4 ++ 32 :: (s ++ 32 :: digP n 2)) (numB tm 4 ++ tx):=rfl
   rw [e1]
   unfold attStep
   rw [ofSt_a id n i1 hname]
   simp only
   rw [rdDig_dig 2 n (by omega) (by omega),hv4,hat]
   simp only
   have hc1:¬ ((true && true && decide (4≤(numB tm 4 ++ tx).length) && decide ((numB tm 4 ++ tx).length≤4004))=false):=by
    rw [hvl,decide_eq_true (show 4≤4+tx.length by omega),decide_eq_true (show 4+tx.length≤4004 by omega)]; decide
   have hlm:((attsFrom A id s 1 99).map (·.1)).length=n - 1:=by rw [List.length_map,hlen]
   have hc2:¬ (¬ tm≤2147483647∨n ≠ ((attsFrom A id s 1 99).map (·.1)).length+1∨(1 < n∧tm < ((attsFrom A id s 1 99).map (·.1)).getD (n - 2) 0)):=by
    rintro (h5 | h5 | ⟨h5,h6⟩)
    ·exact h5 ht
    ·rw [hlm] at h5; omega
    ·obtain ⟨x,hx⟩:∃ x,(attsFrom A id s 1 99)[n - 2]?=some x:=⟨(attsFrom A id s 1 99)[n - 2]'(by omega),List.getElem?_eq_getElem (by omega)⟩
     obtain ⟨u,hu,hxe⟩:=attsFrom_at A id s 99 1 (n - 2) x hx
     rw [List.getD_eq_getElem?_getD,List.getElem?_map,hx] at h6
     simp only [Option.map_some,Option.getD_some] at h6
     rcases hl.2 with h7 | ⟨tm',tx',h8,h9⟩
     ·omega
     ·have hu2:=ahead ho h9 (akey_lt id s (show n - 1 < n by omega) n1)
      rw [show 1+(n - 2)=n - 1 by omega] at hu
      rw [hu] at hu2
      obtain rfl:=Option.some.inj hu2
      rw [hxe] at h6
      simp only at h6
      rw [(take_num tm' (by omega) tx').1] at h6
      omega
   rw [if_neg hc1,if_neg hc2]
   refine ⟨rfl,fun y hy=>?_,?_,h.ts,h.ic,fun i hi=>?_,fun id2 s2 h1 h2=>?_,fun e he=>?_⟩
   ·rw [hkeep (ckey y) (by simp [akey,ckey])] at hy; exact h.cl y hy
   ·rw [tasksN_snoc]; exact h.tn
   ·obtain ⟨⟨t,_,_,hl3,_⟩,_⟩:=hl
    rcases List.mem_append.1 hi with hi | hi
    ·exact h.ot i hi
    ·rw [List.mem_singleton.1 hi]; exact ⟨i0,i1,by rw [hl3]; rfl⟩
   ·show updA c.atts (digP id 4 ++ s) _ (digP id2 4 ++ s2)=_
    unfold updA
    by_cases e2:digP id2 4 ++ s2=digP id 4 ++ s
    ·rw [if_pos e2]
     obtain ⟨rfl,rfl⟩:=whose_inj h1 i1 e2
     have hsn:=attsFrom_snoc (P:=A) (Q:=A ++ [(akey id2 s2 n,numB tm 4 ++ tx)]) (id:=id2) (st:=s2) (v:=numB tm 4 ++ tx) 99 1 (by omega) (fun j h5 h6 h7=>hkeep _ (fun e=>h7 (by
      have:=(akey_inj hname hname i1 i1 n1 (by omega) e).2.2
      omega))) (by rw [hlen,show 1+(n - 1)=n by omega,find_snoc _ hn,if_pos rfl]) (fun h5=>by rw [hlen] at h5 ⊢; exact hout _ (by omega) (by omega))
     rw [hsn,List.map_append,hv4]; rfl
    ·rw [if_neg e2,h.at_ id2 s2 h1 h2]
     congr 1
     exact (attsFrom_congr 99 1 fun j h5 h6=>hkeep _ (fun e=>e2 (by
      have:=akey_inj hname h2 i1 h1 n1 (by omega) e
      rw [this.1,this.2.1]))).symm
   ·obtain ⟨⟨t,_,_,hl3,_⟩,_⟩:=hl
    rcases setT_mem he with rfl | he
    ·exact ⟨id,s,i0,i1,hname,rfl,by rw [hl3]; rfl⟩
    ·exact h.tr e he
theorem FoldI.go {P:PEnts} (ho:Ordered P) (hs:SchoolOk P):∀ {R A:PEnts} {c:ContP},P=A ++ R→FoldI P A c→∃ c',entsGo c R=some c'∧FoldI P P c'
 | [],A,c,hP,h=>by rw [List.append_nil] at hP; subst hP; exact ⟨c,rfl,h⟩
 | x :: R,A,c,hP,h=>by
   obtain ⟨h1,h2⟩:=h.step hP ho hs
   rw [entsGo,if_pos h1]
   exact FoldI.go ho hs (A:=A ++ [x]) (by rw [hP]; simp) h2
/-- THE LAW: entries that are a school are read as one -/
theorem isSchool_ok {P:PEnts} (ho:Ordered P) (hs:SchoolOk P):isSchoolP P=true:=by
 obtain ⟨c,hc,h⟩:=FoldI.go ho hs (R:=P) (A:=[]) rfl (FoldI.start P)
 unfold isSchoolP
 rw [hc]
 have hcnt:∀ id,1≤id→id≤9999→((pFind P (tkey id)).isSome=true ↔ id≤tasksN P):=fun id h1 h2=>hs.t_count (ordKeys_nodup ho) h1 h2
 show wholeP c=true
 unfold wholeP
 rw [Bool.and_eq_true,Bool.and_eq_true,List.all_eq_true,List.all_eq_true,List.all_eq_true]
 refine ⟨⟨fun x hx=>decide_eq_true (h.cl x (h.ic x hx)),fun i hi=>?_⟩,fun e he=>?_⟩
 ·obtain ⟨h1,h2,h3⟩:=h.ot i hi
  exact decide_eq_true ⟨h1,by rw [h.tn]; exact (hcnt i h1 h2).1 h3⟩
 ·obtain ⟨id,s,i0,i1,hname,rfl,h3⟩:=h.tr e he
  refine decide_eq_true ?_
  have hid:id≤c.tasks.length:=by rw [h.tn]; exact (hcnt id i0 i1).1 h3
  obtain ⟨hfi,hb,hts⟩:=h.ts (id - 1) (by omega)
  rw [Nat.sub_add_cancel i0] at hts
  show (((c.atts (digP id 4 ++ s)).length:Nat):Int)≤(c.tasks.getD (id - 1) zeroT).tries
  rw [h.at_ id s i1 hname,List.length_map,List.getD_eq_getElem?_getD,List.getElem?_eq_getElem (by omega),Option.getD_some]
  generalize c.tasks[id - 1]=t at *
  have hle:=attsFrom_le P id s 99 1
  have ht0:=hfi.t0
  have hat:=attsFrom_at P id s 99 1
  generalize attsFrom P id s 1 99=l at *
  by_cases h0:l.length=0
  ·omega
  ·obtain ⟨x,hx⟩:∃ x,l[l.length - 1]?=some x:=⟨l[l.length - 1],List.getElem?_eq_getElem (by omega)⟩
   obtain ⟨u,hu,_⟩:=hat _ _ hx
   rw [show 1+(l.length - 1)=l.length by omega] at hu
   obtain ⟨tm,tx,_,_,_,hl⟩:=hs.att_at hname i1 hle hu
   obtain ⟨⟨t2,f2,b2,h5,h6⟩,_⟩:=hl
   rw [hts] at h5
   have h7:=Option.some.inj h5
   have h8:=readTask_val hfi hb
   rw [h7,readTask_val f2 b2] at h8
   obtain rfl:=Option.some.inj h8
   exact h6
end
section
open Go.RowKit SeedP Go.Maps
/-- an act of a law -/
structure SActP where
 kind:Int
 cls:List UInt8
 stu:List UInt8
 task:TaskP
 id:Int
 n:Int
 text:List UInt8
def doP (a:SActP) (s:JS):JS × Nat × Int:=
 if a.kind % 10=0 then ((addClassP a.cls s).1,0,(addClassP a.cls s).2)
 else if a.kind % 10=1 then ((enrollP a.cls a.stu s).1,0,(enrollP a.cls a.stu s).2)
 else if a.kind % 10=2 then ((leaveP a.cls a.stu s).1,0,(leaveP a.cls a.stu s).2)
 else if a.kind % 10=3 then addTaskP a.task s
 else if a.kind % 10=4 then ((extendP a.id a.stu a.n s).1,0,(extendP a.id a.stu a.n s).2)
 else if a.kind % 10=9 then (s,0,0)
 else submitP a.id a.stu a.n a.text s
theorem SOk.do_ {s:JS} (h:SOk s) (a:SActP):SOk (doP a s).1:=by
 unfold doP
 split
 ·exact h.addClass _
 split
 ·exact h.enroll _ _
 split
 ·exact h.leave _ _
 split
 ·exact h.addTask _
 split
 ·exact h.extend _ _ _
 split
 ·exact h
 ·exact h.submit _ _ _ _
/-- a school with full power, not too old -/
structure SFull (s:JS) (g:Nat):Prop where
 live:Live s
 ok:SchoolOk s.c.ents
 pw:s.d.pw= -1
 gen:s.c.gen≤g
/-- behind an act: nothing is changed, or one change is made -/
def OneDone (s s':JS) (e:Int) (g:Nat):Prop:=(e ≠ 0∧s'=s)∨(e=0∧SFull s' (g+2)∧(s'=s∨∃ c,s'.c.ents=pChg s.c.ents c))
theorem full_commit {s:JS} {g:Nat} (h:SFull s g) (hg:g+2 < 4611686018427387904) (c:Chg):((jCommit [c] s).2 ≠ 0∧(jCommit [c] s).1=s)∨((jCommit [c] s).2=0∧Live (jCommit [c] s).1∧(jCommit [c] s).1.d.pw= -1∧(jCommit [c] s).1.c.gen≤g+2∧(jCommit [c] s).1.c.ents=pChg s.c.ents c):=by
 have hgen:=h.gen
 obtain ⟨_,h0,h1,h2⟩:=commit_live (cs:=[c]) h.live
 by_cases e0:(jCommit [c] s).2=0
 ·obtain ⟨hm,hl,he,hge⟩:=h0 e0
  have hp:=((commit_may h.live hm (by omega)).2 h.pw).2
  exact Or.inr ⟨e0,hl,hp,by omega,he⟩
 ·by_cases e1:(jCommit [c] s).2=360
  ·have hm:=(h1 e1).1
   have:=((commit_may h.live hm (by omega)).2 h.pw).1
   exact absurd this e0
  ·exact Or.inl ⟨e0,h2 e0 e1⟩
/-- a commit of one change, as an act makes it -/
theorem SFull.one {s:JS} {g:Nat} (h:SFull s g) (hg:g+2 < 4611686018427387904) {c:Chg} (hc:SchoolOk (pChg s.c.ents c)):OneDone s (jCommit [c] s).1 (jCommit [c] s).2 g:=by
 rcases full_commit h hg c with ⟨h1,h2⟩ | ⟨h1,h2,h3,h4,h5⟩
 ·exact Or.inl ⟨h1,h2⟩
 ·exact Or.inr ⟨h1,⟨h2,by rw [h5]; exact hc,h3,h4⟩,Or.inr ⟨c,h5⟩⟩
theorem OneDone.no {s:JS} {e:Int} {g:Nat} (h:e ≠ 0):OneDone s s e g:=Or.inl ⟨h,rfl⟩
/-- from 'a school behind it' to 'one done' -/
theorem SFull.of_ok {s:JS} {g:Nat} (h:SFull s g) (hg:g+2 < 4611686018427387904) {c:Chg} (hk:SOk (jCommit [c] s).1):OneDone s (jCommit [c] s).1 (jCommit [c] s).2 g:=by
 rcases full_commit h hg c with ⟨h1,h2⟩ | ⟨h1,h2,h3,h4,h5⟩
 ·exact Or.inl ⟨h1,h2⟩
 ·exact Or.inr ⟨h1,⟨h2,(hk h2.up).2,h3,h4⟩,Or.inr ⟨c,h5⟩⟩
theorem SFull.sok {s:JS} {g:Nat} (h:SFull s g):SOk s:=fun _=>⟨h.live,h.ok⟩
theorem SFull.le {s:JS} {g g':Nat} (h:SFull s g) (hg:g≤g'):SFull s g':=⟨h.live,h.ok,h.pw,Nat.le_trans h.gen hg⟩
theorem SFull.addClass {s:JS} {g:Nat} (h:SFull s g) (hg:g+2 < 4611686018427387904) (c:List UInt8):OneDone s (addClassP c s).1 (addClassP c s).2 g:=by
 have hk:=h.sok.addClass c
 unfold addClassP at hk ⊢
 split
 ·exact OneDone.no (by simp)
 split
 ·exact OneDone.no (by simp)
 split
 ·exact OneDone.no (by simp)
 rename_i h1 h2 h3
 rw [if_neg h1,if_neg h2,if_neg h3] at hk
 exact h.of_ok hg hk
theorem SFull.enroll {s:JS} {g:Nat} (h:SFull s g) (hg:g+2 < 4611686018427387904) (c st:List UInt8):OneDone s (enrollP c st s).1 (enrollP c st s).2 g:=by
 have hk:=h.sok.enroll c st
 unfold enrollP at hk ⊢
 split
 ·exact OneDone.no (by simp)
 split
 ·exact OneDone.no (by simp)
 split
 ·exact OneDone.no (by simp)
 split
 ·exact OneDone.no (by simp)
 rename_i h1 h2 h3 h4
 rw [if_neg h1,if_neg h2,if_neg h3,if_neg h4] at hk
 exact h.of_ok hg hk
theorem SFull.leave {s:JS} {g:Nat} (h:SFull s g) (hg:g+2 < 4611686018427387904) (c st:List UInt8):OneDone s (leaveP c st s).1 (leaveP c st s).2 g:=by
 have hk:=h.sok.leave c st
 unfold leaveP at hk ⊢
 split
 ·exact OneDone.no (by simp)
 split
 ·exact OneDone.no (by simp)
 split
 ·exact OneDone.no (by simp)
 rename_i h1 h2 h3
 rw [if_neg h1,if_neg h2,if_neg h3] at hk
 exact h.of_ok hg hk
theorem SFull.addTask {s:JS} {g:Nat} (h:SFull s g) (hg:g+2 < 4611686018427387904) (t:TaskP):OneDone s (addTaskP t s).1 (addTaskP t s).2.2 g∧((addTaskP t s).2.2 ≠ 0→(addTaskP t s).2.1=0):=by
 have hk:=h.sok.addTask t
 unfold addTaskP at hk ⊢
 split
 ·exact ⟨OneDone.no (by simp),fun _=>rfl⟩
 split
 ·exact ⟨OneDone.no (by simp),fun _=>rfl⟩
 split
 ·exact ⟨OneDone.no (by simp),fun _=>rfl⟩
 split
 ·exact ⟨OneDone.no (by simp),fun _=>rfl⟩
 split
 ·exact ⟨OneDone.no (by simp),fun _=>rfl⟩
 rename_i h1 h2 h3 h4 h5
 rw [if_neg h1,if_neg h2,if_neg h3,if_neg h4,if_neg h5] at hk
 simp only at hk ⊢
 have hk2:SOk (jCommit [⟨tkey (tasksN s.c.ents+1),taskVal t,false⟩] s).1:=by
  split at hk <;> exact hk
 have hd:=h.of_ok hg hk2
 split
 ·rename_i e
  rw [e] at hd
  exact ⟨hd,fun hne=>absurd rfl hne⟩
 ·exact ⟨hd,fun _=>rfl⟩
theorem SFull.extend {s:JS} {g:Nat} (h:SFull s g) (hg:g+2 < 4611686018427387904) (id:Int) (st:List UInt8) (more:Int):OneDone s (extendP id st more s).1 (extendP id st more s).2 g:=by
 have hk:=h.sok.extend id st more
 unfold extendP at hk ⊢
 split
 ·exact OneDone.no (by simp)
 split
 ·exact OneDone.no (by simp)
 rename_i h1 h2
 rw [if_neg h1,if_neg h2] at hk
 cases ht:s.taskOfP id st with
 | none=>exact OneDone.no (by simp)
 | some t=>
   rw [ht] at hk
   simp only at hk ⊢
   split
   ·rename_i h3
    rw [if_pos h3] at hk
    exact h.of_ok hg hk
   ·rename_i h3
    rw [if_neg h3] at hk
    split
    ·rename_i h4
     rw [if_pos h4] at hk
     exact h.of_ok hg hk
    ·exact Or.inr ⟨rfl,h.le (by omega),Or.inl rfl⟩
theorem SFull.submit {s:JS} {g:Nat} (h:SFull s g) (hg:g+2 < 4611686018427387904) (id:Int) (st:List UInt8) (now:Int) (tx:List UInt8):OneDone s (submitP id st now tx s).1 (submitP id st now tx s).2.2 g∧((submitP id st now tx s).2.2 ≠ 0→(submitP id st now tx s).2.1=0):=by
 have hk:=h.sok.submit id st now tx
 unfold submitP at hk ⊢
 split
 ·exact ⟨OneDone.no (by simp),fun _=>rfl⟩
 split
 ·exact ⟨OneDone.no (by simp),fun _=>rfl⟩
 split
 ·exact ⟨OneDone.no (by simp),fun _=>rfl⟩
 rename_i h1 h2 h3
 rw [if_neg h1,if_neg h2,if_neg h3] at hk
 cases ht:s.taskOfP id st with
 | none=>exact ⟨OneDone.no (by simp),fun _=>rfl⟩
 | some t=>
   rw [ht] at hk
   simp only at hk ⊢
   split
   ·exact ⟨OneDone.no (by simp),fun _=>rfl⟩
   rename_i h4
   rw [if_neg h4] at hk
   split
   ·exact ⟨OneDone.no (by simp),fun _=>rfl⟩
   rename_i h5
   rw [if_neg h5] at hk
   split
   ·exact ⟨OneDone.no (by simp),fun _=>rfl⟩
   rename_i h6
   rw [if_neg h6] at hk
   have hk2:SOk (jCommit [⟨akey id.toNat st ((s.attsP id st).length+1),numB now.toNat 4 ++ tx,false⟩] s).1:=by
    split at hk <;> exact hk
   have hd:=h.of_ok hg hk2
   split
   ·rename_i e
    rw [e] at hd
    exact ⟨hd,fun hne=>absurd rfl hne⟩
   ·exact ⟨hd,fun _=>rfl⟩
/-- any act -/
theorem SFull.do_ {s:JS} {g:Nat} (h:SFull s g) (hg:g+2 < 4611686018427387904) (a:SActP):OneDone s (doP a s).1 (doP a s).2.2 g∧((doP a s).2.2 ≠ 0→(doP a s).2.1=0):=by
 unfold doP
 split
 ·exact ⟨h.addClass hg _,fun _=>rfl⟩
 split
 ·exact ⟨h.enroll hg _ _,fun _=>rfl⟩
 split
 ·exact ⟨h.leave hg _ _,fun _=>rfl⟩
 split
 ·exact h.addTask hg _
 split
 ·exact ⟨h.extend hg _ _ _,fun _=>rfl⟩
 split
 ·exact ⟨Or.inr ⟨rfl,h.le (by omega),Or.inl rfl⟩,fun _=>rfl⟩
 ·exact h.submit hg _ _ _ _
theorem OneDone.full {s s':JS} {e:Int} {g:Nat} (h:OneDone s s' e g) (hs:SFull s g):SFull s' (g+2):=by
 rcases h with ⟨_,rfl⟩ | ⟨_,h,_⟩
 ·exact hs.le (by omega)
 ·exact h
end
end Go.Proofs.YtbcfpdlhieaepaaGreatDoor
