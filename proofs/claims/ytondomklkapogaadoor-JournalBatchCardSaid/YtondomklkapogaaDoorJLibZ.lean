/- A journal in a law's world, its memory named: what the law lays besides is none of it. -/
import Derived.Test.YtondomklkapogaaDoorJLibX
import Derived.Test.YtondomklkapogaaDoorJAwakeP
import Derived.Test.YtondomklkapogaaDoorJMay
namespace Go.Proofs.YtondomklkapogaaDoor
section
open Go.RowKit SeedP Go.Maps
/-- the journal's memory: its three blocks, and the blocks of which p holds -/
structure JZ (B : Nat) (p : Nat → Prop) (w : World) (db jb mb : Nat) (s : JS) : Prop where
  pos : 0 < B
  jle : B ≤ jb
  dle : B ≤ db
  mle : B ≤ mb
  lie : ∀ g, p g → B ≤ g ∧ g < w.heap.size
  jw : JW w jb db mb p s
/-- the memory behind an act -/
def pNext (p : Nat → Prop) (w w' : World) : Nat → Prop := fun g => (p g ∨ w.heap.size ≤ g) ∧ g < w'.heap.size
theorem JZ.x {B : Nat} {p : Nat → Prop} {w : World} {db jb mb : Nat} {s : JS} (h : JZ B p w db jb mb s) : JX B w db jb mb s :=
  ⟨h.pos, h.jle, h.dle, h.mle, h.jw.mono (fun g hg => ⟨(h.lie g hg).1, (h.jw.away g hg).1, (h.jw.away g hg).2.1, (h.jw.away g hg).2.2.1⟩) (fun g hg => ⟨hg.2.1, hg.2.2.1, hg.2.2.2, by have := h.pos; omega⟩)⟩
theorem JX.z {B : Nat} {w : World} {db jb mb : Nat} {s : JS} (h : JX B w db jb mb s) : JZ B (fun g => (B ≤ g ∧ g ≠ jb ∧ g ≠ db ∧ g ≠ mb) ∧ g < w.heap.size) w db jb mb s :=
  ⟨h.pos, h.jle, h.dle, h.mle, fun _ hg => ⟨hg.1.1, hg.2⟩, h.jw.low⟩
theorem JZ.act {B : Nat} {p : Nat → Prop} {w w' : World} {db jb mb : Nat} {s s' : JS} (h : JZ B p w db jb mb s) (h' : JW w' jb db mb (fun g => p g ∨ w.heap.size ≤ g) s') : JZ B (pNext p w w') w' db jb mb s' :=
  ⟨h.pos, h.jle, h.dle, h.mle, fun g hg => ⟨by have := h.x.size; rcases hg.1 with hp | hp; exact (h.lie g hp).1; omega, hg.2⟩, h'.low⟩
/-- whatever is none of the journal's memory may turn -/
theorem JZ.grown {B : Nat} {p S : Nat → Prop} {w w' : World} {db jb mb : Nat} {s : JS} (h : JZ B p w db jb mb s) (hg : Grown S w w') (hS : ∀ g, S g → ¬ p g ∧ ¬ Sj db jb mb g ∧ g ≠ 0) : JZ B p w' db jb mb s :=
  ⟨h.pos, h.jle, h.dle, h.mle, fun g hp => ⟨(h.lie g hp).1, Nat.lt_of_lt_of_le (h.lie g hp).2 hg.size⟩, h.jw.grown hg (fun e => (hS 0 e).2.2 rfl) (fun e => (hS _ e).2.1 (Or.inl rfl)) (fun e => (hS _ e).2.1 (Or.inr (Or.inl rfl))) (fun e => (hS _ e).2.1 (Or.inr (Or.inr rfl))) (fun g hp e => (hS g e).1 hp)⟩
theorem JZ.below {B : Nat} {p : Nat → Prop} {w w' : World} {db jb mb : Nat} {s : JS} (h : JZ B p w db jb mb s) (hb : Below w.heap.size w w') : JZ B p w' db jb mb s :=
  h.grown (Grown.of_below hb (S := fun _ => False)) (fun _ h => h.elim)
theorem pNext.not {p : Nat → Prop} {w w' : World} {g : Nat} (h : ¬ p g) (hl : g < w.heap.size) : ¬ pNext p w w' g := fun e => by
  rcases e.1 with e | e
  · exact h e
  · omega
theorem commit_z {B : Nat} {p : Nat → Prop} {w : World} {db jb mb : Nat} {s : JS} (h : JZ B p w db jb mb s) (v : Value) (cs : List Chg) (hc : ChgsP w (fun g => g ≠ jb ∧ g ≠ db ∧ g ≠ mb) v cs) (hn : cs.length ≤ 1000000) (hb : ∀ c ∈ cs, c.key.length ≤ 1073741824 ∧ c.val.length ≤ 1073741824) :
    Calls Tryd.prog 15 #[.pointer (some ⟨jb, 0, none⟩), v] w fun e w' => e = .returned (.int .i64 (jCommit cs s).2) ∧ JZ B (pNext p w w') w' db jb mb (jCommit cs s).1 ∧ Grown (Sj db jb mb) w w' := by
  refine (commit_c v cs w h.jw hc hn hb).mono ?_
  rintro e w' ⟨rfl, hJ', hg⟩
  exact ⟨rfl, h.act hJ', hg⟩
theorem set_z {B : Nat} {p : Nat → Prop} {w : World} {db jb mb : Nat} {s : JS} (h : JZ B p w db jb mb s) (k val : List UInt8) (v : Value) (hv : RdP w (fun g => g ≠ jb ∧ g ≠ db ∧ g ≠ mb) v val) (hk : k.length ≤ 1073741824) (hl : val.length ≤ 1073741824) :
    Calls Tryd.prog 23 #[.pointer (some ⟨jb, 0, none⟩), strV k, v] w fun e w' => e = .returned (.int .i64 (jCommit [⟨k, val, false⟩] s).2) ∧ JZ B (pNext p w w') w' db jb mb (jCommit [⟨k, val, false⟩] s).1 ∧ Grown (Sj db jb mb) w w' := by
  refine (set_c k val v w h.jw hv hk hl).mono ?_
  rintro e w' ⟨rfl, hJ', hg⟩
  exact ⟨rfl, h.act hJ', hg⟩
theorem compact_z {B : Nat} {p : Nat → Prop} {w : World} {db jb mb : Nat} {s : JS} (h : JZ B p w db jb mb s) :
    Calls Tryd.prog 13 #[.pointer (some ⟨jb, 0, none⟩)] w fun e w' => e = .returned (.int .i64 (jCompactOp s).2) ∧ JZ B (pNext p w w') w' db jb mb (jCompactOp s).1 ∧ Grown (Sj db jb mb) w w' := by
  refine (compactOp_c w h.jw).mono ?_
  rintro e w' ⟨rfl, hJ', hg⟩
  exact ⟨rfl, h.act hJ', hg⟩
/-- its disk is opened again -/
theorem reopen_z {B : Nat} {p : Nat → Prop} {w : World} {db jb mb : Nat} {s : JS} (h : JZ B p w db jb mb s) :
    Calls Tryd.prog 11 #[.pointer (some ⟨db, 0, none⟩)] w fun e w' => ∃ jb2 mb2, e = .returned (.tuple #[.pointer (some ⟨jb2, 0, none⟩), .int .i64 0]) ∧ w.heap.size ≤ jb2 ∧ w.heap.size ≤ mb2 ∧ (∃ p2 : Nat → Prop, (∀ g, p2 g → p g ∨ w.heap.size ≤ g) ∧ JZ B p2 w' db jb2 mb2 (jOpen s.d)) ∧ Below w.heap.size w w' := by
  have hB := h.x.size
  refine (open_c db p s.d w h.jw.st h.jw.disk h.jw.ok.d (fun g hg => ⟨(h.jw.away g hg).2.1, (h.jw.away g hg).2.2.2⟩)).mono ?_
  rintro e w' ⟨jb2, mb2, rfl, h1, h2, hJ, hb⟩
  have hlt := hJ.lt
  refine ⟨jb2, mb2, rfl, h1, h2, ⟨_, fun g hg => ?_, h.pos, by omega, h.dle, by omega, fun g hg => ⟨?_, hg.2⟩, hJ.low⟩, hb⟩
  · rcases hg.1 with hp | hp
    · exact Or.inl hp.1
    · exact Or.inr hp.1
  · rcases hg.1 with hp | hp
    · exact (h.lie g hp.1).1
    · omega
end
section
open Go.RowKit SeedP Go.Maps
def keyL (k : Nat) : List UInt8 := [107, 101, 121, UInt8.ofNat (65 + k)]
def valL (i : Nat) : List UInt8 := ((List.replicate 300 (0 : UInt8)).set 0 (UInt8.ofNat i)).set 299 (UInt8.ofNat (i / 256))
def kL (f i : Nat) : Nat := (i * 7 + f) % 50
/-- what was set last -/
def lastV (f : Nat) : Nat → Nat → Option (List UInt8)
  | 0, _ => none
  | n + 1, k => if kL f n = k then some (valL n) else lastV f n k
theorem valL_length (i : Nat) : (valL i).length = 300 := by unfold valL; rw [List.length_set, List.length_set, List.length_replicate]
theorem kL_lt (f i : Nat) : kL f i < 50 := Nat.mod_lt _ (by omega)
theorem keyL_inj {a b : Nat} (ha : a < 50) (hb : b < 50) (h : keyL a = keyL b) : a = b := by
  unfold keyL at h
  simp only [List.cons.injEq, and_true, true_and] at h
  have := congrArg UInt8.toNat h
  rw [UInt8.toNat_ofNat', UInt8.toNat_ofNat'] at this
  omega
structure LongE (f n : Nat) (P : PEnts) : Prop where
  ord : Ordered P
  ent : ∀ e ∈ P, (∃ k, k < 50 ∧ e.1 = keyL k) ∧ e.2.length = 300
  find : ∀ k, k < 50 → pFind P (keyL k) = lastV f n k
theorem LongE.nil (f : Nat) : LongE f 0 [] := ⟨List.Pairwise.nil, (fun e he => by cases he), fun _ _ => rfl⟩
def chL (f n : Nat) : Chg := ⟨keyL (kL f n), valL n, false⟩
theorem LongE.next {f n : Nat} {P : PEnts} (h : LongE f n P) : LongE f (n + 1) (pChgs P [chL f n]) := by
  refine ⟨pChgs_ord h.ord _, ?_, ?_⟩
  · intro e he
    have he : e ∈ pPut P (keyL (kL f n), valL n) := he
    unfold pPut at he
    rw [pIns_mem] at he
    rcases he with rfl | he
    · exact ⟨⟨_, kL_lt f n, rfl⟩, valL_length n⟩
    · exact h.ent e (pDel_sub he)
  · intro k hk
    show pFind (pPut P (keyL (kL f n), valL n)) (keyL k) = _
    rw [pPut_find, lastV]
    by_cases e : kL f n = k
    · rw [if_pos e, e]; simp
    · have hne : (keyL (kL f n) == keyL k) = false := by rw [beq_eq_false_iff_ne]; exact fun h2 => e (keyL_inj (kL_lt f n) hk h2)
      rw [if_neg e]
      simp only [hne, Bool.false_eq_true, if_false]
      exact h.find k hk
theorem wt_long : ∀ {P : PEnts}, (∀ e ∈ P, e.1.length = 4 ∧ e.2.length = 300) → pWt P = 307 * (P.length : Int)
  | [], _ => rfl
  | x :: r, h => by
    have h1 := h x (List.mem_cons_self ..)
    have h2 := wt_long (P := r) (fun e he => h e (List.mem_cons_of_mem _ he))
    rw [pWt_cons, List.length_cons]
    unfold eWt
    omega
theorem LongE.sizes {f n : Nat} {P : PEnts} (h : LongE f n P) : ∀ e ∈ P, e.1.length = 4 ∧ e.2.length = 300 := fun e he => by
  obtain ⟨⟨k, _, hk⟩, h2⟩ := h.ent e he
  exact ⟨by rw [hk]; rfl, h2⟩
theorem LongE.len {f n : Nat} {P : PEnts} (h : LongE f n P) : P.length ≤ 50 := by
  have h1 : (keysOf P).length ≤ ((List.range 50).map keyL).length := by
    refine List.Nodup.length_le_of_subset (ord_nodup h.ord) ?_
    intro k hk
    obtain ⟨e, he, rfl⟩ := List.mem_map.1 hk
    obtain ⟨⟨n, hn, e2⟩, _⟩ := h.ent e he
    exact List.mem_map.2 ⟨n, List.mem_range.2 hn, e2.symm⟩
  unfold keysOf at h1
  simpa using h1
theorem LongE.wt {f n : Nat} {P : PEnts} (h : LongE f n P) : pWt P = 307 * (P.length : Int) := wt_long h.sizes
theorem lastV_some (f k : Nat) (hk : k < 50) : ∀ n, (43 * (k + (50 - f % 50))) % 50 < n → ∃ v, lastV f n k = some v ∧ v.length = 300
  | 0, h => by omega
  | n + 1, h => by
    rw [lastV]
    by_cases e : kL f n = k
    · rw [if_pos e]; exact ⟨_, rfl, valL_length n⟩
    · rw [if_neg e]
      refine lastV_some f k hk n ?_
      rcases Nat.lt_or_ge ((43 * (k + (50 - f % 50))) % 50) n with h1 | h1
      · exact h1
      · exfalso
        apply e
        obtain rfl : n = (43 * (k + (50 - f % 50))) % 50 := by omega
        unfold kL
        omega
theorem LongE.full {f n : Nat} {P : PEnts} (h : LongE f n P) (hn : 50 ≤ n) : P.length = 50 := by
  have h0 := h.len
  have hnd : ((List.range 50).map keyL).Nodup := by
    rw [List.nodup_iff_pairwise_ne, List.pairwise_map]
    refine List.Pairwise.imp_of_mem ?_ (List.nodup_iff_pairwise_ne.1 List.nodup_range)
    intro i j hi hj hij e
    rw [List.mem_range] at hi hj
    exact hij (keyL_inj hi hj e)
  have h1 : ((List.range 50).map keyL).length ≤ (keysOf P).length := by
    refine List.Nodup.length_le_of_subset hnd ?_
    intro k hk
    obtain ⟨i, hi, rfl⟩ := List.mem_map.1 hk
    rw [List.mem_range] at hi
    obtain ⟨v, hv, _⟩ := lastV_some f i hi n (by have := Nat.mod_lt (43 * (i + (50 - f % 50))) (show 50 > 0 by omega); omega)
    have h2 := h.find i hi
    rw [hv] at h2
    by_cases hm : keyL i ∈ keysOf P
    · exact hm
    · rw [← pFind_none] at hm; rw [hm] at h2; cases h2
  have h2 : (keysOf P).length = P.length := by unfold keysOf; rw [List.length_map]
  rw [List.length_map, List.length_range] at h1
  omega
theorem LongE.may {f n : Nat} {s : JS} (h : Live s) (he : LongE f n s.c.ents) : May s [chL f n] := by
  refine ⟨by simp, by simp, one_valid (by show 1 ≤ 4; omega) (by show 4 ≤ 40; omega) (by rw [valL_length]; omega) (fun h => by cases h), ?_, ?_⟩
  · intro c hc hd
    obtain rfl := List.mem_singleton.1 hc
    cases hd
  · have h3 := pChgs_wt s.c.ents [chL f n] (ord_nodup he.ord) (by simp)
    rw [h.ok.wt, ← h3.2, he.next.wt]
    have := he.next.len
    omega
theorem code_long (f n : Nat) : (codeOf [chL f n]).length = 309 := by
  have h := valL_length n
  rw [codeOf_len]
  unfold codeSize chL
  generalize valL n = v at *
  have hk : (keyL (kL f n)).length = 4 := rfl
  simp only [chgSize, List.map_cons, List.map_nil, List.sum_cons, List.sum_nil, Bool.false_eq_true, if_false]
  omega
/-- a journal after n of the law's commits -/
structure LongS (f n : Nat) (s : JS) : Prop where
  live : Live s
  pw : s.d.pw = -1
  ents : LongE f n s.c.ents
  some : 1 ≤ n → 1 ≤ s.c.gen
  gen : s.c.gen ≤ n + 1
  used : 2 ≤ s.c.gen ∨ n = 0 ∨ s.c.ed = 24 + 321 * n
  zero : n = 0 → s = jOpen ⟨-1, [], []⟩
theorem LongS.start (f : Nat) : LongS f 0 (jOpen ⟨-1, [], []⟩) := by
  have hl := open_live (empty_ok (-1) (by decide) (by decide))
  refine ⟨hl, rfl, ?_, (fun h => by omega), ?_, Or.inr (Or.inl rfl), fun _ => rfl⟩
  · rw [jOpen_empty]; exact LongE.nil f
  · rw [jOpen_empty]; exact Nat.zero_le _
theorem gen_next {s : JS} {cs : List Chg} (h : Live s) (hpw : s.d.pw = -1) (hm : May s cs) (hg : 1 ≤ s.c.gen) (hg2 : s.c.gen + 2 < 4611686018427387904) :
    (overfullP s (codeOf cs).length = false ∧ (jCommit cs s).1.c.gen = s.c.gen ∧ (jCommit cs s).1.c.ed = s.c.ed + 12 + (codeOf cs).length) ∨ (jCommit cs s).1.c.gen = s.c.gen + 1 := by
  have hch := h.chain hg
  have hed := hch.good.ed
  rw [jCommit_eq h.up hm (by omega)]
  cases ho : overfullP s (codeOf cs).length with
  | false =>
    left
    rw [jDo_plain hpw hg hed.2 ho]
    exact ⟨rfl, rfl, rfl⟩
  | true =>
    right
    have hfull := jDo_full (cs := cs) hpw
    unfold jPowered
    rw [if_pos hfull.1]
    have h1 : jDo1 s = (s, true) := by unfold jDo1; rw [if_neg (by omega)]
    have d2 := (do2_live h hg)
    have f2 : (jDo2 s).2 = true ∧ (jDo2 s).1.d.pw = -1 := by
      unfold jDo2; split
      · exact dCut_full hpw
      · exact ⟨rfl, hpw⟩
    have c2 := (d2.2 f2.1).1
    have l2 := (d2.1.1 f2.1).1
    have ho2 : overfullP (jDo2 s).1 (codeOf cs).length = true := by unfold overfullP at ho ⊢; rw [c2]; exact ho
    have c3 := compact_live l2 (by rw [c2]; omega)
    have f3 := jCompact_full f2.2
    obtain ⟨_, _, g3, _⟩ := c3.1 f3.1
    have h3 : jDo3 (codeOf cs).length (jDo2 s).1 = jCompact (jDo2 s).1 := by unfold jDo3; rw [if_pos ho2]
    unfold jDo
    rw [h1, show jThen (s, true) jDo2 = jDo2 s from jThen_ok rfl, jThen_ok f2.1, h3, jThen_ok f3.1, jDo4_plain f3.2]
    show (jCompact (jDo2 s).1).1.c.gen = _
    rw [g3, c2]
theorem LongS.next {f n : Nat} {s : JS} (h : LongS f n s) (hn : n ≤ 1000000) : (jCommit [chL f n] s).2 = 0 ∧ LongS f (n + 1) (jCommit [chL f n] s).1 := by
  have hm := h.ents.may h.live
  have hg := h.gen
  have hc := (commit_may h.live hm (by omega)).2 h.pw
  obtain ⟨_, hl, he, hge⟩ := (commit_live (cs := [chL f n]) h.live).2.1 hc.1
  have hcl := code_long f n
  refine ⟨hc.1, ?_⟩
  have hE : LongE f (n + 1) (jCommit [chL f n] s).1.c.ents := by rw [he]; exact h.ents.next
  rcases Nat.eq_zero_or_pos n with rfl | hpos
  · have hz := h.zero rfl
    subst hz
    rw [jOpen_empty] at hm hl hc hE ⊢
    have hf := first_commit hm
    rw [hf] at hl hc hE ⊢
    refine ⟨hl, rfl, hE, fun _ => Nat.le_refl _, by show 1 ≤ 0 + 1 + 1; omega, Or.inr (Or.inr ?_), (fun h => by omega)⟩
    show 36 + (codeOf [chL f 0]).length = _
    omega
  · have h1 := h.some hpos
    rcases gen_next h.live h.pw hm h1 (by omega) with ⟨ho, hg2, hed⟩ | hg2
    · refine ⟨hl, hc.2, hE, fun _ => by omega, by omega, ?_, (fun h => by omega)⟩
      rcases h.used with hu | hu | hu
      · exact Or.inl (by omega)
      · omega
      · refine Or.inr (Or.inr ?_)
        rw [hed, hu, hcl]; omega
    · exact ⟨hl, hc.2, hE, fun _ => by omega, by omega, Or.inl (by omega), (fun h => by omega)⟩
theorem LongS.reopen {f n : Nat} {s : JS} (h : LongS f n s) (hn : 1 ≤ n) : LongS f n (jOpen s.d) := by
  have hl := open_live h.live.ok.d
  have ho := live_open h.live
  have e : (jOpen s.d).c = s.c := by unfold jOpen; rw [ho]
  have e2 : (jOpen s.d).d = s.d := rfl
  exact ⟨hl, by rw [e2]; exact h.pw, by rw [e]; exact h.ents, fun h1 => by rw [e]; exact h.some h1, by rw [e]; exact h.gen, by rw [e]; exact h.used, (fun h => by omega)⟩
theorem LongS.old {f n : Nat} {s : JS} (h : LongS f n s) (hn : 1000 ≤ n) : 2 ≤ s.c.gen := by
  have := h.live.ok.ed
  rcases h.used with hu | hu | hu
  · exact hu
  · omega
  · omega
end
end Go.Proofs.YtondomklkapogaaDoor
