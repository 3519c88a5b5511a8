/- Plain laws: what Open finds, and what a journal and its disk keep. -/
import Derived.Test.YtondomklkapogaaDoorJChain
namespace Go.Proofs.YtondomklkapogaaDoor
open Go.RowKit SeedP Go.Maps
theorem pIns_mem (x : List UInt8 × List UInt8) (P : PEnts) (e : List UInt8 × List UInt8) : e ∈ pIns x P ↔ e = x ∨ e ∈ P := by
  rw [(pIns_perm x P).mem_iff, List.mem_cons]
theorem pIns_ord {x : List UInt8 × List UInt8} {P : PEnts} (h : Ordered P) (hx : x.1 ∉ keysOf P) : Ordered (pIns x P) := by
  induction P with
  | nil => exact List.pairwise_singleton _ _
  | cons y r ih =>
    have h1 := List.pairwise_cons.1 h
    have hb : (Lit.string x.1).before (Lit.string y.1) = bytesBefore x.1 y.1 := rfl
    rw [pIns, hb]
    cases hxy : bytesBefore x.1 y.1 with
    | true =>
      simp only [if_true]
      refine List.pairwise_cons.2 ⟨fun e he => ?_, h⟩
      rcases List.mem_cons.1 he with rfl | he
      · exact hxy
      · exact blt_trans _ _ _ hxy (h1.1 e he)
    | false =>
      simp only [Bool.false_eq_true, if_false]
      refine List.pairwise_cons.2 ⟨fun e he => ?_, ih h1.2 (fun hm => hx (List.mem_cons_of_mem _ hm))⟩
      rcases (pIns_mem x r e).1 he with rfl | he
      · rcases blt_total e.1 y.1 (fun e2 => hx (by rw [e2]; exact List.mem_cons_self ..)) with h2 | h2
        · rw [hxy] at h2; cases h2
        · exact h2
      · exact h1.1 e he
theorem pDel_ord {P : PEnts} (h : Ordered P) (k : List UInt8) : Ordered (pDel P k) := List.Pairwise.sublist List.filter_sublist h
theorem pPut_ord {P : PEnts} (h : Ordered P) (x : List UInt8 × List UInt8) : Ordered (pPut P x) :=
  pIns_ord (pDel_ord h _) (by rw [keys_pDel]; simp)
theorem pChg_ord {P : PEnts} (h : Ordered P) (c : Chg) : Ordered (pChg P c) := by
  unfold pChg; split
  · exact pDel_ord h _
  · exact pPut_ord h _
theorem pChgs_ord {P : PEnts} (h : Ordered P) (cs : List Chg) : Ordered (pChgs P cs) := by
  unfold pChgs
  induction cs generalizing P with
  | nil => exact h
  | cons c r ih => rw [List.foldl_cons]; exact ih (pChg_ord h c)
theorem SmallEnts.del {P : PEnts} (h : SmallEnts P) (k : List UInt8) : SmallEnts (pDel P k) :=
  ⟨fun e he => h.key e (List.mem_filter.1 he).1, fun e he => h.val e (List.mem_filter.1 he).1⟩
theorem SmallEnts.put {P : PEnts} (h : SmallEnts P) {x : List UInt8 × List UInt8} (h1 : 1 ≤ x.1.length ∧ x.1.length ≤ 40) (h2 : x.2.length ≤ 4096) : SmallEnts (pPut P x) := by
  unfold pPut
  refine ⟨fun e he => ?_, fun e he => ?_⟩ <;> rcases (pIns_mem _ _ e).1 he with rfl | he
  · exact h1
  · exact (h.del _).key e he
  · exact h2
  · exact (h.del _).val e he
theorem SmallEnts.chgs {P : PEnts} (h : SmallEnts P) {cs : List Chg} (hk : ∀ c ∈ cs, 1 ≤ c.key.length ∧ c.key.length ≤ 40) (hv : ∀ c ∈ cs, c.val.length ≤ 4096) : SmallEnts (pChgs P cs) := by
  unfold pChgs
  induction cs generalizing P with
  | nil => exact h
  | cons c r ih =>
    rw [List.foldl_cons]
    refine ih ?_ (fun c hc => hk c (List.mem_cons_of_mem _ hc)) (fun c hc => hv c (List.mem_cons_of_mem _ hc))
    unfold pChg; split
    · exact h.del _
    · exact h.put (hk c (List.mem_cons_self ..)) (hv c (List.mem_cons_self ..))
theorem rTake_fine {n : Nat} {s : RSt} (h : (rTake n s).2.2 = false) : s.2 = false ∧ (rTake n s).1.length = n := by
  unfold rTake at h ⊢
  split at h
  · cases h
  · rename_i hc
    rw [if_neg hc]
    refine ⟨by cases hs : s.2 <;> simp_all, ?_⟩
    rw [List.length_take]; omega
theorem rKey_fine {s : RSt} (h : (rKey s).2.2 = false) : 1 ≤ (rKey s).1.length ∧ (rKey s).1.length ≤ 40 := by
  unfold rKey at h ⊢
  have h1 := rTake_fine h
  by_cases hn : (rNum 1 s).1 < 1 ∨ 40 < (rNum 1 s).1
  · rw [if_pos hn] at h1; cases h1.1
  · omega
theorem rVal_fine {s : RSt} (h : (rVal s).2.2 = false) : s.2 = false ∧ (rVal s).1.length ≤ 4096 := by
  unfold rVal at h ⊢
  have h1 := rTake_fine h
  by_cases hn : 4096 < (rNum 2 s).1
  · rw [if_pos hn] at h1; cases h1.1
  · have h2 := h1.1
    rw [if_neg hn] at h2
    exact ⟨(rTake_fine h2).1, by omega⟩
theorem rEnts_ord {s : RSt} : ∀ n {P : PEnts} {last : List UInt8} {wt : Int} {s' : RSt}, rEnts n s = some (P, last, wt, s') → Ordered P ∧ SmallEnts P := by
  intro n
  induction n with
  | zero =>
    intro P last wt s' h
    simp only [rEnts, Option.some.injEq, Prod.mk.injEq] at h
    obtain ⟨rfl, _⟩ := h
    exact ⟨List.Pairwise.nil, ⟨fun e he => (by cases he), fun e he => (by cases he)⟩⟩
  | succ n ih =>
    intro P last wt s' h
    rw [rEnts] at h
    split at h
    · cases h
    · rename_i P0 l0 w0 s0 h0
      have h1 := ih h0
      split at h
      · cases h
      · rename_i hc
        simp only [Option.some.injEq, Prod.mk.injEq] at h
        obtain ⟨rfl, _⟩ := h
        have hf : (rVal (rKey s0).2).2.2 = false := by
          cases hb : (rVal (rKey s0).2).2.2 with
          | false => rfl
          | true => exact absurd (Or.inl hb) hc
        have h2 := rVal_fine hf
        exact ⟨pPut_ord h1.1 _, h1.2.put (rKey_fine h2.1) h2.2⟩
theorem Chain.ord {file : List UInt8} {c : Cont} (h : Chain file c) : Ordered c.ents ∧ SmallEnts c.ents := by
  induction h with
  | start hn hr =>
    unfold rState at hr
    split at hr
    · cases hr
    · split at hr
      · cases hr
      · rename_i P _ wt s he
        split at hr
        · simp only [Option.some.injEq, Prod.mk.injEq] at hr
          obtain ⟨_, rfl, _⟩ := hr
          exact rEnts_ord _ he
        · cases hr
  | next hc hn hr hp ih =>
    have hv := (rComm_ok hr).1
    exact ⟨pChgs_ord ih.1 _, ih.2.chgs hv.key hv.val⟩
def zeroC : Cont := ⟨0, [], 0, 0, 0⟩
def pickC (o : Option Cont) (f : Bool) (s : Bool × Cont) : Bool × Cont := match o with
  | some c => if s.2.gen < c.gen then (f, c) else s
  | none => s
theorem pickC_none (f : Bool) (s : Bool × Cont) : pickC none f s = s := rfl
theorem pickC_lt {c : Cont} {f : Bool} {s : Bool × Cont} (h : s.2.gen < c.gen) : pickC (some c) f s = (f, c) := by unfold pickC; simp only []; rw [if_pos h]
theorem pickC_ge {c : Cont} {f : Bool} {s : Bool × Cont} (h : ¬ s.2.gen < c.gen) : pickC (some c) f s = s := by unfold pickC; simp only []; rw [if_neg h]
def openP (d : DS) : Bool × Cont := pickC (readF d.f1) true (pickC (readF d.f0) false (false, zeroC))
def jOpen (d : DS) : JS := ⟨d, false, (openP d).1, (openP d).2⟩
structure Live (s : JS) : Prop where
  ok : s.Ok
  up : s.down = false
  ord : Ordered s.c.ents
  small : SmallEnts s.c.ents
  cur : 1 ≤ s.c.gen → readF (s.d.get s.file) = some s.c
  other : ∀ c', readF (s.d.get (!s.file)) = some c' → c'.gen ≤ s.c.gen ∧ (s.file = true → c'.gen < s.c.gen)
  zero : s.c.gen = 0 → s.c = zeroC ∧ s.file = false ∧ readF s.d.f0 = none
theorem readF_gen {file : List UInt8} {c : Cont} (h : readF file = some c) : 1 ≤ c.gen := (readF_good h).gen.1
theorem zeroC_ok (d : DS) (h : d.Ok) (b : Bool) : JS.Ok ⟨d, b, false, zeroC⟩ := ⟨h.pw0, h.pw1, h.f0, h.f1, List.nodup_nil, rfl, by show (0 : Int) ≤ _; omega, by show 0 ≤ _; omega, by show 0 ≤ _; omega, by show (0 : Int) ≤ 0; omega, by show (0 : Int) ≤ _; omega⟩
theorem good_ok {d : DS} (h : d.Ok) {f : Bool} {c : Cont} (hc : readF (d.get f) = some c) (b : Bool) : JS.Ok ⟨d, b, f, c⟩ := by
  have g := readF_good hc
  have := h.get f
  exact ⟨h.pw0, h.pw1, h.f0, h.f1, g.apart, g.wt, g.max, g.gen.2, Nat.le_trans g.ed.2 this, g.sum.1, g.sum.2⟩
/-- Open returns a journal that agrees with its disk -/
theorem open_live {d : DS} (h : d.Ok) : Live (jOpen d) := by
  unfold jOpen openP
  cases h0 : readF d.f0 with
  | none =>
    cases h1 : readF d.f1 with
    | none =>
      rw [pickC_none, pickC_none]
      refine ⟨zeroC_ok d h _, rfl, List.Pairwise.nil, ⟨fun e he => (by cases he), fun e he => (by cases he)⟩, ?_, ?_, fun _ => ⟨rfl, rfl, h0⟩⟩
      · intro hg; have : 1 ≤ 0 := hg; omega
      · intro c' hc'
        have hc' : readF d.f1 = some c' := hc'
        rw [h1] at hc'; cases hc'
    | some c1 =>
      have hg := readF_gen h1
      rw [pickC_none, pickC_lt (s := (false, zeroC)) hg]
      refine ⟨good_ok h (f := true) h1 _, rfl, (readF_chain h1).1.ord.1, (readF_chain h1).1.ord.2, fun _ => h1, ?_, ?_⟩
      · intro c' hc'
        have hc' : readF d.f0 = some c' := hc'
        rw [h0] at hc'; cases hc'
      · intro hz; have hz : c1.gen = 0 := hz; omega
  | some c0 =>
    have hg := readF_gen h0
    rw [pickC_lt (s := (false, zeroC)) hg]
    cases h1 : readF d.f1 with
    | none =>
      rw [pickC_none]
      refine ⟨good_ok h (f := false) h0 _, rfl, (readF_chain h0).1.ord.1, (readF_chain h0).1.ord.2, fun _ => h0, ?_, ?_⟩
      · intro c' hc'
        have hc' : readF d.f1 = some c' := hc'
        rw [h1] at hc'; cases hc'
      · intro hz; have hz : c0.gen = 0 := hz; omega
    | some c1 =>
      by_cases hlt : c0.gen < c1.gen
      · rw [pickC_lt (s := (false, c0)) hlt]
        refine ⟨good_ok h (f := true) h1 _, rfl, (readF_chain h1).1.ord.1, (readF_chain h1).1.ord.2, fun _ => h1, ?_, ?_⟩
        · intro c' hc'
          have hc' : readF d.f0 = some c' := hc'
          rw [h0] at hc'
          cases hc'
          exact ⟨Nat.le_of_lt hlt, fun _ => hlt⟩
        · intro hz; have hz : c1.gen = 0 := hz; have : c0.gen < c1.gen := hlt; omega
      · rw [pickC_ge (s := (false, c0)) hlt]
        refine ⟨good_ok h (f := false) h0 _, rfl, (readF_chain h0).1.ord.1, (readF_chain h0).1.ord.2, fun _ => h0, ?_, ?_⟩
        · intro c' hc'
          have hc' : readF d.f1 = some c' := hc'
          rw [h1] at hc'
          cases hc'
          exact ⟨Nat.le_of_not_lt hlt, fun hf => by cases hf⟩
        · intro hz; have hz : c0.gen = 0 := hz; omega
/-- a journal that agrees with its disk is what Open finds -/
theorem openP_of {d : DS} {f : Bool} {c : Cont} (hc : readF (d.get f) = some c) (ho : ∀ c', readF (d.get (!f)) = some c' → c'.gen ≤ c.gen ∧ (f = true → c'.gen < c.gen)) : openP d = (f, c) := by
  have hg := readF_gen hc
  unfold openP
  cases f with
  | false =>
    have hc : readF d.f0 = some c := hc
    rw [hc, pickC_lt (s := (false, zeroC)) hg]
    cases h1 : readF d.f1 with
    | none => rfl
    | some c1 =>
      have := (ho c1 h1).1
      rw [pickC_ge (s := (false, c)) (by show ¬ (c.gen < c1.gen); omega)]
  | true =>
    have hc : readF d.f1 = some c := hc
    rw [hc]
    cases h0 : readF d.f0 with
    | none => rw [pickC_none, pickC_lt (s := (false, zeroC)) hg]
    | some c0 =>
      have h2 := (ho c0 h0).2 rfl
      have h3 := readF_gen h0
      rw [pickC_lt (s := (false, zeroC)) h3, pickC_lt (s := (false, c0)) h2]
theorem openP_zero {d : DS} (h0 : readF d.f0 = none) (h1 : readF d.f1 = none) : openP d = (false, zeroC) := by unfold openP; rw [h0, h1]; rfl
theorem Live.other_none {s : JS} (h : Live s) (hg : s.c.gen = 0) : readF s.d.f1 = none := by
  cases h1 : readF s.d.f1 with
  | none => rfl
  | some c1 =>
    have hz := h.zero hg
    have := h.other c1 (by rw [hz.2.1]; exact h1)
    have := readF_gen h1
    omega
theorem live_open {s : JS} (h : Live s) : openP s.d = (s.file, s.c) := by
  rcases Nat.eq_zero_or_pos s.c.gen with hg | hg
  · have hz := h.zero hg
    rw [openP_zero hz.2.2 (h.other_none hg), hz.1, hz.2.1]
  · exact openP_of (h.cur hg) h.other
/-- the power alone has turned -/
theorem Live.power {s : JS} (h : Live s) {z : Int} (h0 : -1 ≤ z) (h1 : z ≤ 9223372036854775807) : Live ⟨⟨z, s.d.f0, s.d.f1⟩, s.down, s.file, s.c⟩ :=
  ⟨⟨h0, h1, h.ok.f0, h.ok.f1, h.ok.apart, h.ok.wt, h.ok.max, h.ok.gen, h.ok.ed, h.ok.sum0, h.ok.sum1⟩, h.up, h.ord, h.small, h.cur, h.other, h.zero⟩
end Go.Proofs.YtondomklkapogaaDoor
