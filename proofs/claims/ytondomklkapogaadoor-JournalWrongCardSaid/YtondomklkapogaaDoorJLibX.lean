/- A journal in a law's world, its map named; entries and changes beside it. -/
import Derived.Test.YtondomklkapogaaDoorJHas
import Derived.Test.YtondomklkapogaaDoorJChgC
import Derived.Test.YtondomklkapogaaDoorJMay
import Derived.Test.YtondomklkapogaaDoorJLib
namespace Go.Proofs.YtondomklkapogaaDoor
section
section
open Go.RowKit SeedP Go.Maps
/-- a journal over a disk, above block B -/
structure JX (B : Nat) (w : World) (db jb mb : Nat) (s : JS) : Prop where
  pos : 0 < B
  jle : B ≤ jb
  dle : B ≤ db
  mle : B ≤ mb
  jw : JW w jb db mb (fun g => B ≤ g ∧ g ≠ jb ∧ g ≠ db ∧ g ≠ mb) s
theorem JX.jl {B : Nat} {w : World} {db jb mb : Nat} {s : JS} (h : JX B w db jb mb s) : JL B w db jb s := ⟨h.pos, h.jle, h.dle, mb, h.mle, h.jw⟩
theorem JL.jx {B : Nat} {w : World} {db jb : Nat} {s : JS} (h : JL B w db jb s) : ∃ mb, JX B w db jb mb s := by
  obtain ⟨h0, h1, h2, mb, h3, h⟩ := h
  exact ⟨mb, h0, h1, h2, h3, h⟩
theorem JX.below {B : Nat} {w w' : World} {db jb mb : Nat} {s : JS} (h : JX B w db jb mb s) (hb : Below w.heap.size w w') : JX B w' db jb mb s := ⟨h.pos, h.jle, h.dle, h.mle, h.jw.below hb⟩
/-- the blocks that an act of the journal turns -/
def Sj (db jb mb : Nat) : Nat → Prop := fun k => k = jb ∨ k = db ∨ k = mb
theorem JX.cut {B : Nat} {w w' : World} {db jb mb : Nat} {s : JS} (h : JX B w db jb mb s) (hg : Grown (Sj db jb mb) w w') : Below B w w' :=
  hg.below (fun k e => by have := h.jle; have := h.dle; have := h.mle; unfold Sj at e; omega) (by have := h.jl.size; omega)
theorem JX.size {B : Nat} {w : World} {db jb mb : Nat} {s : JS} (h : JX B w db jb mb s) : B < w.heap.size := h.jl.size
theorem JX.of_grown {B : Nat} {w w' : World} {db jb mb : Nat} {s s' : JS} (h : JX B w db jb mb s) (h' : JW w' jb db mb (fun g => (B ≤ g ∧ g ≠ jb ∧ g ≠ db ∧ g ≠ mb) ∨ w.heap.size ≤ g) s') : JX B w' db jb mb s' :=
  ⟨h.pos, h.jle, h.dle, h.mle, h'.mono (fun g hg => by have := h.size; have := h.jw.lt; rcases hg with hg | hg; exact hg; exact ⟨by omega, by omega, by omega, by omega⟩) (fun g hg => ⟨hg.2.1, hg.2.2.1, hg.2.2.2, by have := h.pos; omega⟩)⟩
theorem commit_x {B : Nat} {w : World} {db jb mb : Nat} {s : JS} (h : JX B w db jb mb s) (v : Value) (cs : List Chg) (hc : ChgsP w (fun g => g ≠ jb ∧ g ≠ db ∧ g ≠ mb) v cs) (hn : cs.length ≤ 1000000) (hb : ∀ c ∈ cs, c.key.length ≤ 1073741824 ∧ c.val.length ≤ 1073741824) :
    Calls Tryd.prog 15 #[.pointer (some ⟨jb, 0, none⟩), v] w fun e w' => e = .returned (.int .i64 (jCommit cs s).2) ∧ JX B w' db jb mb (jCommit cs s).1 ∧ Grown (Sj db jb mb) w w' := by
  refine (commit_c v cs w h.jw hc hn hb).mono ?_
  rintro e w' ⟨rfl, hJ', hg⟩
  exact ⟨rfl, h.of_grown hJ', hg⟩
theorem set_x {B : Nat} {w : World} {db jb mb : Nat} {s : JS} (h : JX B w db jb mb s) (k val : List UInt8) (v : Value) (hv : RdP w (fun g => g ≠ jb ∧ g ≠ db ∧ g ≠ mb) v val) (hk : k.length ≤ 1073741824) (hl : val.length ≤ 1073741824) :
    Calls Tryd.prog 23 #[.pointer (some ⟨jb, 0, none⟩), strV k, v] w fun e w' => e = .returned (.int .i64 (jCommit [⟨k, val, false⟩] s).2) ∧ JX B w' db jb mb (jCommit [⟨k, val, false⟩] s).1 ∧ Grown (Sj db jb mb) w w' := by
  refine (set_c k val v w h.jw hv hk hl).mono ?_
  rintro e w' ⟨rfl, hJ', hg⟩
  exact ⟨rfl, h.of_grown hJ', hg⟩
theorem drop_x {B : Nat} {w : World} {db jb mb : Nat} {s : JS} (h : JX B w db jb mb s) (k : List UInt8) (hk : k.length ≤ 1073741824) :
    Calls Tryd.prog 22 #[.pointer (some ⟨jb, 0, none⟩), strV k] w fun e w' => e = .returned (.int .i64 (jCommit [⟨k, [], true⟩] s).2) ∧ JX B w' db jb mb (jCommit [⟨k, [], true⟩] s).1 ∧ Grown (Sj db jb mb) w w' := by
  refine (drop_c k w h.jw hk).mono ?_
  rintro e w' ⟨rfl, hJ', hg⟩
  exact ⟨rfl, h.of_grown hJ', hg⟩
theorem compact_x {B : Nat} {w : World} {db jb mb : Nat} {s : JS} (h : JX B w db jb mb s) :
    Calls Tryd.prog 13 #[.pointer (some ⟨jb, 0, none⟩)] w fun e w' => e = .returned (.int .i64 (jCompactOp s).2) ∧ JX B w' db jb mb (jCompactOp s).1 ∧ Grown (Sj db jb mb) w w' := by
  refine (compactOp_c w h.jw).mono ?_
  rintro e w' ⟨rfl, hJ', hg⟩
  exact ⟨rfl, h.of_grown hJ', hg⟩
theorem open_x {B : Nat} {w : World} {db : Nat} {d : DS} (h : DL B w db d) (hok : d.Ok) :
    Calls Tryd.prog 11 #[.pointer (some ⟨db, 0, none⟩)] w fun e w' => ∃ jb mb, e = .returned (.tuple #[.pointer (some ⟨jb, 0, none⟩), .int .i64 0]) ∧ JX B w' db jb mb (jOpen d) ∧ Below w.heap.size w w' := by
  refine (open_l h hok).mono ?_
  rintro e w' ⟨jb, rfl, hJ, hb⟩
  obtain ⟨mb, hX⟩ := hJ.jx
  exact ⟨jb, mb, rfl, hX, hb⟩
/-! ### entries that a law holds -/
def RdT (w : World) (v : Value) (P : PEnts) : Prop := w.ownsRow 0 60 2 v P.length (rowE P)
theorem RdT.nil (w : World) : RdT w (.slice none 0 0) [] := World.ownsRow_nil w 0 _ 2
theorem RdT.rd {w : World} {v : Value} {P : PEnts} (h : RdT w v P) : RdE w (fun g => g < w.heap.size) v P := RdE.own h (fun _ _ h => h)
theorem RdT.below {w w' : World} {v : Value} {P : PEnts} (h : RdT w v P) (hb : Below w.heap.size w w') : RdT w' v P := own_grown h (Grown.of_below hb (S := fun _ => False)) (fun _ _ _ h => h)
theorem RdT.own {w : World} {B : Nat} {v : Value} {P : PEnts} (h : w.ownsRow B 60 2 v P.length (rowE P)) : RdT w v P := own_mono h (Nat.zero_le _)
/-- an act of a journal leaves them -/
theorem JX.apart {B : Nat} {w : World} {db jb mb : Nat} {s : JS} (h : JX B w db jb mb s) {B' n m : Nat} {e : TypeId} {v : Value} {xs : List Value} (hv : w.ownsRow B' e m v n xs) (h1 : e ≠ 72) (h2 : e ≠ 29) : ∀ g, v.ownBlock = some g → ¬ Sj db jb mb g := by
  intro g hg hS
  obtain ⟨L, hM, _⟩ := h.jw.map
  obtain ⟨v0, v1, q0, q1, hd, _⟩ := h.jw.disk
  rcases hS with rfl | rfl | rfl
  · exact own_apart hv h.jw.blk h1 hg
  · exact own_apart hv hd h2 hg
  · rcases hv.2 with ⟨rfl, _⟩ | ⟨g', cap, cur, rfl, _, hh, _⟩
    · simp [Value.ownBlock] at hg
    · obtain rfl : g' = g := by simpa [Value.ownBlock] using hg
      obtain ⟨es, clock, hb, _⟩ := hM.own
      rw [hh] at hb; cases hb
theorem RdT.act {B : Nat} {w w' : World} {db jb mb : Nat} {s : JS} {v : Value} {P : PEnts} (h : RdT w v P) (hJ : JX B w db jb mb s) (hg : Grown (Sj db jb mb) w w') : RdT w' v P := own_keep h hg (hJ.apart h (by decide) (by decide))
/-- changes that were just made, beside a journal that was there before -/
theorem JX.chgs {B C : Nat} {w w' : World} {db jb mb : Nat} {s : JS} (h : JX B w db jb mb s) {lv : Value} {xs : List (Chg × Value)} (hr : ChgRow w' C lv xs) (hC : w.heap.size ≤ C) (hn : xs.length ≤ 1000000) : ChgsP w' (fun g => g ≠ jb ∧ g ≠ db ∧ g ≠ mb) lv (xs.map (·.1)) :=
  (hr.toP hn).mono' (fun g hg => by have := h.jw.lt; omega)
theorem Blk.act {B : Nat} {w w' : World} {db jb mb : Nat} {s : JS} {g : Nat} {t : TypeId} {cs : List Value} (hb : Blk w g t cs) (h : JX B w db jb mb s) (hg : Grown (Sj db jb mb) w w') (h1 : t ≠ 72) (h2 : t ≠ 29) : Blk w' g t cs :=
  hb.grown hg (fun e => by have := h.jw.other hb h1 h2; unfold Sj at e; omega)
end
section
open Go.RowKit SeedP Go.Maps
/-- between two steps: dn: the power has failed; P: what was committed; M: what was under way -/
structure KS (s : JS) (dn : Bool) (P M : PEnts) (g : Nat) : Prop where
  few : Few P
  fewM : Few M
  up : dn = false → Live s ∧ s.c.ents = P ∧ s.c.gen ≤ g
  dead : dn = true → Has s.d P g
theorem KS.ok {s : JS} {dn : Bool} {P M : PEnts} {g : Nat} (h : KS s dn P M g) : s.d.Ok := by
  cases dn with
  | false => exact (h.up rfl).1.ok.d
  | true => exact (h.dead rfl).ok
theorem KS.start {pw : Int} (h0 : -1 ≤ pw) (h1 : pw ≤ 9223372036854775807) : KS (jOpen ⟨pw, [], []⟩) false [] [] 0 := by
  refine ⟨Few.nil, Few.nil, fun _ => ?_, fun h => by cases h⟩
  have hl := open_live (d := ⟨pw, [], []⟩) ⟨h0, h1, Nat.zero_le _, Nat.zero_le _⟩
  refine ⟨hl, ?_, ?_⟩ <;> (unfold jOpen; rw [openP_zero readF_nil readF_nil]) <;> first | rfl | exact Nat.le_refl _
/-- it is opened again -/
theorem KS.reopen {s : JS} {dn : Bool} {P M : PEnts} {g : Nat} (h : KS s dn P M g) {pw : Int} (h0 : -1 ≤ pw) (h1 : pw ≤ 9223372036854775807) :
    DS.Ok ⟨pw, s.d.f0, s.d.f1⟩ ∧ Live (jOpen ⟨pw, s.d.f0, s.d.f1⟩) ∧ (jOpen ⟨pw, s.d.f0, s.d.f1⟩).c.ents = P ∧ (jOpen ⟨pw, s.d.f0, s.d.f1⟩).c.gen ≤ g := by
  have hok : DS.Ok ⟨pw, s.d.f0, s.d.f1⟩ := ⟨h0, h1, h.ok.f0, h.ok.f1⟩
  have he : (openP ⟨pw, s.d.f0, s.d.f1⟩) = openP s.d := rfl
  refine ⟨hok, open_live hok, ?_, ?_⟩
  · show (openP ⟨pw, s.d.f0, s.d.f1⟩).2.ents = P
    rw [he]
    cases dn with
    | false => obtain ⟨l, e, _⟩ := h.up rfl; rw [live_open l]; exact e
    | true => exact (h.dead rfl).ents
  · show (openP ⟨pw, s.d.f0, s.d.f1⟩).2.gen ≤ g
    rw [he]
    cases dn with
    | false => obtain ⟨l, _, e⟩ := h.up rfl; rw [live_open l]; exact e
    | true => exact (h.dead rfl).gen
theorem ents_up {s : JS} (h : Live s) : s.ents = s.c.ents := by unfold JS.ents; rw [if_neg (by rw [h.up]; simp)]
/-- what a step leaves: all is well, or the power has failed -/
def After (s2 : JS) (P N : PEnts) (g : Nat) (r : Int) : Prop :=
  (r = 0 ∧ Live s2 ∧ s2.c.ents = N ∧ s2.c.gen ≤ g) ∨ (r = 360 ∧ Has s2.d P g ∧ s2.down = true)
theorem after_commit {s : JS} {P : PEnts} {g : Nat} (h : Live s) (hP : s.c.ents = P) (hg : s.c.gen ≤ g) (hg2 : g + 2 < 4611686018427387904) (hf : Few P) (st : StepP) :
    After (jCommit (chAll st P) s).1 P (pChgs P (chAll st P)) (g + 2) (jCommit (chAll st P) s).2 := by
  subst hP
  have hm := may_step h rfl hf st
  obtain ⟨_, h1, h2, _⟩ := commit_live (cs := chAll st s.c.ents) h
  rcases (commit_may h hm (by omega)).1 with e | e
  · obtain ⟨_, l, e2, e3⟩ := h1 e
    exact Or.inl ⟨e, l, e2, by omega⟩
  · obtain ⟨_, l, e2, _⟩ := h2 e
    exact Or.inr ⟨e, Has.mono (g' := g + 2) l (by omega), e2⟩
theorem after_compact {s : JS} {P : PEnts} {g : Nat} (h : Live s) (hP : s.c.ents = P) (hg : s.c.gen ≤ g) (hg2 : g + 2 < 4611686018427387904) :
    After (jCompactOp s).1 P P (g + 2) (jCompactOp s).2 := by
  obtain ⟨_, h1, _⟩ := compactOp_live h (by omega)
  rcases h1 with ⟨e, _, _, l, e2, e3⟩ | ⟨e, l, e2, _⟩
  · exact Or.inl ⟨e, l, by rw [e2, hP], by omega⟩
  · exact Or.inr ⟨e, by rw [← hP]; exact Has.mono (g' := g + 2) l (by omega), e2⟩
theorem After.next {s2 : JS} {P N : PEnts} {g : Nat} {r : Int} (h : After s2 P N g r) (hP : Few P) (hN : Few N) :
    (r = 0 ∧ KS s2 false N N g ∧ s2.ents = N) ∨ (r = 360 ∧ KS s2 true P N g) := by
  rcases h with ⟨e, l, e2, e3⟩ | ⟨e, l, _⟩
  · exact Or.inl ⟨e, ⟨hN, hN, fun _ => ⟨l, e2, e3⟩, (fun h => by cases h)⟩, by rw [ents_up l, e2]⟩
  · exact Or.inr ⟨e, ⟨hP, hN, (fun h => by cases h), fun _ => l⟩⟩
end
section
open Go.RowKit SeedP Go.Maps
/-- a slice of steps among the arguments -/
def RdS (w : World) (v : Value) (L : List StepP) : Prop :=
  (∃ a cap, v = .slice a L.length cap ∧ L.length ≤ cap ∧ cap ≤ maxLen ∧ (L = [] ∨ ∃ g off, a = some ⟨g, off, none⟩ ∧ g < w.heap.size ∧ ∀ i (h : i < L.length),
    w.cell? ⟨g, off + i * 5, none⟩ = some (.int .u8 L[i].kind) ∧ w.cell? ⟨g, off + i * 5 + 1, none⟩ = some (.int .u8 L[i].n) ∧ w.cell? ⟨g, off + i * 5 + 2, none⟩ = some (.int .u8 L[i].a) ∧ w.cell? ⟨g, off + i * 5 + 3, none⟩ = some (.int .u8 L[i].b) ∧ w.cell? ⟨g, off + i * 5 + 4, none⟩ = some (.int .u16 L[i].power))) ∧ ∀ s ∈ L, s.Ok
theorem RdS.below {w w' : World} {B : Nat} {v : Value} {L : List StepP} (h : RdS w v L) (hB : B = w.heap.size) (hb : Below B w w') : RdS w' v L := by
  subst hB
  obtain ⟨⟨a, cap, e, h1, h2, h3⟩, h4⟩ := h
  refine ⟨⟨a, cap, e, h1, h2, ?_⟩, h4⟩
  rcases h3 with h3 | ⟨g, off, e2, hlt, h5⟩
  · exact Or.inl h3
  · have hk : ∀ o x, w.cell? ⟨g, o, none⟩ = some x → w'.cell? ⟨g, o, none⟩ = some x := fun o x hc => (hb.cell (p := ⟨g, o, none⟩) hlt).trans hc
    exact Or.inr ⟨g, off, e2, Nat.lt_of_lt_of_le hlt hb.size, fun i hi => ⟨hk _ _ (h5 i hi).1, hk _ _ (h5 i hi).2.1, hk _ _ (h5 i hi).2.2.1, hk _ _ (h5 i hi).2.2.2.1, hk _ _ (h5 i hi).2.2.2.2⟩⟩
end
end
section
open Go.RowKit SeedP Go.Maps
structure FS (s : JS) (P : PEnts) (g : Nat) : Prop where
  live : Live s
  pw : s.d.pw = -1
  ents : s.c.ents = P
  gen : s.c.gen ≤ g
  few : Few P
theorem FS.start : FS (jOpen ⟨-1, [], []⟩) [] 0 := by
  have h := KS.start (pw := -1) (by decide) (by decide)
  obtain ⟨h1, h2, h3⟩ := h.up rfl
  exact ⟨h1, rfl, h2, h3, Few.nil⟩
theorem FS.ents' {s : JS} {P : PEnts} {g : Nat} (h : FS s P g) : s.ents = P := by rw [ents_up h.live, h.ents]
theorem FS.commit {s : JS} {P : PEnts} {g : Nat} (h : FS s P g) (hg : g + 2 < 4611686018427387904) (st : StepP) : (jCommit (chAll st P) s).2 = 0 ∧ FS (jCommit (chAll st P) s).1 (pChgs P (chAll st P)) (g + 2) := by
  obtain ⟨l, pw, e, ge, f⟩ := h
  subst e
  have hm := may_step l rfl f st
  have hc := (commit_may l hm (by omega)).2 pw
  obtain ⟨_, l2, e2, g2⟩ := (commit_live (cs := chAll st s.c.ents) l).2.1 hc.1
  exact ⟨hc.1, l2, hc.2, e2, by omega, f.all st⟩
theorem FS.compact {s : JS} {P : PEnts} {g : Nat} (h : FS s P g) (hg : g + 2 < 4611686018427387904) : (jCompactOp s).2 = 0 ∧ FS (jCompactOp s).1 P (g + 2) := by
  obtain ⟨l, pw, e, ge, f⟩ := h
  obtain ⟨_, h1, h2⟩ := compactOp_live l (by omega)
  have hp := h2 pw
  rcases h1 with ⟨_, _, _, l2, e2, g2⟩ | ⟨e2, _⟩
  · exact ⟨hp.1, l2, hp.2, by rw [e2, e], by omega, f⟩
  · rw [hp.1] at e2; cases e2
/-- the power is set -/
theorem JX.power {B : Nat} {w : World} {db jb mb : Nat} {s : JS} (h : JX B w db jb mb s) {pw : Int} (h0 : -1 ≤ pw) (h1 : pw ≤ 9223372036854775807) :
    JX B (w.setCell ⟨db, 0, none⟩ (.int .i64 pw)) db jb mb ⟨⟨pw, s.d.f0, s.d.f1⟩, s.down, s.file, s.c⟩ ∧ Grown (Sj db jb mb) w (w.setCell ⟨db, 0, none⟩ (.int .i64 pw)) := by
  have hg : Grown (fun k => k = db) w (w.setCell ⟨db, 0, none⟩ (.int .i64 pw)) := Grown.setCell (S := fun k => k = db) (Grown.refl _ _) (a := ⟨db, 0, none⟩) rfl _
  obtain ⟨hp, hj, hd, hm, hJ⟩ := h
  obtain ⟨v0, v1, q0, q1, hb, hr0, hr1, hq0, hq1, hun⟩ := hJ.disk
  have hD : DW (w.setCell ⟨db, 0, none⟩ (.int .i64 pw)) db (fun g => B ≤ g ∧ g ≠ jb ∧ g ≠ db ∧ g ≠ mb) ⟨pw, s.d.f0, s.d.f1⟩ :=
    ⟨v0, v1, q0, q1, hb.set 0 _, hr0.grown hg (fun g hq => (hq0 g hq).1.2.2.1), hr1.grown hg (fun g hq => (hq1 g hq).2.2.1), hq0, hq1, fun g hq => ⟨Nat.lt_of_lt_of_le (hun g hq).1 hg.size, (hun g hq).2.keep (hg.block g (hun g hq).1 (by rcases hq with hq | hq; exact (hq0 g hq).1.2.2.1; exact (hq1 g hq).2.2.1))⟩⟩
  exact ⟨⟨hp, hj, hd, hm, hJ.turn hg hD ⟨h0, h1, hJ.ok.d.f0, hJ.ok.d.f1⟩ (fun g hg => hg) hJ.away⟩, hg.mono (fun k _ e => Or.inr (Or.inl e))⟩
theorem Chgs.act {B : Nat} {w w' : World} {db jb mb : Nat} {v : Value} {cs : List Chg} (h : ChgsP w (fun g => g ≠ jb ∧ g ≠ db ∧ g ≠ mb) v cs) (hg : Grown (Sj db jb mb) w w') (_ : 0 < B) : ChgsP w' (fun g => g ≠ jb ∧ g ≠ db ∧ g ≠ mb) v cs :=
  h.grown hg (fun g hq e => by unfold Sj at e; omega)
theorem Chgs.below {w w' : World} {q : Nat → Prop} {v : Value} {cs : List Chg} (h : ChgsP w q v cs) (hb : Below w.heap.size w w') : ChgsP w' q v cs := h.grown (Grown.of_below hb (S := fun _ => False)) (fun _ _ h => h)
theorem jCommit_down {s : JS} (h : s.down = true) (cs : List Chg) : jCommit cs s = (s, 360) := by unfold jCommit; rw [if_pos h]
theorem jCompact_down {s : JS} (h : s.down = true) : jCompactOp s = (s, 360) := by unfold jCompactOp; rw [if_pos h]
theorem ents_down {s : JS} (h : s.down = true) : s.ents = [] := by unfold JS.ents; rw [if_pos h]
/-! ### the entry that Torn sets at last -/
def otherK : List UInt8 := [111, 116, 104, 101, 114]
theorem other_set {s : JS} {P : PEnts} {g : Nat} (h : FS s P g) (hg : g + 2 < 4611686018427387904) :
    (jCommit [⟨otherK, [], false⟩] s).2 = 0 ∧ ((keysOf (jCommit [⟨otherK, [], false⟩] s).1.ents).filter (isPref otherK)).length = 1 := by
  obtain ⟨l, pw, e, ge, f⟩ := h
  have hv : Valid [⟨otherK, [], false⟩] := one_valid (by decide) (by decide) (by decide) (fun h => by cases h)
  have hw := pChgs_wt s.c.ents [⟨otherK, [], false⟩] (ord_nodup (by rw [e]; exact f.ord)) (by simp)
  have hno : otherK ∉ keysOf P := by
    intro hm
    obtain ⟨x, hx, hk⟩ := List.mem_map.1 hm
    obtain ⟨n, hn⟩ := f.key x hx
    rw [hn] at hk
    have := congrArg List.length hk
    cases this
  have hput : pChgs s.c.ents [⟨otherK, [], false⟩] = pIns (otherK, []) P := by
    rw [e]
    show pPut P (otherK, []) = _
    unfold pPut
    rw [pDel_not P otherK hno]
  have hm : May s [⟨otherK, [], false⟩] := by
    refine ⟨by simp, by simp, hv, (fun c hc hd => by obtain rfl := List.mem_singleton.1 hc; cases hd), ?_⟩
    rw [l.ok.wt, ← hw.2, hput, pWt_perm (pIns_perm _ _), pWt_cons]
    have := f.wt
    have h3 : eWt (otherK, []) = 8 := rfl
    omega
  have hc := (commit_may l hm (by omega)).2 pw
  obtain ⟨_, l2, e2, g2⟩ := (commit_live (cs := [⟨otherK, [], false⟩]) l).2.1 hc.1
  refine ⟨hc.1, ?_⟩
  rw [ents_up l2, e2, hput]
  have hp : (keysOf (pIns (otherK, []) P)).Perm (otherK :: keysOf P) := keys_perm (pIns_perm _ _)
  rw [(hp.filter (isPref otherK)).length_eq, List.filter_cons, if_pos (by decide), List.length_cons]
  have hz : (keysOf P).filter (isPref otherK) = [] := by
    rw [List.filter_eq_nil_iff]
    intro k hk
    obtain ⟨x, hx, rfl⟩ := List.mem_map.1 hk
    obtain ⟨n, hn⟩ := f.key x hx
    rw [hn]
    unfold isPref
    rw [decide_eq_false (by rw [nameP_length]; decide)]
    simp
  rw [hz]; rfl
theorem has_y {B : Nat} {w : World} {db jb mb : Nat} {s : JS} (v : Value) (P : PEnts) (h : JX B w db jb mb s) (hv : RdT w v P) (hf : Few P) (b : Bool) (hb : decide (s.ents = P) = b) :
    Calls Tryd.prog 12 #[.pointer (some ⟨jb, 0, none⟩), v] w fun e w' => e = .returned (.bool b) ∧ Below w.heap.size w w' := by
  rw [← hb]; exact has_c v P h.jl hv.rd (by have := hf.len; omega) hf.small
theorem step_cells {w : World} {g : Nat} {st : StepP} (h : Blk w g 36 (stepC st)) : w.cell? ⟨g, 0, none⟩ = some (.int .u8 st.kind) ∧ w.cell? ⟨g, 1, none⟩ = some (.int .u8 st.n) ∧ w.cell? ⟨g, 2, none⟩ = some (.int .u8 st.a) ∧ w.cell? ⟨g, 3, none⟩ = some (.int .u8 st.b) ∧ w.cell? ⟨g, 4, none⟩ = some (.int .u16 st.power) :=
  ⟨h.cell 0 (by show 0 < 5; omega), h.cell 1 (by show 1 < 5; omega), h.cell 2 (by show 2 < 5; omega), h.cell 3 (by show 3 < 5; omega), h.cell 4 (by show 4 < 5; omega)⟩
end
end Go.Proofs.YtondomklkapogaaDoor
