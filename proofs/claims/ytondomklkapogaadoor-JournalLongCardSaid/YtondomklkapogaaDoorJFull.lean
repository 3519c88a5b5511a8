/- Plain laws and frames: a journal with power that does not fail. -/
import Derived.Test.YtondomklkapogaaDoorJLibX
namespace Go.Proofs.YtondomklkapogaaDoor
open Go.RowKit SeedP Go.Maps
structure FS (s : JS) (P : PEnts) (g : Nat) : Prop where
  live : Live s
  pw : s.d.pw = -1
  ents : s.c.ents = P
  gen : s.c.gen ≤ g
  few : Few P
theorem FS.start : FS (jOpen ⟨-1, [], []⟩) [] 0 := by
  have h := KS.start (pw := -1) (by decide) (by decide)
  obtain ⟨h1, h2, h3⟩ := h.up rfl
  exact ⟨h1, rfl, h2, h3, Few.nil⟩
theorem FS.ents' {s : JS} {P : PEnts} {g : Nat} (h : FS s P g) : s.ents = P := by rw [ents_up h.live, h.ents]
theorem FS.commit {s : JS} {P : PEnts} {g : Nat} (h : FS s P g) (hg : g + 2 < 4611686018427387904) (st : StepP) : (jCommit (chAll st P) s).2 = 0 ∧ FS (jCommit (chAll st P) s).1 (pChgs P (chAll st P)) (g + 2) := by
  obtain ⟨l, pw, e, ge, f⟩ := h
  subst e
  have hm := may_step l rfl f st
  have hc := (commit_may l hm (by omega)).2 pw
  obtain ⟨_, l2, e2, g2⟩ := (commit_live (cs := chAll st s.c.ents) l).2.1 hc.1
  exact ⟨hc.1, l2, hc.2, e2, by omega, f.all st⟩
theorem FS.compact {s : JS} {P : PEnts} {g : Nat} (h : FS s P g) (hg : g + 2 < 4611686018427387904) : (jCompactOp s).2 = 0 ∧ FS (jCompactOp s).1 P (g + 2) := by
  obtain ⟨l, pw, e, ge, f⟩ := h
  obtain ⟨_, h1, h2⟩ := compactOp_live l (by omega)
  have hp := h2 pw
  rcases h1 with ⟨_, _, _, l2, e2, g2⟩ | ⟨e2, _⟩
  · exact ⟨hp.1, l2, hp.2, by rw [e2, e], by omega, f⟩
  · rw [hp.1] at e2; cases e2
/-- the power is set -/
theorem JX.power {B : Nat} {w : World} {db jb mb : Nat} {s : JS} (h : JX B w db jb mb s) {pw : Int} (h0 : -1 ≤ pw) (h1 : pw ≤ 9223372036854775807) :
    JX B (w.setCell ⟨db, 0, none⟩ (.int .i64 pw)) db jb mb ⟨⟨pw, s.d.f0, s.d.f1⟩, s.down, s.file, s.c⟩ ∧ Grown (Sj db jb mb) w (w.setCell ⟨db, 0, none⟩ (.int .i64 pw)) := by
  have hg : Grown (fun k => k = db) w (w.setCell ⟨db, 0, none⟩ (.int .i64 pw)) := Grown.setCell (S := fun k => k = db) (Grown.refl _ _) (a := ⟨db, 0, none⟩) rfl _
  obtain ⟨hp, hj, hd, hm, hJ⟩ := h
  obtain ⟨v0, v1, q0, q1, hb, hr0, hr1, hq0, hq1⟩ := hJ.disk
  have hD : DW (w.setCell ⟨db, 0, none⟩ (.int .i64 pw)) db (fun g => B ≤ g ∧ g ≠ jb ∧ g ≠ db ∧ g ≠ mb) ⟨pw, s.d.f0, s.d.f1⟩ :=
    ⟨v0, v1, q0, q1, hb.set 0 _, hr0.grown hg (fun g hq => (hq0 g hq).1.2.2.1), hr1.grown hg (fun g hq => (hq1 g hq).2.2.1), hq0, hq1⟩
  exact ⟨⟨hp, hj, hd, hm, hJ.turn hg hD ⟨h0, h1, hJ.ok.d.f0, hJ.ok.d.f1⟩ (fun g hg => hg) hJ.away⟩, hg.mono (fun k _ e => Or.inr (Or.inl e))⟩
theorem Chgs.act {B : Nat} {w w' : World} {db jb mb : Nat} {v : Value} {cs : List Chg} (h : ChgsP w (fun g => g ≠ jb ∧ g ≠ db ∧ g ≠ mb) v cs) (hg : Grown (Sj db jb mb) w w') (_ : 0 < B) : ChgsP w' (fun g => g ≠ jb ∧ g ≠ db ∧ g ≠ mb) v cs :=
  h.grown hg (fun g hq e => by unfold Sj at e; omega)
theorem Chgs.below {w w' : World} {q : Nat → Prop} {v : Value} {cs : List Chg} (h : ChgsP w q v cs) (hb : Below w.heap.size w w') : ChgsP w' q v cs := h.grown (Grown.of_below hb (S := fun _ => False)) (fun _ _ h => h)
theorem jCommit_down {s : JS} (h : s.down = true) (cs : List Chg) : jCommit cs s = (s, 360) := by unfold jCommit; rw [if_pos h]
theorem jCompact_down {s : JS} (h : s.down = true) : jCompactOp s = (s, 360) := by unfold jCompactOp; rw [if_pos h]
theorem ents_down {s : JS} (h : s.down = true) : s.ents = [] := by unfold JS.ents; rw [if_pos h]
/-! ### the entry that Torn sets at last -/
def otherK : List UInt8 := [111, 116, 104, 101, 114]
theorem other_set {s : JS} {P : PEnts} {g : Nat} (h : FS s P g) (hg : g + 2 < 4611686018427387904) :
    (jCommit [⟨otherK, [], false⟩] s).2 = 0 ∧ ((keysOf (jCommit [⟨otherK, [], false⟩] s).1.ents).filter (isPref otherK)).length = 1 := by
  obtain ⟨l, pw, e, ge, f⟩ := h
  have hv : Valid [⟨otherK, [], false⟩] := one_valid (by decide) (by decide) (by decide) (fun h => by cases h)
  have hw := pChgs_wt s.c.ents [⟨otherK, [], false⟩] (ord_nodup (by rw [e]; exact f.ord)) (by simp)
  have hno : otherK ∉ keysOf P := by
    intro hm
    obtain ⟨x, hx, hk⟩ := List.mem_map.1 hm
    obtain ⟨n, hn⟩ := f.key x hx
    rw [hn] at hk
    have := congrArg List.length hk
    cases this
  have hput : pChgs s.c.ents [⟨otherK, [], false⟩] = pIns (otherK, []) P := by
    rw [e]
    show pPut P (otherK, []) = _
    unfold pPut
    rw [pDel_not P otherK hno]
  have hm : May s [⟨otherK, [], false⟩] := by
    refine ⟨by simp, by simp, hv, (fun c hc hd => by obtain rfl := List.mem_singleton.1 hc; cases hd), ?_⟩
    rw [l.ok.wt, ← hw.2, hput, pWt_perm (pIns_perm _ _), pWt_cons]
    have := f.wt
    have h3 : eWt (otherK, []) = 8 := rfl
    omega
  have hc := (commit_may l hm (by omega)).2 pw
  obtain ⟨_, l2, e2, g2⟩ := (commit_live (cs := [⟨otherK, [], false⟩]) l).2.1 hc.1
  refine ⟨hc.1, ?_⟩
  rw [ents_up l2, e2, hput]
  have hp : (keysOf (pIns (otherK, []) P)).Perm (otherK :: keysOf P) := keys_perm (pIns_perm _ _)
  rw [(hp.filter (isPref otherK)).length_eq, List.filter_cons, if_pos (by decide), List.length_cons]
  have hz : (keysOf P).filter (isPref otherK) = [] := by
    rw [List.filter_eq_nil_iff]
    intro k hk
    obtain ⟨x, hx, rfl⟩ := List.mem_map.1 hk
    obtain ⟨n, hn⟩ := f.key x hx
    rw [hn]
    unfold isPref
    rw [decide_eq_false (by rw [nameP_length]; decide)]
    simp
  rw [hz]; rfl
end Go.Proofs.YtondomklkapogaaDoor
