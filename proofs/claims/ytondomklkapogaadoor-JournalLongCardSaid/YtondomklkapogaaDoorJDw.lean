/- A disk in memory; cut and write over it. -/
import Derived.Test.YtondomklkapogaaDoorJWrite
import Derived.Test.YtondomklkapogaaDoorJOpsL
namespace Go.Proofs.YtondomklkapogaaDoor
open Go.RowKit SeedP Go.Maps
/-- block db is a disk: its files lie apart, where p holds -/
def DW (w : World) (db : Nat) (p : Nat → Prop) (d : DS) : Prop :=
  ∃ v0 v1 q0 q1, Blk w db 29 [.int .i64 d.pw, v0, v1] ∧ RdP w q0 v0 d.f0 ∧ RdP w q1 v1 d.f1 ∧ (∀ g, q0 g → p g ∧ ¬ q1 g) ∧ (∀ g, q1 g → p g)
theorem DW.mono {w : World} {db : Nat} {p p' : Nat → Prop} {d : DS} (h : DW w db p d) (hp : ∀ g, p g → p' g) : DW w db p' d := by
  obtain ⟨v0, v1, q0, q1, h1, h2, h3, h4, h5⟩ := h
  exact ⟨v0, v1, q0, q1, h1, h2, h3, fun g hg => ⟨hp g (h4 g hg).1, (h4 g hg).2⟩, fun g hg => hp g (h5 g hg)⟩
theorem DW.grown {w w' : World} {db : Nat} {p S : Nat → Prop} {d : DS} (h : DW w db p d) (hg : Grown S w w') (hd : ¬ S db) (hp : ∀ g, p g → ¬ S g) : DW w' db p d := by
  obtain ⟨v0, v1, q0, q1, h1, h2, h3, h4, h5⟩ := h
  exact ⟨v0, v1, q0, q1, h1.grown hg hd, h2.grown hg (fun g hq => hp g (h4 g hq).1), h3.grown hg (fun g hq => hp g (h5 g hq)), h4, h5⟩
theorem DW.lt {w : World} {db : Nat} {p : Nat → Prop} {d : DS} (h : DW w db p d) : db < w.heap.size := by
  obtain ⟨v0, v1, q0, q1, h1, _⟩ := h; exact h1.lt
/-- a file is put: its bytes are new, or where the old ones were -/
theorem DW.put {w w' : World} {db : Nat} {p q0 q1 : Nat → Prop} {pw' : Int} {v0 v1 v' : Value} {f0 f1 l : List UInt8} {f : Bool}
    (h2 : RdP w q0 v0 f0) (h3 : RdP w q1 v1 f1) (h4 : ∀ g, q0 g → p g ∧ ¬ q1 g) (h5 : ∀ g, q1 g → p g) (hpd : ∀ g, p g → g ≠ db)
    (hr : RdP w' (fun g => (if f then q1 g else q0 g) ∨ w.heap.size ≤ g) v' l) (hg : Grown (fun k => k = db) w w') (hb : Blk w' db 29 [.int .i64 pw', if f then v0 else v', if f then v' else v1]) :
    DW w' db (fun g => p g ∨ w.heap.size ≤ g) ((DS.mk pw' f0 f1).put f l) := by
  cases f with
  | false =>
    simp only [Bool.false_eq_true, if_false] at hr hb
    have h3' : RdP w (fun g => q1 g ∧ g < w.heap.size) v1 f1 := h3.mono (fun g hl hq => ⟨hq, hl⟩)
    refine ⟨v', v1, _, _, hb, hr, h3'.grown hg (fun g hq e => hpd g (h5 g hq.1) e), ?_, fun g hq => Or.inl (h5 g hq.1)⟩
    intro g hq
    rcases hq with hq | hq
    · exact ⟨Or.inl (h4 g hq).1, fun h => (h4 g hq).2 h.1⟩
    · exact ⟨Or.inr hq, fun h => by have := h.2; omega⟩
  | true =>
    simp only [if_true] at hr hb
    have h2' : RdP w (fun g => q0 g ∧ g < w.heap.size) v0 f0 := h2.mono (fun g hl hq => ⟨hq, hl⟩)
    refine ⟨v0, v', _, _, hb, h2'.grown hg (fun g hq e => hpd g (h4 g hq.1).1 e), hr, ?_, ?_⟩
    · intro g hq
      refine ⟨Or.inl (h4 g hq.1).1, fun h => ?_⟩
      rcases h with h | h
      · exact (h4 g hq.1).2 h
      · have := hq.2; omega
    · intro g hq
      rcases hq with hq | hq
      · exact Or.inl (h5 g hq)
      · exact Or.inr hq
theorem cut_dw (jb db : Nat) (f : Bool) (n : Nat) (d : DS) (p : Nat → Prop) (w : World) (hj : w.cell? ⟨jb, 0, none⟩ = some (.pointer (some ⟨db, 0, none⟩))) (hD : DW w db p d) (hd : d.Ok) (hn : n ≤ (d.get f).length) (hp : ∀ g, p g → g ≠ db) :
    Calls Tryd.prog 34 #[.pointer (some ⟨jb, 0, none⟩), .int .i64 (if f then 1 else 0), .int .i64 n] w fun e w' => e = (if (dCut f n d).2 then .returned (.tuple #[]) else noPower) ∧ DW w' db (fun g => p g ∨ w.heap.size ≤ g) (dCut f n d).1 ∧ Grown (fun k => k = db) w w' := by
  have hD' := hD
  obtain ⟨v0, v1, q0, q1, h1, h2, h3, h4, h5⟩ := hD
  have hl : RdP w (fun g => if f then q1 g else q0 g) (if f then v1 else v0) (d.get f) := by
    cases f
    · simpa [DS.get] using h2
    · simpa [DS.get] using h3
  have hfl := hd.get f
  have hpd : ∀ g, (if f then q1 g else q0 g) → g ≠ db := by
    intro g hq
    cases f
    · exact hp g (h4 g (by simpa using hq)).1
    · exact hp g (h5 g (by simpa using hq))
  by_cases e1 : (d.get f).length = n
  · have hc : dCut f n d = (d, true) := by unfold dCut; rw [if_pos e1]
    rw [hc]
    subst e1
    refine (cut_same jb db d.pw f v0 v1 (d.get f) _ w hj h1 hl).mono ?_
    rintro e w' ⟨rfl, rfl⟩
    exact ⟨rfl, hD'.mono (fun g hg => Or.inl hg), Grown.refl _ _⟩
  · by_cases e2 : d.pw = 0
    · have hc : dCut f n d = (d, false) := by unfold dCut; rw [if_neg e1, if_pos e2]
      rw [hc]
      refine (cut_fail jb db f v0 v1 (d.get f) n _ w hj (by rw [← e2]; exact h1) hl (by omega)).mono ?_
      rintro e w' ⟨rfl, rfl⟩
      exact ⟨rfl, hD'.mono (fun g hg => Or.inl hg), Grown.refl _ _⟩
    · have hc : dCut f n d = ((DS.mk (if 0 < d.pw then d.pw - 1 else d.pw) d.f0 d.f1).put f ((d.get f).take n), true) := by unfold dCut; rw [if_neg e1, if_neg e2]
      rw [hc]
      refine (cut_done jb db d.pw f v0 v1 (d.get f) n _ w hj h1 hl (by omega) e2 hd.pw0 hd.pw1 hpd (by omega)).mono ?_
      rintro e w' ⟨rfl, v', hy, hg, hb⟩
      refine ⟨rfl, ?_, hg⟩
      have hr : RdP w' (fun g => (if f then q1 g else q0 g) ∨ w.heap.size ≤ g) v' ((d.get f).take n) := RdP.own hy (fun g hg _ => Or.inr hg)
      exact DW.put h2 h3 h4 h5 hp hr hg hb
theorem write_dw (jb db : Nat) (f : Bool) (vb : Value) (b : List UInt8) (d : DS) (p q : Nat → Prop) (w : World) (hj : w.cell? ⟨jb, 0, none⟩ = some (.pointer (some ⟨db, 0, none⟩))) (hD : DW w db p d) (hd : d.Ok) (hb : RdP w q vb b) (hbl : b.length ≤ 1073741824) (hp : ∀ g, p g → g ≠ db) (hq : ∀ g, q g → g ≠ db) :
    Calls Tryd.prog 36 #[.pointer (some ⟨jb, 0, none⟩), .int .i64 (if f then 1 else 0), vb] w fun e w' => e = (if (dWrite f b d).2 then .returned (.tuple #[]) else noPower) ∧ DW w' db (fun g => p g ∨ w.heap.size ≤ g) (dWrite f b d).1 ∧ Grown (fun k => k = db) w w' := by
  obtain ⟨v0, v1, q0, q1, h1, h2, h3, h4, h5⟩ := hD
  have hl : RdP w (fun g => if f then q1 g else q0 g) (if f then v1 else v0) (d.get f) := by
    cases f
    · simpa [DS.get] using h2
    · simpa [DS.get] using h3
  have hfl := hd.get f
  have hpd : ∀ g, (if f then q1 g else q0 g) → g ≠ db := by
    intro g hq
    cases f
    · exact hp g (h4 g (by simpa using hq)).1
    · exact hp g (h5 g (by simpa using hq))
  by_cases e1 : d.pw < 0
  · have hc : dWrite f b d = (d.put f (d.get f ++ b), true) := by unfold dWrite; rw [if_pos e1]
    rw [hc]
    refine (write_full jb db d.pw f v0 v1 vb (d.get f) b _ q w hj h1 hl hb e1 hpd (by omega) hbl).mono ?_
    rintro e w' ⟨rfl, v', hr, hg, hbk⟩
    exact ⟨rfl, DW.put h2 h3 h4 h5 hp hr hg hbk, hg⟩
  · by_cases e2 : (b.length : Int) ≤ d.pw
    · have hc : dWrite f b d = ((DS.mk (d.pw - b.length) d.f0 d.f1).put f (d.get f ++ b), true) := by unfold dWrite; rw [if_neg e1, if_pos e2]
      rw [hc]
      refine (write_fits jb db d.pw f v0 v1 vb (d.get f) b _ q w hj h1 hl hb e2 hd.pw1 hpd hq (by omega) hbl).mono ?_
      rintro e w' ⟨rfl, v', hr, hg, hbk⟩
      exact ⟨rfl, DW.put h2 h3 h4 h5 hp hr hg hbk, hg⟩
    · have hc : dWrite f b d = ((DS.mk 0 d.f0 d.f1).put f (d.get f ++ b.take d.pw.toNat), false) := by unfold dWrite; rw [if_neg e1, if_neg e2]
      rw [hc]
      have hk : d.pw = (d.pw.toNat : Int) := by omega
      refine (write_short jb db d.pw.toNat f v0 v1 vb (d.get f) b _ q w hj (by rw [← hk]; exact h1) hl hb (by omega) hpd hq (by omega) hbl).mono ?_
      rintro e w' ⟨rfl, v', hr, hg, hbk⟩
      exact ⟨rfl, DW.put h2 h3 h4 h5 hp hr hg hbk, hg⟩
end Go.Proofs.YtondomklkapogaaDoor
