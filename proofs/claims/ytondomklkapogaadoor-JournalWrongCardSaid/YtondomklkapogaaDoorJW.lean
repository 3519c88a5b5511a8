/- A journal and its disk in memory; the walk of compact. -/
import Derived.Test.YtondomklkapogaaDoorJDisk
import Derived.Test.YtondomklkapogaaDoorJStCode
import Derived.Test.YtondomklkapogaaDoorJOps
namespace Go.Proofs.YtondomklkapogaaDoor
open Go.RowKit SeedP Go.Maps
/-- block jb is a journal over the disk db, its entries in the map mb; all other memory of it lies where p holds -/
structure JW (w : World) (jb db mb : Nat) (p : Nat → Prop) (s : JS) : Prop where
  st : St w
  blk : Blk w jb 72 [.pointer (some ⟨db, 0, none⟩), .bool s.down, .int .i64 (if s.file then 1 else 0), .int .i64 s.c.gen, .map (some mb), .int .i64 s.c.wt, .int .u64 s.c.sum, .int .i64 s.c.ed]
  disk : DW w db p s.d
  map : ∃ L, MapAt w mb p L ∧ EB L = s.c.ents
  away : ∀ g, p g → g ≠ jb ∧ g ≠ db ∧ g ≠ mb ∧ g ≠ 0
  ok : s.Ok
  ord : Ordered s.c.ents
  small : SmallEnts s.c.ents
theorem JW.jd {w : World} {jb db mb : Nat} {p : Nat → Prop} {s : JS} (h : JW w jb db mb p s) : jb ≠ db := by
  intro e
  obtain ⟨v0, v1, q0, q1, h1, _⟩ := h.disk
  have h2 := h.blk
  rw [e] at h2
  unfold Blk at h1 h2
  rw [h1] at h2
  simp only [Option.some.injEq, Obj.cells.injEq] at h2
  exact absurd h2.2.1 (by decide)
theorem Blk.not_map {w : World} {g : Nat} {t : TypeId} {cs : List Value} (h : Blk w g t cs) {mb : Nat} {p : Nat → Prop} {L : List Ent} (hm : MapAt w mb p L) : g ≠ mb := by
  intro e
  obtain ⟨es, clock, hb, _⟩ := hm.own
  unfold Blk at h
  rw [← e, h] at hb
  cases hb
theorem JW.jm {w : World} {jb db mb : Nat} {p : Nat → Prop} {s : JS} (h : JW w jb db mb p s) : jb ≠ mb := by
  obtain ⟨L, hM, _⟩ := h.map
  exact h.blk.not_map hM
theorem JW.dm {w : World} {jb db mb : Nat} {p : Nat → Prop} {s : JS} (h : JW w jb db mb p s) : db ≠ mb := by
  obtain ⟨L, hM, _⟩ := h.map
  obtain ⟨v0, v1, q0, q1, h1, _⟩ := h.disk
  exact h1.not_map hM
theorem St.not {w : World} (h : St w) {g : Nat} {t : TypeId} {x : Value} {cs : List Value} (hb : Blk w g t (x :: cs)) (hx : ∀ n, x ≠ .int .u64 n) : g ≠ 0 := by
  intro e
  subst e
  have h1 := hb.cell 0 (by simp)
  rw [h.c0] at h1
  simp only [List.getD_cons_zero, Option.some.injEq] at h1
  exact hx _ h1.symm
theorem JW.zero {w : World} {jb db mb : Nat} {p : Nat → Prop} {s : JS} (h : JW w jb db mb p s) : jb ≠ 0 ∧ db ≠ 0 ∧ mb ≠ 0 := by
  obtain ⟨L, hM, _⟩ := h.map
  obtain ⟨v0, v1, q0, q1, h1, _⟩ := h.disk
  refine ⟨h.st.not h.blk (fun n e => by cases e), h.st.not h1 (fun n e => by cases e), fun e => ?_⟩
  obtain ⟨es, clock, hb, _⟩ := hM.own
  have h0 := h.st.c0
  rw [e] at hb
  simp [World.cell?, hb] at h0
theorem JW.lt {w : World} {jb db mb : Nat} {p : Nat → Prop} {s : JS} (h : JW w jb db mb p s) : jb < w.heap.size ∧ db < w.heap.size ∧ mb < w.heap.size := by
  obtain ⟨L, hM, _⟩ := h.map
  exact ⟨h.blk.lt, h.disk.lt, hM.lt⟩
theorem JW.mono {w : World} {jb db mb : Nat} {p p' : Nat → Prop} {s : JS} (h : JW w jb db mb p s) (hp : ∀ g, p g → p' g) (ha : ∀ g, p' g → g ≠ jb ∧ g ≠ db ∧ g ≠ mb ∧ g ≠ 0) : JW w jb db mb p' s := by
  obtain ⟨L, hM, hE⟩ := h.map
  exact ⟨h.st, h.blk, h.disk.mono hp, ⟨L, hM.mono' hp, hE⟩, ha, h.ok, h.ord, h.small⟩
theorem JW.fresh {w : World} {jb db mb : Nat} {p : Nat → Prop} {s : JS} (h : JW w jb db mb p s) {B : Nat} (hB : w.heap.size ≤ B) : ∀ g, (p g ∨ B ≤ g) → g ≠ jb ∧ g ≠ db ∧ g ≠ mb ∧ g ≠ 0 := by
  have h1 := h.lt
  have h2 := h.st.pos
  intro g hg
  rcases hg with hg | hg
  · exact h.away g hg
  · omega
/-- what the journal has not is turned -/
theorem JW.grown {w w' : World} {jb db mb : Nat} {p S : Nat → Prop} {s : JS} (h : JW w jb db mb p s) (hg : Grown S w w') (h0 : ¬ S 0) (hj : ¬ S jb) (hd : ¬ S db) (hm : ¬ S mb) (hp : ∀ g, p g → ¬ S g) : JW w' jb db mb p s := by
  obtain ⟨L, hM, hE⟩ := h.map
  exact ⟨h.st.block (hg.block 0 h.st.pos h0), h.blk.grown hg hj, h.disk.grown hg hd hp, ⟨L, hM.grown hg hm hp, hE⟩, h.away, h.ok, h.ord, h.small⟩
theorem JW.below {w w' : World} {jb db mb : Nat} {p : Nat → Prop} {s : JS} (h : JW w jb db mb p s) (hb : Below w.heap.size w w') : JW w' jb db mb p s :=
  h.grown (Grown.of_below hb (S := fun _ => False)) (fun h => h) (fun h => h) (fun h => h) (fun h => h) (fun _ _ h => h)
theorem JW.drew {w : World} {jb db mb : Nat} {p : Nat → Prop} {s : JS} (h : JW w jb db mb p s) : JW w.drew jb db mb p s := h.below ⟨rfl, rfl, rfl, Nat.le_refl _, fun _ _ => rfl⟩
theorem JW.drewN {w : World} {jb db mb : Nat} {p : Nat → Prop} {s : JS} (h : JW w jb db mb p s) (n : Nat) : JW (w.drewN n) jb db mb p s := h.below ⟨rfl, rfl, rfl, Nat.le_refl _, fun _ _ => rfl⟩
/-- the disk has turned -/
theorem JW.turn {w w' : World} {jb db mb : Nat} {p p' : Nat → Prop} {s : JS} {d : DS} (h : JW w jb db mb p s) (hg : Grown (fun k => k = db) w w') (hd : DW w' db p' d) (ho : d.Ok) (hp : ∀ g, p g → p' g) (ha : ∀ g, p' g → g ≠ jb ∧ g ≠ db ∧ g ≠ mb ∧ g ≠ 0) : JW w' jb db mb p' ⟨d, s.down, s.file, s.c⟩ := by
  obtain ⟨L, hM, hE⟩ := h.map
  have hz := h.zero
  exact ⟨h.st.block (hg.block 0 h.st.pos (fun e => hz.2.1 e.symm)), h.blk.grown hg (fun e => h.jd e), hd, ⟨L, (hM.grown hg (fun e => h.dm e.symm) (fun g hg e => (h.away g hg).2.1 e)).mono' hp, hE⟩, ha, h.ok.setD ho, h.ord, h.small⟩
theorem JW.cells {w : World} {jb db mb : Nat} {p : Nat → Prop} {s : JS} (h : JW w jb db mb p s) :
    w.cell? ⟨jb, 0, none⟩ = some (.pointer (some ⟨db, 0, none⟩)) ∧ w.cell? ⟨jb, 1, none⟩ = some (.bool s.down) ∧ w.cell? ⟨jb, 2, none⟩ = some (.int .i64 (if s.file then 1 else 0)) ∧ w.cell? ⟨jb, 3, none⟩ = some (.int .i64 s.c.gen) ∧
    w.cell? ⟨jb, 4, none⟩ = some (.map (some mb)) ∧ w.cell? ⟨jb, 5, none⟩ = some (.int .i64 s.c.wt) ∧ w.cell? ⟨jb, 6, none⟩ = some (.int .u64 s.c.sum) ∧ w.cell? ⟨jb, 7, none⟩ = some (.int .i64 s.c.ed) := by
  have hb := h.blk
  exact ⟨hb.cell 0 (by simp), hb.cell 1 (by simp), hb.cell 2 (by simp), hb.cell 3 (by simp), hb.cell 4 (by simp), hb.cell 5 (by simp), hb.cell 6 (by simp), hb.cell 7 (by simp)⟩
theorem JW.frozen {w : World} {jb db mb : Nat} {p : Nat → Prop} {s : JS} (h : JW w jb db mb p s) (o : Nat) : w.frozen? ⟨jb, o, none⟩ = false := h.blk.frozen o
theorem JW.cut_c {w : World} {jb db mb : Nat} {p : Nat → Prop} {s : JS} (h : JW w jb db mb p s) (f : Bool) (n : Nat) (hn : n ≤ (s.d.get f).length) :
    Calls Tryd.prog 34 #[.pointer (some ⟨jb, 0, none⟩), .int .i64 (if f then 1 else 0), .int .i64 n] w fun e w' => e = (if (dCut f n s.d).2 then .returned (.tuple #[]) else noPower) ∧ JW w' jb db mb (fun g => p g ∨ w.heap.size ≤ g) ⟨(dCut f n s.d).1, s.down, s.file, s.c⟩ ∧ Grown (fun k => k = db) w w' := by
  refine (cut_dw jb db f n s.d p w h.cells.1 h.disk h.ok.d hn (fun g hg => (h.away g hg).2.1)).mono ?_
  rintro e w' ⟨he, hD, hg⟩
  exact ⟨he, h.turn hg hD (dCut_ok h.ok.d f n) (fun g hg => Or.inl hg) (h.fresh (Nat.le_refl _)), hg⟩
theorem JW.write_c {w : World} {jb db mb : Nat} {p q : Nat → Prop} {s : JS} (h : JW w jb db mb p s) (f : Bool) (vb : Value) (b : List UInt8) (hb : RdP w q vb b) (hfit : (s.d.get f).length + b.length ≤ 262144) (hq : ∀ g, q g → g ≠ db) :
    Calls Tryd.prog 36 #[.pointer (some ⟨jb, 0, none⟩), .int .i64 (if f then 1 else 0), vb] w fun e w' => e = (if (dWrite f b s.d).2 then .returned (.tuple #[]) else noPower) ∧ JW w' jb db mb (fun g => p g ∨ w.heap.size ≤ g) ⟨(dWrite f b s.d).1, s.down, s.file, s.c⟩ ∧ Grown (fun k => k = db) w w' := by
  refine (write_dw jb db f vb b s.d p q w h.cells.1 h.disk h.ok.d hb (by omega) (fun g hg => (h.away g hg).2.1) hq).mono ?_
  rintro e w' ⟨he, hD, hg⟩
  exact ⟨he, h.turn hg hD (dWrite_ok h.ok.d f hfit) (fun g hg => Or.inl hg) (h.fresh (Nat.le_refl _)), hg⟩
end Go.Proofs.YtondomklkapogaaDoor
