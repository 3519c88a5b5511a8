/- A journal and its disk in a law's world: all of it lies at or above a block B; every act, in these words. -/
import Derived.Test.YtondomklkapogaaDoorJOpen
import Derived.Test.YtondomklkapogaaDoorJKeys
import Derived.Test.YtondomklkapogaaDoorJAwakeP
namespace Go.Proofs.YtondomklkapogaaDoor
open Go.RowKit SeedP Go.Maps
/-- a disk, above block B -/
structure DL (B : Nat) (w : World) (db : Nat) (d : DS) : Prop where
  st : St w
  pos : 0 < B
  le : B ≤ db
  disk : DW w db (fun g => B ≤ g ∧ g ≠ db) d
/-- a journal over a disk, above block B -/
structure JL (B : Nat) (w : World) (db jb : Nat) (s : JS) : Prop where
  pos : 0 < B
  jle : B ≤ jb
  dle : B ≤ db
  jw : ∃ mb, B ≤ mb ∧ JW w jb db mb (fun g => B ≤ g ∧ g ≠ jb ∧ g ≠ db ∧ g ≠ mb) s
theorem JL.st {B : Nat} {w : World} {db jb : Nat} {s : JS} (h : JL B w db jb s) : St w := by obtain ⟨_, _, _, mb, _, h⟩ := h; exact h.st
theorem JL.ok {B : Nat} {w : World} {db jb : Nat} {s : JS} (h : JL B w db jb s) : s.Ok := by obtain ⟨_, _, _, mb, _, h⟩ := h; exact h.ok
theorem JL.dl {B : Nat} {w : World} {db jb : Nat} {s : JS} (h : JL B w db jb s) : DL B w db s.d := by
  obtain ⟨h0, h1, h2, mb, h3, h⟩ := h
  exact ⟨h.st, h0, h2, h.disk.mono (fun g hg => ⟨hg.1, hg.2.2.1⟩)⟩
theorem JL.below {B : Nat} {w w' : World} {db jb : Nat} {s : JS} (h : JL B w db jb s) (hb : Below w.heap.size w w') : JL B w' db jb s := by
  obtain ⟨h0, h1, h2, mb, h3, h⟩ := h
  exact ⟨h0, h1, h2, mb, h3, h.below hb⟩
theorem JL.size {B : Nat} {w : World} {db jb : Nat} {s : JS} (h : JL B w db jb s) : B < w.heap.size := by
  obtain ⟨h0, h1, h2, mb, h3, h⟩ := h
  have := h.lt; omega
theorem JL.cut {B : Nat} {w w' : World} {db jb : Nat} {s : JS} (h : JL B w db jb s) (hb : Below w.heap.size w w') : Below B w w' := hb.mono (by have := h.size; omega)
theorem DL.size {B : Nat} {w : World} {db : Nat} {d : DS} (h : DL B w db d) : B < w.heap.size := by have := h.disk.lt; have := h.le; omega
theorem DL.cut {B : Nat} {w w' : World} {db : Nat} {d : DS} (h : DL B w db d) (hb : Below w.heap.size w w') : Below B w w' := hb.mono (by have := h.size; omega)
theorem DL.below {B : Nat} {w w' : World} {db : Nat} {d : DS} (h : DL B w db d) (hb : Below w.heap.size w w') : DL B w' db d :=
  ⟨h.st.below hb h.st.pos, h.pos, h.le, h.disk.grown (Grown.of_below hb (S := fun _ => False)) (fun h => h) (fun _ _ h => h)⟩
theorem JW.toL {B : Nat} {w : World} {jb db mb : Nat} {p : Nat → Prop} {s : JS} (h : JW w jb db mb p s) (h0 : 0 < B) (h1 : B ≤ jb) (h2 : B ≤ db) (h3 : B ≤ mb) (hp : ∀ g, p g → B ≤ g) : JL B w db jb s :=
  ⟨h0, h1, h2, mb, h3, h.mono (fun g hg => ⟨hp g hg, (h.away g hg).1, (h.away g hg).2.1, (h.away g hg).2.2.1⟩) (fun g hg => ⟨hg.2.1, hg.2.2.1, hg.2.2.2, by omega⟩)⟩
theorem DL.new (w : World) (hs : St w) (pw : Int) : DL w.heap.size (w.alloc (.cells #[.int .i64 pw, .slice none 0 0, .slice none 0 0] 29)) w.heap.size ⟨pw, [], []⟩ :=
  ⟨hs.alloc _, hs.pos, Nat.le_refl _, .slice none 0 0, .slice none 0 0, fun _ => False, fun _ => False, Blk.new w _ [.int .i64 pw, .slice none 0 0, .slice none 0 0], Or.inl ⟨Or.inl rfl, rfl⟩, Or.inl ⟨Or.inl rfl, rfl⟩, (fun _ h => h.elim), (fun _ h => h.elim), (fun _ h => by rcases h with h | h <;> exact h.elim)⟩
theorem DL.lower {B B' : Nat} {w : World} {db : Nat} {d : DS} (h : DL B w db d) (hb : B' ≤ B) (h0 : 0 < B') : DL B' w db d :=
  ⟨h.st, h0, by have := h.le; omega, h.disk.mono (fun g hg => ⟨by have := hg.1; omega, hg.2⟩)⟩
/-- the power is set -/
theorem DL.power {B : Nat} {w : World} {db : Nat} {d : DS} (h : DL B w db d) (pw : Int) : DL B (w.setCell ⟨db, 0, none⟩ (.int .i64 pw)) db ⟨pw, d.f0, d.f1⟩ := by
  obtain ⟨hs, h0, h1, v0, v1, q0, q1, hb, hr0, hr1, hq0, hq1, hun⟩ := h
  have hg : Grown (fun k => k = db) w (w.setCell ⟨db, 0, none⟩ (.int .i64 pw)) := Grown.setCell (S := fun k => k = db) (Grown.refl _ _) (a := ⟨db, 0, none⟩) rfl _
  exact ⟨hs.block (hg.block 0 hs.pos (fun e => by omega)), h0, h1, v0, v1, q0, q1, hb.set 0 _, hr0.grown hg (fun g hq => (hq0 g hq).1.2), hr1.grown hg (fun g hq => (hq1 g hq).2), hq0, hq1, fun g hq => ⟨Nat.lt_of_lt_of_le (hun g hq).1 hg.size, (hun g hq).2.keep (hg.block g (hun g hq).1 (by rcases hq with hq | hq; exact (hq0 g hq).1.2; exact (hq1 g hq).2))⟩⟩
theorem DL.power_below {B : Nat} {w : World} {db : Nat} {d : DS} (h : DL B w db d) (v : Value) : Below B w (w.setCell ⟨db, 0, none⟩ v) :=
  (Grown.setCell (S := fun k => k = db) (Grown.refl _ w) (a := ⟨db, 0, none⟩) rfl v).below (fun k e => by have := h.le; omega) (by have := h.size; omega)
/-- the cells of a disk -/
theorem DL.cells {B : Nat} {w : World} {db : Nat} {d : DS} (h : DL B w db d) : ∃ a0 c0 a1 c1, w.cell? ⟨db, 0, none⟩ = some (.int .i64 d.pw) ∧ w.cell? ⟨db, 1, none⟩ = some (.slice a0 d.f0.length c0) ∧ w.cell? ⟨db, 2, none⟩ = some (.slice a1 d.f1.length c1) ∧
    RdB w w.heap.size (.slice a0 d.f0.length c0) d.f0 ∧ RdB w w.heap.size (.slice a1 d.f1.length c1) d.f1 ∧ (∀ o, w.frozen? ⟨db, o, none⟩ = false) := by
  obtain ⟨hs, h0, h1, v0, v1, q0, q1, hb, hr0, hr1, hq0, hq1⟩ := h
  have r0 := hr0.toB
  have r1 := hr1.toB
  obtain ⟨a0, c0, rfl, _, _, _⟩ := r0.open_
  obtain ⟨a1, c1, rfl, _, _, _⟩ := r1.open_
  exact ⟨a0, c0, a1, c1, hb.cell 0 (by simp), hb.cell 1 (by simp), hb.cell 2 (by simp), r0, r1, fun o => hb.frozen o⟩
/-- what is written holds no block at the law's bottom -/
theorem JL.of_grown {B : Nat} {w w' : World} {db jb mb : Nat} {s s' : JS} (h0 : 0 < B) (h1 : B ≤ jb) (h2 : B ≤ db) (h3 : B ≤ mb) (h : JW w jb db mb (fun g => B ≤ g ∧ g ≠ jb ∧ g ≠ db ∧ g ≠ mb) s) (h' : JW w' jb db mb (fun g => (B ≤ g ∧ g ≠ jb ∧ g ≠ db ∧ g ≠ mb) ∨ w.heap.size ≤ g) s') (hg : Grown (fun k => k = jb ∨ k = db ∨ k = mb) w w') : JL B w' db jb s' ∧ Below B w w' := by
  have := h.lt
  refine ⟨h'.toL h0 h1 h2 h3 (fun g hg => by rcases hg with hg | hg; exact hg.1; omega), hg.below (fun k e => by omega) (by omega)⟩
/-- bytes that an act is given lie elsewhere -/
theorem JL.out {B : Nat} {w : World} {db jb : Nat} {s : JS} (h : JL B w db jb s) {v : Value} {l : List UInt8} (hv : RdB w B v l) : ∀ mb, B ≤ mb → RdP w (fun g => g ≠ jb ∧ g ≠ db ∧ g ≠ mb) v l := fun mb hm => hv.toP (fun g hg => by have := h.jle; have := h.dle; omega)
theorem Blk.type {w : World} {g : Nat} {t t' : TypeId} {cs cs' : List Value} (h : Blk w g t cs) (h' : Blk w g t' cs') : t = t' := by
  unfold Blk at h h'
  rw [h] at h'
  simp only [Option.some.injEq, Obj.cells.injEq] at h'
  exact h'.2.1
/-- a block of another type is none of the journal's three -/
theorem JW.other {w : World} {jb db mb : Nat} {p : Nat → Prop} {s : JS} (h : JW w jb db mb p s) {g : Nat} {t : TypeId} {cs : List Value} (hb : Blk w g t cs) (h1 : t ≠ 72) (h2 : t ≠ 29) : g ≠ jb ∧ g ≠ db ∧ g ≠ mb := by
  obtain ⟨L, hM, _⟩ := h.map
  obtain ⟨v0, v1, q0, q1, hd, _⟩ := h.disk
  exact ⟨fun e => h1 (hb.type (e ▸ h.blk)), fun e => h2 (hb.type (e ▸ hd)), hb.not_map hM⟩
/-! ### the acts -/
theorem open_l {B : Nat} {w : World} {db : Nat} {d : DS} (h : DL B w db d) (hok : d.Ok) :
    Calls Tryd.prog 11 #[.pointer (some ⟨db, 0, none⟩)] w fun e w' => ∃ jb, e = .returned (.tuple #[.pointer (some ⟨jb, 0, none⟩), .int .i64 0]) ∧ JL B w' db jb (jOpen d) ∧ Below w.heap.size w w' := by
  have hz := h.size
  have h0 := h.pos
  have h1 := h.le
  refine (open_c db (fun g => B ≤ g ∧ g ≠ db) d w h.st h.disk hok (fun g hg => ⟨hg.2, by omega⟩)).mono ?_
  rintro e w' ⟨jb, mb, rfl, hj, hm, hJ, hb⟩
  exact ⟨jb, rfl, hJ.toL h0 (by omega) h1 (by omega) (fun g hg => by rcases hg with hg | hg; exact hg.1.1; omega), hb⟩
theorem commit_l {B : Nat} {w : World} {db jb : Nat} {s : JS} (h : JL B w db jb s) (v : Value) (cs : List Chg) (hc : ∀ mb, B ≤ mb → JW w jb db mb (fun g => B ≤ g ∧ g ≠ jb ∧ g ≠ db ∧ g ≠ mb) s → ChgsP w (fun g => g ≠ jb ∧ g ≠ db ∧ g ≠ mb) v cs) (hn : cs.length ≤ 1000000) (hb : ∀ c ∈ cs, c.key.length ≤ 1073741824 ∧ c.val.length ≤ 1073741824) :
    Calls Tryd.prog 15 #[.pointer (some ⟨jb, 0, none⟩), v] w fun e w' => e = .returned (.int .i64 (jCommit cs s).2) ∧ JL B w' db jb (jCommit cs s).1 ∧ Below B w w' := by
  obtain ⟨h0, h1, h2, mb, h3, hJ⟩ := h
  refine (commit_c v cs w hJ (hc mb h3 hJ) hn hb).mono ?_
  rintro e w' ⟨rfl, hJ', hg⟩
  exact ⟨rfl, JL.of_grown h0 h1 h2 h3 hJ hJ' hg⟩
theorem set_l {B : Nat} {w : World} {db jb : Nat} {s : JS} (h : JL B w db jb s) (k val : List UInt8) (v : Value) (hv : ∀ mb, B ≤ mb → JW w jb db mb (fun g => B ≤ g ∧ g ≠ jb ∧ g ≠ db ∧ g ≠ mb) s → RdP w (fun g => g ≠ jb ∧ g ≠ db ∧ g ≠ mb) v val) (hk : k.length ≤ 1073741824) (hl : val.length ≤ 1073741824) :
    Calls Tryd.prog 23 #[.pointer (some ⟨jb, 0, none⟩), strV k, v] w fun e w' => e = .returned (.int .i64 (jCommit [⟨k, val, false⟩] s).2) ∧ JL B w' db jb (jCommit [⟨k, val, false⟩] s).1 ∧ Below B w w' := by
  obtain ⟨h0, h1, h2, mb, h3, hJ⟩ := h
  refine (set_c k val v w hJ (hv mb h3 hJ) hk hl).mono ?_
  rintro e w' ⟨rfl, hJ', hg⟩
  exact ⟨rfl, JL.of_grown h0 h1 h2 h3 hJ hJ' hg⟩
theorem drop_l {B : Nat} {w : World} {db jb : Nat} {s : JS} (h : JL B w db jb s) (k : List UInt8) (hk : k.length ≤ 1073741824) :
    Calls Tryd.prog 22 #[.pointer (some ⟨jb, 0, none⟩), strV k] w fun e w' => e = .returned (.int .i64 (jCommit [⟨k, [], true⟩] s).2) ∧ JL B w' db jb (jCommit [⟨k, [], true⟩] s).1 ∧ Below B w w' := by
  obtain ⟨h0, h1, h2, mb, h3, hJ⟩ := h
  refine (drop_c k w hJ hk).mono ?_
  rintro e w' ⟨rfl, hJ', hg⟩
  exact ⟨rfl, JL.of_grown h0 h1 h2 h3 hJ hJ' hg⟩
theorem compact_l {B : Nat} {w : World} {db jb : Nat} {s : JS} (h : JL B w db jb s) :
    Calls Tryd.prog 13 #[.pointer (some ⟨jb, 0, none⟩)] w fun e w' => e = .returned (.int .i64 (jCompactOp s).2) ∧ JL B w' db jb (jCompactOp s).1 ∧ Below B w w' := by
  obtain ⟨h0, h1, h2, mb, h3, hJ⟩ := h
  refine (compactOp_c w hJ).mono ?_
  rintro e w' ⟨rfl, hJ', hg⟩
  exact ⟨rfl, JL.of_grown h0 h1 h2 h3 hJ hJ' hg⟩
theorem weight_l {B : Nat} {w : World} {db jb : Nat} {s : JS} (h : JL B w db jb s) :
    Calls Tryd.prog 20 #[.pointer (some ⟨jb, 0, none⟩)] w fun e w' => e = .returned (.int .i64 (if s.down then 0 else s.c.wt)) ∧ w = w' := by
  obtain ⟨h0, h1, h2, mb, h3, hJ⟩ := h
  exact weight_c w hJ
theorem generation_l {B : Nat} {w : World} {db jb : Nat} {s : JS} (h : JL B w db jb s) :
    Calls Tryd.prog 21 #[.pointer (some ⟨jb, 0, none⟩)] w fun e w' => e = .returned (.int .i64 (if s.down then 0 else s.c.gen)) ∧ w = w' := by
  obtain ⟨h0, h1, h2, mb, h3, hJ⟩ := h
  exact generation_c w hJ
/-- what a journal has -/
def JS.ents (s : JS) : PEnts := if s.down then [] else s.c.ents
theorem get_l {B : Nat} {w : World} {db jb : Nat} {s : JS} (h : JL B w db jb s) (k : List UInt8) (hk : k.length ≤ 140737488351232) :
    Calls Tryd.prog 17 #[.pointer (some ⟨jb, 0, none⟩), strV k] w fun e w' => (∃ a c, e = .returned (.tuple #[.slice a ((pFind s.ents k).getD []).length c, .bool (pFind s.ents k).isSome]) ∧ RdB w' w'.heap.size (.slice a ((pFind s.ents k).getD []).length c) ((pFind s.ents k).getD [])) ∧ Below w.heap.size w w' := by
  obtain ⟨h0, h1, h2, mb, h3, hJ⟩ := h
  refine (get_c k w hJ hk).mono ?_
  rintro e w' ⟨⟨v, rfl, hv⟩, hb⟩
  refine ⟨?_, hb⟩
  have e1 : (if s.down then [] else (pFind s.c.ents k).getD []) = (pFind s.ents k).getD [] := by unfold JS.ents; cases s.down <;> rfl
  have e2 : (!s.down && (pFind s.c.ents k).isSome) = (pFind s.ents k).isSome := by unfold JS.ents; cases s.down <;> simp [pFind]
  rw [e1] at hv
  rw [e2]
  have hr := RdB.of_own hv
  obtain ⟨a, c, rfl, _, _, _⟩ := hr.open_
  exact ⟨a, c, rfl, hr⟩
theorem keys_l {B : Nat} {w : World} {db jb : Nat} {s : JS} (h : JL B w db jb s) (pf : List UInt8) (hpf : pf.length ≤ 140737488351232) :
    Calls Tryd.prog 19 #[.pointer (some ⟨jb, 0, none⟩), strV pf] w fun e w' => ∃ v, e = .returned v ∧
      w'.ownsRow w.heap.size 9 1 v ((keysOf s.ents).filter (isPref pf)).length (((keysOf s.ents).filter (isPref pf)).map strV) ∧ Below w.heap.size w w' := by
  obtain ⟨h0, h1, h2, mb, h3, hJ⟩ := h
  refine (keysFn_c pf w hJ hpf).mono ?_
  rintro e w' ⟨v, rfl, hv, hb⟩
  have e1 : (if s.down then [] else (keysOf s.c.ents).filter (isPref pf)) = (keysOf s.ents).filter (isPref pf) := by unfold JS.ents; cases s.down <;> rfl
  rw [e1] at hv
  exact ⟨v, rfl, hv, hb⟩
set_option maxRecDepth 100000 in
/-- empty -/
theorem empty_c (w : World) (hs : St w) : Calls Tryd.prog 16 #[] w fun e w' => e = .returned (.pointer (some ⟨w.heap.size, 0, none⟩)) ∧ DL w.heap.size w' w.heap.size ⟨-1, [], []⟩ ∧ Below w.heap.size w w' := by
  have hd := Lib.hid (DL.new w hs (-1))
  have hb := Lib.hid ((Below.refl _ w).alloc (Nat.le_refl _) (.cells #[.int .i64 (-1), .slice none 0 0, .slice none 0 0] 29))
  clear hs
  go_enter Tryd.func16, Tryd.ntmps16
  go_wp2
  go_ret
  exact ⟨rfl, hd.out, hb.out⟩
end Go.Proofs.YtondomklkapogaaDoor
