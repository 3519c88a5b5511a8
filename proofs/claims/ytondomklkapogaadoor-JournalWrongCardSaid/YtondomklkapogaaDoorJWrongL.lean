/- JournalWrong: the table that region 22 leaves, and the commits out of it. -/
import Derived.Test.YtondomklkapogaaDoorJWrongT
import Derived.Test.YtondomklkapogaaDoorJWrongV
import Derived.Test.YtondomklkapogaaDoorJLibX
namespace Go.Proofs.YtondomklkapogaaDoor
open Go.RowKit SeedP Go.Maps
/-- one row's changes in memory -/
def WrAt (w : World) (B : Nat) (v : Value) (cs : List Chg) : Prop :=
  (∃ a n c, v = .slice a n c) ∧ ((ChgsP w (fun g => B ≤ g) v cs ∧ cs.length ≤ 1000 ∧ ∀ c ∈ cs, c.key.length ≤ 1000 ∧ c.val.length ≤ 10000) ∨
    ∃ key : List UInt8, cs = [⟨key, [], false⟩] ∧ 40 < key.length ∧ key.length ≤ 4611686018427387904 ∧ ∃ g, v = .slice (some ⟨g, 0, none⟩) 1 1 ∧ B ≤ g ∧ Blk w g 65 [strV key, .slice none 0 0, .bool false])
theorem WrAt.grown {w w' : World} {B : Nat} {v : Value} {cs : List Chg} {S : Nat → Prop} (h : WrAt w B v cs) (hg : Grown S w w') (hS : ∀ g, B ≤ g → ¬ S g) : WrAt w' B v cs := by
  obtain ⟨h1, h2⟩ := h
  refine ⟨h1, ?_⟩
  rcases h2 with ⟨hc, hb⟩ | ⟨key, e, k1, k2, g, ev, hB, hb⟩
  · exact Or.inl ⟨hc.grown hg hS, hb⟩
  · exact Or.inr ⟨key, e, k1, k2, g, ev, hB, hb.grown hg (hS g hB)⟩
/-- the law's table -/
structure WrT (w : World) (B G : Nat) (xs : List (Value × Int)) (k : List UInt8) : Prop where
  hB : B ≤ G
  blk : Blk w G 74 (xs.flatMap fun p => [p.1, .int .i64 p.2])
  len : xs.length = 9
  row : ∀ i (h : i < xs.length), ∃ q ∈ wrongs k, xs[i].2 = q.2 ∧ WrAt w B xs[i].1 q.1
theorem WrT.grown {w w' : World} {B G : Nat} {xs : List (Value × Int)} {k : List UInt8} {S : Nat → Prop} (h : WrT w B G xs k) (hg : Grown S w w') (hS : ∀ g, B ≤ g → ¬ S g) : WrT w' B G xs k :=
  ⟨h.hB, h.blk.grown hg (hS G h.hB), h.len, fun i hi => by obtain ⟨q, h1, h2, h3⟩ := h.row i hi; exact ⟨q, h1, h2, h3.grown hg hS⟩⟩
theorem WrT.below {w w' : World} {B G : Nat} {xs : List (Value × Int)} {k : List UInt8} (h : WrT w B G xs k) (hb : Below w.heap.size w w') : WrT w' B G xs k := h.grown (S := fun _ => False) (Grown.of_below hb) (fun _ _ h => h)
theorem flat_len (xs : List (Value × Int)) : (xs.flatMap fun p => [p.1, Value.int .i64 p.2]).length = xs.length * 2 := by
  induction xs with
  | nil => rfl
  | cons x xs ih => rw [List.flatMap_cons, List.length_append, ih, List.length_cons]; simp; omega
theorem flat_get : ∀ (xs : List (Value × Int)) (i : Nat) (h : i < xs.length), (xs.flatMap fun p => [p.1, Value.int .i64 p.2]).getD (i * 2) undef = xs[i].1 ∧ (xs.flatMap fun p => [p.1, Value.int .i64 p.2]).getD (i * 2 + 1) undef = .int .i64 xs[i].2
  | x :: xs, 0, _ => ⟨rfl, rfl⟩
  | x :: xs, i + 1, h => by
    have h' : i < xs.length := by simpa using h
    have ih := flat_get xs i h'
    rw [List.flatMap_cons, show (i + 1) * 2 = i * 2 + 1 + 1 by omega, show i * 2 + 1 + 1 + 1 = (i * 2 + 1) + 1 + 1 by omega]
    exact ih
theorem WrT.cells {w : World} {B G : Nat} {xs : List (Value × Int)} {k : List UInt8} (h : WrT w B G xs k) (i : Nat) (hi : i < xs.length) : w.cell? ⟨G, i * 2, none⟩ = some xs[i].1 ∧ w.cell? ⟨G, i * 2 + 1, none⟩ = some (.int .i64 xs[i].2) := by
  obtain ⟨e1, e2⟩ := flat_get xs i hi
  have hl := flat_len xs
  exact ⟨by rw [← e1]; exact h.blk.cell _ (by omega), by rw [← e2]; exact h.blk.cell _ (by omega)⟩
/-- a commit of the table -/
theorem wrong_commit {w : World} {B G db jb mb : Nat} {xs : List (Value × Int)} {k : List UInt8} {s : JS} (hX : JX db w db jb mb s) (hW : WJ s) (hT : WrT w B G xs k) (hl : jb < B ∧ db < B ∧ mb < B) (i : Nat) (hi : i < xs.length) :
    Calls Tryd.prog 15 #[.pointer (some ⟨jb, 0, none⟩), xs[i].1] w fun e w' => e = .returned (.int .i64 xs[i].2) ∧ JX db w' db jb mb s ∧ Grown (Sj db jb mb) w w' := by
  obtain ⟨q, hq, e, _, hr⟩ := hT.row i hi
  have hj := wrongs_all k hW.live.up hW.ents q hq
  rcases hr with ⟨hc, h1, h2⟩ | ⟨key, ecs, k1, k2, g, ev, hB, hb⟩
  · refine (commit_x hX xs[i].1 q.1 (hc.mono' (fun g hg => ⟨by omega, by omega, by omega⟩)) (by omega) (fun c hc => by have := h2 c hc; omega)).mono ?_
    rintro e' w' ⟨rfl, hX', hg⟩
    rw [hj] at hX' ⊢
    rw [e]
    exact ⟨rfl, hX', hg⟩
  · have hlt := hb.lt
    have hch : ChgsP w (fun g => g ≠ jb ∧ g ≠ db ∧ g ≠ mb) xs[i].1 [⟨key, [], false⟩] := by
      rw [ev]
      refine ⟨some ⟨g, 0, none⟩, 1, rfl, Nat.le_refl _, by unfold maxLen; omega, Or.inr ⟨g, 0, rfl, ⟨by omega, by omega, by omega⟩, fun j hj => ?_⟩⟩
      obtain rfl : j = 0 := by simp at hj; omega
      exact ⟨.slice none 0 0, hb.cell 0 (by simp), hb.cell 1 (by simp), hb.cell 2 (by simp), Or.inl ⟨Or.inl rfl, rfl⟩⟩
    refine (commit_longkey xs[i].1 key w hX.jw hch g 0 1 ev hlt (hb.cell 0 (by simp)) (hb.cell 1 (by simp)) (hb.cell 2 (by simp)) ⟨k1, k2⟩ hW.live.up).mono ?_
    rintro e' w' ⟨rfl, hb'⟩
    have e2 : xs[i].2 = 2 := by
      rw [e]
      have hv : validP [⟨key, [], false⟩] = 2 := valid_bad _ 0 (by simp) (by simp only [badAt, List.getElem?_cons_zero, bad1, decide_eq_true k1, Bool.or_true, Bool.true_or])
      have h3 := jc_bad (s := s) (cs := [⟨key, [], false⟩]) hW.live.up (by simp) hv
      rw [ecs, h3] at hj
      exact ((Prod.mk.injEq _ _ _ _).mp hj).2.symm
    rw [e2]
    exact ⟨rfl, hX.below hb', Grown.of_below hb'⟩
/-- what region 22 leaves is such a table -/
theorem wrT_of_rows {B : Nat} {k : List UInt8} {vs : Nat → Value} {w : World} (h : ∀ i, i < 37 → rowG (wrongT B k) i vs w) (hk : k.length ≤ 140737488351232) :
    ∃ G xs, vs 34 = .slice (some ⟨G, 0, none⟩) 9 9 ∧ vs 35 = .int .i64 9 ∧ vs 36 = .int .i64 0 ∧ WrT w B G xs k := by
  have h34 : pOut B 74 (vs 34) [vs 0, vs 2, vs 5, vs 12, vs 16, vs 20, vs 25, vs 29, vs 33] w := h 34 (by omega)
  obtain ⟨G, e34, hG, hb⟩ := h34
  have e0 : vs 0 = .agg #[nilV, .int .i64 5] := h 0 (by omega)
  have p1 : pSt 5 (vs 2) [vs 1] w := h 2 (by omega)
  have p2 : pSt 2 (vs 5) [vs 4] w := h 5 (by omega)
  have p3 : pSt 2 (vs 12) [vs 11] w := h 12 (by omega)
  have p4 : pSt 2 (vs 16) [vs 15] w := h 16 (by omega)
  have p5 : pSt 2 (vs 20) [vs 19] w := h 20 (by omega)
  have p6 : pSt 3 (vs 25) [vs 24] w := h 25 (by omega)
  have p7 : pSt 6 (vs 29) [vs 28] w := h 29 (by omega)
  have p8 : pSt 2 (vs 33) [vs 32] w := h 33 (by omega)
  obtain ⟨e1, f1⟩ := p1
  obtain ⟨e2, f2⟩ := p2
  obtain ⟨e3, f3⟩ := p3
  obtain ⟨e4, f4⟩ := p4
  obtain ⟨e5, f5⟩ := p5
  obtain ⟨e6, f6⟩ := p6
  obtain ⟨e7, f7⟩ := p7
  obtain ⟨e8, f8⟩ := p8
  rw [e0, e1, e2, e3, e4, e5, e6, e7, e8] at hb
  have c1 : ChgsP w (fun g => B ≤ g) (vs 1) (List.replicate 65 ⟨[], [], false⟩) := h 1 (by omega)
  have c2 : ChgsP w (fun g => B ≤ g) (vs 4) [⟨[], [], false⟩] := h 4 (by omega)
  have c3 : pLong B (fortyB ++ [48] ++ k) (vs 11) [vs 10] w := h 11 (by omega)
  have c4 : ChgsP w (fun g => B ≤ g) (vs 15) [⟨[98], [], false⟩, ⟨[98], [], false⟩] := h 15 (by omega)
  have c5 : ChgsP w (fun g => B ≤ g) (vs 19) [⟨[97], [1], true⟩] := h 19 (by omega)
  have c6 : ChgsP w (fun g => B ≤ g) (vs 24) [⟨[99], [], true⟩, ⟨[98], List.replicate 4097 0, false⟩] := h 24 (by omega)
  have c7 : ChgsP w (fun g => B ≤ g) (vs 28) [⟨[98], [], false⟩, ⟨[99], [], true⟩] := h 28 (by omega)
  have c8 : ChgsP w (fun g => B ≤ g) (vs 32) [⟨[98], [], true⟩, ⟨[], [], false⟩] := h 32 (by omega)
  have c0 : ChgsP w (fun g => B ≤ g) nilV [] := ⟨none, 0, rfl, Nat.le_refl _, Nat.zero_le _, Or.inl rfl⟩
  have e35 : vs 35 = .int .i64 9 := h 35 (by omega)
  have e36 : vs 36 = .int .i64 0 := h 36 (by omega)
  refine ⟨G, [(nilV, 5), (vs 1, 5), (vs 4, 2), (vs 11, 2), (vs 15, 2), (vs 19, 2), (vs 24, 3), (vs 28, 6), (vs 32, 2)], e34, e35, e36, hG, hb, rfl, fun i hi => ?_⟩
  have hi : i < 9 := hi
  match i, hi with
  | 0, _ => exact ⟨([], 5), by unfold wrongs; exact .head _, rfl, ⟨none, 0, 0, rfl⟩, Or.inl ⟨c0, by simp, by simp⟩⟩
  | 1, _ => exact ⟨(List.replicate 65 ⟨[], [], false⟩, 5), by unfold wrongs; exact .tail _ (.head _), rfl, f1, Or.inl ⟨c1, by rw [List.length_replicate]; omega, fun c hc => by obtain rfl := List.eq_of_mem_replicate hc; simp⟩⟩
  | 2, _ => exact ⟨([⟨[], [], false⟩], 2), by unfold wrongs; exact .tail _ (.tail _ (.head _)), rfl, f2, Or.inl ⟨c2, by simp, by simp⟩⟩
  | 3, _ =>
    obtain ⟨g, h1, h2, h3⟩ := c3
    exact ⟨([⟨fortyB ++ [48] ++ k, [], false⟩], 2), by unfold wrongs; exact .tail _ (.tail _ (.tail _ (.head _))), rfl, f3, Or.inr ⟨fortyB ++ [48] ++ k, rfl, by simp [fortyB], by simp [fortyB]; omega, g, h1, h2, h3⟩⟩
  | 4, _ => exact ⟨([⟨[98], [], false⟩, ⟨[98], [], false⟩], 2), by unfold wrongs; exact .tail _ (.tail _ (.tail _ (.tail _ (.head _)))), rfl, f4, Or.inl ⟨c4, by simp, by simp⟩⟩
  | 5, _ => exact ⟨([⟨[97], [1], true⟩], 2), by unfold wrongs; exact .tail _ (.tail _ (.tail _ (.tail _ (.tail _ (.head _))))), rfl, f5, Or.inl ⟨c5, by simp, by simp⟩⟩
  | 6, _ => exact ⟨([⟨[99], [], true⟩, ⟨[98], List.replicate 4097 0, false⟩], 3), by unfold wrongs; exact .tail _ (.tail _ (.tail _ (.tail _ (.tail _ (.tail _ (.head _)))))), rfl, f6, Or.inl ⟨c6, by show 2 ≤ 1000; omega, fun c hc => by
      rcases List.mem_cons.1 hc with rfl | hc
      · simp
      · obtain rfl := List.mem_singleton.1 hc
        exact ⟨by show 1 ≤ 1000; omega, by show (List.replicate 4097 (0 : UInt8)).length ≤ 10000; rw [List.length_replicate]; omega⟩⟩⟩
  | 7, _ => exact ⟨([⟨[98], [], false⟩, ⟨[99], [], true⟩], 6), by unfold wrongs; exact .tail _ (.tail _ (.tail _ (.tail _ (.tail _ (.tail _ (.tail _ (.head _))))))), rfl, f7, Or.inl ⟨c7, by simp, by simp⟩⟩
  | 8, _ => exact ⟨([⟨[98], [], true⟩, ⟨[], [], false⟩], 2), by unfold wrongs; exact .tail _ (.tail _ (.tail _ (.tail _ (.tail _ (.tail _ (.tail _ (.tail _ (.head _)))))))), rfl, f8, Or.inl ⟨c8, by simp, by simp⟩⟩
end Go.Proofs.YtondomklkapogaaDoor
