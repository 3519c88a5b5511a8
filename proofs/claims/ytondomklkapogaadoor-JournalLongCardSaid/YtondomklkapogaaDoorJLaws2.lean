/- Plain laws: Commit and Compact over a journal that agrees with its disk. -/
import Derived.Test.YtondomklkapogaaDoorJLaws
namespace Go.Proofs.YtondomklkapogaaDoor
open Go.RowKit SeedP Go.Maps
theorem validP_vals (cs : List Chg) : validP cs = 0 ∨ validP cs = 2 ∨ validP cs = 3 := by
  unfold validP; split
  · exact Or.inr (Or.inl rfl)
  · split
    · exact Or.inr (Or.inr rfl)
    · exact Or.inl rfl
/-- may these changes be committed -/
structure May (s : JS) (cs : List Chg) : Prop where
  some : 1 ≤ cs.length
  many : cs.length ≤ 64
  valid : Valid cs
  there : ∀ c ∈ cs, c.drop = true → (pFind s.c.ents c.key).isSome = true
  weight : pWAfter s.c.ents s.c.wt cs ≤ 131072
theorem May.any {s : JS} {cs : List Chg} (h : May s cs) : (cs.any fun c => c.drop && !(pFind s.c.ents c.key).isSome) = false := by
  rw [List.any_eq_false]
  intro c hc
  cases hd : c.drop with
  | false => simp
  | true => rw [h.there c hc hd]; simp
theorem May.poss {s : JS} {cs : List Chg} (h : May s cs) : pPoss s.c.ents s.c.wt cs = true := by
  unfold pPoss; rw [h.any]; simp [h.weight]
theorem jCommit_eq {s : JS} {cs : List Chg} (hd : s.down = false) (h : May s cs) (hf : ¬ (s.c.gen = 4611686018427387904 ∧ overfullP s (codeOf cs).length = true)) : jCommit cs s = jPowered (jDo cs s) := by
  unfold jCommit
  rw [if_neg (by rw [hd]; simp), if_neg (by have := h.some; have := h.many; omega), if_neg (by rw [(valid_zero cs).2 h.valid]; simp), if_neg (by rw [h.any]; simp), if_neg]
  rintro (h1 | h1)
  · have := h.weight; omega
  · exact hf h1
theorem jCommit_cases {s : JS} {cs : List Chg} (hd : s.down = false) :
    (May s cs ∧ ¬ (s.c.gen = 4611686018427387904 ∧ overfullP s (codeOf cs).length = true) ∧ jCommit cs s = jPowered (jDo cs s)) ∨ ((jCommit cs s).1 = s ∧ (jCommit cs s).2 ≠ 0 ∧ (jCommit cs s).2 ≠ 360) := by
  by_cases h1 : cs.length = 0 ∨ 64 < cs.length
  · right; unfold jCommit; rw [if_neg (by rw [hd]; simp), if_pos h1]; exact ⟨rfl, fun h => (by cases h), fun h => (by cases h)⟩
  by_cases h2 : validP cs = 0
  · by_cases h3 : (cs.any fun c => c.drop && !(pFind s.c.ents c.key).isSome) = true
    · right; unfold jCommit; rw [if_neg (by rw [hd]; simp), if_neg h1, if_neg (by simpa using h2), if_pos h3]; exact ⟨rfl, fun h => (by cases h), fun h => (by cases h)⟩
    · by_cases h4 : 131072 < pWAfter s.c.ents s.c.wt cs ∨ (s.c.gen = 4611686018427387904 ∧ overfullP s (codeOf cs).length = true)
      · right; unfold jCommit; rw [if_neg (by rw [hd]; simp), if_neg h1, if_neg (by simpa using h2), if_neg h3, if_pos h4]; exact ⟨rfl, fun h => (by cases h), fun h => (by cases h)⟩
      · left
        have hm : May s cs := by
          refine ⟨by omega, by omega, (valid_zero cs).1 h2, fun c hc hd => ?_, by omega⟩
          cases hf : (pFind s.c.ents c.key).isSome with
          | true => rfl
          | false => exact absurd (List.any_eq_true.2 ⟨c, hc, by rw [hd, hf]; rfl⟩) h3
        have hf : ¬ (s.c.gen = 4611686018427387904 ∧ overfullP s (codeOf cs).length = true) := fun h => h4 (Or.inr h)
        exact ⟨hm, hf, jCommit_eq hd hm hf⟩
  · right; unfold jCommit; rw [if_neg (by rw [hd]; simp), if_neg h1, if_pos h2]
    rcases validP_vals cs with h | h | h
    · exact absurd h h2
    · rw [h]; exact ⟨rfl, fun h => (by cases h), fun h => (by cases h)⟩
    · rw [h]; exact ⟨rfl, fun h => (by cases h), fun h => (by cases h)⟩
theorem jPowered_two (r : JS × Bool) : (jPowered r).2 = if r.2 = true then 0 else 360 := by unfold jPowered; split <;> rfl
/-- a power failure leaves no power -/
theorem dCut_dead {f : Bool} {n : Nat} {d : DS} (h : (dCut f n d).2 = false) : (dCut f n d).1.pw = 0 := by
  have h0 := dCut_fail h
  rw [h0]
  unfold dCut at h
  split at h
  · cases h
  · split at h
    · assumption
    · cases h
theorem dWrite_dead {f : Bool} {b : List UInt8} {d : DS} (h : (dWrite f b d).2 = false) : (dWrite f b d).1.pw = 0 := by
  obtain ⟨k, _, _, _, h4⟩ := dWrite_fail h; exact h4
theorem jCompact_dead {s : JS} (h : (jCompact s).2 = false) : (jCompact s).1.d.pw = 0 := by
  rcases jCompact_cases s with ⟨d, he, hd⟩ | ⟨d, he, hk, hd⟩
  · rw [he]
    show d.pw = 0
    rcases hd with hd | ⟨_, hd⟩
    · have := dCut_dead (f := compactFile s) (n := 0) (d := s.d) (by rw [hd])
      rw [hd] at this; exact this
    · have := dWrite_dead (f := compactFile s) (b := blockB (subI 0 (stateB (s.c.gen + 1) s.c.ents)) (stateB (s.c.gen + 1) s.c.ents)) (d := (dCut (compactFile s) 0 s.d).1) (by rw [hd])
      rw [hd] at this; exact this
  · rw [he] at h; cases h
theorem jDo1_dead {s : JS} (h : (jDo1 s).2 = false) : (jDo1 s).1.d.pw = 0 := by
  unfold jDo1 at h ⊢
  split at h <;> rename_i hz
  · rw [if_pos hz]; exact jCompact_dead h
  · cases h
theorem jDo2_dead {s : JS} (h : (jDo2 s).2 = false) : (jDo2 s).1.d.pw = 0 := by
  unfold jDo2 at h ⊢
  split at h <;> rename_i hz
  · rw [if_pos hz]; exact dCut_dead h
  · cases h
theorem jDo3_dead {s : JS} {n : Nat} (h : (jDo3 n s).2 = false) : (jDo3 n s).1.d.pw = 0 := by
  unfold jDo3 at h ⊢
  split at h <;> rename_i hz
  · rw [if_pos hz]; exact jCompact_dead h
  · cases h
theorem jDo4_dead {s : JS} {cs : List Chg} (h : (jDo4 cs s).2 = false) : (jDo4 cs s).1.d.pw = 0 := by
  unfold jDo4 at h ⊢
  simp only [] at h ⊢
  rcases hx : dWrite s.file (blockB (subI s.c.sum (codeOf cs)) (codeOf cs)) s.d with ⟨d2, b2⟩
  rw [hx] at h
  cases b2
  · have := dWrite_dead (f := s.file) (b := blockB (subI s.c.sum (codeOf cs)) (codeOf cs)) (d := s.d) (by rw [hx])
    rw [hx] at this; exact this
  · cases h
theorem jThen_dead {r : JS × Bool} {k : JS → JS × Bool} (h : (jThen r k).2 = false) (h1 : r.2 = false → r.1.d.pw = 0) (h2 : (k r.1).2 = false → (k r.1).1.d.pw = 0) : (jThen r k).1.d.pw = 0 := by
  cases hb : r.2 with
  | false => rw [jThen_no hb]; exact h1 hb
  | true => rw [jThen_ok hb] at h ⊢; exact h2 h
theorem jDo_dead {s : JS} {cs : List Chg} (h : (jDo cs s).2 = false) : (jDo cs s).1.d.pw = 0 :=
  jThen_dead h (fun h => jThen_dead h (fun h => jThen_dead h jDo1_dead jDo2_dead) jDo3_dead) jDo4_dead
/-- power that does not fail -/
theorem DS.put_pw (d : DS) (f : Bool) (l : List UInt8) : (d.put f l).pw = d.pw := by cases f <;> rfl
theorem dCut_full {f : Bool} {n : Nat} {d : DS} (h : d.pw = -1) : (dCut f n d).2 = true ∧ (dCut f n d).1.pw = -1 := by
  unfold dCut
  split
  · exact ⟨rfl, h⟩
  · rw [if_neg (by omega)]
    refine ⟨rfl, ?_⟩
    rw [DS.put_pw]
    show (if 0 < d.pw then d.pw - 1 else d.pw) = -1
    rw [if_neg (by omega), h]
theorem dWrite_full {f : Bool} {b : List UInt8} {d : DS} (h : d.pw = -1) : (dWrite f b d).2 = true ∧ (dWrite f b d).1.pw = -1 := by
  unfold dWrite
  rw [if_pos (by omega)]
  exact ⟨rfl, by rw [DS.put_pw]; exact h⟩
theorem jCompact_full {s : JS} (h : s.d.pw = -1) : (jCompact s).2 = true ∧ (jCompact s).1.d.pw = -1 := by
  have hc := dCut_full (f := compactFile s) (n := 0) h
  have hw := dWrite_full (f := compactFile s) (b := blockB (subI 0 (stateB (s.c.gen + 1) s.c.ents)) (stateB (s.c.gen + 1) s.c.ents)) hc.2
  rcases jCompact_cases s with ⟨d, he, hd⟩ | ⟨d, he, hk, hd⟩
  · rcases hd with hd | ⟨_, hd⟩
    · rw [hd] at hc; cases hc.1
    · rw [hd] at hw; cases hw.1
  · rw [he]; rw [hd] at hw; exact ⟨rfl, hw.2⟩
theorem jDo_full {s : JS} {cs : List Chg} (h : s.d.pw = -1) : (jDo cs s).2 = true ∧ (jDo cs s).1.d.pw = -1 := by
  have h1 : (jDo1 s).2 = true ∧ (jDo1 s).1.d.pw = -1 := by
    unfold jDo1; split
    · exact jCompact_full h
    · exact ⟨rfl, h⟩
  have h2 : ∀ t : JS, t.d.pw = -1 → (jDo2 t).2 = true ∧ (jDo2 t).1.d.pw = -1 := by
    intro t ht
    unfold jDo2; split
    · exact dCut_full ht
    · exact ⟨rfl, ht⟩
  have h3 : ∀ t : JS, t.d.pw = -1 → (jDo3 (codeOf cs).length t).2 = true ∧ (jDo3 (codeOf cs).length t).1.d.pw = -1 := by
    intro t ht
    unfold jDo3; split
    · exact jCompact_full ht
    · exact ⟨rfl, ht⟩
  have h4 : ∀ t : JS, t.d.pw = -1 → (jDo4 cs t).2 = true ∧ (jDo4 cs t).1.d.pw = -1 := by
    intro t ht
    have hw := dWrite_full (f := t.file) (b := blockB (subI t.c.sum (codeOf cs)) (codeOf cs)) ht
    unfold jDo4; simp only []
    rcases hx : dWrite t.file (blockB (subI t.c.sum (codeOf cs)) (codeOf cs)) t.d with ⟨d2, b2⟩
    rw [hx] at hw
    cases b2
    · cases hw.1
    · exact ⟨rfl, hw.2⟩
  unfold jDo
  rw [jThen_ok h1.1, jThen_ok (h2 _ h1.2).1, jThen_ok (h3 _ (h2 _ h1.2).2).1]
  exact h4 _ (h3 _ (h2 _ h1.2).2).2
/-- what a commit did -/
theorem commit_live {s : JS} {cs : List Chg} (h : Live s) :
    (jCommit cs s).1.Ok ∧ ((jCommit cs s).2 = 0 → May s cs ∧ Live (jCommit cs s).1 ∧ (jCommit cs s).1.c.ents = pChgs s.c.ents cs ∧ (jCommit cs s).1.c.gen ≤ s.c.gen + 2) ∧
    ((jCommit cs s).2 = 360 → May s cs ∧ Has (jCommit cs s).1.d s.c.ents (s.c.gen + 2) ∧ (jCommit cs s).1.down = true ∧ (jCommit cs s).1.d.pw = 0) ∧
    ((jCommit cs s).2 ≠ 0 → (jCommit cs s).2 ≠ 360 → (jCommit cs s).1 = s) := by
  rcases jCommit_cases (cs := cs) h.up with ⟨hm, hf, he⟩ | ⟨h1, h2, h3⟩
  · have hd := do_live h hm.valid hm.some hm.many hm.poss (fun hg => by cases ho : overfullP s (codeOf cs).length with | false => rfl | true => exact absurd ⟨hg, ho⟩ hf)
    rw [he]
    unfold jPowered
    split
    · rename_i hk
      obtain ⟨l, e, g⟩ := hd.1 hk
      exact ⟨hd.2.2, fun _ => ⟨hm, l, e, g⟩, fun h => (by cases h), fun h => absurd rfl h⟩
    · rename_i hk
      have hk : (jDo cs s).2 = false := by simpa using hk
      have o := hd.2.2
      exact ⟨⟨o.pw0, o.pw1, o.f0, o.f1, o.apart, o.wt, o.max, o.gen, o.ed, o.sum0, o.sum1⟩, fun h => (by cases h), fun _ => ⟨hm, hd.2.1 hk, rfl, jDo_dead hk⟩, fun _ h => absurd rfl h⟩
  · refine ⟨by rw [h1]; exact h.ok, fun h => absurd h h2, fun h => absurd h h3, fun _ _ => h1⟩
/-- what may be committed is, if the power lasts -/
theorem commit_may {s : JS} {cs : List Chg} (h : Live s) (hm : May s cs) (hg : s.c.gen < 4611686018427387904) : ((jCommit cs s).2 = 0 ∨ (jCommit cs s).2 = 360) ∧ (s.d.pw = -1 → (jCommit cs s).2 = 0 ∧ (jCommit cs s).1.d.pw = -1) := by
  have he := jCommit_eq h.up hm (by omega)
  rw [he]
  refine ⟨?_, fun hp => ?_⟩
  · rw [jPowered_two]; split
    · exact Or.inl rfl
    · exact Or.inr rfl
  · have := jDo_full (cs := cs) hp
    unfold jPowered
    rw [if_pos this.1]; exact ⟨rfl, this.2⟩
theorem compactOp_live {s : JS} (h : Live s) (hg : s.c.gen < 4611686018427387904) :
    (jCompactOp s).1.Ok ∧ ((jCompactOp s).2 = 0 ∧ (jCompact s).2 = true ∧ (jCompactOp s).1 = (jCompact s).1 ∧ Live (jCompactOp s).1 ∧ (jCompactOp s).1.c.ents = s.c.ents ∧ (jCompactOp s).1.c.gen = s.c.gen + 1 ∨
      (jCompactOp s).2 = 360 ∧ Has (jCompactOp s).1.d s.c.ents s.c.gen ∧ (jCompactOp s).1.down = true ∧ (jCompactOp s).1.d.pw = 0) ∧ (s.d.pw = -1 → (jCompactOp s).2 = 0 ∧ (jCompactOp s).1.d.pw = -1) := by
  have hc := compact_live h hg
  have o := (jCompact_ok h.ok hg).1
  unfold jCompactOp
  rw [if_neg (by rw [h.up]; simp), if_neg (by omega)]
  unfold jPowered
  refine ⟨?_, ?_, fun hp => ?_⟩
  · split
    · exact o
    · exact ⟨o.pw0, o.pw1, o.f0, o.f1, o.apart, o.wt, o.max, o.gen, o.ed, o.sum0, o.sum1⟩
  · split
    · rename_i hk
      obtain ⟨l, e, g, _⟩ := hc.1 hk
      exact Or.inl ⟨rfl, hk, rfl, l, e, g⟩
    · rename_i hk
      have hk : (jCompact s).2 = false := by simpa using hk
      exact Or.inr ⟨rfl, hc.2 hk, rfl, jCompact_dead hk⟩
  · have := jCompact_full hp
    rw [if_pos this.1]; exact ⟨rfl, this.2⟩
end Go.Proofs.YtondomklkapogaaDoor
