/- Plain laws: what the journal's operations keep. -/
import Derived.Test.YtondomklkapogaaDoorJOps
namespace Go.Proofs.YtondomklkapogaaDoor
open Go.RowKit SeedP Go.Maps
theorem blockB_len (x : Int) (code : List UInt8) : (blockB x code).length = 12 + code.length := by unfold blockB; simp only [List.length_append, numB_length]
theorem entB_len (e : List UInt8 × List UInt8) : (entB e).length = 3 + e.1.length + e.2.length := by unfold entB; simp only [List.length_append, List.length_cons, numB_length]; omega
theorem ents_len (P : PEnts) : ((P.flatMap entB).length : Int) = pWt P := by
  induction P with
  | nil => simp [pWt]
  | cons x r ih => rw [List.flatMap_cons, List.length_append, pWt_cons, entB_len]; unfold eWt; omega
theorem stateB_len (gen : Nat) (P : PEnts) : ((stateB gen P).length : Int) = 12 + pWt P := by
  have := ents_len P
  unfold stateB; simp only [List.length_append, numB_length]; omega
theorem chgCode_size (c : Chg) : (chgCode c).length = chgSize c := by
  unfold chgCode chgSize
  cases c.drop <;> simp [numB_length] <;> omega
theorem codeOf_len (cs : List Chg) : (codeOf cs).length = codeSize cs := by
  unfold codeOf codeSize
  rw [List.length_cons]
  have : (cs.flatMap chgCode).length = (cs.map chgSize).sum := by
    induction cs with
    | nil => rfl
    | cons x r ih => rw [List.flatMap_cons, List.length_append, List.map_cons, List.sum_cons, ih, chgCode_size]
  omega
structure DS.Ok (d : DS) : Prop where
  pw0 : -1 ≤ d.pw
  pw1 : d.pw ≤ 9223372036854775807
  f0 : d.f0.length ≤ 262144
  f1 : d.f1.length ≤ 262144
theorem JS.Ok.d {s : JS} (h : s.Ok) : s.d.Ok := ⟨h.pw0, h.pw1, h.f0, h.f1⟩
theorem DS.Ok.get {d : DS} (h : d.Ok) (f : Bool) : (d.get f).length ≤ 262144 := by cases f; exact h.f0; exact h.f1
theorem DS.get_put (d : DS) (f : Bool) (l : List UInt8) : (d.put f l).get f = l := by cases f <;> rfl
theorem DS.get_put_not (d : DS) (f : Bool) (l : List UInt8) : (d.put f l).get (!f) = d.get (!f) := by cases f <;> rfl
theorem DS.Ok.put_ok {d : DS} (h : d.Ok) (f : Bool) {l : List UInt8} (hl : l.length ≤ 262144) : (d.put f l).Ok := by
  cases f
  · exact ⟨h.pw0, h.pw1, hl, h.f1⟩
  · exact ⟨h.pw0, h.pw1, h.f0, hl⟩
theorem DS.Ok.pw_ok {d : DS} (h : d.Ok) {z : Int} (h0 : -1 ≤ z) (h1 : z ≤ 9223372036854775807) : (DS.mk z d.f0 d.f1).Ok := ⟨h0, h1, h.f0, h.f1⟩
theorem DS.get_pw (d : DS) (z : Int) (f : Bool) : (DS.mk z d.f0 d.f1).get f = d.get f := rfl
theorem dCut_ok {d : DS} (h : d.Ok) (f : Bool) (n : Nat) : (dCut f n d).1.Ok := by
  unfold dCut
  have h0 := h.pw0
  have h1 := h.pw1
  split
  · exact h
  · split
    · exact h
    · refine (h.pw_ok (z := if 0 < d.pw then d.pw - 1 else d.pw) (by split <;> omega) (by split <;> omega)).put_ok f ?_
      have := h.get f
      rw [List.length_take]; omega
theorem dCut_get {d : DS} {f : Bool} {n : Nat} (hk : (dCut f n d).2 = true) (_hn : n ≤ (d.get f).length) : ((dCut f n d).1.get f) = (d.get f).take n ∧ (dCut f n d).1.get (!f) = d.get (!f) := by
  unfold dCut at hk ⊢
  split at hk <;> rename_i h1
  · rw [if_pos h1]; exact ⟨by rw [← h1, List.take_length], rfl⟩
  · rw [if_neg h1]
    split at hk <;> rename_i h2
    · cases hk
    · rw [if_neg h2]; exact ⟨DS.get_put _ _ _, DS.get_put_not _ _ _⟩
theorem dWrite_ok {d : DS} (h : d.Ok) (f : Bool) {b : List UInt8} (hb : (d.get f).length + b.length ≤ 262144) : (dWrite f b d).1.Ok := by
  unfold dWrite
  have h0 := h.pw0
  have h1 := h.pw1
  split
  · exact h.put_ok f (by rw [List.length_append]; exact hb)
  · split
    · exact (h.pw_ok (by omega) (by omega)).put_ok f (by rw [List.length_append]; exact hb)
    · exact (h.pw_ok (by omega) (by omega)).put_ok f (by rw [List.length_append, List.length_take]; omega)
theorem dWrite_get {d : DS} {f : Bool} {b : List UInt8} (hk : (dWrite f b d).2 = true) : (dWrite f b d).1.get f = d.get f ++ b ∧ (dWrite f b d).1.get (!f) = d.get (!f) := by
  unfold dWrite at hk ⊢
  split at hk <;> rename_i h1
  · rw [if_pos h1]; exact ⟨DS.get_put _ _ _, DS.get_put_not _ _ _⟩
  · rw [if_neg h1]
    split at hk <;> rename_i h2
    · rw [if_pos h2]; exact ⟨DS.get_put _ _ _, DS.get_put_not _ _ _⟩
    · cases hk
theorem JS.Ok.setD {s : JS} (h : s.Ok) {d : DS} (hd : d.Ok) : JS.Ok ⟨d, s.down, s.file, s.c⟩ := ⟨hd.pw0, hd.pw1, hd.f0, hd.f1, h.apart, h.wt, h.max, h.gen, h.ed, h.sum0, h.sum1⟩
/-- what compact does, by whether the power lasts -/
theorem jCompact_cases (s : JS) :
    (∃ d, jCompact s = (⟨d, s.down, s.file, s.c⟩, false) ∧ (dCut (compactFile s) 0 s.d = (d, false) ∨ (dCut (compactFile s) 0 s.d).2 = true ∧ dWrite (compactFile s) (blockB (subI 0 (stateB (s.c.gen + 1) s.c.ents)) (stateB (s.c.gen + 1) s.c.ents)) (dCut (compactFile s) 0 s.d).1 = (d, false))) ∨
    ∃ d, jCompact s = (⟨d, s.down, compactFile s, ⟨s.c.gen + 1, s.c.ents, s.c.wt, subI 0 (stateB (s.c.gen + 1) s.c.ents), 12 + (stateB (s.c.gen + 1) s.c.ents).length⟩⟩, true) ∧ (dCut (compactFile s) 0 s.d).2 = true ∧ dWrite (compactFile s) (blockB (subI 0 (stateB (s.c.gen + 1) s.c.ents)) (stateB (s.c.gen + 1) s.c.ents)) (dCut (compactFile s) 0 s.d).1 = (d, true) := by
  unfold jCompact
  generalize stateB (s.c.gen + 1) s.c.ents = code
  simp only []
  rcases hc : dCut (compactFile s) 0 s.d with ⟨d1, b1⟩
  cases b1
  · exact Or.inl ⟨d1, rfl, Or.inl rfl⟩
  · simp only []
    rcases hw : dWrite (compactFile s) (blockB (subI 0 code) code) d1 with ⟨d2, b2⟩
    cases b2
    · exact Or.inl ⟨d2, rfl, Or.inr ⟨trivial, rfl⟩⟩
    · exact Or.inr ⟨d2, rfl, trivial, rfl⟩
theorem subI_range (x : Int) (l : List UInt8) : 0 ≤ subI x l ∧ subI x l ≤ 18446744073709551615 := by unfold subI; exact subK_bd _ (mixI_nonneg _) (mixI_le _) l
theorem jCompact_ok {s : JS} (h : s.Ok) (hg : s.c.gen < 4611686018427387904) : (jCompact s).1.Ok ∧ ((jCompact s).2 = true → (((jCompact s).1.d.get (jCompact s).1.file).length = (jCompact s).1.c.ed ∧ (jCompact s).1.c.ed ≤ 131096)) := by
  have hl := stateB_len (s.c.gen + 1) s.c.ents
  have h1 := h.wt
  have h2 := h.max
  have hcut := dCut_ok h.d (compactFile s) 0
  have hlen : (blockB (subI 0 (stateB (s.c.gen + 1) s.c.ents)) (stateB (s.c.gen + 1) s.c.ents)).length ≤ 131096 := by rw [blockB_len]; omega
  have hw : (dCut (compactFile s) 0 s.d).2 = true → (dWrite (compactFile s) (blockB (subI 0 (stateB (s.c.gen + 1) s.c.ents)) (stateB (s.c.gen + 1) s.c.ents)) (dCut (compactFile s) 0 s.d).1).1.Ok := by
    intro hk
    refine dWrite_ok hcut _ ?_
    rw [(dCut_get hk (Nat.zero_le _)).1]
    simp only [List.take_zero, List.length_nil]; omega
  rcases jCompact_cases s with ⟨d, he, hd⟩ | ⟨d, he, hk, hd⟩
  · rw [he]
    refine ⟨h.setD ?_, fun hf => by cases hf⟩
    rcases hd with hd | ⟨hk, hd⟩
    · rw [hd] at hcut; exact hcut
    · have := hw hk; rw [hd] at this; exact this
  · rw [he]
    have hdo := hw hk
    have hget := dWrite_get (d := (dCut (compactFile s) 0 s.d).1) (f := compactFile s) (b := blockB (subI 0 (stateB (s.c.gen + 1) s.c.ents)) (stateB (s.c.gen + 1) s.c.ents)) (by rw [hd])
    rw [hd] at hdo hget
    have hr := subI_range 0 (stateB (s.c.gen + 1) s.c.ents)
    refine ⟨⟨hdo.pw0, hdo.pw1, hdo.f0, hdo.f1, h.apart, h.wt, h.max, ?_, ?_, (by dsimp only; exact hr.1), (by dsimp only; exact hr.2)⟩, fun _ => ⟨?_, ?_⟩⟩
    · show s.c.gen + 1 ≤ _; omega
    · show 12 + _ ≤ _; omega
    · show (d.get (compactFile s)).length = 12 + _
      rw [hget.1, (dCut_get hk (Nat.zero_le _)).1]
      simp only [List.take_zero, List.nil_append, blockB_len]
    · show 12 + _ ≤ _; omega
/-- the file ends where the journal says, or earlier, and one more block of n bytes of code fits -/
def Fits (n : Nat) (s : JS) : Prop := (s.d.get s.file).length ≤ s.c.ed ∧ s.c.ed + 12 + n ≤ 262144
theorem jDo4_ok {s : JS} {cs : List Chg} (h : s.Ok) (hf : Fits (codeOf cs).length s) (hv : Valid cs) (hw : pWAfter s.c.ents s.c.wt cs ≤ 131072) : (jDo4 cs s).1.Ok := by
  unfold jDo4
  have hd := dWrite_ok h.d s.file (b := blockB (subI s.c.sum (codeOf cs)) (codeOf cs)) (by rw [blockB_len]; have := hf.1; have := hf.2; omega)
  simp only []
  rcases hx : dWrite s.file (blockB (subI s.c.sum (codeOf cs)) (codeOf cs)) s.d with ⟨d2, b2⟩
  rw [hx] at hd
  cases b2
  · exact h.setD hd
  · have h3 := pChgs_wt s.c.ents cs h.apart hv.apart
    have hr := subI_range s.c.sum (codeOf cs)
    refine ⟨hd.pw0, hd.pw1, hd.f0, hd.f1, h3.1, ?_, hw, h.gen, ?_, (by dsimp only; exact hr.1), (by dsimp only; exact hr.2)⟩
    · show pWAfter s.c.ents s.c.wt cs = _
      rw [h3.2, ← h.wt]
    · show s.c.ed + 12 + _ ≤ _
      have := hf.2; omega
/-- a commit, up to the writing of its block -/
theorem jDo3_ok {s : JS} {n : Nat} (h : s.Ok) (hn : n ≤ 65536) (hg : s.c.gen = 4611686018427387904 → overfullP s n = false) :
    (jThen (jThen (jDo1 s) jDo2) (jDo3 n)).1.Ok ∧ ((jThen (jThen (jDo1 s) jDo2) (jDo3 n)).2 = true → Fits n (jThen (jThen (jDo1 s) jDo2) (jDo3 n)).1) ∧
    (jDo1 s).1.Ok ∧ ((jDo1 s).2 = true → (jDo2 (jDo1 s).1).1.Ok ∧ ((jDo2 (jDo1 s).1).2 = true → overfullP (jDo2 (jDo1 s).1).1 n = true → (jDo2 (jDo1 s).1).1.c.gen < 4611686018427387904)) := by
  have h1 : (jDo1 s).1.Ok ∧ ((jDo1 s).1.c.gen = 4611686018427387904 → (jDo1 s).2 = true → overfullP (jDo1 s).1 n = false) := by
    unfold jDo1
    split
    · rename_i h0
      have hc := jCompact_ok h (by omega)
      refine ⟨hc.1, fun _ hk => ?_⟩
      have := (hc.2 hk).2
      unfold overfullP; simp only [decide_eq_false_iff_not]; omega
    · exact ⟨h, fun hg' _ => hg hg'⟩
  cases hb1 : (jDo1 s).2 with
  | false =>
    have e1 : jThen (jDo1 s) jDo2 = jDo1 s := by unfold jThen; rw [hb1]; simp
    rw [e1]
    have e2 : jThen (jDo1 s) (jDo3 n) = jDo1 s := by unfold jThen; rw [hb1]; simp
    rw [e2, hb1]
    exact ⟨h1.1, (fun hf => by cases hf), h1.1, (fun hf => by cases hf)⟩
  | true =>
    have e1 : jThen (jDo1 s) jDo2 = jDo2 (jDo1 s).1 := by unfold jThen; rw [hb1]; simp
    rw [e1]
    generalize hs1 : (jDo1 s).1 = s1 at *
    have h2 : (jDo2 s1).1.Ok ∧ (jDo2 s1).1.c = s1.c ∧ (jDo2 s1).1.file = s1.file ∧ ((jDo2 s1).2 = true → ((jDo2 s1).1.d.get s1.file).length ≤ s1.c.ed) := by
      unfold jDo2
      split
      · rename_i hlt
        refine ⟨h1.1.setD (dCut_ok h1.1.d _ _), rfl, rfl, fun hk => ?_⟩
        show ((dCut s1.file s1.c.ed s1.d).1.get s1.file).length ≤ _
        rw [(dCut_get hk (by omega)).1, List.length_take]; omega
      · rename_i hge
        exact ⟨h1.1, rfl, rfl, fun _ => Nat.le_of_not_lt hge⟩
    have hof : overfullP (jDo2 s1).1 n = overfullP s1 n := by unfold overfullP; rw [h2.2.1]
    have hg2 : overfullP (jDo2 s1).1 n = true → (jDo2 s1).1.c.gen < 4611686018427387904 := by
      intro ho
      have := h2.1.gen
      rcases Nat.lt_or_ge (jDo2 s1).1.c.gen 4611686018427387904 with hlt | hge
      · exact hlt
      · have hx := h1.2 (by rw [← h2.2.1]; omega) hb1
        rw [hof, hx] at ho; cases ho
    refine ⟨?_, ?_, h1.1, fun _ => ⟨h2.1, fun _ => hg2⟩⟩
    · unfold jThen
      split
      · unfold jDo3
        split
        · rename_i ho
          exact (jCompact_ok h2.1 (hg2 ho)).1
        · exact h2.1
      · exact h2.1
    · intro hk
      cases hb2 : (jDo2 s1).2 with
      | false =>
        have e2 : jThen (jDo2 s1) (jDo3 n) = jDo2 s1 := by unfold jThen; rw [hb2]; simp
        rw [e2, hb2] at hk; cases hk
      | true =>
        have e2 : jThen (jDo2 s1) (jDo3 n) = jDo3 n (jDo2 s1).1 := by unfold jThen; rw [hb2]; simp
        rw [e2] at hk ⊢
        unfold jDo3 at hk ⊢
        split at hk
        · rename_i ho
          rw [if_pos ho]
          have hc := (jCompact_ok h2.1 (hg2 ho)).2 hk
          exact ⟨Nat.le_of_eq hc.1, by have := hc.2; omega⟩
        · rename_i ho
          rw [if_neg ho]
          refine ⟨by rw [h2.2.1, h2.2.2.1]; exact h2.2.2.2 hb2, ?_⟩
          unfold overfullP at ho
          simpa using ho
end Go.Proofs.YtondomklkapogaaDoor
