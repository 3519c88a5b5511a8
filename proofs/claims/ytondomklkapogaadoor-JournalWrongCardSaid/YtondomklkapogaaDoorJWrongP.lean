/- JournalWrong: the plain law. -/
import Derived.Test.YtondomklkapogaaDoorJOps
namespace Go.Proofs.YtondomklkapogaaDoor
open Go.RowKit SeedP Go.Maps
theorem jc_many {s : JS} {cs : List Chg} (hu : s.down = false) (h : cs.length = 0 ∨ 64 < cs.length) : jCommit cs s = (s, 5) := by
  unfold jCommit; rw [if_neg (by rw [hu]; decide), if_pos h]
theorem jc_bad {s : JS} {cs : List Chg} (hu : s.down = false) (h : 1 ≤ cs.length ∧ cs.length ≤ 64) (hb : validP cs = 2) : jCommit cs s = (s, 2) := by
  unfold jCommit; rw [if_neg (by rw [hu]; decide), if_neg (by omega), if_pos (by rw [hb]; decide), hb]
theorem jc_long {s : JS} {cs : List Chg} (hu : s.down = false) (h : 1 ≤ cs.length ∧ cs.length ≤ 64) (hb : validP cs = 3) : jCommit cs s = (s, 3) := by
  unfold jCommit; rw [if_neg (by rw [hu]; decide), if_neg (by omega), if_pos (by rw [hb]; decide), hb]
theorem jc_none {s : JS} {cs : List Chg} (hu : s.down = false) (h : 1 ≤ cs.length ∧ cs.length ≤ 64) (hb : validP cs = 0) (hn : (cs.any fun c => c.drop && !(pFind s.c.ents c.key).isSome) = true) : jCommit cs s = (s, 6) := by
  unfold jCommit; rw [if_neg (by rw [hu]; decide), if_neg (by omega), if_neg (by rw [hb]; decide), if_pos hn]
def fortyB : List UInt8 := [48, 49, 50, 51, 52, 53, 54, 55, 56, 57, 48, 49, 50, 51, 52, 53, 54, 55, 56, 57, 48, 49, 50, 51, 52, 53, 54, 55, 56, 57, 48, 49, 50, 51, 52, 53, 54, 55, 56, 57]
/-- the nine commits, and what they are refused with -/
def wrongs (key : List UInt8) : List (List Chg × Int) :=
  [([], 5), (List.replicate 65 ⟨[], [], false⟩, 5), ([⟨[], [], false⟩], 2), ([⟨fortyB ++ [48] ++ key, [], false⟩], 2), ([⟨[98], [], false⟩, ⟨[98], [], false⟩], 2),
   ([⟨[97], [1], true⟩], 2), ([⟨[99], [], true⟩, ⟨[98], List.replicate 4097 0, false⟩], 3), ([⟨[98], [], false⟩, ⟨[99], [], true⟩], 6), ([⟨[98], [], true⟩, ⟨[], [], false⟩], 2)]
theorem wrongs_all {s : JS} (key : List UInt8) (hu : s.down = false) (he : s.c.ents = [([97], [1])]) : ∀ p ∈ wrongs key, jCommit p.1 s = (s, p.2) := by
  intro p hp
  unfold wrongs at hp
  simp only [List.mem_cons, List.not_mem_nil, or_false] at hp
  rcases hp with rfl | rfl | rfl | rfl | rfl | rfl | rfl | rfl | rfl
  · exact jc_many hu (Or.inl rfl)
  · exact jc_many hu (Or.inr (by rw [List.length_replicate]; omega))
  · exact jc_bad hu (by simp) (valid_bad _ 0 (by simp) rfl)
  · refine jc_bad hu (by simp) (valid_bad _ 0 (by simp) ?_)
    have h : 40 < (fortyB ++ [48] ++ key).length := by simp [fortyB]
    simp only [badAt, List.getElem?_cons_zero, bad1, decide_eq_true h, Bool.or_true, Bool.true_or]
  · exact jc_bad hu (by simp) (valid_bad _ 1 (by simp) (by decide))
  · exact jc_bad hu (by simp) (valid_bad _ 0 (by simp) (by decide))
  · refine jc_long hu ⟨(by show 1 ≤ 2; omega), (by show 2 ≤ 64; omega)⟩ (valid_long _ (fun j hj => ?_) ?_)
    · have hj : j < 2 := hj
      match j, hj with
      | 0, _ => rfl
      | 1, _ => rfl
    · have h : decide (4096 < (List.replicate 4097 (0 : UInt8)).length) = true := by rw [List.length_replicate]; decide
      simp only [List.any_cons, h, Bool.or_true, Bool.true_or]
  · exact jc_none hu (by simp) (by decide) (by rw [he]; decide)
  · exact jc_bad hu (by simp) (valid_bad _ 1 (by simp) (by decide))
theorem valid_one {k v : List UInt8} (h1 : 1 ≤ k.length ∧ k.length ≤ 40) (h2 : v.length ≤ 4096) : Valid [⟨k, v, false⟩] := by
  refine ⟨fun c hc => ?_, fun c hc => ?_, fun c hc => ?_, by simp, ?_⟩
  · obtain rfl := List.mem_singleton.1 hc; exact h1
  · obtain rfl := List.mem_singleton.1 hc; exact h2
  · obtain rfl := List.mem_singleton.1 hc; simp
  · simp [codeSize, chgSize]; omega
/-- the journal under test: one entry was set -/
structure WJ (s : JS) : Prop where
  live : Live s
  pw : s.d.pw = -1
  ents : s.c.ents = [([97], [1])]
  gen : s.c.gen ≤ 2
  f1 : s.d.f1 = []
theorem wj_start (h0 : Live (jOpen ⟨-1, [], []⟩)) : (jCommit [⟨[97], [1], false⟩] (jOpen ⟨-1, [], []⟩)).2 = 0 ∧ WJ (jCommit [⟨[97], [1], false⟩] (jOpen ⟨-1, [], []⟩)).1 := by
  have hz : openP ⟨-1, [], []⟩ = (false, zeroC) := openP_zero readF_nil readF_nil
  have hj : jOpen ⟨-1, [], []⟩ = ⟨⟨-1, [], []⟩, false, false, zeroC⟩ := by unfold jOpen; rw [hz]
  have hm : May (jOpen ⟨-1, [], []⟩) [⟨[97], [1], false⟩] := by
    refine ⟨by simp, by simp, valid_one (by simp) (by simp), by simp, ?_⟩
    rw [hj]; decide
  have hc := (commit_may h0 hm (by rw [hj]; decide)).2 rfl
  obtain ⟨_, l2, e2, g2⟩ := (commit_live (cs := [⟨[97], [1], false⟩]) h0).2.1 hc.1
  refine ⟨hc.1, l2, hc.2, ?_, ?_, ?_⟩
  · rw [e2, hj]; decide
  · rw [hj] at g2 ⊢; exact g2
  · rw [jCommit_eq h0.up hm (by rw [hj]; decide), hj]
    have hov : ∀ s : JS, s.c.ed ≤ 100 → overfullP s (codeOf [⟨[97], [1], false⟩]).length = false := fun s hs => by
      have hl : (codeOf [⟨[97], [1], false⟩]).length = 7 := by decide
      unfold overfullP; rw [hl]; exact decide_eq_false (by omega)
    obtain ⟨code, hcode⟩ : ∃ c, stateB (0 + 1) [] = c := ⟨_, rfl⟩
    have hl : code.length = 12 := by rw [← hcode]; decide
    obtain ⟨sA, hA⟩ : ∃ sA : JS, sA = ⟨⟨-1, blockB (subI 0 code) code, []⟩, false, false, ⟨0 + 1, [], 0, subI 0 code, 12 + code.length⟩⟩ := ⟨_, rfl⟩
    have h1 : jDo1 ⟨⟨-1, [], []⟩, false, false, zeroC⟩ = (sA, true) := by
      rw [hA]
      simp only [jDo1, zeroC, if_true, jCompact, compactFile, dCut, DS.get, Bool.false_eq_true, if_false, List.length_nil, dWrite, show ((-1 : Int) < 0) = True from eq_true (by decide), DS.put, List.nil_append, hcode]
    have h2 : jDo2 sA = (sA, true) := by
      have hb : (blockB (subI 0 code) code).length = 12 + code.length := by simp [blockB, numB_length]; omega
      unfold jDo2
      rw [if_neg]
      rw [hA]
      simp only [DS.get, Bool.false_eq_true, if_false, hb]
      omega
    have h3 : jDo3 (codeOf [⟨[97], [1], false⟩]).length sA = (sA, true) := by
      unfold jDo3
      rw [hov sA (by rw [hA]; show 12 + code.length ≤ 100; omega)]
      rfl
    have h4 : (jDo4 [⟨[97], [1], false⟩] sA).1.d.f1 = [] := by
      rw [hA]
      simp only [jDo4, dWrite, show ((-1 : Int) < 0) = True from eq_true (by decide), if_true, DS.put, Bool.false_eq_true, if_false]
    unfold jDo
    rw [h1]
    simp only [jThen, if_true, h2, h3]
    unfold jPowered
    split
    · exact h4
    · exact h4
/-- one more is set, with the longest key -/
theorem wj_last {s : JS} (h : WJ s) : (jCommit [⟨fortyB, [], false⟩] s).2 = 0 := by
  have hm : May s [⟨fortyB, [], false⟩] := by
    refine ⟨by simp, by simp, valid_one (by simp [fortyB]) (by simp), by simp, ?_⟩
    have hw : s.c.wt = pWt s.c.ents := h.live.ok.wt
    rw [hw, h.ents]; decide
  exact ((commit_may h.live hm (by have := h.gen; omega)).2 h.pw).1
end Go.Proofs.YtondomklkapogaaDoor
