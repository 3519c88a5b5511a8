/- Plain laws: the chapter's example. -/
import Derived.Test.YtondomklkapogaaDoorJOps
namespace Go.Proofs.YtondomklkapogaaDoor
open Go.RowKit SeedP Go.Maps
theorem jCompact_plain {s : JS} (h : s.d.pw = -1) : jCompact s = (⟨s.d.put (compactFile s) (blockB (subI 0 (stateB (s.c.gen + 1) s.c.ents)) (stateB (s.c.gen + 1) s.c.ents)), s.down, compactFile s, ⟨s.c.gen + 1, s.c.ents, s.c.wt, subI 0 (stateB (s.c.gen + 1) s.c.ents), 12 + (stateB (s.c.gen + 1) s.c.ents).length⟩⟩, true) := by
  unfold jCompact
  simp only []
  generalize stateB (s.c.gen + 1) s.c.ents = code
  generalize compactFile s = f
  obtain ⟨⟨pw, f0, f1⟩, dn, fl, c⟩ := s
  have h : pw = -1 := h
  subst h
  by_cases e : ((DS.mk (-1) f0 f1).get f).length = 0
  · have hc : dCut f 0 (DS.mk (-1) f0 f1) = (DS.mk (-1) f0 f1, true) := by unfold dCut; rw [if_pos e]
    rw [hc]
    simp only []
    have e2 : (DS.mk (-1) f0 f1).get f = [] := List.eq_nil_of_length_eq_zero e
    have hw : dWrite f (blockB (subI 0 code) code) (DS.mk (-1) f0 f1) = ((DS.mk (-1) f0 f1).put f (blockB (subI 0 code) code), true) := by unfold dWrite; rw [if_pos (by show (-1 : Int) < 0; omega), e2, List.nil_append]
    rw [hw]
  · have hc : dCut f 0 (DS.mk (-1) f0 f1) = ((DS.mk (-1) f0 f1).put f [], true) := by
      unfold dCut; rw [if_neg e, if_neg (by show ¬ ((-1 : Int) = 0); omega)]; rfl
    rw [hc]
    simp only []
    have hw : dWrite f (blockB (subI 0 code) code) ((DS.mk (-1) f0 f1).put f []) = ((DS.mk (-1) f0 f1).put f (blockB (subI 0 code) code), true) := by
      unfold dWrite
      rw [if_pos (by rw [DS.put_pw]; show (-1 : Int) < 0; omega), DS.get_put, List.nil_append]
      cases f <;> rfl
    rw [hw]
theorem jDo4_plain {s : JS} {cs : List Chg} (h : s.d.pw = -1) : jDo4 cs s = (⟨s.d.put s.file (s.d.get s.file ++ blockB (subI s.c.sum (codeOf cs)) (codeOf cs)), s.down, s.file, ⟨s.c.gen, pChgs s.c.ents cs, pWAfter s.c.ents s.c.wt cs, subI s.c.sum (codeOf cs), s.c.ed + 12 + (codeOf cs).length⟩⟩, true) := by
  unfold jDo4
  have hw : dWrite s.file (blockB (subI s.c.sum (codeOf cs)) (codeOf cs)) s.d = (s.d.put s.file (s.d.get s.file ++ blockB (subI s.c.sum (codeOf cs)) (codeOf cs)), true) := by unfold dWrite; rw [if_pos (by omega)]
  simp only []
  rw [hw]
/-- a commit, with power that does not fail, on a file that begins with what the journal has, and that is not full -/
theorem jDo_plain {s : JS} {cs : List Chg} (h : s.d.pw = -1) (hg : 1 ≤ s.c.gen) (he : s.c.ed ≤ (s.d.get s.file).length) (ho : overfullP s (codeOf cs).length = false) :
    jDo cs s = (⟨s.d.put s.file ((s.d.get s.file).take s.c.ed ++ blockB (subI s.c.sum (codeOf cs)) (codeOf cs)), s.down, s.file, ⟨s.c.gen, pChgs s.c.ents cs, pWAfter s.c.ents s.c.wt cs, subI s.c.sum (codeOf cs), s.c.ed + 12 + (codeOf cs).length⟩⟩, true) := by
  have h1 : jDo1 s = (s, true) := by unfold jDo1; rw [if_neg (by omega)]
  have h2 : jDo2 s = (⟨s.d.put s.file ((s.d.get s.file).take s.c.ed), s.down, s.file, s.c⟩, true) := by
    unfold jDo2
    split
    · rename_i hl
      have hc : dCut s.file s.c.ed s.d = (s.d.put s.file ((s.d.get s.file).take s.c.ed), true) := by
        unfold dCut; rw [if_neg (by omega), if_neg (by omega), if_neg (by omega)]
      rw [hc]
    · have e : (s.d.get s.file).take s.c.ed = s.d.get s.file := List.take_of_length_le (by omega)
      rw [e]
      have : s.d.put s.file (s.d.get s.file) = s.d := by obtain ⟨d, _, f, _⟩ := s; cases f <;> rfl
      rw [this]
  unfold jDo
  rw [h1, show jThen (s, true) jDo2 = jDo2 s from jThen_ok rfl, h2, show jThen (⟨s.d.put s.file ((s.d.get s.file).take s.c.ed), s.down, s.file, s.c⟩, true) (jDo3 (codeOf cs).length) = jDo3 (codeOf cs).length ⟨s.d.put s.file ((s.d.get s.file).take s.c.ed), s.down, s.file, s.c⟩ from jThen_ok rfl]
  have h3 : jDo3 (codeOf cs).length (⟨s.d.put s.file ((s.d.get s.file).take s.c.ed), s.down, s.file, s.c⟩ : JS) = (⟨s.d.put s.file ((s.d.get s.file).take s.c.ed), s.down, s.file, s.c⟩, true) := by
    unfold jDo3; rw [if_neg]; unfold overfullP at ho ⊢; simpa using ho
  rw [h3, jThen_ok rfl, jDo4_plain (by show (s.d.put _ _).pw = -1; rw [DS.put_pw]; exact h)]
  simp only [DS.get_put]
  cases s.file <;> rfl
theorem jOpen_empty (pw : Int) : jOpen ⟨pw, [], []⟩ = ⟨⟨pw, [], []⟩, false, false, zeroC⟩ := by unfold jOpen; rw [openP_zero readF_nil readF_nil]
def emptyState : List UInt8 := stateB 1 []
theorem emptyState_len : emptyState.length = 12 := rfl
/-- the first commit on an empty disk -/
theorem first_commit {cs : List Chg} (hm : May ⟨⟨-1, [], []⟩, false, false, zeroC⟩ cs) :
    jCommit cs ⟨⟨-1, [], []⟩, false, false, zeroC⟩ = (⟨⟨-1, blockB (subI 0 emptyState) emptyState ++ blockB (subI (subI 0 emptyState) (codeOf cs)) (codeOf cs), []⟩, false, false, ⟨1, pChgs [] cs, pWAfter [] 0 cs, subI (subI 0 emptyState) (codeOf cs), 36 + (codeOf cs).length⟩⟩, 0) := by
  have hl := codeOf_len cs
  have hs := hm.valid.size
  rw [jCommit_eq rfl hm (by rintro ⟨h, _⟩; cases h)]
  have h1 : jDo1 (⟨⟨-1, [], []⟩, false, false, zeroC⟩ : JS) = (⟨⟨-1, blockB (subI 0 emptyState) emptyState, []⟩, false, false, ⟨1, [], 0, subI 0 emptyState, 24⟩⟩, true) := by
    unfold jDo1
    rw [if_pos (show zeroC.gen = 0 from rfl), jCompact_plain rfl]
    rfl
  have h2 : jDo cs (⟨⟨-1, [], []⟩, false, false, zeroC⟩ : JS) = jDo cs (⟨⟨-1, blockB (subI 0 emptyState) emptyState, []⟩, false, false, ⟨1, [], 0, subI 0 emptyState, 24⟩⟩ : JS) := by
    have h3 : jDo1 (⟨⟨-1, blockB (subI 0 emptyState) emptyState, []⟩, false, false, ⟨1, [], 0, subI 0 emptyState, 24⟩⟩ : JS) = (⟨⟨-1, blockB (subI 0 emptyState) emptyState, []⟩, false, false, ⟨1, [], 0, subI 0 emptyState, 24⟩⟩, true) := by unfold jDo1; rw [if_neg (by show ¬ (1 = 0); omega)]
    unfold jDo
    rw [h1, h3]
  have hbl : (blockB (subI 0 emptyState) emptyState).length = 24 := by rw [blockB_len, emptyState_len]
  rw [h2, jDo_plain rfl (by show 1 ≤ 1; omega) (by show 24 ≤ (blockB _ _).length; omega) (by unfold overfullP; simp only [decide_eq_false_iff_not]; omega)]
  unfold jPowered
  simp only [if_true]
  have ht : (blockB (subI 0 emptyState) emptyState).take 24 = blockB (subI 0 emptyState) emptyState := List.take_of_length_le (by omega)
  show ((⟨⟨-1, (blockB (subI 0 emptyState) emptyState).take 24 ++ _, []⟩, false, false, _⟩ : JS), (0 : Int)) = _
  rw [ht]
def csA : List Chg := [⟨[97], [7, 8], false⟩]
theorem one_valid {k v : List UInt8} {b : Bool} (h1 : 1 ≤ k.length) (h2 : k.length ≤ 40) (h3 : v.length ≤ 4096) (h4 : b = true → v = []) : Valid [⟨k, v, b⟩] := by
  refine ⟨fun c hc => ?_, fun c hc => ?_, fun c hc => ?_, by simp, ?_⟩
  · obtain rfl := List.mem_singleton.1 hc; exact ⟨h1, h2⟩
  · obtain rfl := List.mem_singleton.1 hc; exact h3
  · obtain rfl := List.mem_singleton.1 hc; exact h4
  · unfold codeSize chgSize
    cases b <;> simp <;> omega
def sumE : Int := subI 0 emptyState
def blockE : List UInt8 := blockB sumE emptyState
def blockA : List UInt8 := blockB (subI sumE (codeOf csA)) (codeOf csA)
theorem blockE_len : blockE.length = 24 := by unfold blockE; rw [blockB_len, emptyState_len]
theorem blockA_len : blockA.length = 20 := by unfold blockA; rw [blockB_len]; rfl
def sA : JS := ⟨⟨-1, blockE ++ blockA, []⟩, false, false, ⟨1, [([97], [7, 8])], 6, subI sumE (codeOf csA), 44⟩⟩
theorem awake_set : jCommit csA (jOpen ⟨-1, [], []⟩) = (sA, 0) := by
  have hm : May ⟨⟨-1, [], []⟩, false, false, zeroC⟩ csA := ⟨by decide, by decide, one_valid (by decide) (by decide) (by decide) (fun h => by cases h), (fun c hc h => by obtain rfl := List.mem_singleton.1 hc; cases h), by decide⟩
  rw [jOpen_empty, first_commit hm]
  rfl
theorem awake_len : sA.d.f0.length = 44 := by show (blockE ++ blockA).length = 44; rw [List.length_append, blockE_len, blockA_len]
theorem awake_drop : sA.d.f0.drop 36 = [1, 0, 1, 97, 0, 2, 7, 8] := by
  show (blockE ++ blockA).drop 36 = _
  rw [List.drop_append, List.drop_eq_nil_of_le (by rw [blockE_len]; omega), blockE_len, List.nil_append]
  unfold blockA blockB
  rw [List.drop_append_of_le_length (by simp [numB_length])]
  rw [List.drop_of_length_le (by simp [numB_length])]
  rfl
theorem empty_ok (pw : Int) (h0 : -1 ≤ pw) (h1 : pw ≤ 9223372036854775807) : DS.Ok ⟨pw, [], []⟩ := ⟨h0, h1, Nat.zero_le _, Nat.zero_le _⟩
theorem awake_live : Live sA := by
  have h := (commit_live (cs := csA) (open_live (empty_ok (-1) (by decide) (by decide)))).2.1
  rw [awake_set] at h
  exact (h rfl).2.1
theorem awake_open : jOpen sA.d = sA := by unfold jOpen; rw [live_open awake_live]; rfl
theorem awake_none : jCommit [⟨[98], [], true⟩] sA = (sA, 6) := by
  have hv : Valid [⟨[98], [], true⟩] := one_valid (by decide) (by decide) (by decide) (fun _ => rfl)
  unfold jCommit
  rw [if_neg (by show ¬ (false = true); simp), if_neg (by simp), if_neg (by rw [(valid_zero _).2 hv]; simp), if_pos (by rfl)]
theorem awake_compact : ∃ s, jCompactOp sA = (s, 0) ∧ s.down = false ∧ s.d.f1.length = 30 ∧ s.c.gen = 2 := by
  have hc := jCompact_plain (s := sA) rfl
  have he : jCompactOp sA = jPowered (jCompact sA) := by unfold jCompactOp; rw [if_neg (by show ¬ (false = true); simp), if_neg (by show ¬ (1 = 4611686018427387904); omega)]
  rw [he, hc]
  refine ⟨_, rfl, rfl, ?_, rfl⟩
  show (blockB _ _).length = 30
  rw [blockB_len]; rfl
/-! ### a disk with too little power -/
theorem jDo4_failP {s : JS} {cs : List Chg} (h : (dWrite s.file (blockB (subI s.c.sum (codeOf cs)) (codeOf cs)) s.d).2 = false) : jDo4 cs s = (⟨(dWrite s.file (blockB (subI s.c.sum (codeOf cs)) (codeOf cs)) s.d).1, s.down, s.file, s.c⟩, false) := by
  unfold jDo4; simp only []
  rcases hx : dWrite s.file (blockB (subI s.c.sum (codeOf cs)) (codeOf cs)) s.d with ⟨d2, b2⟩
  rw [hx] at h
  obtain rfl : b2 = false := h
  rfl
def sW : JS := ⟨⟨0, blockE ++ blockA.take 19, []⟩, true, false, ⟨1, [], 0, sumE, 24⟩⟩
theorem weak_set : jCommit csA (jOpen ⟨43, [], []⟩) = (sW, 360) := by
  have hm : May ⟨⟨43, [], []⟩, false, false, zeroC⟩ csA := ⟨by decide, by decide, one_valid (by decide) (by decide) (by decide) (fun h => by cases h), (fun c hc h => by obtain rfl := List.mem_singleton.1 hc; cases h), by decide⟩
  rw [jOpen_empty, jCommit_eq rfl hm (by rintro ⟨h, _⟩; cases h)]
  have hb := blockE_len
  have ha := blockA_len
  have h1 : jDo1 (⟨⟨43, [], []⟩, false, false, zeroC⟩ : JS) = (⟨⟨19, blockE, []⟩, false, false, ⟨1, [], 0, sumE, 24⟩⟩, true) := by
    unfold jDo1
    rw [if_pos (show zeroC.gen = 0 from rfl)]
    have hc : dCut false 0 (DS.mk 43 [] []) = (DS.mk 43 [] [], true) := by unfold dCut; rw [if_pos (show ((DS.mk 43 [] []).get false).length = 0 from rfl)]
    have hw : dWrite false blockE (DS.mk 43 [] []) = (DS.mk 19 blockE [], true) := by
      unfold dWrite
      rw [if_neg (by show ¬ ((43 : Int) < 0); omega), if_pos (by show ((blockE.length : Nat) : Int) ≤ 43; omega), hb]
      rfl
    have h0 : (compactFile (⟨⟨43, [], []⟩, false, false, zeroC⟩ : JS)) = false := rfl
    rcases jCompact_cases (⟨⟨43, [], []⟩, false, false, zeroC⟩ : JS) with ⟨d, he, hd⟩ | ⟨d, he, hk, hd⟩
    · rw [h0] at hd
      rcases hd with hd | ⟨_, hd⟩
      · have := hc.symm.trans hd; cases this
      · have hd : dWrite false blockE (dCut false 0 (DS.mk 43 [] [])).1 = (d, false) := hd
        rw [hc] at hd
        have := hw.symm.trans hd; cases this
    · rw [h0] at hd
      have hd : dWrite false blockE (dCut false 0 (DS.mk 43 [] [])).1 = (d, true) := hd
      rw [hc] at hd
      have := hw.symm.trans hd
      obtain rfl : DS.mk 19 blockE [] = d := by injection this
      rw [he]; rfl
  have h2 : jDo2 (⟨⟨19, blockE, []⟩, false, false, ⟨1, [], 0, sumE, 24⟩⟩ : JS) = (⟨⟨19, blockE, []⟩, false, false, ⟨1, [], 0, sumE, 24⟩⟩, true) := by
    unfold jDo2; rw [if_neg (by show ¬ (24 < blockE.length); omega)]
  have h3 : jDo3 (codeOf csA).length (⟨⟨19, blockE, []⟩, false, false, ⟨1, [], 0, sumE, 24⟩⟩ : JS) = (⟨⟨19, blockE, []⟩, false, false, ⟨1, [], 0, sumE, 24⟩⟩, true) := by
    unfold jDo3; rw [if_neg (by unfold overfullP; decide)]
  have h4 : jDo4 csA (⟨⟨19, blockE, []⟩, false, false, ⟨1, [], 0, sumE, 24⟩⟩ : JS) = (⟨⟨0, blockE ++ blockA.take 19, []⟩, false, false, ⟨1, [], 0, sumE, 24⟩⟩, false) := by
    have hw : dWrite false blockA (DS.mk 19 blockE []) = (DS.mk 0 (blockE ++ blockA.take 19) [], false) := by
      unfold dWrite
      rw [if_neg (by show ¬ ((19 : Int) < 0); omega), if_neg (by show ¬ (((blockA.length : Nat) : Int) ≤ 19); omega)]
      rfl
    have hf := jDo4_failP (cs := csA) (s := (⟨⟨19, blockE, []⟩, false, false, ⟨1, [], 0, sumE, 24⟩⟩ : JS)) (by show (dWrite false blockA (DS.mk 19 blockE [])).2 = false; rw [hw])
    rw [hf]
    show ((⟨(dWrite false blockA (DS.mk 19 blockE [])).1, false, false, _⟩ : JS), false) = _
    rw [hw]
  unfold jDo
  rw [h1, show jThen ((⟨⟨19, blockE, []⟩, false, false, ⟨1, [], 0, sumE, 24⟩⟩ : JS), true) jDo2 = jDo2 _ from jThen_ok rfl, h2, show jThen ((⟨⟨19, blockE, []⟩, false, false, ⟨1, [], 0, sumE, 24⟩⟩ : JS), true) (jDo3 (codeOf csA).length) = jDo3 (codeOf csA).length _ from jThen_ok rfl, h3, show jThen ((⟨⟨19, blockE, []⟩, false, false, ⟨1, [], 0, sumE, 24⟩⟩ : JS), true) (jDo4 csA) = jDo4 csA _ from jThen_ok rfl, h4]
  rfl
theorem weak_len : sW.d.f0.length = 43 := by
  show (blockE ++ blockA.take 19).length = 43
  rw [List.length_append, blockE_len, List.length_take, blockA_len]; rfl
theorem chainE : Chain blockE ⟨1, [], 0, sumE, 24⟩ := by
  have h := readF_state (P := []) (gen := 1) List.Pairwise.nil ⟨fun e he => (by cases he), fun e he => (by cases he)⟩ (by decide) (by decide) (by decide)
  exact (readF_chain h).1
/-- what is found on it -/
def sX : JS := ⟨⟨-1, blockE ++ blockA.take 19, []⟩, false, false, ⟨1, [], 0, sumE, 24⟩⟩
theorem weak_open : jOpen ⟨-1, blockE ++ blockA.take 19, []⟩ = sX := by
  have h := readF_torn chainE blockE_len (subI sumE (codeOf csA)) (codeOf csA) 19 (by decide) (by decide)
  have e : openP ⟨-1, blockE ++ blockA.take 19, []⟩ = (false, ⟨1, [], 0, sumE, 24⟩) := openP_of (f := false) h (fun c' hc' => by
    have hc' : readF [] = some c' := hc'
    rw [readF_nil] at hc'; cases hc')
  unfold jOpen
  rw [e]; rfl
theorem weak_again : ∃ s, jCommit [⟨[98], [], false⟩] sX = (s, 0) ∧ s.d.f0.length = 42 := by
  have hb := blockE_len
  have hv : Valid [⟨[98], [], false⟩] := one_valid (by decide) (by decide) (by decide) (fun _ => rfl)
  have hm : May sX [⟨[98], [], false⟩] := ⟨by decide, by decide, hv, (fun c hc h => by obtain rfl := List.mem_singleton.1 hc; cases h), by decide⟩
  have hl : (codeOf [⟨[98], [], false⟩]).length = 6 := by decide
  rw [jCommit_eq rfl hm (by rintro ⟨h, _⟩; cases h), jDo_plain rfl (by decide) (by show 24 ≤ (blockE ++ blockA.take 19).length; rw [List.length_append]; omega) (by unfold overfullP; decide)]
  refine ⟨_, rfl, ?_⟩
  show ((blockE ++ blockA.take 19).take 24 ++ blockB _ _).length = 42
  rw [List.length_append, blockB_len, hl, List.length_take, List.length_append]
  omega
end Go.Proofs.YtondomklkapogaaDoor
