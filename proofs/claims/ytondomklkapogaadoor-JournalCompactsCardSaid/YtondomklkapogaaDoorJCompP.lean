/- Plain laws: a journal that is made short; the same entries make the same file. -/
import Derived.Test.YtondomklkapogaaDoorJHist
namespace Go.Proofs.YtondomklkapogaaDoor
open Go.RowKit SeedP Go.Maps
/-- the first file and the second by turns -/
def Par (s : JS) : Prop := 1 ≤ s.c.gen → s.file = decide (s.c.gen % 2 = 0)
theorem par_compact {S : List PEnts} {s : JS} (h : Hist S s) (hg : s.c.gen < 4611686018427387904) (hp : Par s) : Par (jCompact s).1 := by
  obtain ⟨_, _, hgen, hfile, _⟩ := (compact_live h.live hg).1 (h.compact hg).1
  intro _
  rw [hgen]
  rw [hfile]
  unfold compactFile
  split
  · rename_i h0; rw [h0]; rfl
  · rename_i h0
    rw [hp (by omega)]
    rcases Nat.mod_two_eq_zero_or_one s.c.gen with e | e
    · have : (s.c.gen + 1) % 2 = 1 := by omega
      simp [e, this]
    · have : (s.c.gen + 1) % 2 = 0 := by omega
      simp [e, this]
theorem par_commit {S : List PEnts} {s : JS} {cs : List Chg} (h : Hist S s) (hm : May s cs) (hg : s.c.gen + 2 < 4611686018427387904) (hp : Par s) : Par (jCommit cs s).1 ∧ 1 ≤ (jCommit cs s).1.c.gen := by
  rw [jCommit_eq h.live.up hm (by omega)]
  have hfull := jDo_full (cs := cs) h.pw
  unfold jPowered
  rw [if_pos hfull.1]
  obtain ⟨s1, e1, h1, p1, g1⟩ : ∃ s1, jDo1 s = (s1, true) ∧ Hist S s1 ∧ Par s1 ∧ 1 ≤ s1.c.gen ∧ s1.c.gen ≤ s.c.gen + 1 := by
    unfold jDo1
    split
    · obtain ⟨a, b, c, d⟩ := h.compact (by omega)
      exact ⟨(jCompact s).1, Prod.ext rfl a, b, par_compact h (by omega) hp, by omega, by omega⟩
    · exact ⟨s, rfl, h, hp, by omega, by omega⟩
  have e2 : jDo2 s1 = (s1, true) := by
    unfold jDo2
    rw [if_neg (by have := (h1.cur g1.1).fin; omega)]
  obtain ⟨s3, e3, h3, p3, g3⟩ : ∃ s3, jDo3 (codeOf cs).length s1 = (s3, true) ∧ Hist S s3 ∧ Par s3 ∧ 1 ≤ s3.c.gen := by
    unfold jDo3
    split
    · obtain ⟨a, b, c, d⟩ := h1.compact (by omega)
      exact ⟨(jCompact s1).1, Prod.ext rfl a, b, par_compact h1 (by omega) p1, by omega⟩
    · exact ⟨s1, rfl, h1, p1, g1.1⟩
  have hdo : jDo cs s = jDo4 cs s3 := by
    unfold jDo
    rw [e1, show jThen (s1, true) jDo2 = jDo2 s1 from jThen_ok rfl, e2, show jThen (s1, true) (jDo3 (codeOf cs).length) = jDo3 (codeOf cs).length s1 from jThen_ok rfl, e3, show jThen (s3, true) (jDo4 cs) = jDo4 cs s3 from jThen_ok rfl]
  rw [hdo, jDo4_plain (cs := cs) h3.pw]
  exact ⟨fun hg => p3 hg, g3⟩
/-- the last entries, set from the last one on -/
theorem put_front {P : PEnts} (ho : Ordered P) {t : Nat} (ht : t < P.length) : pChgs (P.drop (t + 1)) [⟨P[t].1, P[t].2, false⟩] = P.drop t := by
  have hb : ∀ e ∈ P.drop (t + 1), bytesBefore P[t].1 e.1 = true := by
    intro e he
    obtain ⟨j, hj, rfl⟩ := List.mem_drop_iff_getElem.1 he
    exact List.pairwise_iff_getElem.1 ho t (t + 1 + j) ht (by omega) (by omega)
  show pPut (P.drop (t + 1)) (P[t].1, P[t].2) = _
  unfold pPut
  rw [pDel_not]
  · have h := pIns_mid (A := []) (R := P.drop (t + 1)) (x := (P[t].1, P[t].2)) (fun e he => by cases he) hb
    rw [List.nil_append, List.nil_append] at h
    rw [h, List.drop_eq_getElem_cons ht]
  · intro hm
    obtain ⟨e, he, hek⟩ := List.mem_map.1 hm
    have := hb e he
    rw [hek, blt_irrefl] at this; cases this
/-- made short: the file has the entries alone -/
theorem short_file {S : List PEnts} {s : JS} (h : Hist S s) (hg : s.c.gen < 4611686018427387904) (hp : Par s) :
    (jCompact s).1.d.get (decide (s.c.gen % 2 = 1)) = blockB (subI 0 (stateB (s.c.gen + 1) s.c.ents)) (stateB (s.c.gen + 1) s.c.ents) := by
  obtain ⟨_, _, hgen, hfile, _, hnew, _⟩ := (compact_live h.live hg).1 (h.compact hg).1
  have hpc := par_compact h hg hp (by omega)
  rw [hgen, hfile] at hpc
  have e : compactFile s = decide (s.c.gen % 2 = 1) := by
    rw [hpc]
    rcases Nat.mod_two_eq_zero_or_one s.c.gen with e | e
    · have : (s.c.gen + 1) % 2 = 1 := by omega
      simp [e, this]
    · have : (s.c.gen + 1) % 2 = 0 := by omega
      simp [e, this]
  rw [← e]
  exact hnew
/-- a journal with power on a disk that was empty, whatever it has had -/
structure HE (s : JS) (P : PEnts) : Prop where
  hist : ∃ S, Hist S s
  par : Par s
  ents : s.c.ents = P
theorem HE.start : HE (jOpen ⟨-1, [], []⟩) [] := ⟨⟨_, Hist.start⟩, (fun h => by rw [jOpen_empty] at h; have h : 1 ≤ 0 := h; omega), by rw [jOpen_empty]; rfl⟩
theorem HE.live {s : JS} {P : PEnts} (h : HE s P) : Live s := by obtain ⟨S, hh⟩ := h.hist; exact hh.live
theorem HE.commit {s : JS} {P : PEnts} (h : HE s P) {cs : List Chg} (hm : May s cs) (hg : s.c.gen + 2 < 4611686018427387904) :
    (jCommit cs s).2 = 0 ∧ HE (jCommit cs s).1 (pChgs P cs) ∧ 1 ≤ (jCommit cs s).1.c.gen ∧ (jCommit cs s).1.c.gen ≤ s.c.gen + 2 := by
  obtain ⟨⟨S, hh⟩, hp, he⟩ := h
  obtain ⟨h1, h2, h3, h4⟩ := hh.commit (S' := pChgs s.c.ents cs :: S) hm hg (fun P hP => List.mem_cons_of_mem _ hP) (List.mem_cons_self ..)
  obtain ⟨p1, p2⟩ := par_commit hh hm hg hp
  exact ⟨h1, ⟨⟨_, h2⟩, p1, by rw [h3, he]⟩, p2, h4⟩
theorem HE.compact {s : JS} {P : PEnts} (h : HE s P) (hg : s.c.gen < 4611686018427387904) :
    (jCompactOp s).2 = 0 ∧ HE (jCompactOp s).1 P ∧ (jCompactOp s).1.c.gen = s.c.gen + 1 ∧ (jCompactOp s).1.d.get (decide (s.c.gen % 2 = 1)) = blockB (subI 0 (stateB (s.c.gen + 1) P)) (stateB (s.c.gen + 1) P) := by
  obtain ⟨⟨S, hh⟩, hp, he⟩ := h
  obtain ⟨h1, h2, h3, h4⟩ := hh.compact hg
  have hf := short_file hh hg hp
  have hpc := par_compact hh hg hp
  have e : jCompactOp s = ((jCompact s).1, 0) := by
    unfold jCompactOp
    rw [if_neg (by rw [hh.live.up]; simp), if_neg (by omega)]
    unfold jPowered
    rw [if_pos h1]
  rw [e]
  exact ⟨rfl, ⟨⟨S, h2⟩, hpc, by rw [h3, he]⟩, h4, by rw [hf, he]⟩
/-- a commit that fits keeps the generation -/
theorem gen_same {s : JS} {cs : List Chg} (h : Live s) (hpw : s.d.pw = -1) (hm : May s cs) (hg : 1 ≤ s.c.gen) (hg2 : s.c.gen < 4611686018427387904) (ho : overfullP s (codeOf cs).length = false) :
    (jCommit cs s).1.c.gen = s.c.gen ∧ (jCommit cs s).1.c.ed = s.c.ed + 12 + (codeOf cs).length := by
  rw [jCommit_eq h.up hm (by omega), jDo_plain hpw hg (h.chain hg).good.ed.2 ho]
  exact ⟨rfl, rfl⟩
/-- the entries set from the last one on: what the second journal has behind those from t on -/
structure CK (P : PEnts) (t : Nat) (s : JS) : Prop where
  he : HE s (P.drop t)
  first : t = P.length → s = jOpen ⟨-1, [], []⟩
  rest : t < P.length → s.c.gen = 1 ∧ s.c.ed ≤ 24 + 40 * (P.length - t)
theorem CK.start (P : PEnts) : CK P P.length (jOpen ⟨-1, [], []⟩) := ⟨by rw [List.drop_length]; exact HE.start, fun _ => rfl, fun h => by omega⟩
theorem CK.may {P : PEnts} (hF : Few P) {t : Nat} {s : JS} (h : CK P (t + 1) s) (ht : t < P.length) : May s [⟨P[t].1, P[t].2, false⟩] := by
  obtain ⟨n, hn⟩ := hF.key P[t] (List.getElem_mem ht)
  have hv := hF.val P[t] (List.getElem_mem ht)
  have hk : P[t].1.length = 2 := by rw [hn]; rfl
  have hd : Few (P.drop (t + 1)) := ⟨List.Pairwise.sublist (List.drop_sublist _ _) hF.ord, (fun e he => hF.key e (List.mem_of_mem_drop he)), (fun e he => hF.val e (List.mem_of_mem_drop he))⟩
  refine ⟨by simp, by simp, one_valid (by show 1 ≤ P[t].1.length; omega) (by show P[t].1.length ≤ 40; omega) (by show P[t].2.length ≤ 4096; omega) (fun h => by cases h), (fun c hc hd => by obtain rfl := List.mem_singleton.1 hc; cases hd), ?_⟩
  have h3 := pChgs_wt s.c.ents [⟨P[t].1, P[t].2, false⟩] (ord_nodup (by rw [h.he.ents]; exact hd.ord)) (by simp)
  rw [h.he.live.ok.wt, ← h3.2, h.he.ents]
  have := (hd.chgs (cs := [⟨P[t].1, P[t].2, false⟩]) (fun c hc => by obtain rfl := List.mem_singleton.1 hc; exact ⟨⟨n, hn⟩, hv⟩)).wt
  omega
theorem CK.next {P : PEnts} (hF : Few P) {t : Nat} {s : JS} (h : CK P (t + 1) s) (ht : t < P.length) :
    (jCommit [⟨P[t].1, P[t].2, false⟩] s).2 = 0 ∧ CK P t (jCommit [⟨P[t].1, P[t].2, false⟩] s).1 := by
  have hm := h.may hF ht
  have hlen : (codeOf [⟨P[t].1, P[t].2, false⟩]).length ≤ 10 := by
    rw [codeOf_len]
    obtain ⟨n, hn⟩ := hF.key P[t] (List.getElem_mem ht)
    have hv := hF.val P[t] (List.getElem_mem ht)
    have hk : P[t].1.length = 2 := by rw [hn]; rfl
    unfold codeSize
    simp only [chgSize, List.map_cons, List.map_nil, List.sum_cons, List.sum_nil, Bool.false_eq_true, if_false]
    omega
  have hg0 : s.c.gen ≤ 1 := by
    by_cases e : t + 1 < P.length
    · rw [(h.rest e).1]; exact Nat.le_refl _
    · rw [h.first (by omega), jOpen_empty]; exact Nat.zero_le _
  obtain ⟨c1, c2, c3, c4⟩ := h.he.commit hm (by omega)
  refine ⟨c1, ⟨by rw [← put_front hF.ord ht]; exact c2, fun e => by omega, fun _ => ?_⟩⟩
  by_cases e : t + 1 < P.length
  · obtain ⟨r1, r2⟩ := h.rest e
    have h9 := hF.len
    have ho : overfullP s (codeOf [⟨P[t].1, P[t].2, false⟩]).length = false := by
      unfold overfullP
      rw [decide_eq_false_iff_not]
      omega
    obtain ⟨S, hh⟩ := h.he.hist
    obtain ⟨g1, g2⟩ := gen_same h.he.live hh.pw hm (by omega) (by omega) ho
    exact ⟨by omega, by omega⟩
  · have hz := h.first (by omega)
    subst hz
    rw [jOpen_empty] at hm ⊢
    rw [first_commit hm]
    refine ⟨rfl, ?_⟩
    show 36 + _ ≤ _
    omega
end Go.Proofs.YtondomklkapogaaDoor
