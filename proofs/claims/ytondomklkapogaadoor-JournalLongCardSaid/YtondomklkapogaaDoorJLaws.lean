/- Plain laws: all or nothing. -/
import Derived.Test.YtondomklkapogaaDoorJLive
namespace Go.Proofs.YtondomklkapogaaDoor
open Go.RowKit SeedP Go.Maps
theorem dCut_fail {f : Bool} {n : Nat} {d : DS} (h : (dCut f n d).2 = false) : (dCut f n d).1 = d := by
  unfold dCut at h ⊢
  split at h <;> rename_i h1
  · cases h
  · rw [if_neg h1]
    split at h <;> rename_i h2
    · rw [if_pos h2]
    · cases h
theorem dWrite_fail {f : Bool} {b : List UInt8} {d : DS} (h : (dWrite f b d).2 = false) : ∃ k, k < b.length ∧ (dWrite f b d).1.get f = d.get f ++ b.take k ∧ (dWrite f b d).1.get (!f) = d.get (!f) ∧ (dWrite f b d).1.pw = 0 := by
  unfold dWrite at h ⊢
  split at h <;> rename_i h1
  · cases h
  · rw [if_neg h1]
    split at h <;> rename_i h2
    · cases h
    · rw [if_neg h2]
      exact ⟨d.pw.toNat, by omega, DS.get_put _ _ _, DS.get_put_not _ _ _, by cases f <;> rfl⟩
/-- the disk, opened again, has these entries, and no generation above g -/
structure Has (d : DS) (P : PEnts) (g : Nat) : Prop where
  ok : d.Ok
  ents : (openP d).2.ents = P
  gen : (openP d).2.gen ≤ g
theorem Live.has {s : JS} (h : Live s) : Has s.d s.c.ents s.c.gen := ⟨h.ok.d, by rw [live_open h], by rw [live_open h]; exact Nat.le_refl _⟩
theorem Has.mono {d : DS} {P : PEnts} {g g' : Nat} (h : Has d P g) (hg : g ≤ g') : Has d P g' := ⟨h.ok, h.ents, Nat.le_trans h.gen hg⟩
theorem Live.wt {s : JS} (h : Live s) : pWt s.c.ents ≤ 131072 := by have := h.ok.wt; have := h.ok.max; omega
theorem Live.chain {s : JS} (h : Live s) (hg : 1 ≤ s.c.gen) : Chain (s.d.get s.file) s.c := (readF_chain (h.cur hg)).1
theorem compactFile_zero {s : JS} (h : s.c.gen = 0) : compactFile s = false := by unfold compactFile; rw [if_pos h]
theorem compactFile_pos {s : JS} (h : 1 ≤ s.c.gen) : compactFile s = !s.file := by unfold compactFile; rw [if_neg (by omega)]
/-- what the other file says has no weight, whatever it says below this generation -/
theorem compact_live {s : JS} (h : Live s) (hg : s.c.gen < 4611686018427387904) :
    ((jCompact s).2 = true → Live (jCompact s).1 ∧ (jCompact s).1.c.ents = s.c.ents ∧ (jCompact s).1.c.gen = s.c.gen + 1 ∧ (jCompact s).1.file = compactFile s ∧ (jCompact s).1.c.ed = 12 + (stateB (s.c.gen + 1) s.c.ents).length ∧
      (jCompact s).1.d.get (compactFile s) = blockB (subI 0 (stateB (s.c.gen + 1) s.c.ents)) (stateB (s.c.gen + 1) s.c.ents) ∧ (jCompact s).1.d.get (!compactFile s) = s.d.get (!compactFile s)) ∧
    ((jCompact s).2 = false → Has (jCompact s).1.d s.c.ents s.c.gen) := by
  have hok := jCompact_ok h.ok hg
  have hl := stateB_len (s.c.gen + 1) s.c.ents
  have hwt := h.wt
  have hst := readF_state h.ord h.small hwt (show 1 ≤ s.c.gen + 1 by omega) (by omega)
  rcases jCompact_cases s with ⟨d, he, hd⟩ | ⟨d, he, hk, hd⟩
  · rw [he] at hok ⊢
    refine ⟨(fun hf => by cases hf), fun _ => ?_⟩
    show Has d s.c.ents s.c.gen
    rcases hd with hd | ⟨hk, hd⟩
    · have := dCut_fail (f := compactFile s) (n := 0) (d := s.d) (by rw [hd])
      rw [hd] at this
      have this : d = s.d := this
      rw [this]; exact h.has
    · have hc := dCut_get hk (Nat.zero_le _)
      obtain ⟨k, hk2, hf1, hf2, _⟩ := dWrite_fail (f := compactFile s) (b := blockB (subI 0 (stateB (s.c.gen + 1) s.c.ents)) (stateB (s.c.gen + 1) s.c.ents)) (d := (dCut (compactFile s) 0 s.d).1) (by rw [hd])
      rw [hd, hc.1, List.take_zero, List.nil_append] at hf1
      rw [hd, hc.2] at hf2
      rw [blockB_len] at hk2
      have hn := readF_torn0 (subI 0 (stateB (s.c.gen + 1) s.c.ents)) (stateB (s.c.gen + 1) s.c.ents) k (by omega) hk2
      rw [← hf1] at hn
      have hdo : d.Ok := hok.1.d
      rcases Nat.eq_zero_or_pos s.c.gen with hz | hp
      · rw [compactFile_zero hz] at hn hf2
        have h0 := h.zero hz
        have e : openP d = (false, zeroC) := openP_zero hn (by have hf2 : d.f1 = s.d.f1 := hf2; rw [hf2]; exact h.other_none hz)
        exact ⟨hdo, by rw [e, h0.1], by rw [e, h0.1]; exact Nat.le_refl _⟩
      · rw [compactFile_pos hp] at hn hf2
        rw [Bool.not_not] at hf2
        have e : openP d = (s.file, s.c) := openP_of (by rw [hf2]; exact h.cur hp) (fun c' hc' => by rw [hn] at hc'; cases hc')
        exact ⟨hdo, by rw [e], by rw [e]; exact Nat.le_refl _⟩
  · rw [he] at hok ⊢
    refine ⟨fun _ => ?_, fun hf => by cases hf⟩
    have hc := dCut_get hk (Nat.zero_le _)
    have hw := dWrite_get (f := compactFile s) (b := blockB (subI 0 (stateB (s.c.gen + 1) s.c.ents)) (stateB (s.c.gen + 1) s.c.ents)) (d := (dCut (compactFile s) 0 s.d).1) (by rw [hd])
    rw [hd, hc.1, hc.2, List.take_zero, List.nil_append] at hw
    refine ⟨⟨hok.1, h.up, h.ord, h.small, fun _ => ?_, ?_, fun hz => ?_⟩, rfl, rfl, rfl, rfl, hw.1, hw.2⟩
    · show readF (d.get (compactFile s)) = _
      rw [hw.1, hst, ← h.ok.wt]
    · intro c' hc'
      have hc' : readF (d.get (!compactFile s)) = some c' := hc'
      rw [hw.2] at hc'
      have hlt : c'.gen ≤ s.c.gen := by
        rcases Nat.eq_zero_or_pos s.c.gen with hz | hp
        · rw [compactFile_zero hz] at hc'
          rw [show s.d.get (!false) = s.d.f1 from rfl, h.other_none hz] at hc'; cases hc'
        · rw [compactFile_pos hp, Bool.not_not, h.cur hp] at hc'
          cases hc'; exact Nat.le_refl _
      exact ⟨by show c'.gen ≤ s.c.gen + 1; omega, fun _ => by show c'.gen < s.c.gen + 1; omega⟩
    · have hz : s.c.gen + 1 = 0 := hz; omega
/-- a step of Commit keeps the entries, and the disk has them if the power fails in it -/
def Step (P : PEnts) (g : Nat) (r : JS × Bool) : Prop := (r.2 = true → Live r.1 ∧ r.1.c.ents = P ∧ r.1.c.gen ≤ g) ∧ (r.2 = false → Has r.1.d P g)
theorem do1_live {s : JS} (h : Live s) : Step s.c.ents (s.c.gen + if s.c.gen = 0 then 1 else 0) (jDo1 s) ∧ ((jDo1 s).2 = true → 1 ≤ (jDo1 s).1.c.gen) := by
  unfold jDo1
  split
  · rename_i hz
    have hc := compact_live h (by omega)
    refine ⟨⟨fun hk => ?_, fun hk => (hc.2 hk).mono (by omega)⟩, fun hk => ?_⟩
    · have := hc.1 hk; exact ⟨this.1, this.2.1, by omega⟩
    · have := hc.1 hk; omega
  · exact ⟨⟨(fun _ => ⟨h, rfl, Nat.le_add_right _ _⟩), (fun hk => by cases hk)⟩, (fun _ => by show 1 ≤ s.c.gen; omega)⟩
theorem do2_live {s : JS} (h : Live s) (hg : 1 ≤ s.c.gen) : Step s.c.ents s.c.gen (jDo2 s) ∧ ((jDo2 s).2 = true → (jDo2 s).1.c = s.c ∧ ((jDo2 s).1.d.get (jDo2 s).1.file).length = s.c.ed) := by
  have hch := h.chain hg
  have hed := hch.good.ed
  unfold jDo2
  split
  · rename_i hlt
    cases hk : (dCut s.file s.c.ed s.d).2 with
    | false =>
      refine ⟨⟨(fun hf => by cases hf), fun _ => ?_⟩, (fun hf => by cases hf)⟩
      show Has (dCut s.file s.c.ed s.d).1 _ _
      rw [dCut_fail hk]; exact h.has
    | true =>
      have hc := dCut_get hk (Nat.le_of_lt hlt)
      refine ⟨⟨fun _ => ⟨⟨h.ok.setD (dCut_ok h.ok.d _ _), h.up, h.ord, h.small, fun _ => ?_, ?_, fun hz => ?_⟩, rfl, Nat.le_refl _⟩, (fun hf => by cases hf)⟩, fun _ => ⟨rfl, ?_⟩⟩
      · show readF ((dCut s.file s.c.ed s.d).1.get s.file) = _
        rw [hc.1]; exact readF_cut hch
      · intro c' hc'
        have hc' : readF ((dCut s.file s.c.ed s.d).1.get (!s.file)) = some c' := hc'
        rw [hc.2] at hc'; exact h.other c' hc'
      · have hz : s.c.gen = 0 := hz; omega
      · show ((dCut s.file s.c.ed s.d).1.get s.file).length = _
        rw [hc.1, List.length_take]; omega
  · exact ⟨⟨(fun _ => ⟨h, rfl, Nat.le_refl _⟩), (fun hf => by cases hf)⟩, (fun _ => ⟨rfl, by show (s.d.get s.file).length = _; omega⟩)⟩
theorem do3_live {s : JS} {n : Nat} (h : Live s) (hg : 1 ≤ s.c.gen) (hl : (s.d.get s.file).length = s.c.ed) (hm : overfullP s n = true → s.c.gen < 4611686018427387904) :
    Step s.c.ents (s.c.gen + 1) (jDo3 n s) ∧ ((jDo3 n s).2 = true → 1 ≤ (jDo3 n s).1.c.gen ∧ ((jDo3 n s).1.d.get (jDo3 n s).1.file).length = (jDo3 n s).1.c.ed) := by
  unfold jDo3
  split
  · rename_i ho
    have hc := compact_live h (hm ho)
    refine ⟨⟨fun hk => ?_, fun hk => (hc.2 hk).mono (by omega)⟩, fun hk => ?_⟩
    · have := hc.1 hk; exact ⟨this.1, this.2.1, by omega⟩
    · obtain ⟨_, _, h2, h3, h4, h5, _⟩ := hc.1 hk
      refine ⟨by omega, ?_⟩
      rw [h3, h5, h4, blockB_len]
  · exact ⟨⟨(fun _ => ⟨h, rfl, Nat.le_add_right _ _⟩), (fun hf => by cases hf)⟩, (fun _ => ⟨hg, hl⟩)⟩
theorem do4_live {s : JS} {cs : List Chg} (h : Live s) (hg : 1 ≤ s.c.gen) (hl : (s.d.get s.file).length = s.c.ed) (hok : (jDo4 cs s).1.Ok) (hv : Valid cs) (h1 : 1 ≤ cs.length) (h2 : cs.length ≤ 64) (hp : pPoss s.c.ents s.c.wt cs = true) :
    ((jDo4 cs s).2 = true → Live (jDo4 cs s).1 ∧ (jDo4 cs s).1.c.ents = pChgs s.c.ents cs ∧ (jDo4 cs s).1.c.gen = s.c.gen) ∧ ((jDo4 cs s).2 = false → Has (jDo4 cs s).1.d s.c.ents s.c.gen) := by
  have hch := h.chain hg
  have hlen := codeOf_len cs
  have hsz := hv.size
  unfold jDo4 at hok ⊢
  simp only [] at hok ⊢
  rcases hx : dWrite s.file (blockB (subI s.c.sum (codeOf cs)) (codeOf cs)) s.d with ⟨d2, b2⟩
  rw [hx] at hok
  cases b2
  · refine ⟨(fun hf => by cases hf), fun _ => ?_⟩
    obtain ⟨k, hk, hf1, hf2, _⟩ := dWrite_fail (f := s.file) (b := blockB (subI s.c.sum (codeOf cs)) (codeOf cs)) (d := s.d) (by rw [hx])
    rw [hx] at hf1 hf2
    rw [blockB_len] at hk
    have e : openP d2 = (s.file, s.c) := openP_of (by
      have hf1 : d2.get s.file = _ := hf1
      rw [hf1]; exact readF_torn hch hl _ _ _ (by omega) hk) (fun c' hc' => h.other c' (by have hf2 : d2.get (!s.file) = _ := hf2; rw [hf2] at hc'; exact hc'))
    exact ⟨hok.d, by show (openP d2).2.ents = _; rw [e], by show (openP d2).2.gen ≤ _; rw [e]; exact Nat.le_refl _⟩
  · refine ⟨fun _ => ?_, (fun hf => by cases hf)⟩
    have hw := dWrite_get (f := s.file) (b := blockB (subI s.c.sum (codeOf cs)) (codeOf cs)) (d := s.d) (by rw [hx])
    rw [hx] at hw
    refine ⟨⟨hok, h.up, pChgs_ord h.ord cs, h.small.chgs hv.key hv.val, fun _ => ?_, ?_, fun hz => ?_⟩, rfl, rfl⟩
    · show readF (d2.get s.file) = _
      have hw1 : d2.get s.file = _ := hw.1
      rw [hw1]; exact readF_commit hch hl hv h1 h2 hp
    · intro c' hc'
      have hc' : readF (d2.get (!s.file)) = some c' := hc'
      have hw2 : d2.get (!s.file) = _ := hw.2
      rw [hw2] at hc'; exact h.other c' hc'
    · have hz : s.c.gen = 0 := hz; omega
theorem jThen_ok {r : JS × Bool} {k : JS → JS × Bool} (h : r.2 = true) : jThen r k = k r.1 := by unfold jThen; rw [if_pos h]
theorem jThen_no {r : JS × Bool} {k : JS → JS × Bool} (h : r.2 = false) : jThen r k = r := by unfold jThen; rw [if_neg (by rw [h]; simp)]
theorem do_live {s : JS} {cs : List Chg} (h : Live s) (hv : Valid cs) (h1 : 1 ≤ cs.length) (h2 : cs.length ≤ 64) (hp : pPoss s.c.ents s.c.wt cs = true) (hm : s.c.gen = 4611686018427387904 → overfullP s (codeOf cs).length = false) :
    ((jDo cs s).2 = true → Live (jDo cs s).1 ∧ (jDo cs s).1.c.ents = pChgs s.c.ents cs ∧ (jDo cs s).1.c.gen ≤ s.c.gen + 2) ∧ ((jDo cs s).2 = false → Has (jDo cs s).1.d s.c.ents (s.c.gen + 2)) ∧ (jDo cs s).1.Ok := by
  have hlen := codeOf_len cs
  have hsz := hv.size
  have hpw : pWAfter s.c.ents s.c.wt cs ≤ 131072 := pPoss_ok hp
  have h3 := jDo3_ok (n := (codeOf cs).length) h.ok (by omega) hm
  unfold jDo
  cases hb1 : (jDo1 s).2 with
  | false =>
    have d1 := (do1_live h).1.2 hb1
    rw [jThen_no hb1, jThen_no hb1, jThen_no hb1]
    exact ⟨(fun hf => by rw [hb1] at hf; cases hf), (fun _ => d1.mono (by split <;> omega)), h3.2.2.1⟩
  | true =>
    obtain ⟨l1, e1, g1⟩ := (do1_live h).1.1 hb1
    have p1 := (do1_live h).2 hb1
    have g1 : (jDo1 s).1.c.gen ≤ s.c.gen + 1 := by split at g1 <;> omega
    have o3 := h3.2.2.2 hb1
    have h30 := h3.1
    have h31 := h3.2.1
    rw [jThen_ok hb1] at h30 h31 ⊢
    generalize (jDo1 s).1 = s1 at *
    cases hb2 : (jDo2 s1).2 with
    | false =>
      have d2 := (do2_live l1 p1).1.2 hb2
      rw [jThen_no hb2, jThen_no hb2]
      exact ⟨(fun hf => by rw [hb2] at hf; cases hf), (fun _ => by rw [← e1]; exact d2.mono (by omega)), o3.1⟩
    | true =>
      obtain ⟨l2, e2, g2⟩ := (do2_live l1 p1).1.1 hb2
      have q2 := (do2_live l1 p1).2 hb2
      have m2 := o3.2 hb2
      rw [jThen_ok hb2] at h30 h31 ⊢
      generalize (jDo2 s1).1 = s2 at *
      have p2 : 1 ≤ s2.c.gen := by rw [q2.1]; exact p1
      have hl2 : (s2.d.get s2.file).length = s2.c.ed := by rw [q2.2, q2.1]
      have d3 := do3_live (n := (codeOf cs).length) l2 p2 hl2 m2
      cases hb3 : (jDo3 (codeOf cs).length s2).2 with
      | false =>
        have d3 := d3.1.2 hb3
        rw [jThen_no hb3]
        exact ⟨(fun hf => by rw [hb3] at hf; cases hf), (fun _ => by rw [← e1, ← e2]; exact d3.mono (by omega)), h30⟩
      | true =>
        obtain ⟨l3, e3, g3⟩ := d3.1.1 hb3
        have q3 := d3.2 hb3
        have h31 := h31 hb3
        rw [jThen_ok hb3]
        generalize (jDo3 (codeOf cs).length s2).1 = s3 at *
        have ee : s3.c.ents = s.c.ents := by rw [e3, e2, e1]
        have ew : s3.c.wt = s.c.wt := by rw [l3.ok.wt, ee, ← h.ok.wt]
        have ok4 := jDo4_ok l3.ok h31 hv (by rw [ee, ew]; exact hpw)
        have d4 := do4_live l3 q3.1 q3.2 ok4 hv h1 h2 (by rw [ee, ew]; exact hp)
        refine ⟨fun hk => ?_, fun hk => ?_, ok4⟩
        · obtain ⟨l4, e4, g4⟩ := d4.1 hk
          exact ⟨l4, by rw [e4, ee], by omega⟩
        · rw [← ee]; exact (d4.2 hk).mono (by omega)
end Go.Proofs.YtondomklkapogaaDoor
