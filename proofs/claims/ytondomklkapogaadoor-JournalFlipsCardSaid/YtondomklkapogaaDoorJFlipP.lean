/- Flips, in plain words: where a good file's blocks begin; a byte stored into a file. -/
import Derived.Test.YtondomklkapogaaDoorJHist
import Derived.Test.YtondomklkapogaaDoorJLibZ
namespace Go.Proofs.YtondomklkapogaaDoor
open Go.RowKit SeedP Go.Maps
theorem HI.step {S : List PEnts} {file : List UInt8} {c c' : Cont} (h : HI S file c) (hc : Chain file c') (hl : c'.ed < file.length) : c'.ed + 12 + bLen (file.drop c'.ed) ≤ file.length ∧ ∃ c2, Chain file c2 ∧ c2.ed = c'.ed + 12 + bLen (file.drop c'.ed) := by
  rcases (h.all c' hc).2 with e | ⟨code, s, cs, hn, hr, hp⟩
  · subst e
    have := h.fin; omega
  · have h1 := nextB_some hn
    have h2 := h1.1
    rw [List.length_drop] at h2
    rw [← h1.2.1]
    exact ⟨by omega, _, Chain.next hc hn hr hp, rfl⟩
/-- every block is whole -/
theorem HI.pos {S : List PEnts} {file : List UInt8} {c : Cont} (h : HI S file c) : ∀ i, posB file i < file.length → posB file i + 12 + bLen (file.drop (posB file i)) ≤ file.length ∧ (i = 0 ∨ ∃ c', Chain file c' ∧ c'.ed = posB file i)
  | 0, hl => by
    obtain ⟨code, s, gen, P, wt, hn, hr⟩ := h.first
    have h1 := nextB_some hn
    rw [posB, List.drop_zero, ← h1.2.1]
    exact ⟨by have := h1.1; omega, Or.inl rfl⟩
  | i + 1, hl => by
    have hle := posB_mono file (show i ≤ i + 1 by omega)
    have ih := HI.pos h i (by omega)
    obtain ⟨c', hc, he⟩ : ∃ c', Chain file c' ∧ c'.ed = posB file (i + 1) := by
      rcases ih.2 with rfl | ⟨c1, hc1, he1⟩
      · obtain ⟨code, s, gen, P, wt, hn, hr⟩ := h.first
        refine ⟨_, Chain.start hn hr, ?_⟩
        have h1 := nextB_some hn
        rw [posB, posB, List.drop_zero, ← h1.2.1, Nat.zero_add]
      · obtain ⟨_, c2, hc2, he2⟩ := h.step hc1 (by rw [he1]; omega)
        exact ⟨c2, hc2, by rw [he2, he1, posB]⟩
    have h3 := h.step hc (by rw [he]; exact hl)
    rw [he] at h3
    exact ⟨h3.1, Or.inr ⟨c', hc, he⟩⟩
theorem FileH.pos {S : List PEnts} {file : List UInt8} (h : FileH S file) (i : Nat) (hl : posB file i < file.length) : posB file i + 12 + bLen (file.drop (posB file i)) ≤ file.length := by
  rcases h with rfl | ⟨c, h⟩
  · simp at hl
  · exact (h.pos i hl).1
theorem bLen_four (file : List UInt8) (p : Nat) (h : p + 4 ≤ file.length) : bLen (file.drop p) = (file.getD p 0).toNat * 16777216 + (file.getD (p + 1) 0).toNat * 65536 + (file.getD (p + 2) 0).toNat * 256 + (file.getD (p + 3) 0).toNat := by
  have hg : ∀ j, p + j < file.length → (file.drop p)[j]? = some (file.getD (p + j) 0) := fun j hj => by
    rw [List.getElem?_drop, List.getD_eq_getElem?_getD, List.getElem?_eq_getElem hj]; rfl
  have e : (file.drop p).take 4 = [file.getD p 0, file.getD (p + 1) 0, file.getD (p + 2) 0, file.getD (p + 3) 0] := by
    refine List.ext_getElem? (fun j => ?_)
    rw [List.getElem?_take]
    by_cases hj : j < 4
    · rw [if_pos hj, hg j (by omega)]
      rcases j with _ | _ | _ | _ | j
      · rfl
      · rfl
      · rfl
      · rfl
      · omega
    · rw [if_neg hj]
      rcases j with _ | _ | _ | _ | j <;> first | omega | rfl
  unfold bLen
  rw [e, numV_cons, numV_cons, numV_cons, numV_cons]
  simp only [List.length_cons, List.length_nil]
  have : numV [] = 0 := rfl
  omega
/-- a byte of a file is turned -/
theorem DW.poke {w : World} {db : Nat} {p : Nat → Prop} {d : DS} (h : DW w db p d) (hpd : ∀ g, p g → g ≠ db) (f : Bool) (hne : d.get f ≠ []) :
    ∃ g off cap, w.cell? ⟨db, if f then 2 else 1, none⟩ = some (.slice (some ⟨g, off, none⟩) (d.get f).length cap) ∧ (d.get f).length ≤ cap ∧ cap ≤ maxLen ∧ p g ∧ g < w.heap.size ∧ (∀ o, w.frozen? ⟨g, o, none⟩ = false) ∧ (∀ j, j < (d.get f).length → w.cell? ⟨g, off + j, none⟩ = some (.int .u8 ((d.get f).getD j 0).toNat)) ∧
      ∀ w1, Below w.heap.size w w1 → ∀ k, k < (d.get f).length → ∀ b : UInt8, DW (w1.setCell ⟨g, off + k, none⟩ (.int .u8 b.toNat)) db p (d.put f ((d.get f).set k b)) := by
  obtain ⟨v0, v1, q0, q1, hb, hr0, hr1, hq0, hq1, hun⟩ := h
  have hset : ∀ {w : World} {q : Nat → Prop} {l : List UInt8} {v : Value} {g off cap : Nat}, v = .slice (some ⟨g, off, none⟩) l.length cap → l.length ≤ cap → cap ≤ maxLen → q g → (∀ j, j < l.length → w.cell? ⟨g, off + j, none⟩ = some (.int .u8 (l.getD j 0).toNat)) → ∀ k, k < l.length → ∀ b : UInt8, RdP (w.setCell ⟨g, off + k, none⟩ (.int .u8 b.toNat)) q v (l.set k b) := by
    intro w q l v g off cap e hc hm hq hj k hk b
    refine Or.inr ⟨g, off, cap, by rw [List.length_set]; exact e, by rw [List.length_set]; exact hc, hm, hq, fun j hlt => ?_⟩
    rw [List.length_set] at hlt
    by_cases e2 : k = j
    · subst e2
      rw [World.cell?_setCell_same _ _ _ (hj k hk)]
      rw [List.getD_eq_getElem?_getD, List.getElem?_set_self hk]; rfl
    · rw [World.cell?_setCell_other _ _ _ _ (fun e3 => e2 (by simp only [Addr.mk.injEq, and_true, true_and] at e3; omega)), hj j hlt]
      rw [List.getD_eq_getElem?_getD, List.getD_eq_getElem?_getD, List.getElem?_set_ne e2]
  cases f with
  | false =>
    rcases hr0 with ⟨_, e⟩ | ⟨g, off, cap, e, hc, hm, hq, hj⟩
    · exact absurd e hne
    · have hg := hq0 g hq
      have hl := (hun g (Or.inl hq)).1
      refine ⟨g, off, cap, ?_, hc, hm, hg.1, hl, (hun g (Or.inl hq)).2, hj, fun w1 hB k hk b => ?_⟩
      · have := hb.cell 1 (by simp)
        simp only [List.getD_cons_succ, List.getD_cons_zero] at this
        rw [e] at this; exact this
      · have hG : Grown (fun _ => False) w w1 := Grown.of_below hB
        have hb := hb.below hB
        have hr1 := hr1.grown hG (fun _ _ h => h)
        have hj : ∀ j, j < d.f0.length → w1.cell? ⟨g, off + j, none⟩ = some (.int .u8 (d.f0.getD j 0).toNat) := fun j h => (hB.cell (p := ⟨g, off + j, none⟩) hl).trans (hj j h)
        have hun1 : ∀ g', (q0 g' ∨ q1 g') → g' < w1.heap.size ∧ UnB w1 g' := fun g' hq' => ⟨Nat.lt_of_lt_of_le (hun g' hq').1 hB.size, (hun g' hq').2.keep (hG.block g' (hun g' hq').1 (fun h => h))⟩
        have hgr : Grown (fun k => k = g) w1 (w1.setCell ⟨g, off + k, none⟩ (.int .u8 b.toNat)) := Grown.setCell (S := fun k => k = g) (Grown.refl _ _) (a := ⟨g, off + k, none⟩) rfl _
        refine ⟨v0, v1, q0, q1, hb.grown hgr (fun e => hpd g hg.1 e.symm), hset e hc hm hq hj k hk b, hr1.grown hgr (fun g' hq' e' => hg.2 (e' ▸ hq')), hq0, hq1, fun g' hq' => ⟨Nat.lt_of_lt_of_le (hun1 g' hq').1 hgr.size, fun o => ?_⟩⟩
        rw [World.frozen?_setCell]; exact (hun1 g' hq').2 o
  | true =>
    rcases hr1 with ⟨_, e⟩ | ⟨g, off, cap, e, hc, hm, hq, hj⟩
    · exact absurd e hne
    · have hg := hq1 g hq
      have hl := (hun g (Or.inr hq)).1
      refine ⟨g, off, cap, ?_, hc, hm, hg, hl, (hun g (Or.inr hq)).2, hj, fun w1 hB k hk b => ?_⟩
      · have := hb.cell 2 (by simp)
        simp only [List.getD_cons_succ, List.getD_cons_zero] at this
        rw [e] at this; exact this
      · have hG : Grown (fun _ => False) w w1 := Grown.of_below hB
        have hb := hb.below hB
        have hr0 := hr0.grown hG (fun _ _ h => h)
        have hj : ∀ j, j < d.f1.length → w1.cell? ⟨g, off + j, none⟩ = some (.int .u8 (d.f1.getD j 0).toNat) := fun j h => (hB.cell (p := ⟨g, off + j, none⟩) hl).trans (hj j h)
        have hun1 : ∀ g', (q0 g' ∨ q1 g') → g' < w1.heap.size ∧ UnB w1 g' := fun g' hq' => ⟨Nat.lt_of_lt_of_le (hun g' hq').1 hB.size, (hun g' hq').2.keep (hG.block g' (hun g' hq').1 (fun h => h))⟩
        have hgr : Grown (fun k => k = g) w1 (w1.setCell ⟨g, off + k, none⟩ (.int .u8 b.toNat)) := Grown.setCell (S := fun k => k = g) (Grown.refl _ _) (a := ⟨g, off + k, none⟩) rfl _
        refine ⟨v0, v1, q0, q1, hb.grown hgr (fun e => hpd g hg e.symm), hr0.grown hgr (fun g' hq' e' => (hq0 g' hq').2 (e' ▸ hq)), hset e hc hm hq hj k hk b, hq0, hq1, fun g' hq' => ⟨Nat.lt_of_lt_of_le (hun1 g' hq').1 hgr.size, fun o => ?_⟩⟩
        rw [World.frozen?_setCell]; exact (hun1 g' hq').2 o
/-- the disk of a law's journal with a byte turned -/
theorem JZ.poke {B : Nat} {p : Nat → Prop} {w : World} {db jb mb : Nat} {s : JS} (h : JZ B p w db jb mb s) (f : Bool) (hne : s.d.get f ≠ []) :
    ∃ g off cap, w.cell? ⟨db, if f then 2 else 1, none⟩ = some (.slice (some ⟨g, off, none⟩) (s.d.get f).length cap) ∧ (s.d.get f).length ≤ cap ∧ cap ≤ maxLen ∧ p g ∧ g < w.heap.size ∧ (∀ o, w.frozen? ⟨g, o, none⟩ = false) ∧ (∀ j, j < (s.d.get f).length → w.cell? ⟨g, off + j, none⟩ = some (.int .u8 ((s.d.get f).getD j 0).toNat)) ∧
      ∀ w1, Below w.heap.size w w1 → ∀ k, k < (s.d.get f).length → ∀ b : UInt8, DL B (w1.setCell ⟨g, off + k, none⟩ (.int .u8 b.toNat)) db (s.d.put f ((s.d.get f).set k b)) := by
  obtain ⟨g, off, cap, h1, h2, h3, h4, h5, h6, h7, h8⟩ := h.jw.disk.poke (fun g hg => (h.jw.away g hg).2.1) f hne
  refine ⟨g, off, cap, h1, h2, h3, h4, h5, h6, h7, fun w1 hb k hk b => ⟨?_, h.pos, h.dle, (h8 w1 hb k hk b).mono (fun g' hg' => ⟨(h.lie g' hg').1, (h.jw.away g' hg').2.1⟩)⟩⟩
  have hs1 := (h.below hb).jw.st
  exact hs1.block ((Grown.setCell (S := fun k => k = g) (Grown.refl _ w1) (a := ⟨g, off + k, none⟩) rfl _).block 0 hs1.pos (fun e => (h.jw.away g h4).2.2.2 e.symm))
/-- states, in memory -/
structure RdV (w : World) (vs : List Value) (Ps : List PEnts) : Prop where
  len : vs.length = Ps.length
  row : ∀ i, i < Ps.length → RdT w (vs.getD i undef) (Ps.getD i [])
theorem RdV.keep {w w' : World} {vs : List Value} {Ps : List PEnts} (h : RdV w vs Ps) (hk : ∀ v P, RdT w v P → RdT w' v P) : RdV w' vs Ps := ⟨h.len, fun i hi => hk _ _ (h.row i hi)⟩
theorem RdV.snoc {w : World} {vs : List Value} {Ps : List PEnts} {v : Value} {P : PEnts} (h : RdV w vs Ps) (hv : RdT w v P) : RdV w (vs ++ [v]) (Ps ++ [P]) := by
  refine ⟨by simp [h.len], fun i hi => ?_⟩
  rw [List.length_append, List.length_singleton] at hi
  rw [List.getD_eq_getElem?_getD, List.getD_eq_getElem?_getD]
  by_cases e : i < Ps.length
  · rw [List.getElem?_append_left (by rw [h.len]; exact e), List.getElem?_append_left e, ← List.getD_eq_getElem?_getD, ← List.getD_eq_getElem?_getD]
    exact h.row i e
  · obtain rfl : i = Ps.length := by omega
    rw [List.getElem?_append_right (by rw [h.len]; exact Nat.le_refl _), List.getElem?_append_right (Nat.le_refl _), h.len]
    simpa using hv
theorem mem_getD {S : List PEnts} {P : PEnts} (h : P ∈ S) : ∃ i, i < S.length ∧ S.getD i [] = P := by
  obtain ⟨i, hi, e⟩ := List.getElem_of_mem h
  exact ⟨i, hi, by rw [List.getD_eq_getElem?_getD, List.getElem?_eq_getElem hi, e]; rfl⟩
/-- what is found when a file has one byte turned -/
theorem Hist.found {S : List PEnts} {s : JS} (h : Hist S s) (f : Bool) {k : Nat} (hk : k < (s.d.get f).length) (b : UInt8) (hp : ∀ i, posB (s.d.get f) i < (s.d.get f).length → ¬ (posB (s.d.get f) i ≤ k ∧ k < posB (s.d.get f) i + 4)) :
    (s.d.put f ((s.d.get f).set k b)).Ok ∧ Live (jOpen (s.d.put f ((s.d.get f).set k b))) ∧ (jOpen (s.d.put f ((s.d.get f).set k b))).c.ents ∈ S := by
  have hok := h.live.ok.d
  have hok2 : (s.d.put f ((s.d.get f).set k b)).Ok := hok.put_ok f (by rw [List.length_set]; exact hok.get f)
  refine ⟨hok2, open_live hok2, ?_⟩
  show (openP _).2.ents ∈ S
  have hflip : ∀ c, readF ((s.d.get f).set k b) = some c → c.ents ∈ S := fun c hc => (h.files f).flip hk hp hc
  have hoth : ∀ c, readF (s.d.get (!f)) = some c → c.ents ∈ S := fun c hc => (h.files (!f)).read hc
  cases f with
  | false => exact openP_mem hflip hoth h.nil
  | true => exact openP_mem hoth hflip h.nil
end Go.Proofs.YtondomklkapogaaDoor
