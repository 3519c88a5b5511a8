/- The walks of Commit (all its ends together), Set, Drop, Compact. -/
import Derived.Test.YtondomklkapogaaDoorJCommitB
namespace Go.Proofs.YtondomklkapogaaDoor
open Go.RowKit SeedP Go.Maps
/-- Commit -/
theorem commit_c {jb db mb : Nat} {p : Nat → Prop} {s : JS} (v : Value) (cs : List Chg) (w : World) (h : JW w jb db mb p s) (hc : ChgsP w (fun g => g ≠ jb ∧ g ≠ db ∧ g ≠ mb) v cs) (hn : cs.length ≤ 1000000) (hb : ∀ c ∈ cs, c.key.length ≤ 1073741824 ∧ c.val.length ≤ 1073741824) :
    Calls Tryd.prog 15 #[.pointer (some ⟨jb, 0, none⟩), v] w fun e w' => e = .returned (.int .i64 (jCommit cs s).2) ∧ JW w' jb db mb (fun g => p g ∨ w.heap.size ≤ g) (jCommit cs s).1 ∧ Grown (fun k => k = jb ∨ k = db ∨ k = mb) w w' := by
  by_cases hx : s.down = true ∨ cs.length = 0 ∨ 64 < cs.length ∨ validP cs ≠ 0
  · refine (commit_early v cs w h hc hn hb hx).mono ?_
    rintro e w' ⟨he, hs, hB⟩
    refine ⟨he, ?_, Grown.below3 hB⟩
    rw [hs]
    exact (h.below hB).mono (fun g hg => Or.inl hg) (h.fresh (Nat.le_refl _))
  · have hd : s.down = false := by cases hd : s.down with | false => rfl | true => exact absurd (Or.inl hd) hx
    have h0 : ¬ cs.length = 0 := fun e => hx (Or.inr (Or.inl e))
    have h6 : ¬ 64 < cs.length := fun e => hx (Or.inr (Or.inr (Or.inl e)))
    have hv : validP cs = 0 := by
      rcases Int.lt_trichotomy (validP cs) 0 with e | e | e
      · exact absurd (Or.inr (Or.inr (Or.inr (by omega)))) hx
      · exact e
      · exact absurd (Or.inr (Or.inr (Or.inr (by omega)))) hx
    exact commit_late v cs w h hc hd (by omega) (by omega) ((valid_zero cs).1 hv)
/-- a slice of one change that was just laid -/
theorem chgs_one (w : World) (q : Nat → Prop) (k val : List UInt8) (v : Value) (d : Bool) (hv : RdP w q v val) (hq : q w.heap.size) :
    ChgsP (w.alloc (.cells #[strV k, v, .bool d] 65)) q (.slice (some ⟨w.heap.size, 0, none⟩) 1 1) [⟨k, val, d⟩] := by
  have hb := Blk.new w 65 [strV k, v, .bool d]
  have hg : Grown (fun _ => False) w (w.alloc (.cells #[strV k, v, .bool d] 65)) := Grown.of_below ((Below.refl _ w).alloc (Nat.le_refl _) _)
  refine ⟨some ⟨w.heap.size, 0, none⟩, 1, rfl, Nat.le_refl _, by unfold maxLen; omega, Or.inr ⟨w.heap.size, 0, rfl, hq, fun j hj => ?_⟩⟩
  obtain rfl : j = 0 := by simp at hj; omega
  exact ⟨v, hb.cell 0 (by simp), hb.cell 1 (by simp), hb.cell 2 (by simp), hv.grown hg (fun _ _ h => h)⟩
set_option maxRecDepth 100000 in
/-- Set -/
theorem set_c {jb db mb : Nat} {p : Nat → Prop} {s : JS} (k val : List UInt8) (v : Value) (w : World) (h : JW w jb db mb p s) (hv : RdP w (fun g => g ≠ jb ∧ g ≠ db ∧ g ≠ mb) v val) (hk : k.length ≤ 1073741824) (hl : val.length ≤ 1073741824) :
    Calls Tryd.prog 23 #[.pointer (some ⟨jb, 0, none⟩), strV k, v] w fun e w' => e = .returned (.int .i64 (jCommit [⟨k, val, false⟩] s).2) ∧ JW w' jb db mb (fun g => p g ∨ w.heap.size ≤ g) (jCommit [⟨k, val, false⟩] s).1 ∧ Grown (fun k => k = jb ∨ k = db ∨ k = mb) w w' := by
  have hlt := h.lt
  have hB : Below w.heap.size w (w.alloc (.cells #[strV k, v, .bool false] 65)) := (Below.refl _ w).alloc (Nat.le_refl _) _
  have HC := Lib.hid (commit_c _ [⟨k, val, false⟩] _ (h.below hB) (chgs_one w _ k val v false hv (by omega)) (by simp) (fun c hc => by obtain rfl := List.mem_singleton.1 hc; exact ⟨hk, hl⟩))
  have HB := Lib.hid hB
  have HF := Lib.hid (h.fresh (Nat.le_refl _))
  obtain ⟨a, cap, rfl, _, _, _⟩ := hv.toB.open_
  clear hv hB h
  go_enter Tryd.func23, Tryd.ntmps23
  go_wp2_with fail
  refine HC.out.mono ?_
  rintro e w2 ⟨rfl, hJ2, hG2⟩
  go_wp2
  go_ret
  exact ⟨rfl, hJ2.mono (fun g hg => by rcases hg with hg | hg; exact Or.inl hg; exact Or.inr (Nat.le_trans HB.out.size hg)) HF.out, (Grown.below3 HB.out).trans hG2⟩
set_option maxRecDepth 100000 in
/-- Drop -/
theorem drop_c {jb db mb : Nat} {p : Nat → Prop} {s : JS} (k : List UInt8) (w : World) (h : JW w jb db mb p s) (hk : k.length ≤ 1073741824) :
    Calls Tryd.prog 22 #[.pointer (some ⟨jb, 0, none⟩), strV k] w fun e w' => e = .returned (.int .i64 (jCommit [⟨k, [], true⟩] s).2) ∧ JW w' jb db mb (fun g => p g ∨ w.heap.size ≤ g) (jCommit [⟨k, [], true⟩] s).1 ∧ Grown (fun k => k = jb ∨ k = db ∨ k = mb) w w' := by
  have hlt := h.lt
  have hB : Below w.heap.size w (w.alloc (.cells #[strV k, .slice none 0 0, .bool true] 65)) := (Below.refl _ w).alloc (Nat.le_refl _) _
  have HC := Lib.hid (commit_c _ [⟨k, [], true⟩] _ (h.below hB) (chgs_one w _ k [] (.slice none 0 0) true (Or.inl ⟨Or.inl rfl, rfl⟩) (by omega)) (by simp) (fun c hc => by obtain rfl := List.mem_singleton.1 hc; exact ⟨hk, by simp⟩))
  have HB := Lib.hid hB
  have HF := Lib.hid (h.fresh (Nat.le_refl _))
  clear hB h
  go_enter Tryd.func22, Tryd.ntmps22
  go_wp2_with fail
  refine HC.out.mono ?_
  rintro e w2 ⟨rfl, hJ2, hG2⟩
  go_wp2
  go_ret
  exact ⟨rfl, hJ2.mono (fun g hg => by rcases hg with hg | hg; exact Or.inl hg; exact Or.inr (Nat.le_trans HB.out.size hg)) HF.out, (Grown.below3 HB.out).trans hG2⟩
set_option maxRecDepth 100000 in
set_option maxHeartbeats 1000000 in
/-- Compact -/
theorem compactOp_c {jb db mb : Nat} {p : Nat → Prop} {s : JS} (w : World) (h : JW w jb db mb p s) :
    Calls Tryd.prog 13 #[.pointer (some ⟨jb, 0, none⟩)] w fun e w' => e = .returned (.int .i64 (jCompactOp s).2) ∧ JW w' jb db mb (fun g => p g ∨ w.heap.size ≤ g) (jCompactOp s).1 ∧ Grown (fun k => k = jb ∨ k = db ∨ k = mb) w w' := by
  have hmf : ∀ (fn : Fn) (first cap : Array Value) (w : World), (Instr.makeFunc fn first cap).run Tryd.prog w = .ok (.func fn first cap) w := fun _ _ _ _ => rfl
  have HR := Lib.hid (refused_c w h)
  have k3 := h.cells.2.2.2.1
  have HS := Lib.hid (h.mono (p' := fun g => p g ∨ w.heap.size ≤ g) (fun g hg => Or.inl hg) (h.fresh (Nat.le_refl _)))
  have HP := Lib.hid (fun hg => powered_compact w h hg)
  have hgl := h.ok.gen
  clear h
  cases hd : s.down with
  | true =>
    rw [hd] at HR
    simp only [if_true] at HR
    have HE : Hid (jCompactOp s = (s, 360)) := Lib.hid (by unfold jCompactOp; rw [if_pos hd])
    clear hd
    go_enter Tryd.func13, Tryd.ntmps13
    go_wp2_with fail
    refine HR.out.mono ?_
    rintro e w1 ⟨rfl, rfl⟩
    go_wp2
    go_ret
    rw [HE.out]
    exact ⟨rfl, HS.out, Grown.refl _ _⟩
  | false =>
    rw [hd] at HR
    simp only [Bool.false_eq_true, if_false] at HR
    by_cases hg : s.c.gen = 4611686018427387904
    · have HE : Hid (jCompactOp s = (s, 4)) := Lib.hid (by unfold jCompactOp; rw [if_neg (by rw [hd]; simp), if_pos hg])
      have hgb : ((s.c.gen : Int) == 4611686018427387904) = true := by rw [hg]; rfl
      generalize (s.c.gen : Int) = gi at *
      clear hd hg
      go_enter Tryd.func13, Tryd.ntmps13
      go_wp2_with fail
      refine HR.out.mono ?_
      rintro e w1 ⟨rfl, rfl⟩
      go_wp2
      go_ret
      rw [HE.out]
      exact ⟨rfl, HS.out, Grown.refl _ _⟩
    · have HE : Hid (jCompactOp s = jPowered (jCompact s)) := Lib.hid (by unfold jCompactOp; rw [if_neg (by rw [hd]; simp), if_neg hg])
      have hgb : ((s.c.gen : Int) == 4611686018427387904) = false := by rw [beq_eq_false_iff_ne]; omega
      have HP := Lib.hid (HP.out (by omega))
      generalize (s.c.gen : Int) = gi at *
      clear hd hg hgl
      go_enter Tryd.func13, Tryd.ntmps13
      go_wp2_with fail
      refine HR.out.mono ?_
      rintro e w1 ⟨rfl, rfl⟩
      go_wp2_with fail
      refine HP.out.mono ?_
      rintro e w2 ⟨rfl, hJ2, hG2⟩
      go_wp2
      go_ret
      rw [HE.out]
      exact ⟨rfl, hJ2, hG2⟩
end Go.Proofs.YtondomklkapogaaDoor
