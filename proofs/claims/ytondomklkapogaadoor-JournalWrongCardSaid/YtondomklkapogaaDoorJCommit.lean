/- The walk of Commit. -/
import Derived.Test.YtondomklkapogaaDoorJCall
namespace Go.Proofs.YtondomklkapogaaDoor
open Go.RowKit SeedP Go.Maps
def missing (P : PEnts) (c : Chg) : Bool := c.drop && !(pFind P c.key).isSome
set_option maxRecDepth 100000 in
set_option maxHeartbeats 2000000 in
/-- Commit of a journal that is down, or of too few or too many changes, or of changes that are not valid -/
theorem commit_early' {jb db mb : Nat} {p : Nat → Prop} {s : JS} (v : Value) (cs : List Chg) (w : World) (h : JW w jb db mb p s) (hc : ChgsP w (fun g => g ≠ jb ∧ g ≠ db ∧ g ≠ mb) v cs) (hn : cs.length ≤ 1000000) (HVx : ∀ w2, Below w.heap.size w w2 → Calls Tryd.prog 29 #[v] w2 fun e w' => e = .returned (.int .i64 (validP cs)) ∧ Below w2.heap.size w2 w') (hx : s.down = true ∨ cs.length = 0 ∨ 64 < cs.length ∨ validP cs ≠ 0) :
    Calls Tryd.prog 15 #[.pointer (some ⟨jb, 0, none⟩), v] w fun e w' => e = .returned (.int .i64 (jCommit cs s).2) ∧ (jCommit cs s).1 = s ∧ Below w.heap.size w w' := by
  have hB2 : Below w.heap.size w ((w.alloc (.cells #[.pointer (some ⟨jb, 0, none⟩)] 30)).alloc (.cells #[v] 39)) := ((Below.refl _ _).alloc (Nat.le_refl _) _).alloc (by simp) _
  have HR := Lib.hid (refused_c _ (h.below hB2))
  have hcg := hc.grown (Grown.of_below hB2 (S := fun _ => False)) (fun _ _ h => h)
  have HV := Lib.hid (HVx _ hB2)
  obtain ⟨a, cap, rfl, _, _, _⟩ := hc
  have X2 : Blk ((w.alloc (.cells #[.pointer (some ⟨jb, 0, none⟩)] 30)).alloc (.cells #[.slice a cs.length cap] 39)) w.heap.size 30 [.pointer (some ⟨jb, 0, none⟩)] := (Blk.new w 30 [.pointer (some ⟨jb, 0, none⟩)]).alloc _
  have E2 : Blk ((w.alloc (.cells #[.pointer (some ⟨jb, 0, none⟩)] 30)).alloc (.cells #[.slice a cs.length cap] 39)) (w.heap.size + 1) 39 [.slice a cs.length cap] := by
    have := Blk.new (w.alloc (.cells #[.pointer (some ⟨jb, 0, none⟩)] 30)) 39 [.slice a cs.length cap]
    simpa using this
  have hlb : (cs.length : Int) ≤ 1000000 := by omega
  have HX := Lib.hid hx
  have HB2 := Lib.hid hB2
  have x0 := X2.cell 0 (by simp)
  have e0 := E2.cell 0 (by simp)
  simp only [List.getD_cons_zero] at x0 e0
  clear hx hB2 h X2 E2 hcg HVx
  go_enter Tryd.func15, Tryd.ntmps15
  go_wp2_with fail
  refine HR.out.mono ?_
  rintro e w3 ⟨rfl, rfl⟩
  clear HR
  generalize (w.alloc (.cells #[.pointer (some ⟨jb, 0, none⟩)] 30)).alloc (.cells #[.slice a cs.length cap] 39) = w2 at *
  have HD : Hid (∀ d, s.down = d → (d = true → jCommit cs s = (s, 360)) ∧ (d = false → cs.length = 0 ∨ 64 < cs.length → jCommit cs s = (s, 5)) ∧ (d = false → ¬ (cs.length = 0 ∨ 64 < cs.length) → validP cs ≠ 0 → jCommit cs s = (s, validP cs))) := Lib.hid (by
    rintro d hd
    refine ⟨fun h => ?_, fun h h2 => ?_, fun h h2 h3 => ?_⟩ <;> unfold jCommit
    · rw [if_pos (by rw [hd, h])]
    · rw [if_neg (by rw [hd, h]; simp), if_pos h2]
    · rw [if_neg (by rw [hd, h]; simp), if_neg h2, if_pos h3])
  have HJ : Hid (∀ r : Int, jCommit cs s = (s, r) → Ending.returned (.int .i64 r) = .returned (.int .i64 (jCommit cs s).2) ∧ (jCommit cs s).1 = s) := Lib.hid (fun r h => by rw [h]; exact ⟨rfl, rfl⟩)
  generalize hdd : s.down = d at *
  have HDD := Lib.hid hdd
  clear hdd
  cases d
  · simp only [Bool.false_eq_true, if_false]
    by_cases h0 : cs.length = 0
    · have h0' : ((cs.length : Int) == 0) = true := by simp [h0]
      have h64 : (decide ((64 : Int) < (cs.length : Int))) = false := by simp; omega
      have HZ := Lib.hid h0
      clear h0
      go_wp2
      go_ret
      exact ⟨(HJ.out 5 ((HD.out false rfl).2.1 rfl (Or.inl HZ.out))).1, (HJ.out 5 ((HD.out false rfl).2.1 rfl (Or.inl HZ.out))).2, HB2.out⟩
    · have h0' : ((cs.length : Int) == 0) = false := by simpa using h0
      by_cases h6 : 64 < cs.length
      · have h64 : (decide ((64 : Int) < (cs.length : Int))) = true := by simp; omega
        have HZ := Lib.hid h6
        clear h0 h6
        go_wp2
        go_ret
        exact ⟨(HJ.out 5 ((HD.out false rfl).2.1 rfl (Or.inr HZ.out))).1, (HJ.out 5 ((HD.out false rfl).2.1 rfl (Or.inr HZ.out))).2, HB2.out⟩
      · have h64 : (decide ((64 : Int) < (cs.length : Int))) = false := by simp; omega
        have HVV : Hid (validP cs ≠ 0 ∧ ¬ (cs.length = 0 ∨ 64 < cs.length)) := Lib.hid (by
          have := HX.out
          refine ⟨?_, by omega⟩
          rcases this with h | h | h | h
          · cases h
          · exact absurd h h0
          · exact absurd h h6
          · exact h)
        clear h0 h6
        go_wp2_with fail
        refine HV.out.mono ?_
        rintro e w4 ⟨rfl, hb4⟩
        have hvb : (validP cs != 0) = true := by have := HVV.out.1; simpa using this
        have HFI := Lib.hid (And.intro (HJ.out (validP cs) ((HD.out false rfl).2.2 rfl HVV.out.2 HVV.out.1)) (HB2.out.trans (hb4.mono HB2.out.size)))
        generalize validP cs = vp at *
        go_wp2
        go_ret
        exact ⟨HFI.out.1.1, HFI.out.1.2, HFI.out.2⟩
  · simp only [if_true]
    go_wp2
    go_ret
    exact ⟨(HJ.out 360 ((HD.out true rfl).1 rfl)).1, (HJ.out 360 ((HD.out true rfl).1 rfl)).2, HB2.out⟩
/-- the same, for changes of a common size -/
theorem commit_early {jb db mb : Nat} {p : Nat → Prop} {s : JS} (v : Value) (cs : List Chg) (w : World) (h : JW w jb db mb p s) (hc : ChgsP w (fun g => g ≠ jb ∧ g ≠ db ∧ g ≠ mb) v cs) (hn : cs.length ≤ 1000000) (hb : ∀ c ∈ cs, c.key.length ≤ 1073741824 ∧ c.val.length ≤ 1073741824) (hx : s.down = true ∨ cs.length = 0 ∨ 64 < cs.length ∨ validP cs ≠ 0) :
    Calls Tryd.prog 15 #[.pointer (some ⟨jb, 0, none⟩), v] w fun e w' => e = .returned (.int .i64 (jCommit cs s).2) ∧ (jCommit cs s).1 = s ∧ Below w.heap.size w w' :=
  commit_early' v cs w h hc hn (fun _ hB => valid_c v cs _ (hc.grown (Grown.of_below hB (S := fun _ => False)) (fun _ _ h => h)).toB hn (fun c hc => by have := hb c hc; omega)) hx
end Go.Proofs.YtondomklkapogaaDoor
