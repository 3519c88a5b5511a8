/- Commit of one change whose key is too long, of whatever length. -/
import Derived.Test.YtondomklkapogaaDoorJCommit
namespace Go.Proofs.YtondomklkapogaaDoor
open Go.RowKit SeedP Go.Maps
set_option maxRecDepth 100000 in
set_option maxHeartbeats 2000000 in
theorem valid_longkey (g off cap : Nat) (key : List UInt8) (w : World) (hk : 40 < key.length ∧ key.length ≤ 4611686018427387904) (hg : g < w.heap.size) (h0 : w.cell? ⟨g, off, none⟩ = some (.string ⟨key.toArray⟩)) (h1 : w.cell? ⟨g, off + 1, none⟩ = some (.slice none 0 0)) (h2 : w.cell? ⟨g, off + 2, none⟩ = some (.bool false)) :
    Calls Tryd.prog 29 #[.slice (some ⟨g, off, none⟩) 1 cap] w fun e w' => e = .returned (.int .i64 2) ∧ Below w.heap.size w w' := by
  have hmm := @run_makeMap Tryd.prog
  have S0 := Seen.made w
  have B0 : Below w.heap.size w (w.alloc (.map #[] 0)) := (Below.refl _ _).alloc (Nat.le_refl _) _
  go_enter Tryd.func29, Tryd.ntmps29
  go_wp2
  clear hmm
  go_loopw [12] (fun i wr => i = .int .i64 0 ∧ Seen wr w.heap.size [] 0 ∧ Below w.heap.size w wr) (fun _ _ => 0)
  case atStart => exact ⟨rfl, S0, B0⟩
  case round =>
    obtain ⟨rfl, hS, hB⟩ := hrel
    have h0 := (hB.cell (p := ⟨g, off, none⟩) hg).trans h0
    have h1 := (hB.cell (p := ⟨g, off + 1, none⟩) hg).trans h1
    have h2 := (hB.cell (p := ⟨g, off + 2, none⟩) hg).trans h2
    have hks : (⟨key.toArray⟩ : ByteArray).size = key.length := by show key.toArray.size = _; simp
    have hlk := (hS.grown (Grown.of_below ((Below.refl _ wr).alloc (Nat.le_refl _) (.cells #[.string ⟨key.toArray⟩, .slice none 0 0, .bool false] 65))) (S := fun _ => False) (by simp)).look key (by unfold maxLen; omega)
    have HBB := Lib.hid (hB.alloc hB.size (.cells #[.string ⟨key.toArray⟩, .slice none 0 0, .bool false] 65))
    clear hB hS S0 B0
    go_upto_region 5 with (fail)
    have hbk := Blk.new wr 65 [.string ⟨key.toArray⟩, .slice none 0 0, .bool false]
    generalize wr.alloc (.cells #[.string ⟨key.toArray⟩, .slice none 0 0, .bool false] 65) = w1 at *
    generalize wr.heap.size = gb at *
    have c0 := hbk.cell 0 (by simp)
    have c1 := hbk.cell 1 (by simp)
    have c2 := hbk.cell 2 (by simp)
    simp only [List.getD_cons_zero, List.getD_cons_succ] at c0 c1 c2
    clear hbk
    have t1 : decide ((key.length : Int) < 1) = false := decide_eq_false (by omega)
    have t2 : decide ((40 : Int) < key.length) = true := decide_eq_true (by omega)
    go_wp2
    go_ret
    exact ⟨rfl, HBB.out⟩
/-- Commit of it -/
theorem commit_longkey {jb db mb : Nat} {p : Nat → Prop} {s : JS} (v : Value) (key : List UInt8) (w : World) (h : JW w jb db mb p s) (hc : ChgsP w (fun g => g ≠ jb ∧ g ≠ db ∧ g ≠ mb) v [⟨key, [], false⟩])
    (g off cap : Nat) (hv : v = .slice (some ⟨g, off, none⟩) 1 cap) (hg : g < w.heap.size) (h0 : w.cell? ⟨g, off, none⟩ = some (.string ⟨key.toArray⟩)) (h1 : w.cell? ⟨g, off + 1, none⟩ = some (.slice none 0 0)) (h2 : w.cell? ⟨g, off + 2, none⟩ = some (.bool false))
    (hk : 40 < key.length ∧ key.length ≤ 4611686018427387904) (hu : s.down = false) :
    Calls Tryd.prog 15 #[.pointer (some ⟨jb, 0, none⟩), v] w fun e w' => e = .returned (.int .i64 2) ∧ Below w.heap.size w w' := by
  have hval : validP [⟨key, [], false⟩] = 2 := valid_bad _ 0 (by simp) (by simp only [badAt, List.getElem?_cons_zero, bad1, decide_eq_true hk.1, Bool.or_true, Bool.true_or])
  have hjc : jCommit [⟨key, [], false⟩] s = (s, 2) := by
    unfold jCommit; rw [if_neg (by rw [hu]; decide), if_neg (by simp), if_pos (by rw [hval]; decide), hval]
  refine (commit_early' v _ w h hc (by simp) (fun w2 hB => ?_) (Or.inr (Or.inr (Or.inr (by rw [hval]; decide))))).mono ?_
  · rw [hv, hval]
    exact valid_longkey g off cap key w2 hk (Nat.lt_of_lt_of_le hg hB.size) ((hB.cell (p := ⟨g, off, none⟩) hg).trans h0) ((hB.cell (p := ⟨g, off + 1, none⟩) hg).trans h1) ((hB.cell (p := ⟨g, off + 2, none⟩) hg).trans h2)
  · rintro e w' ⟨rfl, _, hB⟩
    rw [hjc]
    exact ⟨rfl, hB⟩
end Go.Proofs.YtondomklkapogaaDoor
