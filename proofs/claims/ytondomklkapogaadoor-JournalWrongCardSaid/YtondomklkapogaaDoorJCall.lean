/- The walks of refused, usable, Weight, Generation, Get. -/
import Derived.Test.YtondomklkapogaaDoorJDo
import Derived.Test.YtondomklkapogaaDoorJOps
namespace Go.Proofs.YtondomklkapogaaDoor
open Go.RowKit SeedP Go.Maps
set_option maxRecDepth 100000 in
/-- refused -/
theorem refused_c {jb db mb : Nat} {p : Nat → Prop} {s : JS} (w : World) (h : JW w jb db mb p s) :
    Calls Tryd.prog 26 #[.pointer (some ⟨jb, 0, none⟩)] w fun e w' => e = .returned (.int .i64 (if s.down then 360 else 0)) ∧ w = w' := by
  obtain ⟨k0, k1, _, _, _, _, _, _⟩ := h.cells
  clear h
  generalize s.down = d at *
  cases d
  all_goals
    go_enter Tryd.func26, Tryd.ntmps26
    go_wp2
    go_ret
    exact ⟨rfl, rfl⟩
set_option maxRecDepth 100000 in
/-- usable -/
theorem usable_c {jb db mb : Nat} {p : Nat → Prop} {s : JS} (w : World) (h : JW w jb db mb p s) :
    Calls Tryd.prog 39 #[.pointer (some ⟨jb, 0, none⟩)] w fun e w' => e = .returned (.bool (!s.down)) ∧ w = w' := by
  obtain ⟨k0, k1, _, _, _, _, _, _⟩ := h.cells
  clear h
  generalize s.down = d at *
  cases d
  all_goals
    go_enter Tryd.func39, Tryd.ntmps39
    go_wp2
    go_ret
    exact ⟨rfl, rfl⟩
set_option maxRecDepth 100000 in
/-- Weight -/
theorem weight_c {jb db mb : Nat} {p : Nat → Prop} {s : JS} (w : World) (h : JW w jb db mb p s) :
    Calls Tryd.prog 20 #[.pointer (some ⟨jb, 0, none⟩)] w fun e w' => e = .returned (.int .i64 (if s.down then 0 else s.c.wt)) ∧ w = w' := by
  obtain ⟨_, _, _, _, _, k5, _, _⟩ := h.cells
  have HU := Lib.hid (usable_c w h)
  clear h
  generalize s.down = d at *
  cases d
  all_goals
    go_enter Tryd.func20, Tryd.ntmps20
    go_wp2_with fail
    refine HU.out.mono ?_
    rintro e w1 ⟨rfl, rfl⟩
    go_wp2
    go_ret
    exact ⟨rfl, rfl⟩
set_option maxRecDepth 100000 in
/-- Generation -/
theorem generation_c {jb db mb : Nat} {p : Nat → Prop} {s : JS} (w : World) (h : JW w jb db mb p s) :
    Calls Tryd.prog 21 #[.pointer (some ⟨jb, 0, none⟩)] w fun e w' => e = .returned (.int .i64 (if s.down then 0 else s.c.gen)) ∧ w = w' := by
  obtain ⟨_, _, _, k3, _, _, _, _⟩ := h.cells
  have HU := Lib.hid (usable_c w h)
  clear h
  generalize s.down = d at *
  cases d
  all_goals
    go_enter Tryd.func21, Tryd.ntmps21
    go_wp2_with fail
    refine HU.out.mono ?_
    rintro e w1 ⟨rfl, rfl⟩
    go_wp2
    go_ret
    exact ⟨rfl, rfl⟩
set_option maxRecDepth 100000 in
/-- Get: a new slice -/
theorem get_c {jb db mb : Nat} {p : Nat → Prop} {s : JS} (k : List UInt8) (w : World) (h : JW w jb db mb p s) (hk : k.length ≤ 140737488351232) :
    Calls Tryd.prog 17 #[.pointer (some ⟨jb, 0, none⟩), strV k] w fun e w' => (∃ v, e = .returned (.tuple #[v, .bool (!s.down && (pFind s.c.ents k).isSome)]) ∧ w'.ownsRow w.heap.size 5 1 v (if s.down then [] else (pFind s.c.ents k).getD []).length (byts (if s.down then [] else (pFind s.c.ents k).getD []))) ∧ Below w.heap.size w w' := by
  obtain ⟨_, _, _, _, k4, _, _, _⟩ := h.cells
  have HU := Lib.hid (usable_c w h)
  obtain ⟨L, hM, hE⟩ := h.map
  have hlook := hM.look k (by unfold maxLen; omega)
  have hfind : pFind s.c.ents k = (eFind L k).map (·.bytes) := by rw [← hE]; exact EB_find L k
  have hval : ∀ e, eFind L k = some e → RdB w w.heap.size e.val e.bytes ∧ e.bytes.length ≤ 1073741824 := by
    intro e he
    have hm := (eFind_mem he).1
    refine ⟨(hM.val e hm).toB, ?_⟩
    have := h.small.val (e.key, e.bytes) (by rw [← hE]; exact List.mem_map.2 ⟨e, hm, rfl⟩)
    simp only at this; omega
  rw [hfind]
  clear h hM hE hfind
  generalize s.down = d at *
  cases d
  · cases hf : eFind L k with
    | none =>
      rw [hf] at hlook
      have HC := Lib.hid (clone_c (.slice none 0 0) [] w.heap.size w (RdB.nil w _) (by simp) (Nat.le_refl _))
      simp only [Option.isSome_none, Option.map_none, Option.getD_none, Bool.not_false, Bool.true_and, Bool.false_eq_true, if_false] at hlook ⊢
      clear hval hf
      go_enter Tryd.func17, Tryd.ntmps17
      go_wp2_with fail
      refine HU.out.mono ?_
      rintro e w1 ⟨rfl, rfl⟩
      go_wp2_with fail
      refine HC.out.mono ?_
      rintro e w2 ⟨⟨v2, rfl, hy2⟩, hb2⟩
      go_wp2
      go_ret2
      exact ⟨⟨_, rfl, hy2⟩, hb2⟩
    | some e0 =>
      rw [hf] at hlook
      obtain ⟨hr, hl⟩ := hval e0 hf
      have HC := Lib.hid (clone_c e0.val e0.bytes w.heap.size w hr hl (Nat.le_refl _))
      simp only [Option.isSome_some, Option.map_some, Option.getD_some, Bool.not_false, Bool.true_and, Bool.false_eq_true, if_false] at hlook ⊢
      clear hval hf hr hl
      obtain ⟨key, val, bytes⟩ := e0
      simp only at hlook HC ⊢
      go_enter Tryd.func17, Tryd.ntmps17
      go_wp2_with fail
      refine HU.out.mono ?_
      rintro e w1 ⟨rfl, rfl⟩
      go_wp2_with fail
      refine HC.out.mono ?_
      rintro e w2 ⟨⟨v2, rfl, hy2⟩, hb2⟩
      go_wp2
      go_ret2
      exact ⟨⟨_, rfl, hy2⟩, hb2⟩
  · clear hval hlook
    simp only [Bool.not_true, Bool.false_and, if_true]
    go_enter Tryd.func17, Tryd.ntmps17
    go_wp2_with fail
    refine HU.out.mono ?_
    rintro e w1 ⟨rfl, rfl⟩
    go_wp2
    go_ret2
    exact ⟨⟨_, rfl, by simpa [byts] using World.ownsRow_nil w w.heap.size 5 1⟩, Below.refl _ _⟩
end Go.Proofs.YtondomklkapogaaDoor
