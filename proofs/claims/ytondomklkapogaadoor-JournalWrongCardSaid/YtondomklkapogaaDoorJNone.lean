/- The walks over journals that are missing. -/
import Derived.Test.YtondomklkapogaaDoorJLib
namespace Go.Proofs.YtondomklkapogaaDoor
open Go.RowKit SeedP Go.Maps
/-- no journal: nil, or the zero value -/
def NoJ (w : World) (v : Value) : Prop := v = .pointer none ∨ ∃ jb, v = .pointer (some ⟨jb, 0, none⟩) ∧ Blk w jb 72 [.pointer none, .bool false, .int .i64 0, .int .i64 0, .map none, .int .i64 0, .int .u64 0, .int .i64 0]
theorem NoJ.below {w w' : World} {v : Value} (h : NoJ w v) (hb : Below w.heap.size w w') : NoJ w' v := by
  rcases h with h | ⟨jb, h, hB⟩
  · exact Or.inl h
  · exact Or.inr ⟨jb, h, hB.below hb⟩
set_option maxRecDepth 100000 in
theorem none_refused (v : Value) (w : World) (h : NoJ w v) : Calls Tryd.prog 26 #[v] w fun e w' => e = .returned (.int .i64 1) ∧ w = w' := by
  rcases h with rfl | ⟨jb, rfl, hb⟩
  · go_enter Tryd.func26, Tryd.ntmps26
    go_wp2
    go_ret
    exact ⟨rfl, rfl⟩
  · have k0 := hb.cell 0 (by simp)
    simp only [List.getD_cons_zero] at k0
    clear hb
    go_enter Tryd.func26, Tryd.ntmps26
    go_wp2
    go_ret
    exact ⟨rfl, rfl⟩
set_option maxRecDepth 100000 in
theorem none_usable (v : Value) (w : World) (h : NoJ w v) : Calls Tryd.prog 39 #[v] w fun e w' => e = .returned (.bool false) ∧ w = w' := by
  rcases h with rfl | ⟨jb, rfl, hb⟩
  · go_enter Tryd.func39, Tryd.ntmps39
    go_wp2
    go_ret
    exact ⟨rfl, rfl⟩
  · have k0 := hb.cell 0 (by simp)
    simp only [List.getD_cons_zero] at k0
    clear hb
    go_enter Tryd.func39, Tryd.ntmps39
    go_wp2
    go_ret
    exact ⟨rfl, rfl⟩
set_option maxRecDepth 100000 in
theorem none_Weight (v : Value) (w : World) (h : NoJ w v) : Calls Tryd.prog 20 #[v] w fun e w' => e = .returned (.int .i64 0) ∧ w = w' := by
  have HU := Lib.hid (none_usable v w h)
  rcases h with rfl | ⟨jb, rfl, hb⟩
  all_goals
    try clear hb
    go_enter Tryd.func20, Tryd.ntmps20
    go_wp2_with fail
    refine HU.out.mono ?_
    rintro e w1 ⟨rfl, rfl⟩
    go_wp2
    go_ret
    exact ⟨rfl, rfl⟩
set_option maxRecDepth 100000 in
theorem none_Generation (v : Value) (w : World) (h : NoJ w v) : Calls Tryd.prog 21 #[v] w fun e w' => e = .returned (.int .i64 0) ∧ w = w' := by
  have HU := Lib.hid (none_usable v w h)
  rcases h with rfl | ⟨jb, rfl, hb⟩
  all_goals
    try clear hb
    go_enter Tryd.func21, Tryd.ntmps21
    go_wp2_with fail
    refine HU.out.mono ?_
    rintro e w1 ⟨rfl, rfl⟩
    go_wp2
    go_ret
    exact ⟨rfl, rfl⟩
set_option maxRecDepth 100000 in
theorem none_Get (v : Value) (k : List UInt8) (w : World) (h : NoJ w v) : Calls Tryd.prog 17 #[v, strV k] w fun e w' => e = .returned (.tuple #[.slice none 0 0, .bool false]) ∧ w = w' := by
  have HU := Lib.hid (none_usable v w h)
  rcases h with rfl | ⟨jb, rfl, hb⟩
  all_goals
    try clear hb
    go_enter Tryd.func17, Tryd.ntmps17
    go_wp2_with fail
    refine HU.out.mono ?_
    rintro e w1 ⟨rfl, rfl⟩
    go_wp2
    go_ret2
    exact ⟨rfl, rfl⟩
set_option maxRecDepth 100000 in
theorem none_Keys (v : Value) (k : List UInt8) (w : World) (h : NoJ w v) : Calls Tryd.prog 19 #[v, strV k] w fun e w' => e = .returned (.slice none 0 0) ∧ w = w' := by
  have HU := Lib.hid (none_usable v w h)
  rcases h with rfl | ⟨jb, rfl, hb⟩
  all_goals
    try clear hb
    go_enter Tryd.func19, Tryd.ntmps19
    go_wp2_with fail
    refine HU.out.mono ?_
    rintro e w1 ⟨rfl, rfl⟩
    go_wp2
    go_ret
    exact ⟨rfl, rfl⟩
set_option maxRecDepth 100000 in
theorem none_Compact (v : Value) (w : World) (h : NoJ w v) : Calls Tryd.prog 13 #[v] w fun e w' => e = .returned (.int .i64 1) ∧ w = w' := by
  have HU := Lib.hid (none_refused v w h)
  rcases h with rfl | ⟨jb, rfl, hb⟩
  all_goals
    try clear hb
    go_enter Tryd.func13, Tryd.ntmps13
    go_wp2_with fail
    refine HU.out.mono ?_
    rintro e w1 ⟨rfl, rfl⟩
    go_wp2
    go_ret
    exact ⟨rfl, rfl⟩
set_option maxRecDepth 100000 in
theorem none_Commit (v : Value) (a : Option Addr) (n cap : Nat) (w : World) (h : NoJ w v) : Calls Tryd.prog 15 #[v, .slice a n cap] w fun e w' => e = .returned (.int .i64 1) ∧ Below w.heap.size w w' := by
  have hB2 : Below w.heap.size w ((w.alloc (.cells #[v] 30)).alloc (.cells #[.slice a n cap] 39)) := ((Below.refl _ _).alloc (Nat.le_refl _) _).alloc (by simp) _
  have HR := Lib.hid (none_refused v _ (h.below hB2))
  have HB := Lib.hid hB2
  rcases h with rfl | ⟨jb, rfl, hb⟩
  all_goals
    try clear hb
    clear hB2
    go_enter Tryd.func15, Tryd.ntmps15
    go_wp2_with fail
    refine HR.out.mono ?_
    rintro e w1 ⟨rfl, rfl⟩
    go_wp2
    go_ret
    exact ⟨rfl, HB.out⟩
set_option maxRecDepth 100000 in
theorem none_Set (v : Value) (k : List UInt8) (w : World) (h : NoJ w v) : Calls Tryd.prog 23 #[v, strV k, .slice none 0 0] w fun e w' => e = .returned (.int .i64 1) ∧ Below w.heap.size w w' := by
  have hB : Below w.heap.size w (w.alloc (.cells #[strV k, .slice none 0 0, .bool false] 65)) := (Below.refl _ w).alloc (Nat.le_refl _) _
  have HC := Lib.hid (none_Commit v (some ⟨w.heap.size, 0, none⟩) 1 1 _ (h.below hB))
  have HB := Lib.hid hB
  rcases h with rfl | ⟨jb, rfl, hb⟩
  all_goals
    try clear hb
    clear hB
    go_enter Tryd.func23, Tryd.ntmps23
    go_wp2_with fail
    refine HC.out.mono ?_
    rintro e w2 ⟨rfl, hb2⟩
    go_wp2
    go_ret
    exact ⟨rfl, HB.out.trans (hb2.mono HB.out.size)⟩
set_option maxRecDepth 100000 in
theorem none_Drop (v : Value) (k : List UInt8) (w : World) (h : NoJ w v) : Calls Tryd.prog 22 #[v, strV k] w fun e w' => e = .returned (.int .i64 1) ∧ Below w.heap.size w w' := by
  have hB : Below w.heap.size w (w.alloc (.cells #[strV k, .slice none 0 0, .bool true] 65)) := (Below.refl _ w).alloc (Nat.le_refl _) _
  have HC := Lib.hid (none_Commit v (some ⟨w.heap.size, 0, none⟩) 1 1 _ (h.below hB))
  have HB := Lib.hid hB
  rcases h with rfl | ⟨jb, rfl, hb⟩
  all_goals
    try clear hb
    clear hB
    go_enter Tryd.func22, Tryd.ntmps22
    go_wp2_with fail
    refine HC.out.mono ?_
    rintro e w2 ⟨rfl, hb2⟩
    go_wp2
    go_ret
    exact ⟨rfl, HB.out.trans (hb2.mono HB.out.size)⟩
/-! ### Open of what is no disk -/
set_option maxRecDepth 100000 in
theorem open_nil (w : World) : Calls Tryd.prog 11 #[.pointer none] w fun e w' => e = .returned (.tuple #[.pointer none, .int .i64 2]) ∧ w = w' := by
  go_enter Tryd.func11, Tryd.ntmps11
  go_wp2
  go_ret2
  exact ⟨rfl, rfl⟩
set_option maxRecDepth 100000 in
theorem open_weak (db : Nat) (pw : Int) (v0 v1 : Value) (w : World) (h : Blk w db 29 [.int .i64 pw, v0, v1]) (hp : pw < -1) : Calls Tryd.prog 11 #[.pointer (some ⟨db, 0, none⟩)] w fun e w' => e = .returned (.tuple #[.pointer none, .int .i64 2]) ∧ w = w' := by
  have k0 := h.cell 0 (by simp)
  simp only [List.getD_cons_zero] at k0
  have hb : (decide (pw < -1)) = true := decide_eq_true hp
  clear h
  go_enter Tryd.func11, Tryd.ntmps11
  go_wp2
  go_ret2
  exact ⟨rfl, rfl⟩
set_option maxRecDepth 100000 in
theorem open_long (db : Nat) (pw : Int) (a0 a1 : Option Addr) (n0 c0 n1 c1 : Nat) (w : World) (h : Blk w db 29 [.int .i64 pw, .slice a0 n0 c0, .slice a1 n1 c1]) (hp : -1 ≤ pw) (hl : 262144 < n0 ∨ 262144 < n1) : Calls Tryd.prog 11 #[.pointer (some ⟨db, 0, none⟩)] w fun e w' => e = .returned (.tuple #[.pointer none, .int .i64 2]) ∧ w = w' := by
  have d0 := h.cell 0 (by simp)
  have d1 := h.cell 1 (by simp)
  have d2 := h.cell 2 (by simp)
  simp only [List.getD_cons_zero, List.getD_cons_succ] at d0 d1 d2
  have hb : (decide (pw < -1)) = false := decide_eq_false (by omega)
  have hix0 := index0
  have hix1 := index1
  clear h hp
  go_enter Tryd.func11, Tryd.ntmps11
  go_wp2
  go_loopw [24] (fun i wr => ∃ j : Int, (j = 0 ∨ (j = 1 ∧ n0 ≤ 262144)) ∧ i = .int .i64 j ∧ w = wr) (fun i _ => 2 - (intOf i).toNat)
  case atStart => exact ⟨0, Or.inl rfl, rfl, rfl⟩
  case round =>
    obtain ⟨j, hj, rfl, rfl⟩ := hrel
    rcases hj with rfl | ⟨rfl, hj⟩
    · by_cases h0 : 262144 < n0
      · have hx : (262144 : Int) < (n0 : Int) := by omega
        go_wp2
        go_ret2
        exact ⟨rfl, rfl⟩
      · have hx : ¬ (262144 : Int) < (n0 : Int) := by omega
        go_wp2
        go_roundw
        case rel => exact ⟨1, Or.inr ⟨rfl, by omega⟩, by first | trivial | rfl, by first | trivial | rfl⟩
        case measure => simp [intOf]
    · have hx : (262144 : Int) < (n1 : Int) := by omega
      go_wp2
      go_ret2
      exact ⟨rfl, rfl⟩
end Go.Proofs.YtondomklkapogaaDoor
