/- The walk of draws. -/
import Derived.Test.YtifnmehpkelifaaDoorAwake
namespace Go.Proofs.YtifnmehpkelifaaDoor
open Go.RowKit SeedP
theorem same_true (va vb : Value) (l : List Int) (w : World) (ha : Rd w va (ints .i64 l)) (hb : Rd w vb (ints .i64 l)) :
    Calls Tryd.prog 20 #[va, vb] w fun e w' => e = .returned (.bool true) ∧ Below w.heap.size w w' :=
  (same_c va vb l l w ha hb).mono fun _ _ ⟨h, hb⟩ => ⟨h.trans (ret_bool (decide_eq_true rfl)), hb⟩
/-- draws (12) -/
theorem draws_c (key i n k : Int) (w : World) (hs : St w) (i0 : -9223372036854775808 ≤ i) (i1 : i ≤ 9223372036854775807) (n1 : n ≤ 9223372036854775807) :
    Calls Tryd.prog 12 #[.int .u64 key, .int .i64 i, .int .i64 n, .int .i64 k] w fun e w' => e = .returned (.bool true) ∧ Below w.heap.size w w' := by
  by_cases hn : 200 < n ∧ n ≤ 1000
  · obtain ⟨n2, n3⟩ := hn
    go_enter Tryd.func12, Tryd.ntmps12
    go_wp2_with fail
    refine (below_c key i n _ (hs.alloc _) i0 i1 n1).mono ?_
    rintro e w1 ⟨rfl, hb1⟩
    go_wp2_with fail
    refine (rbelow_c key i n _ i0 i1 n1).mono ?_
    rintro e w2 ⟨rfl, rfl⟩
    go_wp2
    go_ret
    exact ⟨rfl, ((Below.refl _ _).alloc (Nat.le_refl _) _).trans (hb1.mono (by simp))⟩
  · have HP : ∀ W : World, St W → Calls Tryd.prog 19 #[.agg #[.int .u64 key], .int .i64 i, .int .i64 n] W (PostL (permP (wordI key) i n) W) := fun W h => perm_c key i n W h i0 i1
    have HRP : ∀ W : World, Calls Tryd.prog 32 #[.int .u64 key, .int .i64 i, .int .i64 n] W (PostL (permP (wordI key) i n) W) := fun W => rperm_c key i n W i0 i1
    have HC : ∀ W : World, St W → Calls Tryd.prog 22 #[.agg #[.int .u64 key], .int .i64 i, .int .i64 n, .int .i64 k] W (PostL (chooseP (wordI key) i n k) W) := fun W h => choose_c key i n k W h i0 i1
    have HRC : ∀ W : World, Calls Tryd.prog 33 #[.int .u64 key, .int .i64 i, .int .i64 n, .int .i64 k] W (PostL (chooseP (wordI key) i n k) W) := fun W => rchoose_c key i n k W i0 i1
    have H1 := Lib.hid HP
    have H2 := Lib.hid HRP
    have H3 := Lib.hid HC
    have H4 := Lib.hid HRC
    clear HP HRP HC HRC
    have HB : ∀ W : World, St W → Calls Tryd.prog 17 #[.agg #[.int .u64 key], .int .i64 i, .int .i64 n] W fun e w' =>
      e = .returned (.tuple #[.int .i64 (belowP (wordI key) i n).1, .int .i64 (belowP (wordI key) i n).2.1, .int .i64 (belowP (wordI key) i n).2.2]) ∧ Below W.heap.size W w' := fun W h => below_c key i n W h i0 i1 n1
    have HRB : ∀ W : World, Calls Tryd.prog 31 #[.int .u64 key, .int .i64 i, .int .i64 n] W fun e w' =>
      e = .returned (.tuple #[.int .i64 (belowP (wordI key) i n).1, .int .i64 (belowP (wordI key) i n).2.1, .int .i64 (belowP (wordI key) i n).2.2]) ∧ W = w' := fun W => rbelow_c key i n W i0 i1 n1
    have H5 := Lib.hid HB
    have H6 := Lib.hid HRB
    clear HB HRB
    generalize belowP (wordI key) i n = R0 at *
    generalize permP (wordI key) i n = R1 at *
    generalize chooseP (wordI key) i n k = R2 at *
    have c0 : (w.alloc (.cells #[.int .u64 key] 31)).cell? ⟨w.heap.size, 0, none⟩ = some (.int .u64 key) := by simp [go_sem]
    have B0 : Below w.heap.size w (w.alloc (.cells #[.int .u64 key] 31)) := (Below.refl _ _).alloc (Nat.le_refl _) _
    have hd : (200 < n ∧ 1000 < n) ∨ n ≤ 200 := by omega
    clear hn
    rcases hd with ⟨h2, h3⟩ | h2
    all_goals
      go_enter Tryd.func12, Tryd.ntmps12
      go_wp2_with fail
      refine (H5.out _ (hs.alloc _)).mono ?_
      rintro e w1 ⟨rfl, hb1⟩
      have hs1 := (hs.alloc _).below hb1 (by simp)
      have c1 := keep_cell hb1 c0
      have B1 := B0.trans (hb1.mono B0.size)
      clear hb1 c0 B0
      go_wp2_with fail
      refine (H6.out _).mono ?_
      rintro e w2 ⟨rfl, rfl⟩
      go_wp2_with fail
      refine (H1.out _ hs1).mono ?_
      rintro e w2 ⟨v1, rfl, rd1, hb2⟩
      have hs2 := hs1.below hb2 hs1.pos
      have c2 := keep_cell hb2 c1
      have B2 := B1.trans (hb2.mono B1.size)
      clear hb2 c1 B1
      go_wp2_with fail
      refine (H2.out _).mono ?_
      rintro e w3 ⟨v2, rfl, rd2, hb3⟩
      have hs3 := hs2.below hb3 hs2.pos
      have c3 := keep_cell hb3 c2
      have rd1' := rd1.below hb3
      have B3 := B2.trans (hb3.mono B2.size)
      clear hb3 c2 B2 rd1
      go_wp2_with fail
      refine (same_true _ _ _ _ rd1' rd2).mono ?_
      rintro e w4 ⟨rfl, hb4⟩
      have hs4 := hs3.below hb4 hs3.pos
      have c4 := keep_cell hb4 c3
      have B4 := B3.trans (hb4.mono B3.size)
      clear hb4 c3 B3 rd1' rd2
      go_wp2_with fail
      refine (H3.out _ hs4).mono ?_
      rintro e w5 ⟨v3, rfl, rd3, hb5⟩
      have B5 := B4.trans (hb5.mono B4.size)
      clear hb5 c4 B4
      go_wp2_with fail
      refine (H4.out _).mono ?_
      rintro e w6 ⟨v4, rfl, rd4, hb6⟩
      have rd3' := rd3.below hb6
      have B6 := B5.trans (hb6.mono B5.size)
      clear hb6 B5 rd3
      go_wp2_with fail
      refine (same_true _ _ _ _ rd3' rd4).mono ?_
      rintro e w7 ⟨rfl, hb7⟩
      go_wp2
      go_ret
      exact ⟨rfl, B6.trans (hb7.mono B6.size)⟩
end Go.Proofs.YtifnmehpkelifaaDoor
