/- The walk of SeedWrong. -/
import Derived.Test.YtifnmehpkelifaaDoorBun
namespace Go.Proofs.YtifnmehpkelifaaDoor
open Go.RowKit SeedP
theorem long_subR (key : Int) (p s : ByteArray) (hp : p.size = 33) (hs : s.size ≤ 140737488351232) : (p ++ s).size ≤ maxLen ∧ subR key (p ++ s).data.toList = (0, 3) := by
  have e : (p ++ s).data.toList.length = 33 + s.size := by
    have : (p ++ s).data.toList.length = (p ++ s).size := by simp
    rw [this, ByteArray.size_append, hp]
  refine ⟨by rw [ByteArray.size_append, hp]; unfold maxLen; omega, ?_⟩
  unfold subR
  rw [e, if_neg (by omega), if_pos (by omega)]
set_option maxRecDepth 100000
set_option maxHeartbeats 4000000 in
/-- SeedWrong (8) -/
theorem seedWrong_walk (key n : Int) (s : ByteArray) (w : World) (hs : St w) (_bk : 0 ≤ key ∧ key ≤ 18446744073709551615) (bn : -9223372036854775808 ≤ n ∧ n ≤ 9223372036854775807) (hm : s.size ≤ maxLen ∧ s.size ≤ 140737488351232) :
    Calls Tryd.prog 8 #[.int .u64 key, .int .i64 n, .string s] w fun e w' => e = .returned (.bool true) ∧ Below w.heap.size w w' := by
  obtain ⟨n0, n1⟩ := bn
  go_enter Tryd.func8, Tryd.ntmps8
  go_wp2_with fail
  refine (awake_c _ hs).mono ?_
  rintro e w1 ⟨rfl, hb1⟩
  have k1 : K w _ w1.heap.size key := K.start hb1 (hs.below hb1 hs.pos)
  have c1 := k1.cell
  clear hb1 hs
  go_wp2_with (refine wpList_min _ rfl _ _ _ rfl n (-1) rfl rfl ?_)
  intro lo lo1 lo2 lo3
  go_wp2_with (refine wpList_max _ rfl _ _ _ rfl n 1099511627777 rfl rfl ?_)
  intro hi hi1 hi2 hi3
  go_wp2_with fail
  refine (word_bad_c key _ _ k1.st (by omega)).mono ?_
  rintro e w2 ⟨rfl, hb⟩
  have k2 := k1.step hb
  have c2 := k2.cell
  clear hb c1 k1
  go_wp2_with (refine wpList_max _ rfl _ _ _ rfl n 1099511627776 rfl rfl ?_)
  intro m1 m11 m12 m13
  go_wp2_with fail
  refine (word_bad_c key _ _ k2.st (by omega)).mono ?_
  rintro e w3 ⟨rfl, hb⟩
  have k3 := k2.step hb
  have c3 := k3.cell
  clear hb c2 k2 m11 m12 m13
  go_wp2
  have k4 := k3.alloc (.cells #[.int .i64 lo, .int .i64 hi] 3)
  have e0 : (w3.alloc (.cells #[.int .i64 lo, .int .i64 hi] 3)).cell? ⟨w3.heap.size, 0, none⟩ = some (.int .i64 lo) := by simp [go_sem]
  have e1 : (w3.alloc (.cells #[.int .i64 lo, .int .i64 hi] 3)).cell? ⟨w3.heap.size, 1, none⟩ = some (.int .i64 hi) := by simp [go_sem]
  clear c3 k3
  generalize w3.alloc (.cells #[.int .i64 lo, .int .i64 hi] 3) = w4 at *
  generalize w3.heap.size = b at *
  generalize w1.heap.size = g at *
  go_loopw [97] (fun i wr => ∃ k : Nat, k ≤ 2 ∧ i = .int .i64 k ∧ K w wr g key ∧ wr.cell? ⟨b, 0, none⟩ = some (.int .i64 lo) ∧ wr.cell? ⟨b, 1, none⟩ = some (.int .i64 hi)) (fun i _ => 2 - (intOf i).toNat)
  case atStart => exact ⟨0, by omega, rfl, k4, e0, e1⟩
  case round =>
    obtain ⟨k, hk, rfl, k5, f0, f1⟩ := hrel
    clear k4 e0 e1
    by_cases hlt : k < 2
    · obtain ⟨x, cx, xb, x0, x1⟩ : ∃ x : Int, wr.cell? ⟨b, k, none⟩ = some (.int .i64 x) ∧ (x < 0 ∨ 1099511627776 < x) ∧ -9223372036854775808 ≤ x ∧ x ≤ 9223372036854775807 := by
        obtain rfl | rfl : k = 0 ∨ k = 1 := by omega
        · exact ⟨lo, f0, by omega, by omega, by omega⟩
        · exact ⟨hi, f1, by omega, by omega, by omega⟩
      have c5 := k5.cell
      go_wp2_with fail
      refine (below_bad_c key x 5 _ k5.st (by omega) x0 x1 (by decide)).mono ?_
      rintro e w6 ⟨rfl, hb⟩
      have k6 := k5.step hb
      have c6 := k6.cell
      have g0 := keep_cell hb f0
      have g1 := keep_cell hb f1
      clear hb c5 k5 f0 f1 cx
      go_wp2_with fail
      refine (perm_bad_c key x 0 _ k6.st (by omega) x0 x1).mono ?_
      rintro e w7 ⟨⟨a1, p1, rfl⟩, hb⟩
      have k7 := k6.step hb
      have c7 := k7.cell
      have f0 := keep_cell hb g0
      have f1 := keep_cell hb g1
      clear hb c6 k6 g0 g1
      go_wp2_with fail
      refine (choose_bad_c key x 0 0 _ k7.st (by omega) x0 x1).mono ?_
      rintro e w8 ⟨⟨a2, p2, rfl⟩, hb⟩
      have k8 := k7.step hb
      have c8 := k8.cell
      have g0 := keep_cell hb f0
      have g1 := keep_cell hb f1
      clear hb c7 k7 f0 f1
      go_wp2_with fail
      refine (weigh_bad_c key x _ [1] _ (k8.alloc _).st (rd_lit _ [1] (by decide)) (weigh_bad _ _ _ (by omega)) x0 x1).mono ?_
      rintro e w9 ⟨rfl, hb⟩
      have k9 := k8.stepA hb
      have c9 := k9.cell
      have f0 := keep_cell (below_stepA hb) g0
      have f1 := keep_cell (below_stepA hb) g1
      clear hb c8 k8 g0 g1
      go_wp2
      go_roundw
      case rel => exact ⟨k + 1, by omega, by go_num, k9, f0, f1⟩
      case measure => simp [intOf]; omega
    · obtain rfl : k = 2 := by omega
      clear f0 f1
      have c5 := k5.cell
      go_wp2_with (refine wpList_min _ rfl _ _ _ rfl n 0 rfl rfl ?_)
      intro z z1 z2 z3
      go_wp2_with fail
      refine (below_bad_c key 0 z _ k5.st (by omega) (by decide) (by decide) (by omega)).mono ?_
      rintro e w11 ⟨rfl, hb⟩
      have k6 := k5.step hb
      have c6 := k6.cell
      clear hb c5 k5 z1 z2 z3
      go_wp2_with fail
      refine (perm_bad_c key 0 lo _ k6.st (by omega) (by decide) (by decide)).mono ?_
      rintro e w12 ⟨⟨a3, p3, rfl⟩, hb⟩
      have k7 := k6.step hb
      have c7 := k7.cell
      clear hb c6 k6
      go_wp2_with (refine wpList_max _ rfl _ _ _ rfl n 1001 rfl rfl ?_)
      intro mp mp1 mp2 mp3
      go_wp2_with fail
      refine (perm_bad_c key 0 mp _ k7.st (by omega) (by decide) (by decide)).mono ?_
      rintro e w13 ⟨⟨a4, p4, rfl⟩, hb⟩
      have k8 := k7.step hb
      have c8 := k8.cell
      clear hb c7 k7 mp1 mp2 mp3
      go_wp2_with fail
      refine (choose_bad_c key 0 5 lo _ k8.st (by omega) (by decide) (by decide)).mono ?_
      rintro e w14 ⟨⟨a5, p5, rfl⟩, hb⟩
      have k9 := k8.step hb
      have c9 := k9.cell
      clear hb c8 k8
      go_wp2_with (refine wpList_max _ rfl _ _ _ rfl n 6 rfl rfl ?_)
      intro mc mc1 mc2 mc3
      go_wp2_with fail
      refine (choose_bad_c key 0 5 mc _ k9.st (by omega) (by decide) (by decide)).mono ?_
      rintro e w15 ⟨⟨a6, p6, rfl⟩, hb⟩
      have k10 := k9.step hb
      have c10 := k10.cell
      clear hb c9 k9 mc1 mc2 mc3
      go_wp2_with fail
      refine (weigh_bad_c key 0 _ [3, lo] _ (k10.alloc _).st (rd_lit _ [3, lo] (by simp [maxLen])) (weigh_elem _ _ _ 1 (by simp) (Or.inl (by simp; omega))) (by decide) (by decide)).mono ?_
      rintro e w16 ⟨rfl, hb⟩
      have k11 := k10.stepA hb
      have c11 := k11.cell
      clear hb c10 k10
      go_wp2_with fail
      refine (weigh_bad_c key 0 _ [0, 0] _ (k11.alloc _).st (rd_lit _ [0, 0] (by simp [maxLen])) (weigh_zero _ _ _ rfl) (by decide) (by decide)).mono ?_
      rintro e w17 ⟨rfl, hb⟩
      have k12 := k11.stepA hb
      have c12 := k12.cell
      clear hb c11 k11
      go_wp2_with (refine wpList_max _ rfl _ _ _ rfl n 1099511627777 rfl rfl ?_)
      intro mw mw1 mw2 mw3
      go_wp2_with fail
      refine (weigh_bad_c key 0 _ [mw] _ (k12.alloc _).st (rd_lit _ [mw] (by simp [maxLen])) (weigh_elem _ _ _ 0 (by simp) (Or.inr (by simp; omega))) (by decide) (by decide)).mono ?_
      rintro e w18 ⟨rfl, hb⟩
      have k13 := k12.stepA hb
      have c13 := k13.cell
      clear hb c12 k12 mw1 mw2 mw3
      go_wp2_with fail
      refine (sub_bad_c key _ _ k13.st (by simp [maxLen, ByteArray.size]) 2 rfl).mono ?_
      rintro e w19 ⟨rfl, hb⟩
      have k14 := (k13.step hb).alloc (.cells #[.int .u64 0] 31)
      have c14 := k14.cell
      have d1 : (w19.alloc (.cells #[.int .u64 0] 31)).cell? ⟨w19.heap.size, 0, none⟩ = some (.int .u64 0) := by simp [go_sem]
      clear hb c13 k13
      go_wp2_with fail
      refine (sub_bad_c key _ _ k14.st ?h1 3 ?h2).mono ?_
      case h1 => exact (long_subR key _ s (by rfl) hm.2).1
      case h2 => exact (long_subR key _ s (by rfl) hm.2).2
      rintro e w20 ⟨rfl, hb⟩
      have k15 := (k14.step hb).alloc (.cells #[.int .u64 0] 31)
      have z15 := hb.size
      have d2 := keep_cell (hb.trans (below_alloc w20 (.cells #[.int .u64 0] 31)|>.mono hb.size)) d1
      have d3 : (w20.alloc (.cells #[.int .u64 0] 31)).cell? ⟨w20.heap.size, 0, none⟩ = some (.int .u64 0) := by simp [go_sem]
      clear hb c14 k14 d1
      go_wp2
      have k16 := k15.alloc (.cells #[.int .i64 2, .int .i64 2, .int .i64 2, .int .i64 2, .int .i64 2, .int .i64 2, .int .i64 2, .int .i64 2, .int .i64 2] 33)
      have c21 : ∀ j, j < 9 → ((w20.alloc (.cells #[.int .u64 0] 31)).alloc (.cells #[.int .i64 2, .int .i64 2, .int .i64 2, .int .i64 2, .int .i64 2, .int .i64 2, .int .i64 2, .int .i64 2, .int .i64 2] 33)).cell? ⟨w20.heap.size + 1, j, none⟩ = some (.int .i64 2) := by
        intro j hj
        obtain rfl | rfl | rfl | rfl | rfl | rfl | rfl | rfl | rfl : j = 0 ∨ j = 1 ∨ j = 2 ∨ j = 3 ∨ j = 4 ∨ j = 5 ∨ j = 6 ∨ j = 7 ∨ j = 8 := by omega
        all_goals simp [go_sem]
      have d4 := keep_cell (below_alloc _ (.cells #[.int .i64 2, .int .i64 2, .int .i64 2, .int .i64 2, .int .i64 2, .int .i64 2, .int .i64 2, .int .i64 2, .int .i64 2] 33)) d2
      have d5 := keep_cell (below_alloc _ (.cells #[.int .i64 2, .int .i64 2, .int .i64 2, .int .i64 2, .int .i64 2, .int .i64 2, .int .i64 2, .int .i64 2, .int .i64 2] 33)) d3
      have B := k16.bel
      clear k15 k16 d2 d3 z15
      generalize (w20.alloc (.cells #[.int .u64 0] 31)).alloc (.cells #[.int .i64 2, .int .i64 2, .int .i64 2, .int .i64 2, .int .i64 2, .int .i64 2, .int .i64 2, .int .i64 2, .int .i64 2] 33) = w21 at *
      generalize w20.heap.size = b2 at *
      generalize w19.heap.size = b1 at *
      go_loopw [255] (fun i wr => ∃ k : Nat, k ≤ 9 ∧ i = .int .i64 k ∧ wr = w21) (fun i _ => 9 - (intOf i).toNat)
      case atStart => exact ⟨0, by omega, rfl, rfl⟩
      case round =>
        obtain ⟨k, hk, rfl, rfl⟩ := hrel
        by_cases hlt : k < 9
        · have c22 := c21 k hlt
          clear c21
          go_wp2
          go_roundw
          case rel => exact ⟨k + 1, by omega, by go_num, trivial⟩
          case measure => simp [intOf]; omega
        · obtain rfl : k = 9 := by omega
          go_wp2
          go_ret
          exact ⟨rfl, B⟩
end Go.Proofs.YtifnmehpkelifaaDoor
