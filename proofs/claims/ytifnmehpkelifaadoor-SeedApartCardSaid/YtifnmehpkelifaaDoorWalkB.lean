/- The walks of Unmix, Sub, and of their references. -/
import Derived.Test.YtifnmehpkelifaaDoorWalkA
namespace Go.Proofs.YtifnmehpkelifaaDoor
open Go.RowKit SeedP

/-- Unmix (27) -/
theorem unmix_c (x : Int) (w : World) (hs : St w) (x0 : 0 ≤ x) (x1 : x ≤ 18446744073709551615) :
    Calls Tryd.prog 27 #[.int .u64 x] w fun e w' => e = .returned (.int .u64 (unmixI x)) ∧ Below w.heap.size w w' := by
  obtain ⟨b, rfl⟩ := exists_toI x x0 x1
  have hp := hs.pos
  obtain ⟨h0, h1, h2, h3, h4, h5⟩ := hs
  go_enter Tryd.func27, Tryd.ntmps27
  go_wp2
  refine wp_loop_rounds 4 ?_
  rw [rounds_succ]
  go_wp2_with fail
  refine (inverse_c _ _ (by decide) (by decide)).mono ?_
  rintro e w1 ⟨rfl, rfl⟩
  go_wp2
  refine wp_loop_rounds 4 ?_
  rw [rounds_succ]
  go_wp2
  rw [rounds_succ]
  go_wp2
  rw [rounds_succ]
  go_wp2
  rw [rounds_succ]
  go_wp2
  rw [rounds_succ]
  go_wp2_with fail
  refine (inverse_c _ _ (by decide) (by decide)).mono ?_
  rintro e w1 ⟨rfl, rfl⟩
  go_wp2
  refine wp_loop_rounds 4 ?_
  rw [rounds_succ]
  go_wp2
  rw [rounds_succ]
  go_wp2
  rw [rounds_succ]
  go_wp2
  rw [rounds_succ]
  go_wp2
  rw [rounds_succ]
  go_wp2_with fail
  refine (inverse_c _ _ (by decide) (by decide)).mono ?_
  rintro e w1 ⟨rfl, rfl⟩
  go_wp2
  refine wp_loop_rounds 4 ?_
  rw [rounds_succ]
  go_wp2
  rw [rounds_succ]
  go_wp2
  rw [rounds_succ]
  go_wp2
  rw [rounds_succ]
  go_wp2
  rw [rounds_succ]
  go_wp2
  go_ret
  refine ⟨ret_int ?_, ?_⟩
  · unfold unmixI
    simp only [shr30, shr27, shr31, shr60, shr54, shr62, w_xor, w_wrap, ofI_mul, ofI_toI, ofI_0, ofI_1, ofI_c1, ofI_c2, inv0, BitVec.mul_one, BitVec.zero_xor]
    rfl
  · exact (((Below.refl _ _).alloc (Nat.le_refl _) _).alloc (by simp) _).alloc (by simp; omega) _
/-- the reference's New (42) -/
theorem rnew_c (x : Int) (w : World) (x0 : 0 ≤ x) (x1 : x ≤ 18446744073709551615) :
    Calls Tryd.prog 42 #[.int .u64 x] w fun e w' => e = .returned (.int .u64 (mixI x)) ∧ w = w' := by
  go_enter Tryd.func42, Tryd.ntmps42
  go_wp2_with fail
  refine (rmix_c _ _ x0 x1).mono ?_
  rintro e w1 ⟨rfl, rfl⟩
  go_wp2
  go_ret
  exact ⟨rfl, rfl⟩
/-- the reference's At (41) -/
theorem rat_c (key n : Int) (w : World) :
    Calls Tryd.prog 41 #[.int .u64 key, .int .i64 n] w fun e w' => e = .returned (.int .u64 (atI key n)) ∧ w = w' := by
  go_enter Tryd.func41, Tryd.ntmps41
  go_wp2_with fail
  refine (rmix_c _ _ (u64_lo _) (u64_hi _)).mono ?_
  rintro e w1 ⟨rfl, rfl⟩
  go_wp2_with fail
  refine (rmix_c _ _ (xor_lo _ _) (xor_hi _ _)).mono ?_
  rintro e w1 ⟨rfl, rfl⟩
  go_wp2
  go_ret
  exact ⟨ret_int (at_form _ _), rfl⟩
/-- the reference's Sub (39) -/
def subR (key : Int) (l : List UInt8) : Int × Int := if l.length = 0 then (0, 2) else if 32 < l.length then (0, 3) else (subI key l, 0)
theorem rsub_c (key : Int) (s : ByteArray) (w : World) (hm : s.size ≤ maxLen) :
    Calls Tryd.prog 39 #[.int .u64 key, .string s] w fun e w' => e = .returned (.tuple #[.int .u64 (subR key s.data.toList).1, .int .i64 (subR key s.data.toList).2]) ∧ w = w' := by
  unfold maxLen at hm
  by_cases h0 : s.size = 0
  · have H := Lib.hid (show subR key s.data.toList = (0, 2) by unfold subR; rw [if_pos (by simpa using h0)])
    have t0 : ((s.size : Int) == 0) = true := by simp [h0]
    clear h0
    go_enter Tryd.func39, Tryd.ntmps39
    go_wp2
    go_ret2
    exact ⟨by rw [H.out]; rfl, rfl⟩
  · by_cases h1 : 32 < s.size
    · have H := Lib.hid (show subR key s.data.toList = (0, 3) by unfold subR; rw [if_neg (by simpa using h0), if_pos (by simpa using h1)])
      have t0 : ((s.size : Int) == 0) = false := beq_eq_false_iff_ne.2 (by omega)
      clear h0
      go_enter Tryd.func39, Tryd.ntmps39
      go_wp2
      go_ret2
      exact ⟨by rw [H.out]; rfl, rfl⟩
    · have H := Lib.hid (show subR key s.data.toList = (subI key s.data.toList, 0) by unfold subR; rw [if_neg (by simpa using h0), if_neg (by simpa using h1)])
      have t0 : ((s.size : Int) == 0) = false := beq_eq_false_iff_ne.2 (by omega)
      have hle : s.size ≤ 32 := by omega
      have hl : s.data.toList.length = s.size := by simp
      have K0 := subK_bd (mixI (bits .xor .u64 key s.size)) (mixI_nonneg _) (mixI_le _)
      have HI := Lib.hid (show subI key s.data.toList = subK (mixI (bits .xor .u64 key s.size)) (s.data.toList.take s.size) by unfold subI; rw [List.take_of_length_le (by omega), hl])
      clear h0 h1 hl
      go_enter Tryd.func39, Tryd.ntmps39
      go_wp2_with fail
      refine (rmix_c _ _ (xor_lo _ _) (xor_hi _ _)).mono ?_
      rintro e w1 ⟨rfl, rfl⟩
      go_wp2
      generalize mixI (bits .xor .u64 key s.size) = k0 at *
      go_loop [6, 7] (fun k i => ∃ j : Nat, j ≤ s.size ∧ i = .int .i64 j ∧ k = .int .u64 (subK k0 (s.data.toList.take j))) (fun _ i => s.size - (intOf i).toNat)
      case atStart => exact ⟨0, Nat.zero_le _, rfl, rfl⟩
      case round =>
        obtain ⟨j, hj, rfl, rfl⟩ := hrel
        by_cases hlt : j < s.size
        · have HS := Lib.hid (show mixI (bits .xor .u64 (subK k0 (s.data.toList.take j)) (IntKind.u64.wrap s[j].toNat)) = subK k0 (s.data.toList.take (j + 1)) by rw [take_snoc s j hlt, subK_snoc, byte_wrap])
          go_wp2_with fail
          refine (rmix_c _ _ (xor_lo _ _) (xor_hi _ _)).mono ?_
          rintro e w1 ⟨rfl, rfl⟩
          go_wp2
          go_round
          case rel => exact ⟨j + 1, by omega, by go_num, by rw [← HS.out]⟩
          case measure => simp [intOf]; omega
        · obtain rfl : j = s.size := by omega
          go_wp2
          go_ret2
          exact ⟨by rw [H.out, HI.out]; rfl, rfl⟩
/-- the reference's unshift (49) -/
theorem unshift_c (x k : Int) (w : World) (x0 : 0 ≤ x) (x1 : x ≤ 18446744073709551615) (k0 : 22 ≤ k) (k1 : k ≤ 63) :
    Calls Tryd.prog 49 #[.int .u64 x, .int .i64 k] w fun e w' => e = .returned (.int .u64 (toI (unxs k.toNat (ofI x)))) ∧ w = w' := by
  obtain ⟨b, rfl⟩ := exists_toI x x0 x1
  obtain ⟨k, rfl⟩ := Int.eq_ofNat_of_zero_le (show 0 ≤ k by omega)
  rw [ofI_toI, Int.toNat_natCast]
  go_enter Tryd.func49, Tryd.ntmps49
  go_wp2
  go_loop [5, 6] (fun y i => ∃ n : Nat, n ≤ 64 ∧ i = .int .i64 (n - 1) ∧ ∃ yb, y = .int .u64 (toI yb) ∧ uLoop b k n yb = uLoop b k 64 0#64) (fun _ i => (intOf i + 1).toNat)
  case atStart => exact ⟨64, by omega, rfl, 0#64, rfl, rfl⟩
  case round =>
    obtain ⟨n, hn, rfl, yb, rfl, hY⟩ := hrel
    have HY := Lib.hid hY
    clear hY
    cases n with
    | zero =>
      go_wp2
      go_ret
      exact ⟨ret_int (congrArg toI (HY.out.trans (uLoop_un b k (by omega)))), rfl⟩
    | succ m =>
      rw [show ((m + 1 : Nat) : Int) - 1 = m by omega]
      have hm : m < 64 := by omega
      clear hn
      by_cases hs : m + k < 64
      · have F := Lib.hid (u_form b yb m k hs)
        go_wp2
        go_round
        case rel => exact ⟨m, by omega, rfl, uStep b k yb m, by rw [F.out], HY.out⟩
        case measure => simp [intOf]
      · have F := Lib.hid (u_form' b yb m k hs)
        go_wp2
        go_round
        case rel => exact ⟨m, by omega, rfl, uStep b k yb m, by rw [F.out], HY.out⟩
        case measure => simp [intOf]
/-- the reference's divide (50) -/
theorem divide_c (x odd : Int) (w : World) (x0 : 0 ≤ x) (x1 : x ≤ 18446744073709551615) (k0 : 0 ≤ odd) (k1 : odd ≤ 18446744073709551615) (ho : (ofI odd).getLsbD 0 = true) :
    Calls Tryd.prog 50 #[.int .u64 x, .int .u64 odd] w fun e w' => ∃ y, e = .returned (.int .u64 (toI y)) ∧ y * ofI odd = ofI x ∧ w = w' := by
  obtain ⟨b, rfl⟩ := exists_toI x x0 x1
  obtain ⟨o, rfl⟩ := exists_toI odd k0 k1
  have HO := Lib.hid ho
  clear ho
  rw [ofI_toI, ofI_toI]
  go_enter Tryd.func50, Tryd.ntmps50
  go_wp2
  go_loop [5, 6] (fun y i => ∃ n j : Nat, n + j = 64 ∧ i = .int .u64 (toI (BitVec.twoPow 64 j)) ∧ ∃ yb, y = .int .u64 (toI yb) ∧ dLoop b o n j yb = dLoop b o 64 0 0#64) (fun _ i => dMu i)
  case atStart => exact ⟨64, 0, rfl, rfl, 0#64, rfl, rfl⟩
  case round =>
    obtain ⟨n, j, hn, rfl, yb, rfl, hY⟩ := hrel
    have HY := Lib.hid hY
    have HN := Lib.hid hn
    clear hY hn
    cases n with
    | zero =>
      obtain rfl : j = 64 := by have := HN.out; omega
      have t0 : (toI (BitVec.twoPow 64 64) != 0) = false := by rw [pow_end]; rfl
      go_wp2
      go_ret
      exact ⟨yb, rfl, by rw [show yb = dLoop b o 64 0 0#64 from HY.out, dLoop_mul b o (by have := HO.out; rwa [ofI_toI] at this)], rfl⟩
    | succ n =>
      have hj : j < 64 := by have := HN.out; omega
      have t0 := pow_ne j hj
      have G := Lib.hid (pow_next j)
      by_cases hc : (b - yb * o) &&& BitVec.twoPow 64 j = 0#64
      · have F := Lib.hid (show dStep b o yb j = yb by unfold dStep; rw [if_neg (fun h => h hc)])
        have t1 : (bits .and .u64 (IntKind.u64.wrap (toI b - IntKind.u64.wrap (toI yb * toI o))) (toI (BitVec.twoPow 64 j)) != 0) = false := by rw [d_form, hc]; rfl
        clear hc
        go_wp2
        go_round
        case rel => exact ⟨n, j + 1, by have := HN.out; omega, by rw [G.out], yb, rfl, by have := HY.out; unfold dLoop at this; rwa [F.out] at this⟩
        case measure => rw [G.out, dMu_at _ (by omega), dMu_at _ (by omega)]; omega
      · have F := Lib.hid (show dStep b o yb j = yb ||| BitVec.twoPow 64 j by unfold dStep; rw [if_pos hc])
        have t1 : (bits .and .u64 (IntKind.u64.wrap (toI b - IntKind.u64.wrap (toI yb * toI o))) (toI (BitVec.twoPow 64 j)) != 0) = true := by rw [d_form]; exact toI_ne _ hc
        clear hc
        go_wp2
        go_round
        case rel => exact ⟨n, j + 1, by have := HN.out; omega, by rw [G.out], yb ||| BitVec.twoPow 64 j, by rw [or_form], by have := HY.out; unfold dLoop at this; rwa [F.out] at this⟩
        case measure => rw [G.out, dMu_at _ (by omega), dMu_at _ (by omega)]; omega
/-- the reference's Unmix (44) -/
theorem runmix_c (x : Int) (w : World) (x0 : 0 ≤ x) (x1 : x ≤ 18446744073709551615) :
    Calls Tryd.prog 44 #[.int .u64 x] w fun e w' => e = .returned (.int .u64 (unmixI x)) ∧ w = w' := by
  obtain ⟨b, rfl⟩ := exists_toI x x0 x1
  go_enter Tryd.func44, Tryd.ntmps44
  go_wp2_with fail
  refine (unshift_c _ _ _ x0 x1 (by decide) (by decide)).mono ?_
  rintro e w1 ⟨rfl, rfl⟩
  rw [ofI_toI]
  go_wp2_with fail
  refine (divide_c _ _ _ (toI_nonneg _) (toI_le _) (by decide) (by decide) (by decide)).mono ?_
  rintro e w1 ⟨y, rfl, hy, rfl⟩
  have HY := Lib.hid hy
  clear hy
  go_wp2_with fail
  refine (unshift_c _ _ _ (toI_nonneg _) (toI_le _) (by decide) (by decide)).mono ?_
  rintro e w1 ⟨rfl, rfl⟩
  go_wp2_with fail
  refine (divide_c _ _ _ (toI_nonneg _) (toI_le _) (by decide) (by decide) (by decide)).mono ?_
  rintro e w1 ⟨z, rfl, hz, rfl⟩
  have HZ := Lib.hid hz
  clear hz
  go_wp2_with fail
  refine (unshift_c _ _ _ (toI_nonneg _) (toI_le _) (by decide) (by decide)).mono ?_
  rintro e w1 ⟨rfl, rfl⟩
  go_wp2
  go_ret
  refine ⟨ret_int ?_, rfl⟩
  have h1 := HY.out
  have h2 := HZ.out
  rw [ofI_c2, ofI_toI] at h1
  rw [ofI_c1, ofI_toI, ofI_toI] at h2
  unfold unmixI unmixB
  rw [ofI_toI, ofI_toI]
  have e1 : y = unxs 31 b * invB c2 := by
    rw [← mul_inv_cancel y c2 (invB c2) inv2, h1]
  have e2 : z = unxs 27 y * invB c1 := by
    rw [← mul_inv_cancel z c1 (invB c1) inv1, h2]
  rw [e2, e1]
end Go.Proofs.YtifnmehpkelifaaDoor
