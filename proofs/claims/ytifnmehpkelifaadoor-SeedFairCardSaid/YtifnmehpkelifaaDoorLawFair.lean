/- The walk of SeedFair. -/
import Derived.Test.YtifnmehpkelifaaDoorAwake
namespace Go.Proofs.YtifnmehpkelifaaDoor
open Go.RowKit SeedP
theorem fair_zero (n : Int) (hn : 1 ≤ n) (h1 : n ≤ 9223372036854775807) : restP 0 n = (0, true) := by
  have := over_bounds n hn
  rw [restP_of_ok 0 n hn (by omega)]; simp
theorem fair_no (x n : Int) (hn : 1 ≤ n) (h : (restP x n).2 = false) : 18446744073709551615 - restOver n < x := by
  by_cases hc : x ≤ 18446744073709551615 - restOver n
  · rw [restP_of_ok x n hn hc] at h; cases h
  · omega
theorem not_form (x : Int) (h0 : 0 ≤ x) (h1 : x ≤ 18446744073709551615) : bits .xor .u64 18446744073709551615 x = 18446744073709551615 - x := by
  obtain ⟨b, rfl⟩ := exists_toI x h0 h1
  rw [w_xor, ofI_toI, show ofI 18446744073709551615 = BitVec.allOnes 64 by decide, BitVec.allOnes_xor]
  unfold toI
  rw [BitVec.toNat_not]
  have := b.isLt
  omega
theorem fair_more_no (x n : Int) (hn : 1 ≤ n) (hx : 18446744073709551615 - restOver n < x + 1) : restP (x + 1) n = (0, false) := restP_of_no _ n hn (by omega)
theorem fair_last (n x : Int) (hn : 1 ≤ n) (h0 : 0 ≤ x) (h : x ≤ 18446744073709551615 - restOver n) (h2 : 18446744073709551615 - restOver n < x + 1) : x % n = n - 1 := last_rest x n hn h0 (by omega)
set_option maxHeartbeats 1000000 in
/-- SeedFair (5) -/
theorem seedFair_walk (x n : Int) (w : World) (hs : St w) (bx : 0 ≤ x ∧ x ≤ 18446744073709551615) (bn : -9223372036854775808 ≤ n ∧ n ≤ 9223372036854775807) :
    Calls Tryd.prog 5 #[.int .u64 x, .int .i64 n] w fun e w' => e = .returned (.bool true) ∧ Below w.heap.size w w' := by
  obtain ⟨x0, x1⟩ := bx
  obtain ⟨n0, n1⟩ := bn
  have HA := Lib.hid (awake_c w hs)
  have HR : ∀ (y : Int) (W : World), 0 ≤ y → y ≤ 18446744073709551615 → Calls Tryd.prog 15 #[.int .u64 y, .int .i64 n] W fun e w' => e = .returned (.tuple #[.int .i64 (restP y n).1, .bool (restP y n).2]) ∧ W = w' := fun y W h0 h1 => rest_c y n W h0 h1 n1
  have HR := Lib.hid HR
  clear hs
  by_cases hn : n < 1
  · have e1 : restP x n = (0, false) := by unfold restP; rw [if_pos hn]
    have E1 := Lib.hid e1
    clear e1
    go_enter Tryd.func5, Tryd.ntmps5
    go_wp2_with fail
    refine HA.out.mono ?_
    rintro e w1 ⟨rfl, hb⟩
    go_wp2_with fail
    refine (HR.out x _ x0 x1).mono ?_
    rintro e w2 ⟨rfl, rfl⟩
    rw [E1.out]
    go_wp2
    go_ret
    exact ⟨rfl, hb⟩
  · have hn1 : 1 ≤ n := by omega
    have Z := Lib.hid (fair_zero n hn1 n1)
    have ob := over_bounds n hn1
    have vb := restP_lt x n hn1
    cases hok : (restP x n).2 with
    | false =>
      have hv := restP_no x n hok
      have hx := fair_no x n hn1 hok
      have E1 := Lib.hid (show restP x n = (0, false) from Prod.ext hv hok)
      have hi : 18446744073709551615 - x < n - 1 := by omega
      clear hv hok vb hx ob
      have tn : decide (n ≤ 0) = false := decide_eq_false (by omega)
      have NF : decide (n - 1 ≤ bits .xor .u64 IntKind.u64.max x) = false := by rw [show IntKind.u64.max = 18446744073709551615 by decide, not_form x x0 x1]; exact decide_eq_false (by omega)
      have NG : bits .xor .u64 (if IntKind.u64.signed = true then -1 else IntKind.u64.max) x < n - 1 := by rw [show (if IntKind.u64.signed = true then -1 else IntKind.u64.max) = 18446744073709551615 by decide, not_form x x0 x1]; omega
      by_cases hm : x = 18446744073709551615
      · have t0 : (x == 18446744073709551615) = true := by rw [beq_iff_eq]; exact hm
        clear hm
        go_enter Tryd.func5, Tryd.ntmps5
        go_wp2_with fail
        refine HA.out.mono ?_
        rintro e w1 ⟨rfl, hb⟩
        go_wp2_with fail
        refine (HR.out x _ x0 x1).mono ?_
        rintro e w2 ⟨rfl, rfl⟩
        rw [E1.out]
        go_wp2_with fail
        refine (HR.out 0 _ (by decide) (by decide)).mono ?_
        rintro e w2 ⟨rfl, rfl⟩
        rw [Z.out]
        go_wp2
        go_ret
        exact ⟨rfl, hb⟩
      · have t0 : (x == 18446744073709551615) = false := by rw [beq_eq_false_iff_ne]; exact hm
        have hx2 : x + 1 ≤ 18446744073709551615 := by omega
        have E2 := Lib.hid (fair_more_no x n hn1 (by have := fair_no x n hn1 (by rw [E1.out]); omega))
        clear hm
        go_enter Tryd.func5, Tryd.ntmps5
        go_wp2_with fail
        refine HA.out.mono ?_
        rintro e w1 ⟨rfl, hb⟩
        go_wp2_with fail
        refine (HR.out x _ x0 x1).mono ?_
        rintro e w2 ⟨rfl, rfl⟩
        rw [E1.out]
        go_wp2_with fail
        refine (HR.out 0 _ (by decide) (by decide)).mono ?_
        rintro e w2 ⟨rfl, rfl⟩
        rw [Z.out]
        go_wp2_with fail
        refine (HR.out (x + 1) _ (by omega) (by omega)).mono ?_
        rintro e w2 ⟨rfl, rfl⟩
        rw [E2.out]
        go_wp2
        go_ret
        exact ⟨rfl, hb⟩
    | true =>
      obtain ⟨_, hle, hv⟩ := restP_yes x n hok
      have E1 := Lib.hid (show restP x n = (x % n, true) from Prod.ext hv hok)
      rw [hv] at vb
      obtain ⟨v0, v1⟩ := vb
      have HV := Lib.hid hv
      clear hv hok
      by_cases hm : x = 18446744073709551615
      · have t0 : (x == 18446744073709551615) = true := by rw [beq_iff_eq]; exact hm
        have t1 : (x % n == n - 1) = true := by rw [beq_iff_eq]; exact fair_last n x hn1 x0 hle (by omega)
        clear hm
        go_enter Tryd.func5, Tryd.ntmps5
        go_wp2_with fail
        refine HA.out.mono ?_
        rintro e w1 ⟨rfl, hb⟩
        go_wp2_with fail
        refine (HR.out x _ x0 x1).mono ?_
        rintro e w2 ⟨rfl, rfl⟩
        rw [E1.out]
        go_wp2_with fail
        refine (HR.out 0 _ (by decide) (by decide)).mono ?_
        rintro e w2 ⟨rfl, rfl⟩
        rw [Z.out]
        go_wp2
        go_ret
        exact ⟨rfl, hb⟩
      · have t0 : (x == 18446744073709551615) = false := by rw [beq_eq_false_iff_ne]; exact hm
        have hx2 : x + 1 ≤ 18446744073709551615 := by omega
        by_cases hmo : 18446744073709551615 - restOver n < x + 1
        · have E2 := Lib.hid (fair_more_no x n hn1 hmo)
          have t1 : (x % n == n - 1) = true := by rw [beq_iff_eq]; exact fair_last n x hn1 x0 hle hmo
          clear hm hmo
          go_enter Tryd.func5, Tryd.ntmps5
          go_wp2_with fail
          refine HA.out.mono ?_
          rintro e w1 ⟨rfl, hb⟩
          go_wp2_with fail
          refine (HR.out x _ x0 x1).mono ?_
          rintro e w2 ⟨rfl, rfl⟩
          rw [E1.out]
          go_wp2_with fail
          refine (HR.out 0 _ (by decide) (by decide)).mono ?_
          rintro e w2 ⟨rfl, rfl⟩
          rw [Z.out]
          go_wp2_with fail
          refine (HR.out (x + 1) _ (by omega) (by omega)).mono ?_
          rintro e w2 ⟨rfl, rfl⟩
          rw [E2.out]
          go_wp2
          go_ret
          exact ⟨rfl, hb⟩
        · have E2' := restP_of_ok (x + 1) n hn1 (by omega)
          by_cases hvn : x % n = n - 1
          · have E2 := Lib.hid (show restP (x + 1) n = (0, true) by rw [E2', mod_step x n hn1 x0, if_pos hvn])
            have t1 : (x % n == n - 1) = true := by rw [beq_iff_eq]; exact hvn
            clear hm hmo E2' hvn
            go_enter Tryd.func5, Tryd.ntmps5
            go_wp2_with fail
            refine HA.out.mono ?_
            rintro e w1 ⟨rfl, hb⟩
            go_wp2_with fail
            refine (HR.out x _ x0 x1).mono ?_
            rintro e w2 ⟨rfl, rfl⟩
            rw [E1.out]
            go_wp2_with fail
            refine (HR.out 0 _ (by decide) (by decide)).mono ?_
            rintro e w2 ⟨rfl, rfl⟩
            rw [Z.out]
            go_wp2_with fail
            refine (HR.out (x + 1) _ (by omega) (by omega)).mono ?_
            rintro e w2 ⟨rfl, rfl⟩
            rw [E2.out]
            go_wp2
            go_ret
            exact ⟨rfl, hb⟩
          · have E2 := Lib.hid (show restP (x + 1) n = (x % n + 1, true) by rw [E2', mod_step x n hn1 x0, if_neg hvn])
            have t1 : (x % n == n - 1) = false := by rw [beq_eq_false_iff_ne]; exact hvn
            clear hm hmo E2' hvn
            go_enter Tryd.func5, Tryd.ntmps5
            go_wp2_with fail
            refine HA.out.mono ?_
            rintro e w1 ⟨rfl, hb⟩
            go_wp2_with fail
            refine (HR.out x _ x0 x1).mono ?_
            rintro e w2 ⟨rfl, rfl⟩
            rw [E1.out]
            go_wp2_with fail
            refine (HR.out 0 _ (by decide) (by decide)).mono ?_
            rintro e w2 ⟨rfl, rfl⟩
            rw [Z.out]
            go_wp2_with fail
            refine (HR.out (x + 1) _ (by omega) (by omega)).mono ?_
            rintro e w2 ⟨rfl, rfl⟩
            rw [E2.out]
            go_wp2
            go_ret
            exact ⟨rfl, hb⟩
end Go.Proofs.YtifnmehpkelifaaDoor
