/- The walks of Sub, Below and of drawer's closure. -/
import Derived.Test.YtifnmehpkelifaaDoorWalkB
import Derived.BigQuiet
import Derived.Deep.QuietTactic
import Derived.Deep.RegionWith
import Derived.Deep.RegionHeld3
namespace Go.Proofs.YtifnmehpkelifaaDoor
open Go.RowKit SeedP

/-- Sub (23) -/
theorem sub_c (key : Int) (s : ByteArray) (w : World) (hs : St w) (hm : s.size ≤ maxLen) :
    Calls Tryd.prog 23 #[.agg #[.int .u64 key], .string s] w fun e w' => e = .returned (.tuple #[.agg #[.int .u64 (subR key s.data.toList).1], .int .i64 (subR key s.data.toList).2]) ∧ Below w.heap.size w w' := by
  unfold maxLen at hm
  by_cases h0 : s.size = 0
  · have H := Lib.hid (show subR key s.data.toList = (0, 2) by unfold subR; rw [if_pos (by simpa using h0)])
    obtain rfl : s = ByteArray.empty := by simpa using h0
    clear h0 hm
    go_enter Tryd.func23, Tryd.ntmps23
    go_wp2
    refine bodyPost_ret (v := .tuple #[.agg #[.int .u64 0], .int .i64 2]) (by simp [results, Tryd.results23, go_sem]) rfl ⟨by rw [H.out], ?_⟩
    exact ((Below.refl _ _).alloc (Nat.le_refl _) _).alloc (by simp) _
  · have t1 := str_ne s h0
    by_cases h1 : 32 < s.size
    · have H := Lib.hid (show subR key s.data.toList = (0, 3) by unfold subR; rw [if_neg (by simpa using h0), if_pos (by simpa using h1)])
      go_enter Tryd.func23, Tryd.ntmps23
      go_wp2
      refine bodyPost_ret (v := .tuple #[.agg #[.int .u64 0], .int .i64 3]) (by simp [results, Tryd.results23, go_sem]) rfl ⟨by rw [H.out], ?_⟩
      exact ((Below.refl _ _).alloc (Nat.le_refl _) _).alloc (by simp) _
    · have H := Lib.hid (show subR key s.data.toList = (subI key s.data.toList, 0) by unfold subR; rw [if_neg (by simpa using h0), if_neg (by simpa using h1)])
      have hle : s.size ≤ 32 := by omega
      have hl : s.data.toList.length = s.size := by simp
      have HI := Lib.hid (show subI key s.data.toList = subK (mixI (bits .xor .u64 key s.size)) (s.data.toList.take s.size) by unfold subI; rw [List.take_of_length_le (by omega), hl])
      clear h0 h1 hl
      go_enter Tryd.func23, Tryd.ntmps23
      go_wp2_with fail
      refine (mix_c _ _ ((hs.alloc _).alloc _) (xor_lo _ _) (xor_hi _ _)).mono ?_
      rintro e w1 ⟨rfl, hb1⟩
      have hs1 := ((hs.alloc _).alloc _).below hb1 (by simp)
      have c1 := keep_cell hb1 (b := w.heap.size + 1) (o := 0) (v := .int .u64 0) (by simp [go_sem])
      have f1 := keep_frozen hb1 (b := w.heap.size + 1) (o := 0) (by simp) (by simp [go_sem])
      have z1 : w.heap.size + 1 < w1.heap.size := by have := hb1.size; simp at this; omega
      have B1 : Below w.heap.size w w1 := (((Below.refl _ _).alloc (Nat.le_refl _) _).alloc (by simp) _).trans (hb1.mono (by simp; omega))
      clear hb1
      go_wp2
      generalize mixI (bits .xor .u64 key s.size) = k0 at *
      go_loopw [6, 7] (fun k i wr => ∃ j : Nat, j ≤ s.size ∧ i = .int .i64 j ∧ k = .int .u64 (subK k0 (s.data.toList.take j)) ∧ St wr ∧ wr.cell? ⟨w.heap.size + 1, 0, none⟩ = some (.int .u64 0) ∧ wr.frozen? ⟨w.heap.size + 1, 0, none⟩ = false ∧ w.heap.size + 1 < wr.heap.size ∧ Below w.heap.size w wr) (fun _ i _ => s.size - (intOf i).toNat)
      case atStart => exact ⟨0, Nat.zero_le _, rfl, rfl, hs1, c1, f1, z1, B1⟩
      case round =>
        obtain ⟨j, hj, rfl, rfl, hst, hc, hf, hz, hB⟩ := hrel
        clear hs1 c1 f1 z1 B1
        by_cases hlt : j < s.size
        · have HS := Lib.hid (show mixI (bits .xor .u64 (subK k0 (s.data.toList.take j)) (IntKind.u64.wrap s[j].toNat)) = subK k0 (s.data.toList.take (j + 1)) by rw [take_snoc s j hlt, subK_snoc, byte_wrap])
          go_wp2_with fail
          refine (mix_c _ _ hst (xor_lo _ _) (xor_hi _ _)).mono ?_
          rintro e w1 ⟨rfl, hb1⟩
          have hs2 := hst.below hb1 hst.pos
          have c2 := keep_cell hb1 hc
          have f2 := keep_frozen hb1 hz hf
          go_wp2
          go_roundw
          case rel => exact ⟨j + 1, by omega, by go_num, by rw [← HS.out], hs2, c2, f2, by have := hb1.size; omega, hB.trans (hb1.mono (by omega))⟩
          case measure => simp [intOf]; omega
        · obtain rfl : j = s.size := by omega
          go_wp2
          refine bodyPost_ret (v := .tuple #[.agg #[.int .u64 (subK k0 (s.data.toList.take s.size))], .int .i64 0]) (by simp [results, Tryd.results23, go_sem, hc]) rfl ⟨by rw [H.out, HI.out], ?_⟩
          exact hB.setCell (by simp) _
/-- Below (17) -/
theorem below_c (key i n : Int) (w : World) (hs : St w) (i0 : -9223372036854775808 ≤ i) (i1 : i ≤ 9223372036854775807) (n1 : n ≤ 9223372036854775807) :
    Calls Tryd.prog 17 #[.agg #[.int .u64 key], .int .i64 i, .int .i64 n] w fun e w' =>
      e = .returned (.tuple #[.int .i64 (belowP (wordI key) i n).1, .int .i64 (belowP (wordI key) i n).2.1, .int .i64 (belowP (wordI key) i n).2.2]) ∧ Below w.heap.size w w' := by
  by_cases hb : i < 0 ∨ 1099511627776 < i ∨ n < 1
  · have H := Lib.hid (belowP_bad (wordI key) i n hb)
    by_cases h0 : i < 0
    · go_enter Tryd.func17, Tryd.ntmps17
      go_wp2
      go_ret3
      exact ⟨by rw [H.out]; rfl, (Below.refl _ _).alloc (Nat.le_refl _) _⟩
    · by_cases h1 : 1099511627776 < i
      · go_enter Tryd.func17, Tryd.ntmps17
        go_wp2
        go_ret3
        exact ⟨by rw [H.out]; rfl, (Below.refl _ _).alloc (Nat.le_refl _) _⟩
      · have h2 : n < 1 := by omega
        go_enter Tryd.func17, Tryd.ntmps17
        go_wp2
        go_ret3
        exact ⟨by rw [H.out]; rfl, (Below.refl _ _).alloc (Nat.le_refl _) _⟩
  · have h0 : 0 ≤ i := by omega
    have h1 : i ≤ 1099511627776 := by omega
    have h2 : 1 ≤ n := by omega
    have H := Lib.hid (show belowP (wordI key) i n = belowL (wordI key) n (1099511627776 - i).toNat i by unfold belowP; rw [if_neg hb])
    clear hb i0 i1
    generalize belowP (wordI key) i n = R at *
    go_enter Tryd.func17, Tryd.ntmps17
    go_wp2
    go_loopw [1] (fun c wr => ∃ j : Int, 0 ≤ j ∧ j ≤ 1099511627776 ∧ c = .int .i64 j ∧ R = belowL (wordI key) n (1099511627776 - j).toNat j ∧ wr.cell? ⟨w.heap.size, 0, none⟩ = some (.int .u64 key) ∧ St wr ∧ w.heap.size < wr.heap.size ∧ Below w.heap.size w wr) (fun c _ => (1099511627776 - intOf c).toNat)
    case atStart => exact ⟨i, h0, h1, rfl, H.out, by simp [go_sem], hs.alloc _, by simp, (Below.refl _ _).alloc (Nat.le_refl _) _⟩
    case round =>
      obtain ⟨j, j0, j1, rfl, hR, hk, hst, hsz, hbl⟩ := hrel
      have HR := Lib.hid hR
      clear hR
      by_cases hlt : j < 1099511627776
      · go_wp2_with fail
        refine (word_c key j _ hst j0 j1).mono ?_
        rintro e w1 ⟨rfl, hb1⟩
        have hst1 := hst.below hb1 hst.pos
        have hk1 := keep_cell hb1 hk
        go_wp2_with fail
        refine (rest_c _ _ _ (wordI_lo _ _) (wordI_hi _ _) n1).mono ?_
        rintro e w2 ⟨rfl, rfl⟩
        cases ht : (restP (wordI key j) n).2 with
        | true =>
          have HY := Lib.hid (HR.out.trans (belowL_yes (wordI key) n j hlt ht))
          go_wp2
          go_ret3
          exact ⟨by rw [HY.out]; rfl, hbl.trans (hb1.mono (by omega))⟩
        | false =>
          have HY := Lib.hid (HR.out.trans (belowL_no (wordI key) n j hlt ht))
          go_wp2
          go_roundw
          case rel => exact ⟨j + 1, by omega, by omega, rfl, HY.out, hk1, hst1, by have := hb1.size; omega, hbl.trans (hb1.mono (by omega))⟩
          case measure => simp [intOf]; omega
      · obtain rfl : j = 1099511627776 := by omega
        have HY := Lib.hid (HR.out.trans (belowL_end (wordI key) n))
        clear HR
        go_wp2
        go_ret3
        exact ⟨by rw [HY.out]; rfl, hbl⟩
/-- the reference's Below (31) -/
theorem rbelow_c (key i n : Int) (w : World) (i0 : -9223372036854775808 ≤ i) (i1 : i ≤ 9223372036854775807) (n1 : n ≤ 9223372036854775807) :
    Calls Tryd.prog 31 #[.int .u64 key, .int .i64 i, .int .i64 n] w fun e w' =>
      e = .returned (.tuple #[.int .i64 (belowP (wordI key) i n).1, .int .i64 (belowP (wordI key) i n).2.1, .int .i64 (belowP (wordI key) i n).2.2]) ∧ w = w' := by
  by_cases hb : i < 0 ∨ 1099511627776 < i ∨ n < 1
  · have H := Lib.hid (belowP_bad (wordI key) i n hb)
    by_cases h0 : i < 0
    · go_enter Tryd.func31, Tryd.ntmps31
      go_wp2
      go_ret3
      exact ⟨by rw [H.out]; rfl, rfl⟩
    · by_cases h1 : 1099511627776 < i
      · go_enter Tryd.func31, Tryd.ntmps31
        go_wp2
        go_ret3
        exact ⟨by rw [H.out]; rfl, rfl⟩
      · have h2 : n < 1 := by omega
        go_enter Tryd.func31, Tryd.ntmps31
        go_wp2
        go_ret3
        exact ⟨by rw [H.out]; rfl, rfl⟩
  · have h0 : 0 ≤ i := by omega
    have h1 : i ≤ 1099511627776 := by omega
    have h2 : 1 ≤ n := by omega
    have H := Lib.hid (show belowP (wordI key) i n = belowL (wordI key) n (1099511627776 - i).toNat i by unfold belowP; rw [if_neg hb])
    clear hb i0 i1
    generalize belowP (wordI key) i n = R at *
    go_enter Tryd.func31, Tryd.ntmps31
    go_wp2
    go_loop [1] (fun c => ∃ j : Int, 0 ≤ j ∧ j ≤ 1099511627776 ∧ c = .int .i64 j ∧ R = belowL (wordI key) n (1099511627776 - j).toNat j) (fun c => (1099511627776 - intOf c).toNat)
    case atStart => exact ⟨i, h0, h1, rfl, H.out⟩
    case round =>
      obtain ⟨j, j0, j1, rfl, hR⟩ := hrel
      have HR := Lib.hid hR
      clear hR
      by_cases hlt : j < 1099511627776
      · have HW := Lib.hid (wordR_yes key j j0 hlt)
        go_wp2_with fail
        refine (rWord_c key j _).mono ?_
        rintro e w1 ⟨rfl, rfl⟩
        rw [HW.out]
        go_wp2_with fail
        refine (rrest_c _ _ _ (wordI_lo _ _) (wordI_hi _ _) n1).mono ?_
        rintro e w2 ⟨rfl, rfl⟩
        cases ht : (restP (wordI key j) n).2 with
        | true =>
          have HY := Lib.hid (HR.out.trans (belowL_yes (wordI key) n j hlt ht))
          go_wp2
          go_ret3
          exact ⟨by rw [HY.out]; rfl, rfl⟩
        | false =>
          have HY := Lib.hid (HR.out.trans (belowL_no (wordI key) n j hlt ht))
          go_wp2
          go_round
          case rel => exact ⟨j + 1, by omega, by omega, rfl, HY.out⟩
          case measure => simp [intOf]; omega
      · obtain rfl : j = 1099511627776 := by omega
        have HY := Lib.hid (HR.out.trans (belowL_end (wordI key) n))
        clear HR
        go_wp2
        go_ret3
        exact ⟨by rw [HY.out]; rfl, rfl⟩
/-- drawer's closure (48), where the draw succeeds -/
theorem draw_ok (key i n : Int) (b1 b2 bi : Nat) (w : World) (hs : St w) (i0 : -9223372036854775808 ≤ i) (i1 : i ≤ 9223372036854775807) (n1 : n ≤ 9223372036854775807)
    (c1 : w.cell? ⟨b1, 0, none⟩ = some (.func (.func 17) #[.agg #[.int .u64 key]] #[])) (c2 : w.cell? ⟨b2, 0, none⟩ = some (.pointer (some ⟨bi, 0, none⟩))) (ci : w.cell? ⟨bi, 0, none⟩ = some (.int .i64 i)) (fi : w.frozen? ⟨bi, 0, none⟩ = false)
    (he : (belowP (wordI key) i n).2.2 = 0) :
    Calls Tryd.prog 48 #[.int .i64 n, .pointer (some ⟨b1, 0, none⟩), .pointer (some ⟨b2, 0, none⟩)] w fun e w' =>
      e = .returned (.tuple #[.int .i64 (belowP (wordI key) i n).1, .int .i64 0]) ∧ ∃ w1, Below w.heap.size w w1 ∧ w' = w1.setCell ⟨bi, 0, none⟩ (.int .i64 (belowP (wordI key) i n).2.1) := by
  have HE := Lib.hid he
  clear he
  go_enter Tryd.func48, Tryd.ntmps48
  go_wp2
  go_region_held3 (fun w' => w'.cell? ⟨b1, 0, none⟩ = some (.func (.func 17) #[.agg #[.int .u64 key]] #[]) ∧ w'.cell? ⟨b2, 0, none⟩ = some (.pointer (some ⟨bi, 0, none⟩)) ∧ w'.cell? ⟨bi, 0, none⟩ = some (.int .i64 i)) (first | exact ⟨c1, c2, ci⟩ | exact ⟨keep_cell hb c1, keep_cell hb c2, keep_cell hb ci⟩)
    (first | (go_at_call 17; refine (below_c key _ _ _ hs.drew i0 i1 n1).mono ?_; rintro e w1 ⟨rfl, hb⟩))
  have c2' := keep_cell hb c2
  have ci' := keep_cell hb ci
  have fi' := keep_frozen hb (World.block_lt_of_cell? w ⟨bi, 0, none⟩ ci) fi
  rw [HE.out]
  go_wp2
  go_ret2
  exact ⟨rfl, w1, undrew hb, rfl⟩
/-- drawer's closure (48), where the draw fails -/
theorem draw_err (key i n : Int) (b1 b2 bi : Nat) (w : World) (hs : St w) (i0 : -9223372036854775808 ≤ i) (i1 : i ≤ 9223372036854775807) (n1 : n ≤ 9223372036854775807)
    (c1 : w.cell? ⟨b1, 0, none⟩ = some (.func (.func 17) #[.agg #[.int .u64 key]] #[])) (c2 : w.cell? ⟨b2, 0, none⟩ = some (.pointer (some ⟨bi, 0, none⟩))) (ci : w.cell? ⟨bi, 0, none⟩ = some (.int .i64 i))
    (he : (belowP (wordI key) i n).2.2 ≠ 0) :
    Calls Tryd.prog 48 #[.int .i64 n, .pointer (some ⟨b1, 0, none⟩), .pointer (some ⟨b2, 0, none⟩)] w fun e w' =>
      e = .returned (.tuple #[.int .i64 0, .int .i64 (belowP (wordI key) i n).2.2]) ∧ Below w.heap.size w w' := by
  have t0 : ((belowP (wordI key) i n).2.2 != 0) = true := by rw [bne_iff_ne]; exact he
  clear he
  go_enter Tryd.func48, Tryd.ntmps48
  go_wp2
  go_region_held3 (fun w' => w'.cell? ⟨b1, 0, none⟩ = some (.func (.func 17) #[.agg #[.int .u64 key]] #[]) ∧ w'.cell? ⟨b2, 0, none⟩ = some (.pointer (some ⟨bi, 0, none⟩)) ∧ w'.cell? ⟨bi, 0, none⟩ = some (.int .i64 i)) (first | exact ⟨c1, c2, ci⟩ | exact ⟨keep_cell hb c1, keep_cell hb c2, keep_cell hb ci⟩)
    (first | (go_at_call 17; refine (below_c key _ _ _ hs.drew i0 i1 n1).mono ?_; rintro e w1 ⟨rfl, hb⟩))
  go_wp2
  go_ret2
  exact ⟨rfl, undrew hb⟩
end Go.Proofs.YtifnmehpkelifaaDoor
