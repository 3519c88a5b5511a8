/- The walk of the reference's Choose. -/
import Derived.Test.YtifnmehpkelifaaDoorWalkE
namespace Go.Proofs.YtifnmehpkelifaaDoor
open Go.RowKit SeedP
def bitI (C : List Bool) : List Int := C.map fun b => if b then 1 else 0
theorem bitI_length (C : List Bool) : (bitI C).length = C.length := by simp [bitI]
theorem bitI_getD (C : List Bool) (j : Nat) : (bitI C).getD j 0 = if C.getD j false then 1 else 0 := by
  simp only [bitI, List.getD_eq_getElem?_getD, List.getElem?_map]
  cases C[j]? <;> simp
theorem bitI_set (C : List Bool) (j : Nat) : bitI (C.set j true) = (bitI C).set j 1 := by simp [bitI, List.map_set]
theorem zeros_bits (n : Nat) : zeros n = bitI (falses n) := by simp [zeros, bitI, falses]
/-- the reference's Choose (33) -/
theorem rchoose_c (key i n k : Int) (w : World) (i0 : -9223372036854775808 ≤ i) (i1 : i ≤ 9223372036854775807) :
    Calls Tryd.prog 33 #[.int .u64 key, .int .i64 i, .int .i64 n, .int .i64 k] w (PostL (chooseP (wordI key) i n k) w) := by
  by_cases hb : i < 0 ∨ 1099511627776 < i ∨ n < 0 ∨ 1000 < n ∨ k < 0 ∨ n < k
  · have H := Lib.hid (show chooseP (wordI key) i n k = ([], 0, 2) by unfold chooseP; rw [if_pos hb])
    have HB := Lib.hid hb
    clear hb
    generalize chooseP (wordI key) i n k = R at *
    by_cases h0 : i < 0
    · go_enter Tryd.func33, Tryd.ntmps33
      go_wp2
      go_ret3
      exact postL H.out (rd_nil _) (Below.refl _ _)
    by_cases h1 : 1099511627776 < i
    · go_enter Tryd.func33, Tryd.ntmps33
      go_wp2
      go_ret3
      exact postL H.out (rd_nil _) (Below.refl _ _)
    by_cases h2 : n < 0
    · go_enter Tryd.func33, Tryd.ntmps33
      go_wp2
      go_ret3
      exact postL H.out (rd_nil _) (Below.refl _ _)
    by_cases h3 : 1000 < n
    · go_enter Tryd.func33, Tryd.ntmps33
      go_wp2
      go_ret3
      exact postL H.out (rd_nil _) (Below.refl _ _)
    by_cases h4 : k < 0
    · go_enter Tryd.func33, Tryd.ntmps33
      go_wp2
      go_ret3
      exact postL H.out (rd_nil _) (Below.refl _ _)
    have h5 : n < k := by have := HB.out; omega
    go_enter Tryd.func33, Tryd.ntmps33
    go_wp2
    go_ret3
    exact postL H.out (rd_nil _) (Below.refl _ _)
  · have h0 : 0 ≤ i := by omega
    have h1 : i ≤ 1099511627776 := by omega
    have h2 : 0 ≤ n := by omega
    have h3 : n ≤ 1000 := by omega
    have h4 : 0 ≤ k := by omega
    have h5 : k ≤ n := by omega
    have H := Lib.hid (show chooseP (wordI key) i n k = (trues 0 (chooseL (wordI key) k.toNat (n - k).toNat (falses n.toNat) i).1, (chooseL (wordI key) k.toNat (n - k).toNat (falses n.toNat) i).2) by unfold chooseP; rw [if_neg hb]; rfl)
    obtain ⟨n, rfl⟩ := Int.eq_ofNat_of_zero_le h2
    obtain ⟨k, rfl⟩ := Int.eq_ofNat_of_zero_le h4
    have hmk := make25 n (by omega)
    have hnk : (n : Int) - k = ((n - k : Nat) : Int) := by omega
    have HK := Lib.hid hnk
    have t9 : decide (n < k) = false := decide_eq_false (by omega)
    clear hb i0 i1 hnk
    generalize chooseP (wordI key) i n k = R at *
    go_enter Tryd.func33, Tryd.ntmps33
    go_wp2
    have Q0 : Blk (w.alloc (.cells (ints .i64 (zeros n)).toArray 3)) w.heap.size 3 (ints .i64 (bitI (falses n))) := by rw [← zeros_bits]; exact Blk.at _ 3 _ (by simp)
    have B0 : Below w.heap.size w (w.alloc (.cells (ints .i64 (zeros n)).toArray 3)) := (Below.refl _ _).alloc (Nat.le_refl _) _
    generalize w.alloc (.cells (ints .i64 (zeros n)).toArray 3) = w0 at *
    clear hmk
    rw [HK.out]
    have HR0 := Lib.hid (show chooseL (wordI key) k (n - k) (falses n) i = chooseL (wordI key) (k : Int).toNat ((n : Int) - k).toNat (falses (n : Int).toNat) i by rw [HK.out]; rfl)
    generalize chooseL (wordI key) (k : Int).toNat ((n : Int) - k).toNat (falses (n : Int).toNat) i = R0 at *
    go_loopw [1, 12] (fun ci c wr => ∃ f m : Nat, m + f = n ∧ c = .int .i64 m ∧ ∃ (i' : Int) (C : List Bool), ci = .int .i64 i' ∧ 0 ≤ i' ∧ i' ≤ 1099511627776 ∧ C.length = n ∧ Blk wr w.heap.size 3 (ints .i64 (bitI C)) ∧ Below w.heap.size w wr ∧ chooseL (wordI key) f m C i' = R0) (fun _ c _ => n - (intOf c).toNat)
    case atStart => exact ⟨k, n - k, by omega, rfl, i, _, rfl, h0, h1, by simp [falses], Q0, B0, HR0.out⟩
    case round =>
      obtain ⟨f, m, hm, rfl, i', C, rfl, i0, i1, hL, hP, hB, hR⟩ := hrel
      have HM := Lib.hid hm
      have HL := Lib.hid hL
      have HR := Lib.hid hR
      clear hL hR Q0 B0 hm
      rcases f with _ | f
      · obtain rfl : m = n := by have := HM.out; omega
        have HR1 := Lib.hid (show R = (trues 0 C, i', 0) from H.out.trans (by rw [← HR.out]; rfl))
        obtain ⟨i3, hi3, hz1, hz2, hz3⟩ := info_parts info3
        clear HR HM HR0 H
        go_wp2
        go_loopw [16, 17] (fun v c wr => ∃ b : Nat, b ≤ m ∧ c = .int .i64 b ∧ wr.ownsRow (w.heap.size + 1) 3 1 v (trues 0 (C.take b)).length (ints .i64 (trues 0 (C.take b))) ∧ Blk wr w.heap.size 3 (ints .i64 (bitI C)) ∧ Below w.heap.size w wr) (fun _ c _ => m - (intOf c).toNat)
        case atStart => exact ⟨0, Nat.zero_le _, rfl, by simpa [trues, ints] using World.ownsRow_nil wr _ _ _, hP, hB⟩
        case round =>
          obtain ⟨b, hb, rfl, hown, hP', hB'⟩ := hrel
          clear hP hB
          by_cases hlt : b < m
          · have c1 := hP'.int b (by rw [bitI_length]; have := HL.out; omega)
            have HN := Lib.hid (trues_next C b (by have := HL.out; omega))
            have hlen : (trues 0 (C.take b)).length ≤ 1000 := by
              have := trues_len (C.take b) 0
              have h2 : (C.take b).length ≤ b := List.length_take_le _ _
              omega
            have hbs : w.heap.size + 1 ≤ wr.heap.size := by have := hP'.lt; omega
            cases hv : C.getD b false with
            | true =>
              rw [bitI_getD, hv] at c1
              replace c1 : wr.cell? _ = some (.int .i64 1) := c1
              have HN2 := Lib.hid (show trues 0 (C.take (b + 1)) = trues 0 (C.take b) ++ [(b : Int)] from HN.out.trans (by rw [hv]; rfl))
              clear HN hv
              generalize trues 0 (C.take b) = acc at *
              go_wp2_with (at_builtin; refine wpList_append_own _ rfl _ _ 25 rfl (w.heap.size + 1) 3 i3 (.int .i64 0) 1 8 Tryd.underlying25 hi3 hz1 hz2 hz3 rfl (by decide) _ acc.length (ints .i64 acc) rfl (hown.alloc _) ⟨wr.heap.size, 0, none⟩ 1 1 [.int .i64 b] rfl rfl ?c1 ?c2 ?c3 ?c4 ?c5 ?_)
              case c1 => exact cell_one_new _ _ _
              case c2 => simp [Value.oneCell']
              case c3 => unfold maxLen; omega
              case c4 => omega
              case c5 => simp; omega
              intro v' w1 hown1 hg1 _
              have hr1 : ∀ k, Value.ownBlock _ = some k → w.heap.size + 1 ≤ k := fun k hk => (hown.lt k hk).1
              have hP1 : Blk w1 w.heap.size 3 (ints .i64 (bitI C)) := (hP'.alloc (.cells #[.int .i64 b] 3)).block (hg1.block _ (by simp; omega) (fun e => by have := hr1 _ e.symm; omega))
              have hB1 : Below w.heap.size w w1 := (hB'.alloc (by omega) (.cells #[.int .i64 b] 3)).grown hg1 (by simp; omega) (fun k e => by have := hr1 k e; omega)
              clear hown hg1 hP' hB' hr1
              go_wp2
              go_roundw
              case rel => exact ⟨b + 1, by omega, by go_num, by rw [HN2.out]; simpa [ints] using hown1, hP1, hB1⟩
              case measure => simp [intOf]; omega
            | false =>
              rw [bitI_getD, hv] at c1
              replace c1 : wr.cell? _ = some (.int .i64 0) := c1
              have HN2 := Lib.hid (show trues 0 (C.take (b + 1)) = trues 0 (C.take b) from HN.out.trans (by rw [hv]; simp))
              clear HN hv
              go_wp2
              go_roundw
              case rel => exact ⟨b + 1, by omega, by go_num, by rw [HN2.out]; exact hown, hP', hB'⟩
              case measure => simp [intOf]; omega
          · obtain rfl : b = m := by omega
            have HF := Lib.hid (show trues 0 (C.take b) = trues 0 C by rw [List.take_of_length_le (by have := HL.out; omega)])
            go_wp2
            go_ret3
            exact postL HR1.out (by rw [← HF.out]; exact Rd.of_owns hown) hB'
      · have hmn : m < n := by have := HM.out; omega
        have HD := Lib.hid (rbelow_c key i' ((m : Int) + 1) wr (by omega) (by omega) (by omega))
        by_cases he : (belowP (wordI key) i' ((m : Int) + 1)).2.2 = 0
        · obtain ⟨_, _, v0, v1, x0, x1⟩ := belowP_good _ _ _ he
          have HG := Lib.hid ((chooseL_go (wordI key) f m C i' he).symm.trans HR.out)
          generalize belowP (wordI key) i' ((m : Int) + 1) = d at *
          obtain ⟨v, nx, er⟩ := d
          simp only at v0 v1 x0 x1 he
          subst he
          obtain ⟨v, rfl⟩ := Int.eq_ofNat_of_zero_le v0
          have c1 := hP.int v (by rw [bitI_length]; have := HL.out; omega)
          have f1 := hP.frozen v
          have c2 := hP.int m (by rw [bitI_length]; have := HL.out; omega)
          have f2 := hP.frozen m
          cases hv : C.getD v false with
          | true =>
            have HG2 := Lib.hid (show chooseL (wordI key) f (m + 1) (C.set m true) nx = R0 by have := HG.out; simp only [Int.toNat_natCast, hv, if_true] at this; exact this)
            have HS := Lib.hid (show Blk _ w.heap.size 3 (ints .i64 (bitI (C.set m true))) by rw [bitI_set]; exact hP.setInt m 1)
            rw [bitI_getD, hv] at c1
            replace c1 : wr.cell? _ = some (.int .i64 1) := c1
            clear HG hv
            generalize (bitI C).getD m 0 = y at *
            go_wp2_with fail
            refine HD.out.mono ?_
            rintro e w1 ⟨rfl, rfl⟩
            go_wp2
            go_roundw
            case rel => exact ⟨f, m + 1, by have := HM.out; omega, by go_num, nx, _, rfl, by omega, by omega, by rw [List.length_set]; exact HL.out, HS.out, hB.setCell (Nat.le_refl _) _, HG2.out⟩
            case measure => simp [intOf]; omega
          | false =>
            have HG2 := Lib.hid (show chooseL (wordI key) f (m + 1) (C.set v true) nx = R0 by have := HG.out; simp only [Int.toNat_natCast, hv] at this; exact this)
            have HS := Lib.hid (show Blk _ w.heap.size 3 (ints .i64 (bitI (C.set v true))) by rw [bitI_set]; exact hP.setInt v 1)
            rw [bitI_getD, hv] at c1
            replace c1 : wr.cell? _ = some (.int .i64 0) := c1
            clear HG hv
            generalize (bitI C).getD m 0 = y at *
            go_wp2_with fail
            refine HD.out.mono ?_
            rintro e w1 ⟨rfl, rfl⟩
            go_wp2
            go_roundw
            case rel => exact ⟨f, m + 1, by have := HM.out; omega, by go_num, nx, _, rfl, by omega, by omega, by rw [List.length_set]; exact HL.out, HS.out, hB.setCell (Nat.le_refl _) _, HG2.out⟩
            case measure => simp [intOf]; omega
        · have HG := Lib.hid ((chooseL_stop (wordI key) f m C i' he).symm.trans HR.out)
          have t0 : ((belowP (wordI key) i' ((m : Int) + 1)).2.2 != 0) = true := by rw [bne_iff_ne]; exact he
          clear he
          generalize belowP (wordI key) i' ((m : Int) + 1) = d at *
          go_wp2_with fail
          refine HD.out.mono ?_
          rintro e w1 ⟨rfl, rfl⟩
          go_wp2
          go_ret3
          exact postL (H.out.trans (by rw [← HG.out]; rfl)) (rd_nil _) hB
end Go.Proofs.YtifnmehpkelifaaDoor
