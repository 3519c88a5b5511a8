/- The walks of SameInts and Perm. -/
import Derived.Test.YtifnmehpkelifaaDoorWalkC
import Derived.Test.YtifnmehpkelifaaDoorBlk
namespace Go.Proofs.YtifnmehpkelifaaDoor
open Go.RowKit SeedP
theorem info3 : (Tryd.prog.info? 3).map (fun i => (i.zero, i.size, i.bytes)) = some (some (.int .i64 0), 1, 8) := by kernel_rfl
theorem make25 (n : Nat) (hn : n ≤ 4294967296) (w : World) : (Instr.makeSlice 25 (.int .i64 (n : Int)) (.int .i64 (n : Int))).run Tryd.prog w = .ok (.slice (some ⟨w.heap.size, 0, none⟩) n n) (w.alloc (.cells (ints .i64 (zeros n)).toArray 3)) := by
  obtain ⟨i, hi, h1, h2, h3⟩ := info_parts info3
  exact make_ints 25 3 i .i64 Tryd.underlying25 hi h1 h2 (by omega) n hn w

/-- SameInts (20) -/
theorem same_c (va vb : Value) (la lb : List Int) (w : World) (ha : Rd w va (ints .i64 la)) (hb : Rd w vb (ints .i64 lb)) :
    Calls Tryd.prog 20 #[va, vb] w fun e w' => e = .returned (.bool (decide (la = lb))) ∧ Below w.heap.size w w' := by
  obtain ⟨a, ca, rfl, hma, ca1⟩ := ha.open_ints
  obtain ⟨b, cb, rfl, hmb, cb1⟩ := hb.open_ints
  clear ha hb
  unfold maxLen at hma hmb
  by_cases hl : la.length = lb.length
  · have t0 : ((la.length : Int) != lb.length) = false := by rw [bne_eq_false_iff_eq, hl]
    have HL := Lib.hid hl
    clear hl
    go_enter Tryd.func20, Tryd.ntmps20
    go_wp2
    go_loopw [5] (fun c wr => ∃ k : Nat, k ≤ la.length ∧ c = .int .i64 k ∧ (∀ j, j < k → la.getD j 0 = lb.getD j 0) ∧ ∃ m, wr = w.drewN m) (fun c _ => la.length - (intOf c).toNat)
    case atStart => exact ⟨0, Nat.zero_le _, rfl, fun j hj => by omega, 0, rfl⟩
    case round =>
      obtain ⟨k, hk, rfl, hall, m, rfl⟩ := hrel
      have HA := Lib.hid hall
      clear hall
      by_cases hlt : k < la.length
      · rcases ca1 with rfl | ⟨g, off, rfl, hca⟩
        · exact absurd hlt (by simp)
        rcases cb1 with rfl | ⟨g', off', rfl, hcb⟩
        · exact absurd hlt (by rw [HL.out]; simp)
        have c1 := hca k hlt
        have c2 := hcb k (by rw [← HL.out]; exact hlt)
        have b1 : (k : Int) < lb.length := by have := HL.out; omega
        clear hca hcb
        by_cases he : la.getD k 0 = lb.getD k 0
        · have t1 : (la.getD k 0 != lb.getD k 0) = false := by rw [bne_eq_false_iff_eq]; exact he
          have HE := Lib.hid he
          clear he
          generalize la.getD k 0 = x at c1 t1
          generalize lb.getD k 0 = y at c2 t1
          go_wp2
          go_quiet (fail)
          go_wp2
          go_roundw
          case rel => exact ⟨k + 1, by omega, by go_num, fun j hj => by
            by_cases e : j = k
            · subst e; exact HE.out
            · exact HA.out j (by omega), m + nq, rfl⟩
          case measure => simp [intOf]; omega
        · have t1 : (la.getD k 0 != lb.getD k 0) = true := by rw [bne_iff_ne]; exact he
          have HN := Lib.hid (show decide (la = lb) = false from decide_eq_false (fun h => he (by rw [h])))
          clear he
          generalize la.getD k 0 = x at c1 t1
          generalize lb.getD k 0 = y at c2 t1
          go_wp2
          go_quiet (fail)
          go_wp2
          go_ret
          exact ⟨by rw [HN.out]; rfl, below_drewN (below_drewN (Below.refl _ _) _) _⟩
      · obtain rfl : k = la.length := by omega
        have HN := Lib.hid (show decide (la = lb) = true from decide_eq_true (lists_eq HL.out HA.out))
        go_wp2
        go_ret
        exact ⟨by rw [HN.out]; rfl, below_drewN (Below.refl _ _) _⟩
  · have t0 : ((la.length : Int) != lb.length) = true := by rw [bne_iff_ne]; omega
    have HN := Lib.hid (show decide (la = lb) = false from decide_eq_false (fun h => hl (by rw [h])))
    clear hl
    go_enter Tryd.func20, Tryd.ntmps20
    go_wp2
    go_ret
    exact ⟨by rw [HN.out]; rfl, Below.refl _ _⟩
/-- drawer (38) -/
theorem drawer_c (a : Addr) (fn : Fn) (x y : Array Value) (w : World) :
    Calls Tryd.prog 38 #[.pointer (some a), .func fn x y] w fun e w' => e = .returned (.func (.func 48) #[] #[.pointer (some ⟨w.heap.size + 1, 0, none⟩), .pointer (some ⟨w.heap.size, 0, none⟩)]) ∧
      (w.alloc (.cells #[.pointer (some a)] 65)).alloc (.cells #[.func fn x y] 35) = w' := by
  go_enter Tryd.func38, Tryd.ntmps38
  go_wp2
  go_ret
  exact ⟨rfl, rfl⟩
/-- the boxes of a function that draws, and its row -/
structure PInv (w wr : World) (key i : Int) (L : List Int) : Prop where
  st : St wr
  bi : Blk wr (w.heap.size + 1) 3 (ints .i64 [i])
  b2 : Blk wr (w.heap.size + 1 + 1) 65 [.pointer (some ⟨w.heap.size + 1, 0, none⟩)]
  b3 : Blk wr (w.heap.size + 1 + 1 + 1) 35 [.func (.func 17) #[.agg #[.int .u64 key]] #[]]
  row : Blk wr (w.heap.size + 1 + 1 + 1 + 1) 3 (ints .i64 L)
  below : Below w.heap.size w wr
theorem PInv.store {w wr : World} {key i : Int} {L : List Int} (h : PInv w wr key i L) (j : Nat) (x : Int) : PInv w (wr.setCell ⟨w.heap.size + 1 + 1 + 1 + 1, j, none⟩ (.int .i64 x)) key i (L.set j x) :=
  ⟨h.st.block (Below.heap_setCell _ _ _ _ (by simp <;> omega)), h.bi.other (by simp <;> omega) _, h.b2.other (by simp <;> omega) _, h.b3.other (by simp <;> omega) _, h.row.setInt j x, h.below.setCell (by simp <;> omega) _⟩
theorem PInv.drew {w wr : World} {key i : Int} {L : List Int} (h : PInv w wr key i L) : PInv w wr.drew key i L := ⟨h.st.drew, h.bi, h.b2, h.b3, h.row, h.below.drew⟩
theorem PInv.keep {w wr w1 : World} {key i : Int} {L : List Int} (h : PInv w wr key i L) (hb : Below wr.heap.size wr w1) : PInv w w1 key i L :=
  ⟨h.st.below hb h.st.pos, h.bi.below hb, h.b2.below hb, h.b3.below hb, h.row.below hb, h.below.trans (hb.mono h.below.size)⟩
theorem PInv.draw {w wr w1 : World} {key i : Int} {L : List Int} (h : PInv w wr key i L) (hb : Below wr.heap.size wr w1) (nx : Int) : PInv w (w1.setCell ⟨w.heap.size + 1, 0, none⟩ (.int .i64 nx)) key nx L :=
  have k := h.keep hb
  ⟨k.st.block (Below.heap_setCell _ _ _ _ (by simp <;> omega)), k.bi.setInt 0 nx, k.b2.other (by simp <;> omega) _, k.b3.other (by simp <;> omega) _, k.row.other (by simp <;> omega) _, k.below.setCell (by simp) _⟩
/-- Perm (19) -/
theorem perm_c (key i n : Int) (w : World) (hs : St w) (i0 : -9223372036854775808 ≤ i) (i1 : i ≤ 9223372036854775807) :
    Calls Tryd.prog 19 #[.agg #[.int .u64 key], .int .i64 i, .int .i64 n] w (PostL (permP (wordI key) i n) w) := by
  by_cases hb : i < 0 ∨ 1099511627776 < i ∨ n < 0 ∨ 1000 < n
  · have H := Lib.hid (show permP (wordI key) i n = ([], 0, 2) by unfold permP; rw [if_pos hb])
    have HB := Lib.hid hb
    clear hb
    generalize permP (wordI key) i n = R at *
    by_cases h0 : i < 0
    · go_enter Tryd.func19, Tryd.ntmps19
      go_wp2
      go_ret3
      exact postL H.out (rd_nil _) (((Below.refl _ _).alloc (Nat.le_refl _) _).alloc (by simp) _)
    by_cases h1 : 1099511627776 < i
    · go_enter Tryd.func19, Tryd.ntmps19
      go_wp2
      go_ret3
      exact postL H.out (rd_nil _) (((Below.refl _ _).alloc (Nat.le_refl _) _).alloc (by simp) _)
    by_cases h2 : n < 0
    · go_enter Tryd.func19, Tryd.ntmps19
      go_wp2
      go_ret3
      exact postL H.out (rd_nil _) (((Below.refl _ _).alloc (Nat.le_refl _) _).alloc (by simp) _)
    have h3 : 1000 < n := by have := HB.out; omega
    go_enter Tryd.func19, Tryd.ntmps19
    go_wp2
    go_ret3
    exact postL H.out (rd_nil _) (((Below.refl _ _).alloc (Nat.le_refl _) _).alloc (by simp) _)
  · have h0 : 0 ≤ i := by omega
    have h1 : i ≤ 1099511627776 := by omega
    have h2 : 0 ≤ n := by omega
    have h3 : n ≤ 1000 := by omega
    have H := Lib.hid (show permP (wordI key) i n = permL (wordI key) (n - 1).toNat (iota n.toNat) i by unfold permP; rw [if_neg hb])
    obtain ⟨n, rfl⟩ := Int.eq_ofNat_of_zero_le h2
    have hmk := make25 n (by omega)
    have hp := hs.pos
    clear hb i0 i1
    generalize permP (wordI key) i n = R at *
    go_enter Tryd.func19, Tryd.ntmps19
    go_wp2_with fail
    refine (drawer_c _ _ _ _ _).mono ?_
    rintro e w1 ⟨rfl, rfl⟩
    go_wp2
    have P0 : PInv w (((((w.alloc (.cells #[.int .u64 key] 31)).alloc (.cells #[.int .i64 i] 3)).alloc (.cells #[.pointer (some ⟨w.heap.size + 1, 0, none⟩)] 65)).alloc (.cells #[.func (.func 17) #[.agg #[.int .u64 key]] #[]] 35)).alloc (.cells (ints .i64 (zeros n)).toArray 3)) key i (zeros n) := by
      refine ⟨((((hs.alloc _).alloc _).alloc _).alloc _).alloc _, ?_, ?_, ?_, ?_, ?_⟩
      · exact (((Blk.at _ 3 (ints .i64 [i]) (by simp)).alloc _).alloc _).alloc _
      · exact ((Blk.at _ 65 [.pointer (some ⟨w.heap.size + 1, 0, none⟩)] (by simp)).alloc _).alloc _
      · exact (Blk.at _ 35 [.func (.func 17) #[.agg #[.int .u64 key]] #[]] (by simp)).alloc _
      · exact Blk.at _ 3 _ (by simp)
      · exact (((((Below.refl _ _).alloc (Nat.le_refl _) _).alloc (by simp) _).alloc (by simp <;> omega) _).alloc (by simp <;> omega) _).alloc (by simp <;> omega) _
    generalize ((((w.alloc (.cells #[.int .u64 key] 31)).alloc (.cells #[.int .i64 i] 3)).alloc (.cells #[.pointer (some ⟨w.heap.size + 1, 0, none⟩)] 65)).alloc (.cells #[.func (.func 17) #[.agg #[.int .u64 key]] #[]] 35)).alloc (.cells (ints .i64 (zeros n)).toArray 3) = w0 at *
    clear hmk
    go_loopw [36] (fun c wr => ∃ k : Nat, k ≤ n ∧ c = .int .i64 k ∧ ∃ L, L.length = n ∧ PInv w wr key i L ∧ ∀ j, j < k → L.getD j 0 = j) (fun c _ => n - (intOf c).toNat)
    case atStart => exact ⟨0, Nat.zero_le _, rfl, _, zeros_length n, P0, fun j hj => by omega⟩
    case round =>
      obtain ⟨k, hk, rfl, L, hL, hP, hall⟩ := hrel
      have HA := Lib.hid hall
      have HL := Lib.hid hL
      clear hall hL P0
      by_cases hlt : k < n
      · have c1 := hP.row.int k (by have := HL.out; omega)
        have f1 := hP.row.frozen k
        generalize L.getD k 0 = x at c1
        go_wp2
        go_roundw
        case rel => exact ⟨k + 1, by omega, by go_num, L.set k k, by rw [List.length_set]; exact HL.out, hP.store k k, fun j hj => by
          rw [getD_set L k j k (by have := HL.out; omega)]
          split
          · rename_i e; rw [e]
          · exact HA.out j (by omega)⟩
        case measure => simp [intOf]; omega
      · obtain rfl : k = n := by omega
        obtain rfl := eq_iota HL.out HA.out
        clear HL HA hlt hk
        go_wp2
        go_loopw [12] (fun c wr => ∃ m : Nat, m ≤ k ∧ c = .int .i64 ((m : Int) - 1) ∧ ∃ (i' : Int) (L : List Int), 0 ≤ i' ∧ i' ≤ 1099511627776 ∧ L.length = k ∧ PInv w wr key i' L ∧ R = permL (wordI key) (m - 1) L i') (fun c _ => (intOf c + 1).toNat)
        case atStart => exact ⟨k, Nat.le_refl _, rfl, i, _, h0, h1, iota_length k, hP, by rw [H.out]; congr 1; omega⟩
        case round =>
          obtain ⟨m, hm, rfl, i', L, i0, i1, hL, hP', hR⟩ := hrel
          have HL := Lib.hid hL
          have HR := Lib.hid hR
          clear hL hR hP
          rcases m with _ | _ | p
          · have c1 := hP'.bi.int 0 (by simp)
            rw [show (((0 : Nat) : Int) - 1) = -1 by decide]
            simp only [List.getD_cons_zero] at c1
            go_wp2
            go_quiet (fail)
            go_wp2
            go_ret3
            exact postL HR.out ((hP'.row.rdN (n := k) (by rw [ints_length, HL.out]) (by unfold maxLen; omega)).below (below_drewN (Below.refl _ _) _)) (below_drewN hP'.below _)
          · have c1 := hP'.bi.int 0 (by simp)
            rw [show (((0 + 1 : Nat) : Int) - 1) = 0 by decide]
            simp only [List.getD_cons_zero] at c1
            go_wp2
            go_quiet (fail)
            go_wp2
            go_ret3
            exact postL HR.out ((hP'.row.rdN (n := k) (by rw [ints_length, HL.out]) (by unfold maxLen; omega)).below (below_drewN (Below.refl _ _) _)) (below_drewN hP'.below _)
          · rw [show (((p + 1 + 1 : Nat) : Int) - 1) = (p : Int) + 1 by omega]
            have hpk : p + 1 < k := by omega
            clear hm
            by_cases he : (belowP (wordI key) i' ((p : Int) + 1 + 1)).2.2 = 0
            · obtain ⟨_, _, v0, v1, x0, x1⟩ := belowP_good _ _ _ he
              have HG := Lib.hid (HR.out.trans (permL_go (wordI key) p L i' he))
              have D := draw_ok key i' ((p : Int) + 1 + 1) _ _ _ _ hP'.st (by omega) (by omega) (by omega) (hP'.b3.cell 0 (by simp)) (hP'.b2.cell 0 (by simp)) (hP'.bi.cell 0 (by simp [ints])) (hP'.bi.frozen 0) he
              have HD := Lib.hid D
              clear D he
              generalize belowP (wordI key) i' ((p : Int) + 1 + 1) = d at *
              obtain ⟨v, nx, er⟩ := d
              simp only at v0 v1 x0 x1
              obtain ⟨v, rfl⟩ := Int.eq_ofNat_of_zero_le v0
              go_wp2_with fail
              refine HD.out.mono ?_
              rintro e w1 ⟨rfl, w2, hb2, rfl⟩
              have hP2 := hP'.draw hb2 nx
              have HP := Lib.hid hP2
              clear hP2 HD
              generalize w2.setCell ⟨w.heap.size + 1, 0, none⟩ (.int .i64 nx) = w3 at *
              have c1 := HP.out.row.int (p + 1) (by have := HL.out; omega)
              have c2 := HP.out.row.int v (by have := HL.out; omega)
              have f1 := HP.out.row.frozen (p + 1)
              have f2 := HP.out.row.frozen v
              have HP4 := Lib.hid (show PInv w _ key nx (swapI L (p + 1) v) from (HP.out.drew.store (p + 1) (L.getD v 0)).store v (L.getD (p + 1) 0))
              have HG2 := Lib.hid (show R = permL (wordI key) p (swapI L (p + 1) v) nx from HG.out)
              clear HP HG
              by_cases hv : v = p + 1
              · subst hv
                generalize L.getD (p + 1) 0 = x at *
                go_wp2
                go_region
                go_wp2
                go_roundw
                case rel => exact ⟨p + 1, by omega, by congr 1; omega, nx, _, by omega, by omega, by rw [swapI_length]; exact HL.out, HP4.out, HG2.out⟩
                case measure => simp [intOf]; omega
              · generalize L.getD (p + 1) 0 = x at *
                generalize L.getD v 0 = y at *
                go_wp2
                go_region
                go_wp2
                go_roundw
                case rel => exact ⟨p + 1, by omega, by congr 1; omega, nx, _, by omega, by omega, by rw [swapI_length]; exact HL.out, HP4.out, HG2.out⟩
                case measure => simp [intOf]; omega
            · have HG := Lib.hid (HR.out.trans (permL_stop (wordI key) p L i' he))
              have HD := Lib.hid (draw_err key i' ((p : Int) + 1 + 1) _ _ _ _ hP'.st (by omega) (by omega) (by omega) (hP'.b3.cell 0 (by simp)) (hP'.b2.cell 0 (by simp)) (hP'.bi.cell 0 (by simp [ints])) he)
              have t0 : ((belowP (wordI key) i' ((p : Int) + 1 + 1)).2.2 != 0) = true := by rw [bne_iff_ne]; exact he
              clear he
              generalize belowP (wordI key) i' ((p : Int) + 1 + 1) = d at *
              go_wp2_with fail
              refine HD.out.mono ?_
              rintro e w1 ⟨rfl, hb2⟩
              go_wp2
              go_ret3
              exact postL HG.out (rd_nil _) (hP'.below.trans (hb2.mono hP'.below.size))
/-- the reference's Perm (32) -/
theorem rperm_c (key i n : Int) (w : World) (i0 : -9223372036854775808 ≤ i) (i1 : i ≤ 9223372036854775807) :
    Calls Tryd.prog 32 #[.int .u64 key, .int .i64 i, .int .i64 n] w (PostL (permP (wordI key) i n) w) := by
  by_cases hb : i < 0 ∨ 1099511627776 < i ∨ n < 0 ∨ 1000 < n
  · have H := Lib.hid (show permP (wordI key) i n = ([], 0, 2) by unfold permP; rw [if_pos hb])
    have HB := Lib.hid hb
    clear hb
    generalize permP (wordI key) i n = R at *
    by_cases h0 : i < 0
    · go_enter Tryd.func32, Tryd.ntmps32
      go_wp2
      go_ret3
      exact postL H.out (rd_nil _) (Below.refl _ _)
    by_cases h1 : 1099511627776 < i
    · go_enter Tryd.func32, Tryd.ntmps32
      go_wp2
      go_ret3
      exact postL H.out (rd_nil _) (Below.refl _ _)
    by_cases h2 : n < 0
    · go_enter Tryd.func32, Tryd.ntmps32
      go_wp2
      go_ret3
      exact postL H.out (rd_nil _) (Below.refl _ _)
    have h3 : 1000 < n := by have := HB.out; omega
    go_enter Tryd.func32, Tryd.ntmps32
    go_wp2
    go_ret3
    exact postL H.out (rd_nil _) (Below.refl _ _)
  · have h0 : 0 ≤ i := by omega
    have h1 : i ≤ 1099511627776 := by omega
    have h2 : 0 ≤ n := by omega
    have h3 : n ≤ 1000 := by omega
    have H := Lib.hid (show permP (wordI key) i n = permL (wordI key) (n - 1).toNat (iota n.toNat) i by unfold permP; rw [if_neg hb])
    obtain ⟨n, rfl⟩ := Int.eq_ofNat_of_zero_le h2
    have hmk := make25 n (by omega)
    clear hb i0 i1
    generalize permP (wordI key) i n = R at *
    go_enter Tryd.func32, Tryd.ntmps32
    go_wp2
    have Q0 : Blk (w.alloc (.cells (ints .i64 (zeros n)).toArray 3)) w.heap.size 3 (ints .i64 (zeros n)) := Blk.at _ 3 _ (by simp)
    have B0 : Below w.heap.size w (w.alloc (.cells (ints .i64 (zeros n)).toArray 3)) := (Below.refl _ _).alloc (Nat.le_refl _) _
    generalize w.alloc (.cells (ints .i64 (zeros n)).toArray 3) = w0 at *
    clear hmk
    go_loopw [10] (fun c wr => ∃ k : Nat, k ≤ n ∧ c = .int .i64 k ∧ ∃ L, L.length = n ∧ Blk wr w.heap.size 3 (ints .i64 L) ∧ Below w.heap.size w wr ∧ ∀ j, j < k → L.getD j 0 = j) (fun c _ => n - (intOf c).toNat)
    case atStart => exact ⟨0, Nat.zero_le _, rfl, _, zeros_length n, Q0, B0, fun j hj => by omega⟩
    case round =>
      obtain ⟨k, hk, rfl, L, hL, hP, hB, hall⟩ := hrel
      have HA := Lib.hid hall
      have HL := Lib.hid hL
      clear hall hL Q0 B0
      by_cases hlt : k < n
      · have c1 := hP.int k (by have := HL.out; omega)
        have f1 := hP.frozen k
        generalize L.getD k 0 = x at c1
        go_wp2
        go_roundw
        case rel => exact ⟨k + 1, by omega, by go_num, L.set k k, by rw [List.length_set]; exact HL.out, hP.setInt k k, hB.setCell (Nat.le_refl _) _, fun j hj => by
          rw [getD_set L k j k (by have := HL.out; omega)]
          split
          · rename_i e; rw [e]
          · exact HA.out j (by omega)⟩
        case measure => simp [intOf]; omega
      · obtain rfl : k = n := by omega
        obtain rfl := eq_iota HL.out HA.out
        clear HL HA hlt hk
        go_wp2
        go_loopw [1, 11] (fun ci c wr => ∃ m : Nat, m ≤ k ∧ c = .int .i64 ((m : Int) - 1) ∧ ∃ (i' : Int) (L : List Int), ci = .int .i64 i' ∧ 0 ≤ i' ∧ i' ≤ 1099511627776 ∧ L.length = k ∧ Blk wr w.heap.size 3 (ints .i64 L) ∧ Below w.heap.size w wr ∧ R = permL (wordI key) (m - 1) L i') (fun _ c _ => (intOf c + 1).toNat)
        case atStart => exact ⟨k, Nat.le_refl _, rfl, i, _, rfl, h0, h1, iota_length k, hP, hB, by rw [H.out]; congr 1; omega⟩
        case round =>
          obtain ⟨m, hm, rfl, i', L, rfl, i0, i1, hL, hP', hB', hR⟩ := hrel
          have HL := Lib.hid hL
          have HR := Lib.hid hR
          clear hL hR hP hB
          rcases m with _ | _ | p
          · rw [show (((0 : Nat) : Int) - 1) = -1 by decide]
            go_wp2
            go_ret3
            exact postL HR.out (hP'.rdN (n := k) (by rw [ints_length, HL.out]) (by unfold maxLen; omega)) hB'
          · rw [show (((0 + 1 : Nat) : Int) - 1) = 0 by decide]
            go_wp2
            go_ret3
            exact postL HR.out (hP'.rdN (n := k) (by rw [ints_length, HL.out]) (by unfold maxLen; omega)) hB'
          · rw [show (((p + 1 + 1 : Nat) : Int) - 1) = (p : Int) + 1 by omega]
            have hpk : p + 1 < k := by omega
            clear hm
            have HD := Lib.hid (rbelow_c key i' ((p : Int) + 1 + 1) wr (by omega) (by omega) (by omega))
            by_cases he : (belowP (wordI key) i' ((p : Int) + 1 + 1)).2.2 = 0
            · obtain ⟨_, _, v0, v1, x0, x1⟩ := belowP_good _ _ _ he
              have HG := Lib.hid (HR.out.trans (permL_go (wordI key) p L i' he))
              generalize belowP (wordI key) i' ((p : Int) + 1 + 1) = d at *
              obtain ⟨v, nx, er⟩ := d
              simp only at v0 v1 x0 x1 he
              subst he
              obtain ⟨v, rfl⟩ := Int.eq_ofNat_of_zero_le v0
              have c1 := hP'.int (p + 1) (by have := HL.out; omega)
              have c2 := hP'.int v (by have := HL.out; omega)
              have f1 := hP'.frozen (p + 1)
              have f2 := hP'.frozen v
              have HP4 := Lib.hid (show Blk _ w.heap.size 3 (ints .i64 (swapI L (p + 1) v)) from (hP'.setInt (p + 1) (L.getD v 0)).setInt v (L.getD (p + 1) 0))
              have HB4 := Lib.hid ((hB'.setCell (p := ⟨w.heap.size, p + 1, none⟩) (Nat.le_refl _) (.int .i64 (L.getD v 0))).setCell (p := ⟨w.heap.size, v, none⟩) (Nat.le_refl _) (.int .i64 (L.getD (p + 1) 0)))
              have HG2 := Lib.hid (show R = permL (wordI key) p (swapI L (p + 1) v) nx from HG.out)
              clear HG
              by_cases hv : v = p + 1
              · subst hv
                generalize L.getD (p + 1) 0 = x at *
                go_wp2_with fail
                refine HD.out.mono ?_
                rintro e w1 ⟨rfl, rfl⟩
                go_wp2
                go_roundw
                case rel => exact ⟨p + 1, by omega, by congr 1; omega, nx, _, rfl, by omega, by omega, by rw [swapI_length]; exact HL.out, HP4.out, HB4.out, HG2.out⟩
                case measure => simp [intOf]; omega
              · generalize L.getD (p + 1) 0 = x at *
                generalize L.getD v 0 = y at *
                go_wp2_with fail
                refine HD.out.mono ?_
                rintro e w1 ⟨rfl, rfl⟩
                go_wp2
                go_roundw
                case rel => exact ⟨p + 1, by omega, by congr 1; omega, nx, _, rfl, by omega, by omega, by rw [swapI_length]; exact HL.out, HP4.out, HB4.out, HG2.out⟩
                case measure => simp [intOf]; omega
            · have HG := Lib.hid (HR.out.trans (permL_stop (wordI key) p L i' he))
              have t0 : ((belowP (wordI key) i' ((p : Int) + 1 + 1)).2.2 != 0) = true := by rw [bne_iff_ne]; exact he
              clear he
              generalize belowP (wordI key) i' ((p : Int) + 1 + 1) = d at *
              go_wp2_with fail
              refine HD.out.mono ?_
              rintro e w1 ⟨rfl, rfl⟩
              go_wp2
              go_ret3
              exact postL HG.out (rd_nil _) hB'
end Go.Proofs.YtifnmehpkelifaaDoor
