/- The walks of rests, lists and SeedSmall. -/
import Derived.Test.YtifnmehpkelifaaDoorWeighs
import Derived.Test.YtifnmehpkelifaaDoorDraws
import Derived.Test.YtifnmehpkelifaaDoorNames
import Derived.Test.YtifnmehpkelifaaDoorBun
namespace Go.Proofs.YtifnmehpkelifaaDoor
open Go.RowKit SeedP
/-- rests (25) -/
theorem rests_c (x n : Int) (w : World) (x0 : 0 ≤ x) (x1 : x ≤ 18446744073709551615) (n1 : n ≤ 9223372036854775807) :
    Calls Tryd.prog 25 #[.int .u64 x, .int .i64 n] w fun e w' => e = .returned (.bool true) ∧ w = w' := by
  have H1 := Lib.hid (rest_c x n w x0 x1 n1)
  have H2 := Lib.hid (rrest_c x n w x0 x1 n1)
  generalize restP x n = r at *
  obtain ⟨a, b⟩ := r
  have t1 : (a == a) = true := by simp
  have t2 : (b == b) = true := by simp
  go_enter Tryd.func25, Tryd.ntmps25
  go_wp2_with fail
  refine H1.out.mono ?_
  rintro e w1 ⟨rfl, rfl⟩
  go_wp2_with fail
  refine H2.out.mono ?_
  rintro e w1 ⟨rfl, rfl⟩
  go_wp2
  go_ret
  exact ⟨rfl, rfl⟩
theorem rd_take {w : World} {g e : Nat} {L : List Int} {n m : Nat} (h : Blk w g e (ints .i64 L)) (hL : L.length = m) (hn : n ≤ m) (hm : m ≤ maxLen) : Rd w (.slice (some ⟨g, 0, none⟩) n m) (ints .i64 (L.take n)) := by
  refine Or.inr ⟨g, 0, m, by rw [ints_length, List.length_take]; congr 1; omega, by rw [ints_length, List.length_take]; omega, hm, fun j u hu => ?_⟩
  have hj := (List.getElem?_eq_some_iff.1 hu).1
  rw [ints_length, List.length_take] at hj
  rw [Nat.zero_add, h.int j (by omega), ← hu, ints_get _ _ _ (by rw [List.length_take]; omega)]
  have : j < n := by omega
  simp [List.getD_eq_getElem?_getD, this]
theorem weighs_rd_c (key i : Int) (v : Value) (w : World) (hs : St w) (hv : ∃ l : List Int, Rd w v (ints .i64 l) ∧ l.length ≤ 1001) (i0 : -9223372036854775808 ≤ i) (i1 : i ≤ 9223372036854775807) :
    Calls Tryd.prog 14 #[.int .u64 key, .int .i64 i, v] w fun e w' => e = .returned (.bool true) ∧ Below w.heap.size w w' := by
  obtain ⟨l, h, hl⟩ := hv
  exact weighs_c key i v l w hs h (by omega) i0 i1
theorem Rd.al {w : World} {v : Value} {xs : List Value} (h : Rd w v xs) (o : Obj) : Rd (w.alloc o) v xs := h.below (below_alloc w o)
theorem rd_at (w : World) (l : List Int) (g n : Nat) (hg : g = w.heap.size) (hn : l.length = n) (hm : n ≤ maxLen) : Rd (w.alloc (.cells (ints .i64 l).toArray 3)) (.slice (some ⟨g, 0, none⟩) n n) (ints .i64 l) :=
  (Blk.at w 3 (ints .i64 l) hg).rdN (by rw [ints_length, hn]) hm
def litVals (gs g : Nat) : List Value :=
  [.slice none 0 0, .slice (some ⟨g, 0, none⟩) 1 1, .slice (some ⟨g + 1, 0, none⟩) 1 1, .slice (some ⟨g + 1 + 1, 0, none⟩) 2 2, .slice (some ⟨g + 1 + 1 + 1, 0, none⟩) 2 2,
   .slice (some ⟨g + 1 + 1 + 1 + 1, 0, none⟩) 1 1, .slice (some ⟨g + 1 + 1 + 1 + 1 + 1, 0, none⟩) 1 1, .slice (some ⟨g + 1 + 1 + 1 + 1 + 1 + 1, 0, none⟩) 3 3,
   .slice (some ⟨g + 1 + 1 + 1 + 1 + 1 + 1 + 1, 0, none⟩) 3 3, .slice (some ⟨gs, 0, none⟩) 1000 1001, .slice (some ⟨gs, 0, none⟩) 1001 1001]
def litWorld (w : World) (gs g : Nat) : World :=
  ((((((((w.alloc (.cells (ints .i64 [0]).toArray 3)).alloc (.cells (ints .i64 [1]).toArray 3)).alloc (.cells (ints .i64 [-1, 5]).toArray 3)).alloc (.cells (ints .i64 [5, -1]).toArray 3)).alloc
    (.cells (ints .i64 [1099511627776]).toArray 3)).alloc (.cells (ints .i64 [1099511627777]).toArray 3)).alloc (.cells (ints .i64 [0, 0, 3]).toArray 3)).alloc (.cells (ints .i64 [1, 1, 1]).toArray 3)).alloc
    (.cells (litVals gs g).toArray 25)
theorem litWorld_below (w : World) (gs g : Nat) : Below w.heap.size w (litWorld w gs g) :=
  (((((((((Below.refl _ w).alloc (Nat.le_refl _) _).alloc (by simp) _).alloc (by simp <;> omega) _).alloc (by simp <;> omega) _).alloc (by simp <;> omega) _).alloc (by simp <;> omega) _).alloc (by simp <;> omega) _).alloc (by simp <;> omega) _).alloc (by simp <;> omega) _
theorem litWorld_blk (w : World) (gs g : Nat) (hz : g = w.heap.size) : Blk (litWorld w gs g) (g + 1 + 1 + 1 + 1 + 1 + 1 + 1 + 1) 25 (litVals gs g) := Blk.at _ 25 (litVals gs g) (by simp [hz])
theorem lits_ok (w : World) (gs g : Nat) (hz : g = w.heap.size) (Y : List Int) (hY : Blk w gs 3 (ints .i64 Y)) (hL : Y.length = 1001) :
    ∀ j, j < 11 → ∃ l : List Int, Rd (litWorld w gs g) ((litVals gs g).getD j undef) (ints .i64 l) ∧ l.length ≤ 1001 := by
  have h1001 : 1001 ≤ maxLen := by decide
  have hY2 := hY.below (litWorld_below w gs g)
  intro j hj
  have : j = 0 ∨ j = 1 ∨ j = 2 ∨ j = 3 ∨ j = 4 ∨ j = 5 ∨ j = 6 ∨ j = 7 ∨ j = 8 ∨ j = 9 ∨ j = 10 := by omega
  rcases this with rfl | rfl | rfl | rfl | rfl | rfl | rfl | rfl | rfl | rfl | rfl
  · exact ⟨[], rd_nil _, by simp⟩
  · exact ⟨[0], ((((((((rd_at w [0] _ 1 (by simp [hz]) rfl (by decide)).al _).al _).al _).al _).al _).al _).al _).al _, by decide⟩
  · exact ⟨[1], (((((((rd_at _ [1] _ 1 (by simp [hz]) rfl (by decide)).al _).al _).al _).al _).al _).al _).al _, by decide⟩
  · exact ⟨[-1, 5], ((((((rd_at _ [-1, 5] _ 2 (by simp [hz]) rfl (by decide)).al _).al _).al _).al _).al _).al _, by decide⟩
  · exact ⟨[5, -1], (((((rd_at _ [5, -1] _ 2 (by simp [hz]) rfl (by decide)).al _).al _).al _).al _).al _, by decide⟩
  · exact ⟨[1099511627776], ((((rd_at _ [1099511627776] _ 1 (by simp [hz]) rfl (by decide)).al _).al _).al _).al _, by decide⟩
  · exact ⟨[1099511627777], (((rd_at _ [1099511627777] _ 1 (by simp [hz]) rfl (by decide)).al _).al _).al _, by decide⟩
  · exact ⟨[0, 0, 3], ((rd_at _ [0, 0, 3] _ 3 (by simp [hz]) rfl (by decide)).al _).al _, by decide⟩
  · exact ⟨[1, 1, 1], (rd_at _ [1, 1, 1] _ 3 (by simp [hz]) rfl (by decide)).al _, by decide⟩
  · exact ⟨Y.take 1000, rd_take hY2 hL (by decide) h1001, by rw [List.length_take, hL]; decide⟩
  · exact ⟨Y, hY2.rdN (by rw [ints_length, hL]) h1001, by rw [hL]; exact Nat.le_refl _⟩
set_option maxHeartbeats 2000000 in
/-- lists (26) -/
theorem lists_c (w : World) (hs : St w) : Calls Tryd.prog 26 #[] w fun e w' => e = .returned (.bool true) ∧ Below w.heap.size w w' := by
  have hmk : ∀ w : World, (Instr.makeSlice 25 (.int .i64 1001) (.int .i64 1001)).run Tryd.prog w = .ok (.slice (some ⟨w.heap.size, 0, none⟩) 1001 1001) (w.alloc (.cells (ints .i64 (zeros 1001)).toArray 3)) := make25 1001 (by omega)
  have hzl := zeros_length 1001
  have HM := Lib.hid (And.intro hmk hzl)
  clear hmk hzl
  generalize zeros 1001 = Z at *
  have hmk := HM.out.1
  have HZ := Lib.hid HM.out.2
  clear HM
  have hb0 : Blk (w.alloc (.cells (ints .i64 Z).toArray 3)) w.heap.size 3 (ints .i64 Z) := Blk.new _ _ _
  have hB0 : Below w.heap.size w (w.alloc (.cells (ints .i64 Z).toArray 3)) := below_alloc _ _
  have hs0 := hs.alloc (.cells (ints .i64 Z).toArray 3)
  have h1001 : 1001 ≤ maxLen := by decide
  go_enter Tryd.func26, Tryd.ntmps26
  go_wp2_with fail
  refine (weighs_rd_c 1 0 _ _ hs0 ⟨Z, hb0.rdN (by rw [ints_length, HZ.out]) h1001, by rw [HZ.out]; exact Nat.le_refl _⟩ (by decide) (by decide)).mono ?_
  rintro e w1 ⟨rfl, hb⟩
  have hb1 := hb0.below hb
  have hs1 := hs0.below hb hs0.pos
  have B1 := hB0.trans (hb.mono hB0.size)
  clear hb hb0 hs0 hB0 hmk
  go_wp2_with fail
  refine (weighs_rd_c 1 0 _ _ hs1 ⟨Z.take 1000, rd_take hb1 HZ.out (by decide) h1001, by rw [List.length_take, HZ.out]; decide⟩ (by decide) (by decide)).mono ?_
  rintro e w2 ⟨rfl, hb⟩
  have hb2 := hb1.below hb
  have hs2 := hs1.below hb hs1.pos
  have B2 := B1.trans (hb.mono B1.size)
  clear hb hb1 hs1 B1
  have hpos := hs.pos
  have hb3 := hb2.setInt 999 1
  have hs3 := hs2.block (Below.heap_setCell w2 ⟨w.heap.size, 999, none⟩ (.int .i64 1) 0 (by simp; omega))
  have B3 : Below w.heap.size w (w2.setCell ⟨w.heap.size, 999, none⟩ (.int .i64 1)) := B2.setCell (by simp) _
  have c9 := hb2.int 999 (by rw [HZ.out]; decide)
  have f9 := hb2.frozen 999
  have HL := Lib.hid (show (Z.set 999 1).length = 1001 by rw [List.length_set, HZ.out])
  clear hb2 hs2 B2 hs
  generalize Z.getD 999 0 = z9 at *
  generalize Z.set 999 1 = Y at *
  have HB := Lib.hid hb3
  have HS := Lib.hid hs3
  have HBB := Lib.hid B3
  clear hb3 hs3 B3
  go_wp2
  have hz : w2.heap.size = (w2.setCell ⟨w.heap.size, 999, none⟩ (.int .i64 1)).heap.size := by simp
  have HV := Lib.hid (lits_ok _ w.heap.size w2.heap.size hz Y HB.out HL.out)
  have HK := Lib.hid (litWorld_blk _ w.heap.size w2.heap.size hz)
  have HVB := Lib.hid (litWorld_below (w2.setCell ⟨w.heap.size, 999, none⟩ (.int .i64 1)) w.heap.size w2.heap.size)
  clear f9 c9 hz
  change Code.wp _ _ _ _ (litWorld (w2.setCell ⟨w.heap.size, 999, none⟩ (.int .i64 1)) w.heap.size w2.heap.size)
  have HSV := HS.out.below HVB.out HS.out.pos
  have HBV := HBB.out.trans (HVB.out.mono HBB.out.size)
  generalize litWorld (w2.setCell ⟨w.heap.size, 999, none⟩ (.int .i64 1)) w.heap.size w2.heap.size = V at *
  generalize w2.heap.size + 1 + 1 + 1 + 1 + 1 + 1 + 1 + 1 = g9 at *
  have hvl : (litVals w.heap.size w2.heap.size).length = 11 := rfl
  generalize litVals w.heap.size w2.heap.size = vs at *
  have HVL := Lib.hid hvl
  clear HS HBB HVB HB hvl hpos
  go_loopw [30] (fun c wr => ∃ j : Nat, j ≤ 11 ∧ c = .int .i64 j ∧ Below V.heap.size V wr) (fun c _ => 11 - (intOf c).toNat)
  case atStart => exact ⟨0, by omega, rfl, Below.refl _ _⟩
  case round =>
    obtain ⟨j, hj, rfl, hB⟩ := hrel
    by_cases hlt : j < 11
    · have c1 := (HK.out.below hB).cell j (by rw [HVL.out]; exact hlt)
      obtain ⟨l, hl, hll⟩ := HV.out j hlt
      have HR := Lib.hid hl
      clear hl
      generalize vs.getD j undef = v at *
      have t1 : decide ((j : Int) < 11) = true := decide_eq_true (by omega)
      go_wp2
      obtain ⟨w5, rfl⟩ : ∃ w5, w5 = wr := ⟨_, rfl⟩
      clear c1
      go_loopw [4] (fun c wr => ∃ i : Int, -1 ≤ i ∧ i ≤ 3 ∧ c = .int .i64 i ∧ Below V.heap.size V wr) (fun c _ => (3 - intOf c).toNat)
      case atStart => exact ⟨-1, by omega, by omega, rfl, hB⟩
      case round =>
        obtain ⟨i, hi0, hi1, rfl, hB2⟩ := hrel
        clear hB
        by_cases hlt2 : i < 3
        · have hs4 := HSV.below hB2 HSV.pos
          go_wp2_with fail
          refine (weighs_rd_c 9 i _ _ hs4 ⟨l, HR.out.below hB2, hll⟩ (by omega) (by omega)).mono ?_
          rintro e w6 ⟨rfl, hb⟩
          have hB3 := hB2.trans (hb.mono hB2.size)
          have hs5 := hs4.below hb hs4.pos
          clear hB2 hb hs4
          go_wp2_with fail
          refine (weighs_rd_c 9 (1099511627776 - i) _ _ hs5 ⟨l, HR.out.below hB3, hll⟩ (by omega) (by omega)).mono ?_
          rintro e w7 ⟨rfl, hb⟩
          have hB4 := hB3.trans (hb.mono hB3.size)
          clear hB3 hb hs5
          go_wp2
          go_roundw
          case rel => exact ⟨i + 1, by omega, by omega, rfl, hB4⟩
          case measure => simp [intOf]; omega
        · obtain rfl : i = 3 := by omega
          go_wp2
          go_roundw
          case rel => exact ⟨j + 1, by omega, by go_num, hB2⟩
          case measure => simp [intOf]; omega
    · obtain rfl : j = 11 := by omega
      have hs4 := HSV.below hB HSV.pos
      go_wp2_with fail
      refine (draws_c 3 0 1001 1 _ hs4 (by decide) (by decide) (by decide)).mono ?_
      rintro e w6 ⟨rfl, hb⟩
      have hB3 := hB.trans (hb.mono hB.size)
      have hs5 := hs4.below hb hs4.pos
      clear hb
      go_wp2_with fail
      refine (awake_c _ hs5).mono ?_
      rintro e w7 ⟨rfl, hb⟩
      have hB4 := hB3.trans (hb.mono hB3.size)
      go_wp2
      go_ret
      exact ⟨rfl, HBV.trans (hB4.mono HBV.size)⟩
structure K2 (w w' : World) : Prop where
  st : St w'
  bel : Below w.heap.size w w'
theorem K2.step {w w1 w2 : World} (h : K2 w w1) (hb : Below w1.heap.size w1 w2) : K2 w w2 := ⟨h.st.below hb h.st.pos, h.bel.trans (hb.mono h.bel.size)⟩
set_option maxHeartbeats 4000000 in
set_option maxRecDepth 100000 in
/-- SeedSmall (10) -/
theorem seedSmall_walk (w : World) (hs : St w) : Calls Tryd.prog 10 #[] w fun e w' => e = .returned (.bool true) ∧ Below w.heap.size w w' := by
  have k0 : K2 w w := ⟨hs, Below.refl _ _⟩
  have hsg : IntKind.u64.signed = false := rfl
  clear hs
  go_enter Tryd.func10, Tryd.ntmps10
  go_wp2
  go_loop [1] (fun c => ∃ n : Int, -1 ≤ n ∧ n ≤ 301 ∧ c = .int .i64 n) (fun c => (301 - intOf c).toNat)
  case atStart => exact ⟨-1, by omega, by omega, rfl⟩
  case round =>
    obtain ⟨n, hn0, hn1, rfl⟩ := hrel
    by_cases hlt : n ≤ 300
    · go_wp2
      go_loop [2] (fun c => ∃ x : Int, 0 ≤ x ∧ x ≤ 300 ∧ c = .int .u64 x) (fun c => (300 - intOf c).toNat)
      case atStart => exact ⟨0, by omega, by omega, rfl⟩
      case round =>
        obtain ⟨x, hx0, hx1, rfl⟩ := hrel
        by_cases hlt2 : x < 300
        · go_wp2_with fail
          refine (rests_c x n _ (by omega) (by omega) (by omega)).mono ?_
          rintro e w1 ⟨rfl, rfl⟩
          go_wp2_with fail
          refine (rests_c _ n _ (xor_lo _ _) (xor_hi _ _) (by omega)).mono ?_
          rintro e w1 ⟨rfl, rfl⟩
          go_wp2
          go_round
          case rel => exact ⟨x + 1, by omega, by omega, rfl⟩
          case measure => simp [intOf]; omega
        · obtain rfl : x = 300 := by omega
          go_wp2
          go_round
          case rel => exact ⟨n + 1, by omega, by omega, rfl⟩
          case measure => simp [intOf]; omega
    · obtain rfl : n = 301 := by omega
      go_wp2
      go_loopw [3] (fun c wr => ∃ k : Nat, k ≤ 64 ∧ c = .int .i64 k ∧ K2 w wr) (fun c _ => 64 - (intOf c).toNat)
      case atStart => exact ⟨0, by omega, rfl, k0⟩
      case round =>
        obtain ⟨k, hk, rfl, hK⟩ := hrel
        by_cases hlt : k < 64
        · have t1 : decide ((k : Int) < 64) = true := decide_eq_true (by omega)
          go_wp2
          obtain ⟨w5, rfl⟩ : ∃ w5, w5 = wr := ⟨_, rfl⟩
          go_loopw [4] (fun c wr => ∃ d : Int, -3 ≤ d ∧ d ≤ 4 ∧ c = .int .i64 d ∧ K2 w wr) (fun c _ => (4 - intOf c).toNat)
          case atStart => exact ⟨-3, by omega, by omega, rfl, hK⟩
          case round =>
            obtain ⟨d, hd0, hd1, rfl, hK2⟩ := hrel
            clear hK
            by_cases hlt2 : d ≤ 3
            · go_wp2
              have hN0 : -9223372036854775808 ≤ wrap64 (IntKind.u64.wrap (IntKind.u64.wrap (2 ^ k) + IntKind.u64.wrap d)) := by unfold wrap64; omega
              have hN1 : wrap64 (IntKind.u64.wrap (IntKind.u64.wrap (2 ^ k) + IntKind.u64.wrap d)) ≤ 9223372036854775807 := by unfold wrap64; omega
              generalize wrap64 (IntKind.u64.wrap (IntKind.u64.wrap (2 ^ k) + IntKind.u64.wrap d)) = N at *
              generalize IntKind.u64.wrap (IntKind.u64.wrap (2 ^ k) + IntKind.u64.wrap d) = N1 at *
              generalize IntKind.u64.wrap (2 ^ k) = N2 at *
              generalize IntKind.u64.wrap d = N3 at *
              go_loopw [6] (fun c wr => ∃ x : Int, 0 ≤ x ∧ x ≤ 4 ∧ c = .int .u64 x ∧ K2 w wr) (fun c _ => (4 - intOf c).toNat)
              case atStart => exact ⟨0, by omega, by omega, rfl, hK2⟩
              case round =>
                obtain ⟨x, hx0, hx1, rfl, hKx⟩ := hrel
                clear hK2
                by_cases hlt3 : x < 4
                · go_wp2_with fail
                  refine (rests_c x N _ (by omega) (by omega) (by omega)).mono ?_
                  rintro e w1 ⟨rfl, rfl⟩
                  go_wp2_with fail
                  refine (rests_c _ N _ (xor_lo _ _) (xor_hi _ _) (by omega)).mono ?_
                  rintro e w1 ⟨rfl, rfl⟩
                  go_wp2_with fail
                  refine (rests_c _ N _ (u64_lo _) (u64_hi _) (by omega)).mono ?_
                  rintro e w1 ⟨rfl, rfl⟩
                  go_wp2_with fail
                  refine (rests_c _ N _ (u64_lo _) (u64_hi _) (by omega)).mono ?_
                  rintro e w1 ⟨rfl, rfl⟩
                  go_wp2_with fail
                  refine (names_c _ N N _ _ hKx.st (u64_lo _) (u64_hi _) (by decide)).mono ?_
                  rintro e w1 ⟨rfl, hb⟩
                  have hK3 := hKx.step hb
                  clear hKx hb
                  go_wp2
                  go_roundw
                  case rel => exact ⟨x + 1, by omega, by omega, rfl, hK3⟩
                  case measure => simp [intOf]; omega
                · obtain rfl : x = 4 := by omega
                  go_wp2
                  go_roundw
                  case rel => exact ⟨d + 1, by omega, by omega, rfl, hKx⟩
                  case measure => simp [intOf]; omega
            · obtain rfl : d = 4 := by omega
              go_wp2
              go_roundw
              case rel => exact ⟨k + 1, by omega, by go_num, hK2⟩
              case measure => simp [intOf]; omega
        · obtain rfl : k = 64 := by omega
          rw [show ((64 : Nat) : Int) = 64 from rfl]
          go_wp2
          go_loopw [7] (fun c wr => ∃ y : Int, 0 ≤ y ∧ y ≤ 40 ∧ c = .int .u64 y ∧ K2 w wr) (fun c _ => (40 - intOf c).toNat)
          case atStart => exact ⟨0, by omega, by omega, rfl, hK⟩
          case round =>
            obtain ⟨y, hy0, hy1, rfl, hKy⟩ := hrel
            clear hK
            by_cases hlt3 : y < 40
            · go_wp2
              go_loopw [8] (fun c wr => ∃ n : Int, -1 ≤ n ∧ n ≤ 8 ∧ c = .int .i64 n ∧ K2 w wr) (fun c _ => (8 - intOf c).toNat)
              case atStart => exact ⟨-1, by omega, by omega, rfl, hKy⟩
              case round =>
                obtain ⟨n, hn2, hn3, rfl, hKn⟩ := hrel
                clear hKy
                by_cases hlt4 : n ≤ 7
                · go_wp2
                  go_loopw [9] (fun c wr => ∃ q : Int, -1 ≤ q ∧ q ≤ n + 2 ∧ c = .int .i64 q ∧ K2 w wr) (fun c _ => (n + 2 - intOf c).toNat)
                  case atStart => exact ⟨-1, by omega, by omega, rfl, hKn⟩
                  case round =>
                    obtain ⟨q, hq0, hq1, rfl, hKq⟩ := hrel
                    clear hKn
                    by_cases hlt5 : q ≤ n + 1
                    · go_wp2
                      obtain ⟨l9, hl9⟩ : ∃ l9 : List Int, [-1, 0, 1, 5, 1099511627770, 1099511627773, 1099511627775, 1099511627776, 1099511627777] = l9 := ⟨_, rfl⟩
                      have hb9 : ∀ j, j < 9 → -9223372036854775808 ≤ l9.getD j 0 ∧ l9.getD j 0 ≤ 9223372036854775807 := by rw [← hl9]; decide
                      have hn9 : l9.length = 9 := by rw [← hl9]; rfl
                      have HB9 := Lib.hid (And.intro hb9 hn9)
                      have hV : (Obj.cells #[.int .i64 (-1), .int .i64 0, .int .i64 1, .int .i64 5, .int .i64 1099511627770, .int .i64 1099511627773, .int .i64 1099511627775, .int .i64 1099511627776, .int .i64 1099511627777] 3) = .cells (ints .i64 l9).toArray 3 := by rw [← hl9]; rfl
                      rw [hV]
                      clear hV hl9 hb9 hn9
                      have hblk := Blk.new wr 3 (ints .i64 l9)
                      have hKV : K2 w (wr.alloc (.cells (ints .i64 l9).toArray 3)) := hKq.step (below_alloc _ _)
                      clear hKq
                      generalize wr.alloc (.cells (ints .i64 l9).toArray 3) = V at *
                      generalize wr.heap.size = g9 at *
                      have HBK := Lib.hid hblk
                      clear hblk
                      go_loopw [105] (fun c wr => ∃ j : Nat, j ≤ 9 ∧ c = .int .i64 j ∧ Below V.heap.size V wr) (fun c _ => 9 - (intOf c).toNat)
                      case atStart => exact ⟨0, by omega, rfl, Below.refl _ _⟩
                      case round =>
                        obtain ⟨j, hj, rfl, hB⟩ := hrel
                        by_cases hlt6 : j < 9
                        · have c1 := (HBK.out.below hB).int j (by rw [HB9.out.2]; exact hlt6)
                          obtain ⟨z0, z1⟩ := HB9.out.1 j hlt6
                          have t2 : decide ((j : Int) < 9) = true := decide_eq_true (by omega)
                          generalize l9.getD j 0 = z at *
                          go_wp2_with fail
                          refine (draws_c y z n q _ (hKV.step hB).st z0 z1 (by omega)).mono ?_
                          rintro e w1 ⟨rfl, hb⟩
                          have hB2 := hB.trans (hb.mono hB.size)
                          clear hB hb c1
                          go_wp2
                          go_roundw
                          case rel => exact ⟨j + 1, by omega, by go_num, hB2⟩
                          case measure => simp [intOf]; omega
                        · obtain rfl : j = 9 := by omega
                          have hKq := hKV.step hB
                          clear hB
                          go_wp2
                          go_roundw
                          case rel => exact ⟨q + 1, by omega, by omega, rfl, hKq⟩
                          case measure => simp [intOf]; omega
                    · obtain rfl : q = n + 2 := by omega
                      go_wp2
                      go_roundw
                      case rel => exact ⟨n + 1, by omega, by omega, rfl, hKq⟩
                      case measure => simp [intOf]; omega
                · obtain rfl : n = 8 := by omega
                  go_wp2
                  go_roundw
                  case rel => exact ⟨y + 1, by omega, by omega, rfl, hKn⟩
                  case measure => simp [intOf]; omega
            · obtain rfl : y = 40 := by omega
              go_wp2
              go_loopw [12, 116] (fun v c wr => ∃ j : Nat, j ≤ 35 ∧ c = .int .i64 j ∧ (∃ t : ByteArray, v = .string t ∧ t.size = j) ∧ K2 w wr) (fun _ c _ => 35 - (intOf c).toNat)
              case atStart => exact ⟨0, by omega, rfl, ⟨_, rfl, rfl⟩, hKy⟩
              case round =>
                obtain ⟨j, hj, rfl, ⟨t, rfl, ht⟩, hKt⟩ := hrel
                clear hKy
                have HT := Lib.hid ht
                have hts : t.size ≤ 35 := by omega
                clear ht
                by_cases hlt4 : j < 35
                · go_wp2_with fail
                  refine (names_c 7 1 1 t _ hKt.st (by decide) (by decide) (by unfold maxLen; omega)).mono ?_
                  rintro e w1 ⟨rfl, hb⟩
                  have hK3 := hKt.step hb
                  clear hKt hb
                  go_wp2
                  go_roundw
                  case rel => exact ⟨j + 1, by omega, by go_num, ⟨_, rfl, by have := HT.out; rw [ByteArray.size_append, this]; rfl⟩, hK3⟩
                  case measure => simp [intOf]; omega
                · obtain rfl : j = 35 := by omega
                  go_wp2_with fail
                  refine (lists_c _ hKt.st).mono ?_
                  rintro e w1 ⟨rfl, hb⟩
                  have hK3 := hKt.step hb
                  clear hKt hb
                  go_wp2_with fail
                  refine (awake_c _ hK3.st).mono ?_
                  rintro e w2 ⟨rfl, hb⟩
                  go_wp2
                  go_ret
                  exact ⟨rfl, (hK3.step hb).bel⟩
end Go.Proofs.YtifnmehpkelifaaDoor
