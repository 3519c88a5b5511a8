/- The walk of SeedLists. -/
import Derived.Test.YtifnmehpkelifaaDoorListsL
import Derived.Test.YtifnmehpkelifaaDoorSteps
import Derived.OpenShut
namespace Go.Proofs.YtifnmehpkelifaaDoor
open Go.RowKit SeedP
set_option maxRecDepth 100000
set_option maxHeartbeats 4000000 in
/-- SeedLists (7) -/
theorem seedLists_walk (key at_ size part : Int) (vw : Value) (ws : List Int) (w : World) (hs : St w) (_bk : 0 ≤ key ∧ key ≤ 18446744073709551615) (_ba : -9223372036854775808 ≤ at_ ∧ at_ ≤ 9223372036854775807)
    (bs : 0 ≤ size ∧ size ≤ 255) (bp : 0 ≤ part ∧ part ≤ 255) (bw : Rd w vw (ints .u8 ws) ∧ ws.length * 1 ≤ 140737488351232 ∧ ∀ x ∈ ws, (Lit.int .u8 x).wf = true) :
    Calls Tryd.prog 7 #[.int .u64 key, .int .i64 at_, .int .u8 size, .int .u8 part, vw] w fun e w' => e = .returned (.bool true) ∧ Below w.heap.size w w' := by
  obtain ⟨s0, s1⟩ := bs
  obtain ⟨p0, p1⟩ := bp
  obtain ⟨rw0, wl, wwf⟩ := bw
  have hn0 : 0 ≤ size % 101 ∧ size % 101 ≤ 100 := by omega
  obtain ⟨hn0, hn1⟩ := hn0
  have HP := Lib.hid (fun W => pick_c at_ 549755813888 W (by decide) (by decide))
  have hi : 0 ≤ at_ % 549755813888 ∧ at_ % 549755813888 ≤ 549755813887 := by omega
  obtain ⟨hi0, hi1⟩ := hi
  clear _ba
  generalize at_ % 549755813888 = i at *
  have HWW := Lib.hid wwf
  clear wwf
  go_enter Tryd.func7, Tryd.ntmps7
  go_wp2_with fail
  refine (awake_c _ hs).mono ?_
  rintro e w1 ⟨rfl, hb1⟩
  have k0 := K.start (key := key) hb1 (hs.below hb1 hs.pos)
  have rw1 := rw0.below (hb1.alloc hb1.size (.cells #[.int .u64 key] 31))
  clear hs hb1 rw0
  go_wp2_with fail
  refine (HP.out _).mono ?_
  rintro e w2 ⟨rfl, rfl⟩
  clear HP
  generalize w1.alloc (.cells #[.int .u64 key] 31) = w2 at *
  generalize w1.heap.size = g at *
  have c0 := k0.cell
  have hk0 : 0 ≤ part % (size % 101 + 1) ∧ part % (size % 101 + 1) < size % 101 + 1 := ⟨Int.emod_nonneg _ (by omega), Int.emod_lt_of_pos _ (by omega)⟩
  obtain ⟨hk0, hk1⟩ := hk0
  go_wp2_with fail
  obtain ⟨k, hk'⟩ := Int.eq_ofNat_of_zero_le hk0
  rw [hk'] at hk1 ⊢
  clear hk' hk0
  obtain ⟨n, hn'⟩ := Int.eq_ofNat_of_zero_le hn0
  rw [hn'] at hn0 hn1 hk1 ⊢
  clear hn'
  have hn2 : n ≤ 100 := by omega
  have hk2 : k ≤ n := by omega
  obtain ⟨L, a, ePerm, hL, hLb, hLc, ha1, ha2⟩ := perm_ok key i n hi0 hn2 (by omega)
  obtain ⟨C, b, eCh, hC, hCb, hCs, hb1⟩ := choose_ok key i n k hi0 hn2 hk2 (by omega)
  obtain ⟨b', eAll, _, _⟩ := chooseP_all key i n hi0 (by omega) (by omega) (by omega)
  rw [Int.toNat_natCast] at eAll
  have HP := Lib.hid (fun W h => ePerm ▸ perm_c key i n W h (by omega) (by omega))
  have HC := Lib.hid (fun W h => eCh ▸ choose_c key i n k W h (by omega) (by omega))
  have HA := Lib.hid (fun W h => eAll ▸ choose_c key i n n W h (by omega) (by omega))
  clear ePerm eCh eAll
  have HLb := Lib.hid (And.intro hLb (And.intro hLc (And.intro hCb hCs)))
  have HL := Lib.hid hL
  have HLC := Lib.hid hC
  clear hLb hLc hCb hCs hL hC
  refine (HP.out _ k0.st).mono ?_
  rintro e w3 ⟨v1, rfl, rd1, hb⟩
  have k3 := k0.step hb
  have rw3 := rw1.below hb
  clear k0 hb c0 HP rw1
  have c0 := k3.cell
  go_wp2_with fail
  refine (HC.out _ k3.st).mono ?_
  rintro e w4 ⟨v2, rfl, rd2, hb⟩
  have k4 := k3.step hb
  have rw4 := rw3.below hb
  have rd14 := rd1.below hb
  clear k3 hb c0 HC rw3 rd1
  have c0 := k4.cell
  go_wp2_with fail
  refine (HA.out _ k4.st).mono ?_
  rintro e w5 ⟨v3, rfl, rd3, hb⟩
  have k5 := k4.step hb
  have rw5 := rw4.below hb
  have rd1 := rd14.below hb
  have rd25 := rd2.below hb
  clear k4 hb c0 HA rw4 rd14 rd2
  obtain ⟨x1, y1, rfl, m1, h1⟩ := rd1.open_ints
  obtain ⟨x2, y2, rfl, m2, h2⟩ := rd25.open_ints
  obtain ⟨x3, y3, rfl, m3, h3⟩ := rd3.open_ints
  rw [HL.out, HLC.out, iota_length] 
  clear m1 m2 m3
  have H1 := Lib.hid h1
  have H2 := Lib.hid h2
  have H3 := Lib.hid h3
  clear h1 h2 h3
  have c0 := k5.cell
  have hmk := make25 n (by omega)
  have hmx : (n : Int) - 1 < 0 ∨ 0 ≤ (n : Int) - 1 := by omega
  rcases hmx with hmx | hmx
  all_goals
    go_wp2
    have hB5 : Below w5.heap.size w5 (w5.alloc (.cells (ints .i64 (zeros n)).toArray 3)) := below_alloc _ _
    have hT5 : Blk (w5.alloc (.cells (ints .i64 (zeros n)).toArray 3)) w5.heap.size 3 (ints .i64 (zeros n)) := Blk.new _ _ _
    generalize w5.alloc (.cells (ints .i64 (zeros n)).toArray 3) = w6 at *
    clear hmk hmx c0
    go_loopw [25] (fun c wr => ∃ x : Nat, x ≤ n ∧ c = .int .i64 x ∧ ∃ T : List Int, T.length = n ∧ (∀ v, v < n → T.getD v 0 = ((L.take x).count (v : Int) : Nat)) ∧ Blk wr w5.heap.size 3 (ints .i64 T) ∧ Below w5.heap.size w5 wr) (fun c _ => n - (intOf c).toNat)
    case atStart => exact ⟨0, Nat.zero_le _, rfl, zeros n, zeros_length n, fun v hv => by simp [zeros, List.getD_eq_getElem?_getD, hv], hT5, hB5⟩
    case round =>
      obtain ⟨x, hx, rfl, T, hTl, hTc, hT, hB⟩ := hrel
      have HTl := Lib.hid hTl
      have HTc := Lib.hid hTc
      clear hTl hTc hT5 hB5
      by_cases hlt : x < n
      · rcases H1.out with h | ⟨g1, o1, rfl, hc1⟩
        · exact absurd (congrArg List.length h) (by rw [HL.out]; simp; omega)
        rcases H3.out with h | ⟨g3, o3, rfl, hc3⟩
        · exact absurd (congrArg List.length h) (by rw [iota_length]; simp; omega)
        have c1 := keep_cell hB (hc1 x (by rw [HL.out]; exact hlt))
        have c3 := keep_cell hB (hc3 x (by rw [iota_length]; exact hlt))
        rw [iota_getD n x hlt] at c3
        obtain ⟨y0, y1⟩ := HLb.out.1 x hlt
        obtain ⟨q, hq⟩ := Int.eq_ofNat_of_zero_le y0
        have HQ := Lib.hid hq
        rw [hq] at c1 y1
        have hqn : q < n := by omega
        have t1 : decide (n ≤ q) = false := decide_eq_false (by omega)
        have cT := hT.int q (by rw [HTl.out]; exact hqn)
        have fT := hT.frozen q
        have tq : 0 ≤ T.getD q 0 ∧ T.getD q 0 ≤ 100 := by
          rw [HTc.out q hqn]
          have := List.count_le_length (a := (q : Int)) (l := L.take x)
          have := List.length_take_le x L
          omega
        obtain ⟨tq0, tq1⟩ := tq
        have HT2 := Lib.hid (hT.setInt q (T.getD q 0 + 1))
        have HB2 := Lib.hid (show Below w5.heap.size w5 (wr.setCell ⟨w5.heap.size, q, none⟩ (.int .i64 (T.getD q 0 + 1))) from hB.setCell (by simp) _)
        have HTC := Lib.hid (show ∀ v, v < n → (T.set q (T.getD q 0 + 1)).getD v 0 = ((L.take (x + 1)).count (v : Int) : Nat) from fun v hv => by
          rw [getD_set _ _ _ _ (by rw [HTl.out]; exact hqn), take_count L x (by rw [HL.out]; exact hlt), HQ.out]
          by_cases e : v = q
          · subst e; rw [if_pos rfl, if_pos rfl, HTc.out v hv]; omega
          · rw [if_neg e, if_neg (by omega), HTc.out v hv]; omega)
        clear hT hB hq y0 hc1 hc3
        generalize T.getD q 0 = t at *
        go_wp2
        go_roundw
        case rel => exact ⟨x + 1, by omega, by go_num, _, by rw [List.length_set]; exact HTl.out, HTC.out, HT2.out, HB2.out⟩
        case measure => simp [intOf]; omega
      · obtain rfl : n = x := by omega
        have HT1 := Lib.hid (show ∀ v, v < n → T.getD v 0 = 1 from fun v hv => by
          rw [HTc.out v hv, List.take_of_length_le (by rw [HL.out]; exact Nat.le_refl _), HLb.out.2.1 v hv]; rfl)
        clear HTc hx hlt
        go_wp2
        go_loop [26] (fun c => ∃ x : Nat, x ≤ n ∧ c = .int .i64 x) (fun c => n - (intOf c).toNat)
        case atStart => exact ⟨0, Nat.zero_le _, rfl⟩
        case round =>
          obtain ⟨x, hx, rfl⟩ := hrel
          by_cases hlt : x < n
          · have cT := hT.int x (by rw [HTl.out]; exact hlt)
            rw [HT1.out x hlt] at cT
            go_wp2
            go_round
            case rel => exact ⟨x + 1, by omega, by go_num⟩
            case measure => simp [intOf]; omega
          · obtain rfl : n = x := by omega
            clear hx hlt HT1
            have rwB := rw5.below hB
            have kB := k5.step hB
            have H2B := Lib.hid (show C = [] ∨ ∃ g off, x2 = some ⟨g, off, none⟩ ∧ ∀ j, j < C.length → wr.cell? ⟨g, off + j, none⟩ = some (.int .i64 (C.getD j 0)) from by
              rcases H2.out with h | ⟨g', o', e, hc⟩
              · exact Or.inl h
              · exact Or.inr ⟨g', o', e, fun j hj => keep_cell hB (hc j hj)⟩)
            clear H2 H1 H3 hT hB k5 rw5 rd1 rd25 rd3
            go_wp2
            go_loopw [27] (fun c w' => ∃ x : Nat, x ≤ k ∧ c = .int .i64 x ∧ Dr wr w') (fun c _ => k - (intOf c).toNat)
            case atStart => exact ⟨0, Nat.zero_le _, rfl, Dr.refl _⟩
            case round =>
              obtain ⟨x, hx, rfl, hD⟩ := hrel
              by_cases hlt : x < k
              · rcases H2B.out with h | ⟨g2, o2, rfl, hc⟩
                · exact absurd (congrArg List.length h) (by rw [HLC.out]; simp; omega)
                have c1 := (hD.cell _).trans (hc x (by rw [HLC.out]; exact hlt))
                obtain ⟨y0, y1⟩ := HLb.out.2.2.1 x hlt
                rcases x with _ | x
                · clear hc
                  rw [Nat.add_zero] at c1
                  generalize C.getD 0 0 = y at *
                  have u1 : decide (y < 0) = false := decide_eq_false (by omega)
                  have u2 : decide ((n : Int) ≤ y) = false := decide_eq_false (by omega)
                  go_wp2
                  go_quiet (fail)
                  go_wp2
                  go_roundw
                  case rel => exact ⟨1, by omega, by go_num, hD.drewN nq⟩
                  case measure => simp [intOf]; omega
                · have c2 := (hD.cell _).trans (hc x (by rw [HLC.out]; omega))
                  have hs := HLb.out.2.2.2 x hlt
                  clear hc
                  generalize C.getD x 0 = y' at *
                  generalize C.getD (x + 1) 0 = y at *
                  have u1 : decide (y < 0) = false := decide_eq_false (by omega)
                  have u2 : decide ((n : Int) ≤ y) = false := decide_eq_false (by omega)
                  have u3 : decide (y ≤ y') = false := decide_eq_false (by omega)
                  rw [show ((x + 1 : Nat) : Int) = (x : Int) + 1 by omega]
                  have q1 : IntKind.i64.wrap ((x : Int) + 1 - 1) = x := by rw [IntWalk.i64_in _ (by omega)]; omega
                  have hx2 : (x : Int) + 1 < k := by omega
                  clear hx hlt
                  go_wp2
                  go_quiet (fail)
                  go_wp2
                  go_roundw
                  case rel => exact ⟨x + 1 + 1, by omega, by go_num, hD.drewN nq⟩
                  case measure => simp [intOf]; omega
              · obtain rfl : k = x := by omega
                clear hx hlt H2B HLb
                have rw6 := rwB.below (hD.below _)
                have k6 := kB.step (hD.below _)
                clear rwB kB hD
                obtain ⟨w8, rfl⟩ : ∃ w8, w8 = wr := ⟨_, rfl⟩
                obtain ⟨i3, hi3, hz1, hz2, hz3⟩ := info_parts info3
                have hwb : ∀ j, j < ws.length → 0 ≤ ws.getD j 0 ∧ ws.getD j 0 ≤ 255 := fun j hj => by
                  have hm : ws.getD j 0 ∈ ws := by rw [List.getD_eq_getElem?_getD, List.getElem?_eq_getElem hj]; exact List.getElem_mem _
                  exact Go.bounds_u8 (HWW.out _ hm)
                obtain ⟨xw, cw, rfl, mw, hw⟩ := rw6.open_ints
                have HW6 := Lib.hid hw
                have HWB := Lib.hid hwb
                unfold maxLen at mw
                clear hw hwb HWW
                go_wp2
                go_loopw [28, 29, 30] (fun v s c w' => ∃ x : Nat, x ≤ ws.length ∧ x ≤ 100 ∧ c = .int .i64 x ∧ s = .int .i64 (S ws x) ∧ w'.ownsRow w8.heap.size 3 1 v x (ints .i64 (ws.take x)) ∧ Below w8.heap.size w8 w') (fun _ _ c _ => 100 - (intOf c).toNat)
                case atStart => exact ⟨0, Nat.zero_le _, by omega, rfl, rfl, by simpa [ints] using World.ownsRow_nil _ _ _ _, Below.refl _ _⟩
                case round =>
                  obtain ⟨x, hx, hx2, rfl, rfl, hown, hB⟩ := hrel
                  have hsb : ∀ j : Nat, j ≤ ws.length → j ≤ 100 → 0 ≤ S ws j ∧ S ws j ≤ 25500 := fun j a b => by
                    have h := sum_bd (ws.take j) (fun q hq => by
                      have hq' : q < j ∧ q < ws.length := by rw [List.length_take] at hq; omega
                      have e : (ws.take j).getD q 0 = ws.getD q 0 := by simp only [List.getD_eq_getElem?_getD, List.getElem?_take, if_pos hq'.1]
                      rw [e]; exact HWB.out q hq'.2)
                    rw [List.length_take] at h
                    unfold S; omega
                  obtain ⟨sb0, sb1⟩ := hsb x hx hx2
                  by_cases hlt : x < ws.length ∧ x < 100
                  · obtain ⟨hlt1, hlt2⟩ := hlt
                    rcases HW6.out with h | ⟨g4, o4, rfl, hc⟩
                    · rw [h] at hlt1; simp at hlt1
                    have c1 := keep_cell hB (hc x hlt1)
                    have t1 : decide (x < ws.length) = true := decide_eq_true hlt1
                    have HS := Lib.hid (S_succ ws x hlt1)
                    have HT := Lib.hid (show ws.take (x + 1) = ws.take x ++ [ws.getD x 0] by
                      rw [List.take_succ_eq_append_getElem hlt1, List.getD_eq_getElem?_getD, List.getElem?_eq_getElem hlt1]; rfl)
                    obtain ⟨y0, y1⟩ := HWB.out x hlt1
                    have hsz := hB.size
                    have hlen : (ws.take x).length = x := by rw [List.length_take]; omega
                    have HLN := Lib.hid hlen
                    clear hc hlen hsb
                    generalize ws.getD x 0 = y at *
                    generalize S ws x = sx at *
                    generalize ws.take x = acc at *
                    go_wp2_with (at_builtin; refine wpList_append_own _ rfl _ _ 25 rfl w8.heap.size 3 i3 (.int .i64 0) 1 8 Tryd.underlying25 hi3 hz1 hz2 hz3 rfl (by decide) _ x (ints .i64 acc) rfl (hown.alloc _) ⟨wr.heap.size, 0, none⟩ 1 1 [.int .i64 y] rfl rfl ?c1 ?c2 ?c3 ?c4 ?c5 ?_)
                    case c1 => exact cell_one_new _ _ _
                    case c2 => simp [Value.oneCell']
                    case c3 => unfold maxLen; omega
                    case c4 => omega
                    case c5 => simp; omega
                    intro v' w7 hown1 hg1 _
                    have hB7 := (hB.alloc hsz (.cells #[.int .i64 y] 3)).grown hg1 (by simp; omega) (fun j hj => (hown.lt j hj).1)
                    obtain ⟨g5, cap, rfl⟩ : ∃ g5 cap, v' = .slice (some ⟨g5, 0, none⟩) (x + 1) cap := by
                      rcases hown1.2 with ⟨_, h⟩ | ⟨g5, cap, cur, h, _⟩
                      · omega
                      · exact ⟨g5, cap, h⟩
                    have hown2 : w7.ownsRow w8.heap.size 3 1 (.slice (some ⟨g5, 0, none⟩) (x + 1) cap) (x + 1) (ints .i64 (acc ++ [y])) := by simpa [ints] using hown1
                    have c2 := owns_cell hown2 (by rw [List.length_append, HLN.out]; rfl) x (by omega)
                    rw [show (acc ++ [y]).getD x 0 = y by have := HLN.out; simp [List.getD_eq_getElem?_getD, this]] at c2
                    clear hown hg1 hB hown1
                    go_wp2
                    go_roundw
                    case rel => exact ⟨x + 1, by omega, by omega, by go_num, by rw [HS.out], by rw [HT.out]; exact hown2, hB7⟩
                    case measure => simp [intOf]; omega
                  · have rdW := Rd.of_owns hown
                    have hlt' : ws.length ≤ x ∨ (x < ws.length ∧ 100 ≤ x) := by omega
                    have kW := k6.step hB
                    have c0 := kW.cell
                    have HSX := Lib.hid (show (ws.take x).sum = S ws x from rfl)
                    have hlW : (ws.take x).length = x := by rw [List.length_take]; omega
                    have hbW : ∀ j, j < (ws.take x).length → 0 ≤ (ws.take x).getD j 0 ∧ (ws.take x).getD j 0 ≤ 255 := fun q hq => by
                      have hq' : q < x ∧ q < ws.length := by rw [List.length_take] at hq; omega
                      have e : (ws.take x).getD q 0 = ws.getD q 0 := by simp only [List.getD_eq_getElem?_getD, List.getElem?_take, if_pos hq'.1]
                      rw [e]; exact HWB.out q hq'.2
                    have HBW := Lib.hid hbW
                    have HLW := Lib.hid hlW
                    have HO := Lib.hid hown
                    clear hlW hbW hsb hlt hB k6 hown
                    have HWG := Lib.hid (weigh_c key i _ (ws.take x) wr kW.st rdW (by omega) (by omega))
                    by_cases hz : S ws x = 0
                    · have ez := weigh_zero (wordI key) i (ws.take x) (HSX.out.trans hz)
                      have HWG2 := HWG.out
                      rw [ez] at HWG2
                      have HG := Lib.hid HWG2
                      rw [hz]
                      clear HWG HWG2 ez hz
                      rcases hlt' with h1 | ⟨h1, h2⟩
                      · have t1 : decide (x < ws.length) = false := decide_eq_false (by omega)
                        go_wp2_with fail
                        refine HG.out.mono ?_
                        rintro e w9 ⟨rfl, hb⟩
                        go_wp2
                        go_ret
                        exact ⟨rfl, (kW.step hb).bel⟩
                      · have t1 : decide (x < ws.length) = true := decide_eq_true (by omega)
                        go_wp2_with fail
                        refine HG.out.mono ?_
                        rintro e w9 ⟨rfl, hb⟩
                        go_wp2
                        go_ret
                        exact ⟨rfl, (kW.step hb).bel⟩
                    · obtain ⟨p, nx, ez, n0, p2, p3⟩ := weigh_ok key i (ws.take x) hi0 (by omega) (by rw [HLW.out]; exact hx2) HBW.out (by rw [HSX.out]; exact hz)
                      have HWG2 := HWG.out
                      rw [ez] at HWG2
                      have HG := Lib.hid HWG2
                      have t0 : (S ws x == 0) = false := beq_eq_false_iff_ne.2 hz
                      rw [HLW.out] at p2
                      clear HWG HWG2 ez hz
                      obtain ⟨g5, cap, rfl⟩ : ∃ g5 cap, u28 = .slice (some ⟨g5, 0, none⟩) x cap := by
                        rcases HO.out.2 with ⟨_, h⟩ | ⟨g5, cap, cur, h, _⟩
                        · omega
                        · exact ⟨g5, cap, h⟩
                      have c2 := owns_cell HO.out HLW.out p p2
                      have t2 : decide (p < x) = true := decide_eq_true p2
                      clear HO rdW
                      generalize (ws.take x).getD p 0 = wp at *
                      rcases hlt' with h1 | ⟨h1, h2⟩
                      · have t1 : decide (x < ws.length) = false := decide_eq_false (by omega)
                        go_wp2_with fail
                        refine HG.out.mono ?_
                        rintro e w9 ⟨rfl, hb⟩
                        have c3 := keep_cell hb c2
                        go_wp2
                        go_ret
                        exact ⟨rfl, (kW.step hb).bel⟩
                      · have t1 : decide (x < ws.length) = true := decide_eq_true (by omega)
                        go_wp2_with fail
                        refine HG.out.mono ?_
                        rintro e w9 ⟨rfl, hb⟩
                        have c3 := keep_cell hb c2
                        go_wp2
                        go_ret
                        exact ⟨rfl, (kW.step hb).bel⟩
end Go.Proofs.YtifnmehpkelifaaDoor
