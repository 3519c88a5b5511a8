/- The walk of SeedSteps. -/
import Derived.Test.YtifnmehpkelifaaDoorBun
import Derived.RegionTactic
namespace Go.Proofs.YtifnmehpkelifaaDoor
open Go.RowKit SeedP
theorem weigh_two (wd : Int → Int) (i m : Int) (h0 : 0 ≤ i) (h1 : i ≤ 1099511627776) (m0 : 0 ≤ m) (m1 : m ≤ 255) :
    weighP wd i [m, 1] = if (belowP wd i (m + 1)).2.2 = 0 then (if (belowP wd i (m + 1)).1 < m then 0 else 1, (belowP wd i (m + 1)).2.1, 0) else (0, 0, (belowP wd i (m + 1)).2.2) := by
  have hs : [m, 1].sum = m + 1 := by simp
  rw [weigh_go wd i _ h0 h1 (by simp) (by simp) (fun j hj => by
    have : j = 0 ∨ j = 1 := by simp at hj; omega
    rcases this with rfl | rfl
    · exact ⟨m0, by show m ≤ _; omega⟩
    · exact ⟨by simp, by simp⟩) (by rw [hs]; omega), hs]
  by_cases he : (belowP wd i (m + 1)).2.2 = 0
  · rw [if_pos he, if_pos he]
    obtain ⟨_, _, v0, v1, _, _⟩ := belowP_good wd i _ he
    congr 1
    simp only [upAt, Int.zero_add]
    by_cases ht : (belowP wd i (m + 1)).1 < m
    · rw [if_pos ht, if_pos ht]; rfl
    · rw [if_neg ht, if_neg ht, if_pos v1]; rfl
  · rw [if_neg he, if_neg he]
/-- an order that cannot be drawn: the stream has ended -/
theorem permL_err (wd : Int → Int) : ∀ (p : Nat) (l : List Int) (i : Int), 0 ≤ i → i ≤ 1099511627776 → (permL wd p l i).2.2 = 0 ∨ permL wd p l i = ([], 0, 4) := by
  intro p
  induction p with
  | zero => intro l i _ _; exact Or.inl rfl
  | succ p ih =>
    intro l i h0 h1
    by_cases he : (belowP wd i ((p : Int) + 1 + 1)).2.2 = 0
    · rw [permL_go wd p l i he]
      obtain ⟨_, _, _, _, x0, x1⟩ := belowP_good wd i _ he
      exact ih _ _ (by omega) (by omega)
    · rw [permL_stop wd p l i he]
      rcases belowP_cases wd i ((p : Int) + 1 + 1) h0 h1 (by omega) with h | ⟨k, _, _, _, h⟩
      · rw [h]; exact Or.inr rfl
      · rw [h] at he; exact absurd rfl he
theorem permL_fine (wd : Int → Int) (p : Nat) (l : List Int) (i : Int) (h : (permL wd (p + 1) l i).2.2 = 0) : (belowP wd i ((p : Int) + 1 + 1)).2.2 = 0 := by
  by_cases he : (belowP wd i ((p : Int) + 1 + 1)).2.2 = 0
  · exact he
  · rw [permL_stop wd p l i he] at h; exact h
theorem perm_same_c (key i n : Int) (w : World) (hs : St w) (i0 : -9223372036854775808 ≤ i) (i1 : i ≤ 9223372036854775807) (R : List Int × Int × Int) (hR : permP (wordI key) i n = R) :
    Calls Tryd.prog 19 #[.agg #[.int .u64 key], .int .i64 i, .int .i64 n] w (PostL R w) := hR ▸ perm_c key i n w hs i0 i1
theorem same_nil_c (v u : Value) (l : List Int) (w : World) (ha : Rd w v (ints .i64 l)) (hb : Rd w u (ints .i64 l)) :
    Calls Tryd.prog 20 #[v, u] w fun e w' => e = .returned (.bool true) ∧ Below w.heap.size w w' :=
  (same_c v u l l w ha hb).mono fun _ _ ⟨h, hb⟩ => ⟨h.trans (ret_bool (decide_eq_true rfl)), hb⟩
theorem owns_below {B : Nat} {e : TypeId} {k : Nat} {v : Value} {n : Nat} {xs : List Value} {w w' : World} (h : w.ownsRow B e k v n xs) (hb : Below w.heap.size w w') : w'.ownsRow B e k v n xs := by
  obtain ⟨hl, h2⟩ := h
  rcases h2 with h2 | ⟨g, cap, cur, rfl, hB, hg, hn, hc, hs, ht⟩
  · exact ⟨hl, Or.inl h2⟩
  · exact ⟨hl, Or.inr ⟨g, cap, cur, rfl, hB, (hb.block g (Array.getElem?_eq_some_iff.1 hg).1).trans hg, hn, hc, hs, ht⟩⟩
theorem owns_cell {w : World} {B g n cap : Nat} {e : TypeId} {L : List Int} (h : w.ownsRow B e 1 (.slice (some ⟨g, 0, none⟩) n cap) n (ints .i64 L)) (hl : L.length = n) (j : Nat) (hj : j < n) : w.cell? ⟨g, j, none⟩ = some (.int .i64 (L.getD j 0)) := by
  rw [h.cellAt j (by omega), ints_get _ _ _ (by omega)]
theorem owns_store {w : World} {B g n cap : Nat} {e : TypeId} {L : List Int} (h : w.ownsRow B e 1 (.slice (some ⟨g, 0, none⟩) n cap) n (ints .i64 L)) (j : Nat) (x : Int) : (w.setCell ⟨g, j, none⟩ (.int .i64 x)).ownsRow B e 1 (.slice (some ⟨g, 0, none⟩) n cap) n (ints .i64 (L.set j x)) := by
  rw [← ints_set]; exact (h.stored j _).1
theorem permL_go' (wd : Int → Int) (p : Nat) (l : List Int) (i : Int) (R : List Int × Int × Int) (h : permL wd (p + 1) l i = R) (h0 : R.2.2 = 0) :
    (belowP wd i ((p : Int) + 1 + 1)).2.2 = 0 ∧ permL wd p (swapI l (p + 1) (belowP wd i ((p : Int) + 1 + 1)).1.toNat) (belowP wd i ((p : Int) + 1 + 1)).2.1 = R := by
  subst h
  have he := permL_fine wd p l i h0
  exact ⟨he, (permL_go wd p l i he).symm⟩
theorem iota_snoc (n : Nat) : iota (n + 1) = iota n ++ [(n : Int)] := by simp [iota, List.range_succ]
set_option maxRecDepth 100000
set_option maxHeartbeats 4000000 in
/-- SeedSteps (6) -/
theorem seedSteps_walk (key at_ size more : Int) (w : World) (hs : St w) (_bk : 0 ≤ key ∧ key ≤ 18446744073709551615) (_ba : -9223372036854775808 ≤ at_ ∧ at_ ≤ 9223372036854775807)
    (bs : 0 ≤ size ∧ size ≤ 255) (bm : 0 ≤ more ∧ more ≤ 255) :
    Calls Tryd.prog 6 #[.int .u64 key, .int .i64 at_, .int .u8 size, .int .u8 more] w fun e w' => e = .returned (.bool true) ∧ Below w.heap.size w w' := by
  obtain ⟨s0, s1⟩ := bs
  obtain ⟨m0, m1⟩ := bm
  have hn0 : 0 ≤ size % 100 ∧ size % 100 ≤ 99 := by omega
  obtain ⟨hn0, hn1⟩ := hn0
  have HP := Lib.hid (fun W => pick_c at_ 1099511627777 W (by decide) (by decide))
  have hi : 0 ≤ at_ % 1099511627777 ∧ at_ % 1099511627777 ≤ 1099511627776 := by omega
  obtain ⟨hi0, hi1⟩ := hi
  clear _ba
  generalize at_ % 1099511627777 = i at *
  go_enter Tryd.func6, Tryd.ntmps6
  go_wp2_with fail
  refine (awake_c _ hs).mono ?_
  rintro e w1 ⟨rfl, hb1⟩
  have k0 := K.start (key := key) hb1 (hs.below hb1 hs.pos)
  clear hs hb1
  go_wp2_with fail
  refine (HP.out _).mono ?_
  rintro e w2 ⟨rfl, rfl⟩
  clear HP
  generalize w1.alloc (.cells #[.int .u64 key] 31) = w2 at *
  generalize w1.heap.size = g at *
  have c0 := k0.cell
  go_wp2_with fail
  obtain ⟨n, hn'⟩ := Int.eq_ofNat_of_zero_le (show 0 ≤ 1 + size % 100 by omega)
  have hn1 : 1 ≤ n := by omega
  have hn2 : n ≤ 100 := by omega
  rw [hn']
  clear hn' hn0
  have HB0 := below_c key i n w2 k0.st (by omega) (by omega) (by omega)
  rcases belowP_cases (wordI key) i n hi0 hi1 (by omega) with he | ⟨k, hk, hy, hno, he⟩
  · have hf := (draw_full key i n hi0 hi1 (by omega) (by rw [he]; decide)).2
    rw [he] at HB0
    have HB := Lib.hid HB0
    clear HB0 he
    refine HB.out.mono ?_
    rintro e w3 ⟨rfl, hb⟩
    go_wp2
    go_ret
    exact ⟨rfl, (k0.step hb).bel⟩
  · rw [he] at HB0
    have HB := Lib.hid HB0
    have HE := Lib.hid he
    have HN := Lib.hid (show ∀ q, i ≤ q → q < i + k → (restP (wordI key q) n).2 = false from fun q a b => by
      have := hno (q - i).toNat (by omega)
      rwa [show i + ((q - i).toNat : Int) = q by omega] at this)
    clear HB0 he hno
    generalize hlast : i + (k : Int) = last at *
    have hlast' : i ≤ last := by omega
    clear hlast
    obtain ⟨v, b, hv⟩ : ∃ v b, restP (wordI key last) n = (v, b) := ⟨_, _, rfl⟩
    rw [hv] at HB HE hy
    obtain rfl : b = true := hy
    have HV := Lib.hid hv
    clear hv
    simp only at HB HE
    refine HB.out.mono ?_
    rintro e w3 ⟨rfl, hb⟩
    have k3 := k0.step hb
    clear hb HB c0 k0
    have c0 := k3.cell
    go_wp2
    go_loopw [15] (fun c wr => ∃ q : Int, i ≤ q ∧ q ≤ last + 1 ∧ c = .int .i64 q ∧ K w wr g key) (fun c _ => (last + 1 - intOf c).toNat)
    case atStart => exact ⟨i, by omega, by omega, rfl, k3⟩
    case round =>
      obtain ⟨q, hq0, hq1, rfl, hK⟩ := hrel
      clear k3 c0
      have c0 := hK.cell
      by_cases hlt : q < last + 1
      · have HW0 := Word_c key q wr hK.st
        rw [wordR_yes key q (by omega) (by omega)] at HW0
        have HW := Lib.hid HW0
        clear HW0
        have wl := wordI_lo key q
        have wh := wordI_hi key q
        have HR0 := fun W => rest_c (wordI key q) n W wl wh (by omega)
        by_cases hl : q < last
        · have hno := HN.out q hq0 hl
          have e1 := restP_no _ _ hno
          obtain ⟨r, b, hr⟩ : ∃ v b, restP (wordI key q) n = (v, b) := ⟨_, _, rfl⟩
          rw [hr] at HR0 hno e1
          obtain rfl : b = false := hno
          obtain rfl : r = 0 := e1
          have HR := Lib.hid HR0
          clear hr HR0
          have t1 : (q == last) = false := beq_eq_false_iff_ne.2 (by omega)
          go_wp2_with fail
          refine HW.out.mono ?_
          rintro e w4 ⟨rfl, hb⟩
          have hK4 := hK.step hb
          clear hb HW c0 hK
          generalize wordI key q = word at *
          go_wp2_with fail
          refine (HR.out _).mono ?_
          rintro e w5 ⟨rfl, rfl⟩
          clear HR
          go_wp2
          go_roundw
          case rel => exact ⟨q + 1, by omega, by omega, rfl, hK4⟩
          case measure => simp [intOf]; omega
        · obtain rfl : q = last := by omega
          rw [HV.out] at HR0
          have HR := Lib.hid HR0
          clear HR0
          have t1 : (q == q) = true := by simp
          go_wp2_with fail
          refine HW.out.mono ?_
          rintro e w4 ⟨rfl, hb⟩
          have hK4 := hK.step hb
          clear hb HW c0 hK
          generalize wordI key q = word at *
          go_wp2_with fail
          refine (HR.out _).mono ?_
          rintro e w5 ⟨rfl, rfl⟩
          clear HR
          go_wp2
          go_roundw
          case rel => exact ⟨q + 1, by omega, by omega, rfl, hK4⟩
          case measure => simp [intOf]; omega
      · obtain rfl : q = last + 1 := by omega
        clear hq0 hq1 hlt HN HV
        have hpp : permP (wordI key) i n = permL (wordI key) (n - 1) (iota n) i := by
          unfold permP; rw [if_neg (by omega)]; simp only [Int.toNat_natCast]; congr 1; omega
        have hperr := permL_err (wordI key) (n - 1) (iota n) i hi0 (by omega)
        generalize hR : permL (wordI key) (n - 1) (iota n) i = R at *
        obtain ⟨L, nx, er⟩ := R
        have HP := Lib.hid (fun W h => perm_same_c key i n W h (by omega) (by omega) _ hpp)
        have HR := Lib.hid hR
        clear hpp hR
        go_wp2_with fail
        refine (HP.out _ hK.st).mono ?_
        rintro e w4 ⟨v1, rfl, rd1, hb⟩
        have hK4 := hK.step hb
        clear hb hK c0
        have c0 := hK4.cell
        go_wp2_with fail
        refine (HP.out _ hK4.st).mono ?_
        rintro e w5 ⟨v2, rfl, rd2, hb⟩
        have hK5 := hK4.step hb
        have rd1' := rd1.below hb
        clear hb hK4 c0 rd1 HP
        have c0 := hK5.cell
        go_wp2_with fail
        refine (same_nil_c _ _ _ _ rd1' rd2).mono ?_
        rintro e w6 ⟨rfl, hb⟩
        have hK6 := hK5.step hb
        have rd1 := rd1'.below hb
        clear hb hK5 c0 rd1' rd2
        have c0 := hK6.cell
        rcases hperr with h0 | h4
        · obtain rfl : er = 0 := h0
          go_wp2
          clear c0
          obtain ⟨i3, hi3, hz1, hz2, hz3⟩ := info_parts info3
          go_loopw [25, 26] (fun v c wr => ∃ k : Nat, k ≤ n ∧ c = .int .i64 k ∧ wr.ownsRow w6.heap.size 3 1 v k (ints .i64 (iota k)) ∧ Below w6.heap.size w6 wr) (fun _ c _ => n - (intOf c).toNat)
          case atStart => exact ⟨0, Nat.zero_le _, rfl, by simpa [iota, ints] using World.ownsRow_nil w6 w6.heap.size 3 1, Below.refl _ _⟩
          case round =>
            obtain ⟨k, hk, rfl, hown, hB⟩ := hrel
            by_cases hlt : k < n
            · have HN := Lib.hid (iota_snoc k)
              have hl := iota_length k
              generalize iota k = acc at *
              have hsz := hB.size
              go_wp2_with (at_builtin; refine wpList_append_own _ rfl _ _ 25 rfl w6.heap.size 3 i3 (.int .i64 0) 1 8 Tryd.underlying25 hi3 hz1 hz2 hz3 rfl (by decide) _ k (ints .i64 acc) rfl (hown.alloc _) ⟨wr.heap.size, 0, none⟩ 1 1 [.int .i64 k] rfl rfl ?c1 ?c2 ?c3 ?c4 ?c5 ?_)
              case c1 => exact cell_one_new _ _ _
              case c2 => simp [Value.oneCell']
              case c3 => unfold maxLen; omega
              case c4 => omega
              case c5 => simp; omega
              intro v' w7 hown1 hg1 _
              have hB7 := (hB.alloc hsz (.cells #[.int .i64 k] 3)).grown hg1 (by simp; omega) (fun j hj => (hown.lt j hj).1)
              clear hown hg1 hB
              go_wp2
              go_roundw
              case rel => exact ⟨k + 1, by omega, by go_num, by rw [HN.out]; simpa [ints] using hown1, hB7⟩
              case measure => simp [intOf]; omega
            · obtain rfl : n = k := by omega
              obtain ⟨g2, cap, rfl⟩ : ∃ g2 cap, u25 = .slice (some ⟨g2, 0, none⟩) n cap := by
                rcases hown.2 with ⟨_, h⟩ | ⟨g2, cap, cur, h, _⟩
                · omega
                · exact ⟨g2, cap, h⟩
              have hg2 : w6.heap.size ≤ g2 := (hown.lt g2 rfl).1
              clear hk hlt
              go_wp2
              go_loopw [27, 28] (fun a c wr' => ∃ m : Nat, m + 1 ≤ n ∧ c = .int .i64 m ∧ ∃ (i' : Int) (L' : List Int), a = .int .i64 i' ∧ 0 ≤ i' ∧ i' ≤ 1099511627776 ∧ L'.length = n ∧ wr'.ownsRow w6.heap.size 3 1 (.slice (some ⟨g2, 0, none⟩) n cap) n (ints .i64 L') ∧ Below w6.heap.size w6 wr' ∧ permL (wordI key) m L' i' = (L, nx, 0)) (fun _ c _ => (intOf c).toNat)
              case atStart => exact ⟨n - 1, by omega, by congr 1; omega, i, _, rfl, hi0, by omega, iota_length n, hown, hB, HR.out⟩
              case round =>
                obtain ⟨m, hm, rfl, i', L', rfl, i0, i1, hL, hown', hB', hR⟩ := hrel
                clear hown hB HR
                have hK := hK6.step hB'
                have c0 := hK.cell
                have HL := Lib.hid hL
                have HR := Lib.hid hR
                clear hL hR
                rcases m with _ | p
                · clear c0
                  have hLL := HR.out
                  simp only [permL, Prod.mk.injEq, and_true] at hLL
                  obtain ⟨rfl, rfl⟩ := hLL
                  have c0 := hK.cell
                  have rdL := rd1.below hB'
                  have rdW := Rd.of_owns hown'
                  have HW0 := fun W (h : St W) v hv => weigh_c key i v [more, 1] W h hv (by omega) (by omega)
                  have HB0 := fun W (h : St W) => below_c key i (more + 1) W h (by omega) (by omega) (by omega)
                  rw [weigh_two (wordI key) i more hi0 (by omega) m0 m1] at HW0
                  clear rd1 HR HE hB'
                  obtain ⟨d1, d2, d3, hd⟩ : ∃ d1 d2 d3, belowP (wordI key) i (more + 1) = (d1, d2, d3) := ⟨_, _, _, rfl⟩
                  have dz := belowP_err (wordI key) i (more + 1)
                  rw [hd] at HW0 HB0 dz
                  clear hd
                  have t2 : (d2 != d2) = false := by simp
                  have t3 : (d3 != d3) = false := by simp
                  have t4 : (i' == i') = true := by simp
                  by_cases hz : d3 = 0
                  · subst hz
                    by_cases ht : d1 < more
                    all_goals
                      simp only [ht, if_true, if_false] at HW0
                      have HW := Lib.hid HW0
                      have HB := Lib.hid HB0
                      clear HW0 HB0 dz
                      go_wp2_with fail
                      refine (HW.out _ (hK.alloc _).st _ (rd_lit _ [more, 1] (by simp [maxLen]))).mono ?_
                      rintro e w8 ⟨rfl, hb⟩
                      have hK8 := hK.stepA hb
                      have rdL' := rdL.below (below_stepA hb)
                      have rdW' := rdW.below (below_stepA hb)
                      clear hK hb c0 rdL rdW HW hown'
                      have c0 := hK8.cell
                      go_wp2_with fail
                      refine (HB.out _ hK8.st).mono ?_
                      rintro e w9 ⟨rfl, hb⟩
                      have hK9 := hK8.step hb
                      have rdL := rdL'.below hb
                      have rdW := rdW'.below hb
                      clear hb hK8 c0 rdL' rdW' HB
                      have c0 := hK9.cell
                      go_wp2_with fail
                      refine (same_nil_c _ _ _ _ rdL rdW).mono ?_
                      rintro e w10 ⟨rfl, hb⟩
                      have hK10 := hK9.step hb
                      go_wp2
                      go_ret
                      exact ⟨rfl, hK10.bel⟩
                  · rcases dz with h | ⟨_, h1, h2, _⟩
                    · exact absurd h hz
                    simp only at h1 h2
                    subst h1 h2
                    simp only [hz, if_false] at HW0
                    have t5 : (d3 == 0) = false := beq_eq_false_iff_ne.2 hz
                    have HW := Lib.hid HW0
                    have HB := Lib.hid HB0
                    clear HW0 HB0 hz
                    go_wp2_with fail
                    refine (HW.out _ (hK.alloc _).st _ (rd_lit _ [more, 1] (by simp [maxLen]))).mono ?_
                    rintro e w8 ⟨rfl, hb⟩
                    have hK8 := hK.stepA hb
                    have rdL' := rdL.below (below_stepA hb)
                    have rdW' := rdW.below (below_stepA hb)
                    clear hK hb c0 rdL rdW HW hown'
                    have c0 := hK8.cell
                    go_wp2_with fail
                    refine (HB.out _ hK8.st).mono ?_
                    rintro e w9 ⟨rfl, hb⟩
                    have hK9 := hK8.step hb
                    have rdL := rdL'.below hb
                    have rdW := rdW'.below hb
                    clear hb hK8 c0 rdL' rdW' HB
                    have c0 := hK9.cell
                    go_wp2_with fail
                    refine (same_nil_c _ _ _ _ rdL rdW).mono ?_
                    rintro e w10 ⟨rfl, hb⟩
                    have hK10 := hK9.step hb
                    go_wp2
                    go_ret
                    exact ⟨rfl, hK10.bel⟩
                · have hR := HR.out
                  obtain ⟨he, hR2⟩ := permL_go' _ p L' i' _ hR rfl
                  obtain ⟨_, _, v0, v1', x0, x1⟩ := belowP_good _ _ _ he
                  have HB0 := below_c key i' ((p : Int) + 1 + 1) wr hK.st (by omega) (by omega) (by omega)
                  have HE := Lib.hid he
                  have HR2 := Lib.hid hR2
                  clear he hR hR2 HR
                  generalize belowP (wordI key) i' ((p : Int) + 1 + 1) = d at *
                  obtain ⟨q, nx', er⟩ := d
                  obtain rfl : er = 0 := HE.out
                  simp only at v0 v1' x0 x1 HB0
                  have HB := Lib.hid HB0
                  clear HB0
                  have hpn : p + 1 < n := by omega
                  clear hm
                  rw [show ((p + 1 : Nat) : Int) = (p : Int) + 1 by omega]
                  go_wp2_with fail
                  refine HB.out.mono ?_
                  rintro e w8 ⟨rfl, hb⟩
                  have hown8 := owns_below hown' hb
                  have hB8 := hB'.trans (hb.mono hB'.size)
                  clear hb hown' hB' hK c0 HB
                  obtain ⟨q, rfl⟩ := Int.eq_ofNat_of_zero_le v0
                  have hL := HL.out
                  have c1 := owns_cell hown8 hL (p + 1) (by omega)
                  have c2 := owns_cell hown8 hL q (by omega)
                  have f1 := hown8.frozenAt (p + 1)
                  have f2 := hown8.frozenAt q
                  have HO := Lib.hid (show World.ownsRow ((w8.drew.setCell ⟨g2, p + 1, none⟩ (.int .i64 (L'.getD q 0))).setCell ⟨g2, q, none⟩ (.int .i64 (L'.getD (p + 1) 0))) w6.heap.size 3 1 (.slice (some ⟨g2, 0, none⟩) n cap) n (ints .i64 (swapI L' (p + 1) q)) from owns_store (owns_store hown8.drew (p + 1) (L'.getD q 0)) q (L'.getD (p + 1) 0))
                  have HR3 := Lib.hid (show permL (wordI key) p (swapI L' (p + 1) q) nx' = (L, nx, 0) from HR2.out)
                  clear HR2
                  have HBB := Lib.hid (show Below w6.heap.size w6 ((w8.drew.setCell ⟨g2, p + 1, none⟩ (.int .i64 (L'.getD q 0))).setCell ⟨g2, q, none⟩ (.int .i64 (L'.getD (p + 1) 0))) from (hB8.drew.setCell (by simpa using hg2) _).setCell (by simpa using hg2) _)
                  clear hown8 hB8 hL
                  by_cases hv : q = p + 1
                  · subst hv
                    generalize L'.getD (p + 1) 0 = x at *
                    go_wp2
                    go_region
                    go_wp2
                    go_roundw
                    case rel => exact ⟨p, by omega, by go_num, nx', _, rfl, by omega, by omega, by rw [swapI_length]; exact HL.out, HO.out, HBB.out, HR3.out⟩
                    case measure => simp [intOf]
                  · generalize L'.getD (p + 1) 0 = x at *
                    generalize L'.getD q 0 = y at *
                    go_wp2
                    go_region
                    go_wp2
                    go_roundw
                    case rel => exact ⟨p, by omega, by go_num, nx', _, rfl, by omega, by omega, by rw [swapI_length]; exact HL.out, HO.out, HBB.out, HR3.out⟩
                    case measure => simp [intOf]
        · simp only [Prod.mk.injEq] at h4
          obtain ⟨rfl, rfl, rfl⟩ := h4
          obtain ⟨a, c, rfl⟩ := rd1.nil
          go_wp2
          go_ret
          exact ⟨rfl, hK6.bel⟩
end Go.Proofs.YtifnmehpkelifaaDoor
