/- The walk of SeedApart. -/
import Derived.Test.YtifnmehpkelifaaDoorApartL
import Derived.Test.YtifnmehpkelifaaDoorEq
import Derived.Deep.RegionHeld3
import Derived.Deep.DeepCutAuto
namespace Go.Proofs.YtifnmehpkelifaaDoor
open Go.RowKit SeedP
set_option maxRecDepth 100000
set_option maxHeartbeats 4000000 in
/-- SeedApart (11) -/
theorem seedApart_walk (x y i j : Int) (s : ByteArray) (t y8 : Int) (w : World) (hs : St w) (bx : 0 ≤ x ∧ x ≤ 18446744073709551615) (b_y : 0 ≤ y ∧ y ≤ 18446744073709551615)
    (bi : -9223372036854775808 ≤ i ∧ i ≤ 9223372036854775807) (bj : -9223372036854775808 ≤ j ∧ j ≤ 9223372036854775807) (hm : s.size ≤ maxLen) (bt : 0 ≤ t ∧ t ≤ 255) (bb : 0 ≤ y8 ∧ y8 ≤ 255) :
    Calls Tryd.prog 11 #[.int .u64 x, .int .u64 y, .int .i64 i, .int .i64 j, .string s, .int .u8 t, .int .u8 y8] w fun e w' => e = .returned (.bool true) ∧ Below w.heap.size w w' := by
  obtain ⟨FV, hFV⟩ : ∃ FV : Int → Int → Value, FV = fun k n => .agg #[.int .u64 (atI k n)] := ⟨_, rfl⟩
  have HP := Lib.hid (show ∀ k n W, St W → Calls Tryd.prog 30 #[.agg #[.int .u64 k], .int .i64 n] W fun e w' => e = .returned (FV k n) ∧ Below W.heap.size W w' from fun k n W (h : St W) => by rw [hFV]; exact at_c k n W h)
  have G1 : ∀ (x' y' : Operand) w, (eqGuard .eql 31 x' y' (FV x i) (FV x j)).run Tryd.prog w = .ok () w := fun x' y' w => by rw [hFV]; exact eqg31 _ _ _ _ _
  have G2 : ∀ (x' y' : Operand) w, (eqGuard .eql 31 x' y' (FV x i) (FV y i)).run Tryd.prog w = .ok () w := fun x' y' w => by rw [hFV]; exact eqg31 _ _ _ _ _
  have G3 : ∀ w, (binOp .eql 31 (FV x i) (FV x j)).run Tryd.prog w = .ok (.bool (i == j)) w := fun w => by rw [hFV]; have := eq31 (atI x i) (atI x j) w; rwa [at_same_n x i j bi.1 bi.2 bj.1 bj.2] at this
  have G4 : ∀ w, (binOp .eql 31 (FV x i) (FV y i)).run Tryd.prog w = .ok (.bool (x == y)) w := fun w => by rw [hFV]; have := eq31 (atI x i) (atI y i) w; rwa [at_same_k x y i bx.1 bx.2 b_y.1 b_y.2] at this
  clear hFV
  obtain ⟨x0, x1⟩ := bx
  obtain ⟨y0, y1⟩ := b_y
  obtain ⟨i0, i1⟩ := bi
  obtain ⟨j0, j1⟩ := bj
  have HA := Lib.hid (fun W (h : St W) => mix_c x W h x0 x1)
  have HB := Lib.hid (fun W (h : St W) => mix_c y W h y0 y1)
  have HC := Lib.hid (fun W (h : St W) => unmix_c x W h x0 x1)
  have HD := Lib.hid (fun W (h : St W) => new_c x W h x0 x1)
  have HE := Lib.hid (fun W (h : St W) => new_c y W h y0 y1)
  have HF0 := fun W (h : St W) => unmix_c (mixI x) W h (mixI_nonneg _) (mixI_le _)
  rw [unmix_mixI x x0 (by omega)] at HF0
  have HF := Lib.hid HF0
  clear HF0
  have HG0 := fun W (h : St W) => mix_c (unmixI x) W h (unmixI_nonneg _) (unmixI_le _)
  rw [mix_unmixI x x0 (by omega)] at HG0
  have HG := Lib.hid HG0
  clear HG0
  have Emix := mix_same x y x0 x1 y0 y1
  have Esub := fun l => sub_same_k x y l x0 x1 y0 y1
  have ES := Lib.hid Esub
  clear Esub
  generalize hbx : (x == y) = bx at *
  generalize hbi : (i == j) = bi at *
  generalize mixI x = mx at *
  generalize mixI y = my at *
  generalize unmixI x = ux at *
  go_enter Tryd.func11, Tryd.ntmps11
  go_wp2_with fail
  refine (awake_c _ hs).mono ?_
  rintro e w1 ⟨rfl, hb1⟩
  have s1 := hs.below hb1 hs.pos
  clear hs
  go_wp2_with fail
  refine (HA.out _ s1).mono ?_
  rintro e w2 ⟨rfl, hb⟩
  have s2 := s1.below hb s1.pos
  have B2 := hb1.trans (hb.mono hb1.size)
  clear hb s1 hb1
  go_wp2_with fail
  refine (HF.out _ s2).mono ?_
  rintro e w3 ⟨rfl, hb⟩
  have s3 := s2.below hb s2.pos
  have B3 := B2.trans (hb.mono B2.size)
  clear hb s2 B2
  go_wp2_with fail
  refine (HC.out _ s3).mono ?_
  rintro e w4 ⟨rfl, hb⟩
  have s4 := s3.below hb s3.pos
  have B4 := B3.trans (hb.mono B3.size)
  clear hb s3 B3
  go_wp2_with fail
  refine (HG.out _ s4).mono ?_
  rintro e w5 ⟨rfl, hb⟩
  have s5 := s4.below hb s4.pos
  have B5 := B4.trans (hb.mono B4.size)
  clear hb s4 B4
  go_wp2_with fail
  refine (HA.out _ s5).mono ?_
  rintro e w6 ⟨rfl, hb⟩
  have s6 := s5.below hb s5.pos
  have B6 := B5.trans (hb.mono B5.size)
  clear hb s5 B5
  go_wp2_with fail
  refine (HB.out _ s6).mono ?_
  rintro e w7 ⟨rfl, hb⟩
  have s7 := s6.below hb s6.pos
  have B7 := B6.trans (hb.mono B6.size)
  clear hb s6 B6
  go_wp2_with fail
  refine (HD.out _ s7).mono ?_
  rintro e w8 ⟨rfl, hb⟩
  have s8 := s7.below hb s7.pos
  have B8 := B7.trans (hb.mono B7.size)
  clear hb s7 B7
  go_wp2_with fail
  refine (HE.out _ s8).mono ?_
  rintro e w9 ⟨rfl, hb⟩
  have s9 := s8.below hb s8.pos
  have B9 := B8.trans (hb.mono B8.size)
  clear hb s8 B8 HA HB HC HD HE HF HG
  go_wp2_with (refine wpList_eq31 _ _ _ rfl mx my rfl rfl bx Emix (by rfl) ?_)
  have c1 : ((w9.alloc (.cells #[.int .u64 x] 31)).alloc (.cells #[.int .u64 y] 31)).cell? ⟨w9.heap.size, 0, none⟩ = some (.int .u64 x) := by simp [go_sem]
  have d1 : ((w9.alloc (.cells #[.int .u64 x] 31)).alloc (.cells #[.int .u64 y] 31)).cell? ⟨w9.heap.size + 1, 0, none⟩ = some (.int .u64 y) := by simp [go_sem]
  have s10 := (s9.alloc (.cells #[.int .u64 x] 31)).alloc (.cells #[.int .u64 y] 31)
  have B10 : Below w.heap.size w ((w9.alloc (.cells #[.int .u64 x] 31)).alloc (.cells #[.int .u64 y] 31)) := (B9.alloc B9.size _).alloc (by have := B9.size; simp; omega) _
  clear s9 B9
  generalize (w9.alloc (.cells #[.int .u64 x] 31)).alloc (.cells #[.int .u64 y] 31) = w10 at *
  generalize w9.heap.size + 1 = g2 at *
  generalize w9.heap.size = g1 at *
  go_cut [95] from 72 to 95 (fun c wx => c = .bool false ∧ wx.cell? ⟨g1, 0, none⟩ = some (.int .u64 x) ∧ wx.cell? ⟨g2, 0, none⟩ = some (.int .u64 y) ∧ St wx ∧ Below w.heap.size w wx)
  case first =>
    go_region_held3 (fun w' => w'.cell? ⟨g1, 0, none⟩ = some (.int .u64 x) ∧ w'.cell? ⟨g2, 0, none⟩ = some (.int .u64 y))
      (exact ⟨c1, d1⟩)
      (first
        | (go_at_call 30; refine (HP.out _ _ _ (by first | exact s10 | exact s10.drew)).mono ?_; rintro e w11 ⟨rfl, hb⟩; have c1 := keep_cell hb c1; have d1 := keep_cell hb d1; have s10 : St w11 := (by first | exact s10.below hb s10.pos | exact (s10.drew).below hb s10.pos); have B10 : Below w.heap.size w w11 := (by first | exact B10.trans (hb.mono B10.size) | exact B10.trans ((undrew hb).mono B10.size)); clear hb))
    all_goals
      go_wp2_with fail
      go_meet
      exact ⟨rfl, c1, d1, s10, B10⟩
  case rest =>
    obtain ⟨rfl, c1, d1, s10, B10⟩ := hcut
    clear HP G1 G2 G3 G4
    have hp : 0 ≤ i % 1099511627776 ∧ i % 1099511627776 < 1099511627776 := by omega
    have hq : 0 ≤ j % 1099511627776 ∧ j % 1099511627776 < 1099511627776 := by omega
    obtain ⟨p0, p1⟩ := hp
    obtain ⟨q0, q1⟩ := hq
    have H1 := Lib.hid (fun W => pick_c i 1099511627776 W (by decide) (by decide))
    have H2 := Lib.hid (fun W => pick_c j 1099511627776 W (by decide) (by decide))
    generalize i % 1099511627776 = p at *
    generalize j % 1099511627776 = q at *
    have HW1 := Lib.hid (fun W (h : St W) => wordR_yes x p p0 p1 ▸ Word_c x p W h)
    have HW2 := Lib.hid (fun W (h : St W) => wordR_yes x q q0 q1 ▸ Word_c x q W h)
    have Ew := word_same x p q p0 p1 q0 q1
    generalize hbp : (p == q) = bp at *
    generalize wordI x p = wp at *
    generalize wordI x q = wq at *
    clear p0 p1 q0 q1
    go_wp2_with fail
    refine (H1.out _).mono ?_
    rintro e w1 ⟨rfl, rfl⟩
    go_wp2_with fail
    refine (H2.out _).mono ?_
    rintro e w1 ⟨rfl, rfl⟩
    clear H1 H2
    go_wp2_with fail
    refine (HW1.out _ s10).mono ?_
    rintro e w11 ⟨rfl, hb⟩
    have c2 := keep_cell hb c1
    have d2 := keep_cell hb d1
    have s11 := s10.below hb s10.pos
    have B11 := B10.trans (hb.mono B10.size)
    clear hb c1 d1 s10 B10 HW1
    go_wp2_with fail
    refine (HW2.out _ s11).mono ?_
    rintro e w12 ⟨rfl, hb⟩
    have c1 := keep_cell hb c2
    have d1 := keep_cell hb d2
    have s12 := s11.below hb s11.pos
    have B12 := B11.trans (hb.mono B11.size)
    clear hb c2 d2 s11 B11 HW2
    by_cases hs0 : s.size < 1
    · have t1 : decide ((s.size : Int) < 1) = true := decide_eq_true (by omega)
      go_wp2
      go_ret
      exact ⟨rfl, B12⟩
    by_cases hs1 : 32 < s.size
    · have t1 : decide ((s.size : Int) < 1) = false := decide_eq_false (by omega)
      have t2 : decide ((32 : Int) < s.size) = true := decide_eq_true (by omega)
      go_wp2
      go_ret
      exact ⟨rfl, B12⟩
    have t1 : decide ((s.size : Int) < 1) = false := decide_eq_false (by omega)
    have t2 : decide ((32 : Int) < s.size) = false := decide_eq_false (by omega)
    have hs2 : 1 ≤ s.size := by omega
    have hs3 : s.size ≤ 32 := by omega
    have hsub : ∀ k (s' : ByteArray), s'.size = s.size → subR k s'.data.toList = (subI k s'.data.toList, 0) := fun k s' h => by
      have e : s'.data.toList.length = s'.size := by simp
      unfold subR; rw [e, if_neg (by omega), if_neg (by omega)]
    have hsx := hsub x s rfl
    have hsy := hsub y s rfl
    have Es := ES.out s.data.toList
    have HS := Lib.hid hsub
    obtain ⟨b, rfl⟩ : ∃ b : UInt8, y8 = b.toNat := ⟨UInt8.ofNat y8.toNat, by simp; omega⟩
    have ht0 : 0 ≤ t % (s.size : Int) ∧ t % (s.size : Int) < s.size := ⟨Int.emod_nonneg _ (by omega), Int.emod_lt_of_pos _ (by omega)⟩
    obtain ⟨ht0, ht1⟩ := ht0
    obtain ⟨k, hk⟩ := Int.eq_ofNat_of_zero_le ht0
    have hks : k < s.size := by omega
    have hst := fun key => sub_turned key s k hks b
    have H3' := fun W (h : St W) => sub_c x (turned s k (s[k] ^^^ b)) W h (by rw [turned_size]; exact hm)
    rw [hsub x _ (turned_size s k _)] at H3'
    have Est := hst x
    generalize hsxe : subI x s.data.toList = sx at *
    generalize subI y s.data.toList = sy at *
    generalize hste : subI x (turned s k (s[k] ^^^ b)).data.toList = st at *
    have H1 := Lib.hid (fun W (h : St W) => hsx ▸ sub_c x s W h hm)
    have H2 := Lib.hid (fun W (h : St W) => hsy ▸ sub_c y s W h hm)
    have H3 := Lib.hid H3'
    clear hsub ES hs0 hs1 hsx hsy HS hst H3' ht0 ht1 hsxe hste
    go_wp2_with fail
    refine (H1.out _ s12).mono ?_
    rintro e w13 ⟨rfl, hb⟩
    have hb' : Below w12.heap.size w12 (w13.alloc (.cells #[.int .u64 sx] 31)) := hb.alloc hb.size _
    have c2 := keep_cell hb' c1
    have d2 := keep_cell hb' d1
    have e2 : (w13.alloc (.cells #[.int .u64 sx] 31)).cell? ⟨w13.heap.size, 0, none⟩ = some (.int .u64 sx) := by simp [go_sem]
    have s13 := s12.below hb' s12.pos
    have B13 := B12.trans (hb'.mono B12.size)
    clear hb hb' c1 d1 s12 B12 H1
    go_wp2_with fail
    generalize w13.alloc (.cells #[.int .u64 sx] 31) = w14 at *
    generalize w13.heap.size = g3 at *
    refine (H2.out _ s13).mono ?_
    rintro e w15 ⟨rfl, hb⟩
    have hb' : Below w14.heap.size w14 (w15.alloc (.cells #[.int .u64 sy] 31)) := hb.alloc hb.size _
    have c1 := keep_cell hb' c2
    have d1 := keep_cell hb' d2
    have e1 := keep_cell hb' e2
    have f1 : (w15.alloc (.cells #[.int .u64 sy] 31)).cell? ⟨w15.heap.size, 0, none⟩ = some (.int .u64 sy) := by simp [go_sem]
    have s15 := s13.below hb' s13.pos
    have B15 := B13.trans (hb'.mono B13.size)
    clear hb hb' c2 d2 e2 s13 B13 H2
    go_upto_region 15 with (fail)
    generalize w15.alloc (.cells #[.int .u64 sy] 31) = w16 at *
    generalize w15.heap.size = g4 at *
    have kb := run_bytes_of_string (P := Tryd.prog) w16 9 43 5 s Tryd.underlying9 Tryd.underlying43 Tryd.underlying5
    have hbB := bytes_laid w16.drew s (grownCap w16 s.size 0 5) ((bytesRow s (grownCap w16 s.size 0 5)).size, (bytesRow s (grownCap w16 s.size 0 5)).size + 1)
    have hbF := bytes_free w16.drew s (grownCap w16 s.size 0 5) ((bytesRow s (grownCap w16 s.size 0 5)).size + 1) k hks
    have hbW : Below w16.heap.size w16 (w16.drew.alloc (.cells (bytesRow s (grownCap w16 s.size 0 5)) 5 ((bytesRow s (grownCap w16 s.size 0 5)).size, (bytesRow s (grownCap w16 s.size 0 5)).size + 1))) := (Below.refl _ _).drew.alloc (Nat.le_refl _) _
    have hcap : s.size ≤ grownCap w16 s.size 0 5 := grownCap_ge _ _ _ _
    generalize w16.drew.alloc (.cells (bytesRow s (grownCap w16 s.size 0 5)) 5 ((bytesRow s (grownCap w16 s.size 0 5)).size, (bytesRow s (grownCap w16 s.size 0 5)).size + 1)) = w17 at *
    generalize grownCap w16 s.size 0 5 = cp at *
    go_upto_region 16 with (fail)
    clear kb
    have hbB : Lib.Bytes w17 w16.heap.size 0 s := hbB
    have hbF : w17.frozen? ⟨w16.heap.size, k, none⟩ = false := hbF
    have hck := hbB k hks
    rw [Nat.zero_add] at hck
    have hx8 := x8 s[k] b
    have hb18 : Below w16.heap.size w16 (w17.setCell ⟨w16.heap.size, k, none⟩ (.int .u8 (s[k] ^^^ b).toNat)) := hbW.setCell (Nat.le_refl _) _
    have hby := bytes_turned hbB k (s[k] ^^^ b)
    have kc := Lib.run_convert_whole (P := Tryd.prog) _ 43 5 9 Tryd.underlying43 Tryd.underlying5 Tryd.underlying9 w16.heap.size 0 _ hby cp
    rw [turned_size] at kc
    have HB18 := Lib.hid hb18
    clear hby hbB hbW hb18
    have c2 := keep_cell HB18.out c1
    have d2 := keep_cell HB18.out d1
    have e2 := keep_cell HB18.out e1
    have f2 := keep_cell HB18.out f1
    have s18 := s15.below HB18.out s15.pos
    have B18 := B15.trans (HB18.out.mono B15.size)
    clear c1 d1 e1 f1 s15 B15 HB18
    generalize hz : (s[k] ^^^ b).toNat = z at *
    have HZ := Lib.hid hz
    clear hz
    generalize turned s k (s[k] ^^^ b) = s2 at *
    generalize s[k].toNat = sk at *
    generalize w16.heap.size = gb at *
    have b1 : (k : Int) < s.size := by omega
    go_upto_region 17 with (fail)
    generalize w17.setCell ⟨gb, k, none⟩ (.int .u8 z) = w18 at *
    clear hx8 hck hbF
    go_wp2_with fail
    refine (H3.out _ s18).mono ?_
    rintro e w19 ⟨rfl, hb⟩
    clear kc
    have hb' : Below w18.heap.size w18 (w19.alloc (.cells #[.int .u64 st] 31)) := hb.alloc hb.size _
    have c1 := keep_cell hb' c2
    have d1 := keep_cell hb' d2
    have e1 := keep_cell hb' e2
    have f1 := keep_cell hb' f2
    have i1 : (w19.alloc (.cells #[.int .u64 st] 31)).cell? ⟨w19.heap.size, 0, none⟩ = some (.int .u64 st) := by simp [go_sem]
    have B19 := B18.trans (hb'.mono B18.size)
    clear hb hb' c2 d2 e2 f2 s18 B18 H3
    generalize hbz : ((b.toNat : Int) == 0) = bz at *
    go_upto_region 18 with (fail)
    generalize w19.alloc (.cells #[.int .u64 st] 31) = w20 at *
    generalize w19.heap.size = g5 at *
    go_wp2_with (first | (refine wpList_eq31 _ _ _ rfl sx sy rfl rfl bx Es (by rfl) ?_) | (refine wpList_eq31 _ _ _ rfl sx st rfl rfl bz Est (by rfl) ?_))
    go_ret
    exact ⟨rfl, B19⟩
end Go.Proofs.YtifnmehpkelifaaDoor
