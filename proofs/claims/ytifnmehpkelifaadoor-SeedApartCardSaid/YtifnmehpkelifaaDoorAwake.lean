/- The walk of awake: the examples of the chapter. -/
import Derived.Test.YtifnmehpkelifaaDoorFacts
namespace Go.Proofs.YtifnmehpkelifaaDoor
open Go.RowKit SeedP
/-- a literal slice that was just built -/
theorem rd_lit (w : World) (l : List Int) (hm : l.length ≤ maxLen) : Rd (w.alloc (.cells (ints .i64 l).toArray 3)) (.slice (some ⟨w.heap.size, 0, none⟩) l.length l.length) (ints .i64 l) :=
  (Blk.at w 3 (ints .i64 l) rfl).rdN (by rw [ints_length]) hm
theorem ex1 : restP 18446744073709551609 10 = (9, true) := by decide
theorem ex2 : restP 18446744073709551610 10 = (0, false) := by decide
theorem ex3 : restP 7 0 = (0, false) := by decide
/-- awake (13) -/
theorem awake_c (w : World) (hs : St w) : Calls Tryd.prog 13 #[] w fun e w' => e = .returned (.bool true) ∧ Below w.heap.size w w' := by
  go_enter Tryd.func13, Tryd.ntmps13
  go_wp2_with fail
  refine (rest_c _ _ _ (by decide) (by decide) (by decide)).mono ?_
  rintro e w1 ⟨rfl, rfl⟩
  rw [ex1]
  go_wp2_with fail
  refine (rest_c _ _ _ (by decide) (by decide) (by decide)).mono ?_
  rintro e w1 ⟨rfl, rfl⟩
  rw [ex2]
  go_wp2_with fail
  refine (rest_c _ _ _ (by decide) (by decide) (by decide)).mono ?_
  rintro e w1 ⟨rfl, rfl⟩
  rw [ex3]
  go_wp2_with fail
  refine (new_c _ _ hs (by decide) (by decide)).mono ?_
  rintro e w1 ⟨rfl, hb1⟩
  have hs1 := hs.below hb1 hs.pos
  have z1 := hb1.size
  go_wp2_with fail
  have key0 : 0 ≤ mixI 5 := mixI_nonneg _
  have key1 : mixI 5 ≤ 18446744073709551615 := mixI_le _
  generalize mixI 5 = key at *
  refine (perm_c key 3 1 _ (hs1.alloc _) (by decide) (by decide)).mono ?_
  rw [perm_31]
  rintro e w2 ⟨v1, rfl, rd1, hb2⟩
  have hs2 := (hs1.alloc _).below hb2 (by simp)
  have c2 := keep_cell hb2 (b := w1.heap.size) (o := 0) (v := .int .u64 key) (by simp [go_sem])
  have B2 : Below w.heap.size w w2 := (hb1.alloc z1 _).trans (hb2.mono (by simp; omega))
  clear hb2 hb1
  go_wp2_with fail
  refine (choose_c key 0 4 4 _ hs2 (by decide) (by decide)).mono ?_
  obtain ⟨nx, hch⟩ := choose_44 key
  rw [hch]
  clear hch
  rintro e w3 ⟨v2, rfl, rd2, hb3⟩
  have hs3 := hs2.below hb3 hs2.pos
  have c3 := keep_cell hb3 c2
  have rd13 := rd1.below hb3
  have B3 := B2.trans (hb3.mono B2.size)
  clear hb3 B2 c2 rd1
  go_wp2_with fail
  refine (weigh_c key 0 _ [0, 5, 0] _ (hs3.alloc _) (rd_lit _ [0, 5, 0] (by decide)) (by decide) (by decide)).mono ?_
  obtain ⟨nx2, hwe⟩ := weigh_050 key
  rw [hwe]
  clear hwe
  rintro e w4 ⟨rfl, hb4⟩
  have hs4 := (hs3.alloc _).below hb4 (by simp)
  have hb4' := ((Below.refl _ w3).alloc (Nat.le_refl _) _).trans (hb4.mono (by simp))
  have c4 := keep_cell hb4' c3
  have rd14 := rd13.below hb4'
  have rd24 := rd2.below hb4'
  have B4 := B3.trans (hb4'.mono B3.size)
  clear hb4 hb4' B3 c3 rd13 rd2
  go_wp2_with fail
  refine (Word_c key 1099511627776 _ hs4).mono ?_
  rw [wordR_no key _ (by omega)]
  rintro e w5 ⟨rfl, hb5⟩
  have hs5 := hs4.below hb5 hs4.pos
  have c5 := keep_cell hb5 c4
  have rd15 := rd14.below hb5
  have rd25 := rd24.below hb5
  have B5 := B4.trans (hb5.mono B4.size)
  clear hb5 B4 c4 rd14 rd24
  go_wp2_with fail
  refine (below_c key 1099511627776 6 _ hs5 (by decide) (by decide) (by decide)).mono ?_
  rw [below_end]
  rintro e w6 ⟨rfl, hb6⟩
  have hs6 := hs5.below hb6 hs5.pos
  have rd16 := rd15.below hb6
  have rd26 := rd25.below hb6
  have B6 := B5.trans (hb6.mono B5.size)
  clear hb6 B5 c5 rd15 rd25
  go_wp2_with fail
  refine (mix_c 5 _ hs6 (by decide) (by decide)).mono ?_
  rintro e w7 ⟨rfl, hb7⟩
  have hs7 := hs6.below hb7 hs6.pos
  have rd17 := rd16.below hb7
  have rd27 := rd26.below hb7
  have B7 := B6.trans (hb7.mono B6.size)
  clear hb7 B6 rd16 rd26
  go_wp2_with fail
  refine (unmix_c _ _ hs7 (mixI_nonneg _) (mixI_le _)).mono ?_
  rw [unmix_mixI 5 (by decide) (by decide)]
  rintro e w8 ⟨rfl, hb8⟩
  have rd18 := rd17.below hb8
  have rd28 := rd27.below hb8
  have B8 := B7.trans (hb8.mono B7.size)
  clear hb8 B7 rd17 rd27 hs1 hs2 hs3 hs4 hs5 hs6 hs7
  go_wp2_with fail
  refine (same_c _ _ [0] [0] _ (rd18.below ((Below.refl _ _).alloc (Nat.le_refl _) _)) (rd_lit _ [0] (by decide))).mono ?_
  rintro e w9 ⟨rfl, hb9⟩
  have hb9' := ((Below.refl _ w8).alloc (Nat.le_refl _) _).trans (hb9.mono (by simp))
  have rd29 := rd28.below hb9'
  have B9 := B8.trans (hb9'.mono B8.size)
  clear hb9 hb9' B8 rd28 rd18
  go_wp2_with fail
  refine (same_c _ _ [0, 1, 2, 3] [0, 1, 2, 3] _ (rd29.below ((Below.refl _ _).alloc (Nat.le_refl _) _)) (rd_lit _ [0, 1, 2, 3] (by decide))).mono ?_
  rintro e w10 ⟨rfl, hb10⟩
  have B10 := (B9.alloc B9.size _).trans (hb10.mono (by have := B9.size; simp; omega))
  go_wp2
  go_ret
  exact ⟨rfl, B10⟩
end Go.Proofs.YtifnmehpkelifaaDoor
