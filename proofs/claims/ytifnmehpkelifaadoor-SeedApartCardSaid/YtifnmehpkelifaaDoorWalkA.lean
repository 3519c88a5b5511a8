/- The walks of the small functions of package seed and of its reference. -/
import Derived.Test.YtifnmehpkelifaaDoorProg
import Derived.Test.YtifnmehpkelifaaDoorBase
namespace Go.Proofs.YtifnmehpkelifaaDoor
open Go.RowKit SeedP

abbrev stepsVal : Value := .agg #[.int .u64 30, .int .u64 13787848793156543929, .int .u64 27, .int .u64 10723151780598845931, .int .u64 31, .int .u64 1]
theorem steps_i0 (w : World) : (Instr.index 76 stepsVal (.int .i64 0)).run Tryd.prog w = .ok (.agg #[.int .u64 30, .int .u64 13787848793156543929]) w := by kernel_rfl
theorem steps_i1 (w : World) : (Instr.index 76 stepsVal (.int .i64 1)).run Tryd.prog w = .ok (.agg #[.int .u64 27, .int .u64 10723151780598845931]) w := by kernel_rfl
theorem steps_i2 (w : World) : (Instr.index 76 stepsVal (.int .i64 2)).run Tryd.prog w = .ok (.agg #[.int .u64 31, .int .u64 1]) w := by kernel_rfl
/-- The steps of mixing lie where the program's text lays them. -/
structure St (w : World) : Prop where
  c0 : w.cell? ⟨0, 0, none⟩ = some (.int .u64 30)
  c1 : w.cell? ⟨0, 1, none⟩ = some (.int .u64 13787848793156543929)
  c2 : w.cell? ⟨0, 2, none⟩ = some (.int .u64 27)
  c3 : w.cell? ⟨0, 3, none⟩ = some (.int .u64 10723151780598845931)
  c4 : w.cell? ⟨0, 4, none⟩ = some (.int .u64 31)
  c5 : w.cell? ⟨0, 5, none⟩ = some (.int .u64 1)
theorem St.pos {w : World} (h : St w) : 0 < w.heap.size := World.block_lt_of_cell? w ⟨0, 0, none⟩ h.c0
theorem St.block {w w' : World} (h : St w) (hb : w'.heap[0]? = w.heap[0]?) : St w' :=
  have e : ∀ o, w'.cell? ⟨0, o, none⟩ = w.cell? ⟨0, o, none⟩ := fun _ => World.cell?_of_block (w := w) hb
  ⟨(e 0).trans h.c0, (e 1).trans h.c1, (e 2).trans h.c2, (e 3).trans h.c3, (e 4).trans h.c4, (e 5).trans h.c5⟩
theorem St.below {B : Nat} {w w' : World} (h : St w) (hb : Below B w w') (hB : 0 < B) : St w' := h.block (hb.block 0 hB)
theorem St.alloc {w : World} (h : St w) (o : Obj) : St (w.alloc o) := h.block (Below.heap_alloc w o 0 h.pos)

theorem St.drew {w : World} (h : St w) : St w.drew := h.block rfl

/-- Mix (28) -/
theorem mix_c (x : Int) (w : World) (hs : St w) (x0 : 0 ≤ x) (x1 : x ≤ 18446744073709551615) :
    Calls Tryd.prog 28 #[.int .u64 x] w fun e w' => e = .returned (.int .u64 (mixI x)) ∧ Below w.heap.size w w' := by
  have i0 := steps_i0
  have i1 := steps_i1
  have i2 := steps_i2
  have H := Lib.hid (mix_form x x0 x1)
  obtain ⟨h0, h1, h2, h3, h4, h5⟩ := hs
  clear x0 x1
  go_enter Tryd.func28, Tryd.ntmps28
  go_wp2
  refine wp_loop_rounds 4 ?_
  rw [rounds_succ]
  go_wp2
  rw [rounds_succ]
  go_wp2
  rw [rounds_succ]
  go_wp2
  rw [rounds_succ]
  go_wp2
  go_ret
  exact ⟨ret_int H.out, (((Below.refl _ _).alloc (Nat.le_refl _) _).alloc (by simp) _).alloc (by simp; omega) _⟩
/-- the reference's Mix (43) -/
theorem rmix_c (x : Int) (w : World) (x0 : 0 ≤ x) (x1 : x ≤ 18446744073709551615) :
    Calls Tryd.prog 43 #[.int .u64 x] w fun e w' => e = .returned (.int .u64 (mixI x)) ∧ w = w' := by
  obtain ⟨b, rfl⟩ := exists_toI x x0 x1
  go_enter Tryd.func43, Tryd.ntmps43
  go_wp2
  go_ret
  refine ⟨ret_int ?_, rfl⟩
  unfold mixI
  simp only [shr30, shr27, shr31, w_xor, w_wrap, ofI_mul, ofI_toI, tdiv_toI]
  rfl
/-- Rest (15) -/
theorem rest_c (x n : Int) (w : World) (x0 : 0 ≤ x) (x1 : x ≤ 18446744073709551615) (n1 : n ≤ 9223372036854775807) :
    Calls Tryd.prog 15 #[.int .u64 x, .int .i64 n] w fun e w' => e = .returned (.tuple #[.int .i64 (restP x n).1, .bool (restP x n).2]) ∧ w = w' := by
  by_cases hn : n < 1
  · have H := Lib.hid (show restP x n = (0, false) by unfold restP; rw [if_pos hn])
    go_enter Tryd.func15, Tryd.ntmps15
    go_wp2
    go_ret2
    exact ⟨by rw [H.out]; rfl, rfl⟩
  · have hn1 : 1 ≤ n := by omega
    obtain ⟨m0, m1, m2⟩ := mod_facts x n x0 hn1
    go_enter Tryd.func15, Tryd.ntmps15
    go_wp2
    · have h := rest_no x n hn1 n1 (by assumption)
      go_ret2
      exact ⟨by rw [h]; rfl, rfl⟩
    · have h := rest_yes x n hn1 n1 (by assumption)
      go_ret2
      exact ⟨by rw [h]; rfl, rfl⟩
/-- the reference's Rest (45) -/
theorem rrest_c (x n : Int) (w : World) (x0 : 0 ≤ x) (x1 : x ≤ 18446744073709551615) (n1 : n ≤ 9223372036854775807) :
    Calls Tryd.prog 45 #[.int .u64 x, .int .i64 n] w fun e w' => e = .returned (.tuple #[.int .i64 (restP x n).1, .bool (restP x n).2]) ∧ w = w' := by
  rw [← restR_eq x n x0]
  by_cases hn : n < 1
  · have H := Lib.hid (show restR x n = (0, false) by unfold restR; rw [if_pos hn])
    go_enter Tryd.func45, Tryd.ntmps45
    go_wp2
    go_ret2
    exact ⟨by rw [H.out]; rfl, rfl⟩
  · have hn1 : 1 ≤ n := by omega
    obtain ⟨m0, m1, m2⟩ := mod_facts x n x0 hn1
    by_cases ht : 18446744073709551615 - (x - x % n) < n - 1
    · have H := Lib.hid (show restR x n = (0, false) by unfold restR; rw [if_neg (by omega), if_pos ht])
      go_enter Tryd.func45, Tryd.ntmps45
      go_wp2
      go_ret2
      exact ⟨by rw [H.out]; rfl, rfl⟩
    · have H := Lib.hid (show restR x n = (x % n, true) by unfold restR; rw [if_neg (by omega), if_neg ht])
      go_enter Tryd.func45, Tryd.ntmps45
      go_wp2
      go_ret2
      exact ⟨by rw [H.out]; rfl, rfl⟩
/-- New (29) -/
theorem new_c (x : Int) (w : World) (hs : St w) (x0 : 0 ≤ x) (x1 : x ≤ 18446744073709551615) :
    Calls Tryd.prog 29 #[.int .u64 x] w fun e w' => e = .returned (.agg #[.int .u64 (mixI x)]) ∧ Below w.heap.size w w' := by
  go_enter Tryd.func29, Tryd.ntmps29
  go_wp2_with fail
  refine (mix_c x _ (hs.alloc _) x0 x1).mono ?_
  rintro e w1 ⟨rfl, hb⟩
  obtain ⟨hc, hf⟩ := bcell hb
  have hz := hb.size
  simp only [World.size_alloc] at hc hf hz
  go_wp2
  refine bodyPost_ret (v := .agg #[.int .u64 (mixI x)]) (by simp [results, Tryd.results29, go_sem, hc]) rfl ⟨rfl, ?_⟩
  exact (((Below.refl _ _).alloc (Nat.le_refl _) _).trans (hb.mono (by simp))).setCell (by simp) _
/-- At (30) -/
theorem at_c (key n : Int) (w : World) (hs : St w) :
    Calls Tryd.prog 30 #[.agg #[.int .u64 key], .int .i64 n] w fun e w' => e = .returned (.agg #[.int .u64 (atI key n)]) ∧ Below w.heap.size w w' := by
  go_enter Tryd.func30, Tryd.ntmps30
  go_wp2_with fail
  refine (mix_c _ _ ((hs.alloc _).alloc _) (u64_lo _) (u64_hi _)).mono ?_
  rintro e w1 ⟨rfl, hb⟩
  have hs1 := ((hs.alloc _).alloc _).below hb (by simp)
  have c1 := keep_cell hb (b := w.heap.size + 1) (o := 0) (v := .int .u64 0) (by simp [go_sem])
  have f1 := keep_frozen hb (b := w.heap.size + 1) (o := 0) (by simp) (by simp [go_sem])
  have z1 : w.heap.size + 1 < w1.heap.size := by have := hb.size; simp at this; omega
  go_wp2_with fail
  refine (mix_c _ _ hs1 (xor_lo _ _) (xor_hi _ _)).mono ?_
  rintro e w2 ⟨rfl, hb2⟩
  have c2 := keep_cell hb2 c1
  have f2 := keep_frozen hb2 z1 f1
  clear c1 f1
  go_wp2
  refine bodyPost_ret (v := .agg #[.int .u64 (atI key n)]) (by simp [results, Tryd.results30, go_sem, c2, at_form]) rfl ⟨rfl, ?_⟩
  exact ((((Below.refl _ _).alloc (Nat.le_refl _) _).alloc (by simp) _).trans ((hb.trans (hb2.mono hb.size)).mono (by simp; omega))).setCell (by simp) _
/-- word (37) -/
theorem word_c (key i : Int) (w : World) (hs : St w) (i0 : 0 ≤ i) (i1 : i ≤ 1099511627776) :
    Calls Tryd.prog 37 #[.agg #[.int .u64 key], .int .i64 i] w fun e w' => e = .returned (.int .u64 (wordI key i)) ∧ Below w.heap.size w w' := by
  have H := Lib.hid (word_form key i)
  go_enter Tryd.func37, Tryd.ntmps37
  go_wp2_with fail
  refine (mix_c _ _ (hs.alloc _) (u64_lo _) (u64_hi _)).mono ?_
  rintro e w1 ⟨rfl, hb⟩
  go_wp2
  go_ret
  exact ⟨ret_int H.out, ((Below.refl _ _).alloc (Nat.le_refl _) _).trans (hb.mono (by simp))⟩
/-- Word (18) -/
theorem Word_c (key i : Int) (w : World) (hs : St w) :
    Calls Tryd.prog 18 #[.agg #[.int .u64 key], .int .i64 i] w fun e w' => e = .returned (.tuple #[.int .u64 (wordR key i).1, .int .i64 (wordR key i).2]) ∧ Below w.heap.size w w' := by
  by_cases h0 : i < 0
  · have H := Lib.hid (wordR_no key i (Or.inl h0))
    go_enter Tryd.func18, Tryd.ntmps18
    go_wp2
    go_ret2
    exact ⟨by rw [H.out]; rfl, (Below.refl _ _).alloc (Nat.le_refl _) _⟩
  · by_cases h1 : 1099511627776 ≤ i
    · have H := Lib.hid (wordR_no key i (Or.inr h1))
      go_enter Tryd.func18, Tryd.ntmps18
      go_wp2
      go_ret2
      exact ⟨by rw [H.out]; rfl, (Below.refl _ _).alloc (Nat.le_refl _) _⟩
    · have H := Lib.hid (wordR_yes key i (by omega) (by omega))
      go_enter Tryd.func18, Tryd.ntmps18
      go_wp2_with fail
      refine (word_c key i _ (hs.alloc _) (by omega) (by omega)).mono ?_
      rintro e w1 ⟨rfl, hb⟩
      go_wp2
      go_ret2
      exact ⟨by rw [H.out]; rfl, ((Below.refl _ _).alloc (Nat.le_refl _) _).trans (hb.mono (by simp))⟩
/-- the reference's Word (40) -/
theorem rWord_c (key i : Int) (w : World) :
    Calls Tryd.prog 40 #[.int .u64 key, .int .i64 i] w fun e w' => e = .returned (.tuple #[.int .u64 (wordR key i).1, .int .i64 (wordR key i).2]) ∧ w = w' := by
  by_cases h0 : i < 0
  · have H := Lib.hid (wordR_no key i (Or.inl h0))
    go_enter Tryd.func40, Tryd.ntmps40
    go_wp2
    go_ret2
    exact ⟨by rw [H.out]; rfl, rfl⟩
  · by_cases h1 : 1099511627776 ≤ i
    · have H := Lib.hid (wordR_no key i (Or.inr h1))
      go_enter Tryd.func40, Tryd.ntmps40
      go_wp2
      go_ret2
      exact ⟨by rw [H.out]; rfl, rfl⟩
    · have H := Lib.hid (wordR_yes key i (by omega) (by omega))
      have F := Lib.hid (word_form key i)
      go_enter Tryd.func40, Tryd.ntmps40
      go_wp2_with fail
      refine (rmix_c _ _ (u64_lo _) (u64_hi _)).mono ?_
      rintro e w1 ⟨rfl, rfl⟩
      go_wp2
      go_ret2
      refine ⟨?_, rfl⟩
      rw [H.out]
      exact congrArg (fun z => Ending.returned (.tuple #[.int .u64 z, .int .i64 0])) F.out
/-- Pick (16) -/
theorem pick_c (x n : Int) (w : World) (n0 : 1 ≤ n) (n1 : n ≤ 9223372036854775807) :
    Calls Tryd.prog 16 #[.int .i64 x, .int .i64 n] w fun e w' => e = .returned (.int .i64 (x % n)) ∧ w = w' := by
  have m0 := Int.emod_nonneg x (show n ≠ 0 by omega)
  have m1 := Int.emod_lt_of_pos x (show 0 < n by omega)
  by_cases h : x.tmod n < 0
  · have H := Lib.hid (pick_low x n n0 h)
    have b : 0 ≤ x.tmod n + n ∧ x.tmod n + n < n := by rw [H.out]; exact ⟨m0, m1⟩
    have b1 := b.1
    have b2 := b.2
    clear b m0 m1
    go_enter Tryd.func16, Tryd.ntmps16
    go_wp2
    go_ret
    exact ⟨ret_int H.out, rfl⟩
  · have H := Lib.hid (pick_high x n n0 (by omega))
    clear m0 m1
    go_enter Tryd.func16, Tryd.ntmps16
    go_wp2
    go_ret
    exact ⟨ret_int H.out, rfl⟩
/-- inverse (46) -/
theorem inverse_c (x : Int) (w : World) (x0 : 0 ≤ x) (x1 : x ≤ 18446744073709551615) :
    Calls Tryd.prog 46 #[.int .u64 x] w fun e w' => e = .returned (.int .u64 (toI (invB (ofI x)))) ∧ w = w' := by
  obtain ⟨b, rfl⟩ := exists_toI x x0 x1
  rw [ofI_toI]
  go_enter Tryd.func46, Tryd.ntmps46
  go_wp2
  go_loop [3, 5] (fun y i => ∃ k : Nat, k ≤ 5 ∧ i = .int .i64 k ∧ y = .int .u64 (toI (newtN b k))) (fun _ i => 5 - (intOf i).toNat)
  case atStart => exact ⟨0, by omega, rfl, rfl⟩
  case round =>
    obtain ⟨k, hk, rfl, rfl⟩ := hrel
    by_cases hlt : k < 5
    · go_wp2
      go_round
      case rel => exact ⟨k + 1, by omega, by go_num, by rw [newt_form]; rfl⟩
      case measure => simp [intOf]; omega
    · obtain rfl : k = 5 := by omega
      go_wp2
      go_ret
      exact ⟨ret_int (by rw [newtN5]), rfl⟩
end Go.Proofs.YtifnmehpkelifaaDoor
