/- The walk of names, and of SeedTells. -/
import Derived.Test.YtifnmehpkelifaaDoorAwake
namespace Go.Proofs.YtifnmehpkelifaaDoor
open Go.RowKit SeedP
theorem field31 (x : Int) (w : World) : (Instr.field 31 (.agg #[.int .u64 x]) 0).run Tryd.prog w = .ok (.int .u64 x) w := by kernel_rfl
set_option maxHeartbeats 1000000 in
/-- names (24) -/
theorem names_c (key n i : Int) (s : ByteArray) (w : World) (hs : St w) (k0 : 0 ≤ key) (k1 : key ≤ 18446744073709551615) (hm : s.size ≤ maxLen) :
    Calls Tryd.prog 24 #[.int .u64 key, .string s, .int .i64 n, .int .i64 i] w fun e w' => e = .returned (.bool true) ∧ Below w.heap.size w w' := by
  have H1 := Lib.hid (fun W h => sub_c key s W h hm)
  have H2 := Lib.hid (fun W => rsub_c key s W hm)
  generalize subR key s.data.toList = R1 at *
  obtain ⟨r1, e1⟩ := R1
  have H3 := Lib.hid (fun W h => Word_c key i W h)
  have H4 := Lib.hid (fun W => rWord_c key i W)
  generalize wordR key i = R2 at *
  obtain ⟨r2, e2⟩ := R2
  have H5 := Lib.hid (fun W h => at_c key n W h)
  have H6 := Lib.hid (fun W => rat_c key n W)
  generalize atI key n = R3 at *
  have H7 := Lib.hid (fun W h => new_c key W h k0 k1)
  have H8 := Lib.hid (fun W => rnew_c key W k0 k1)
  have H9 := Lib.hid (fun W h => mix_c key W h k0 k1)
  have H10 := Lib.hid (fun W => rmix_c key W k0 k1)
  have H11 := Lib.hid (fun W h => unmix_c key W h k0 k1)
  have H12 := Lib.hid (fun W => runmix_c key W k0 k1)
  generalize mixI key = R4 at *
  generalize unmixI key = R5 at *
  have c0 : (w.alloc (.cells #[.int .u64 key] 31)).cell? ⟨w.heap.size, 0, none⟩ = some (.int .u64 key) := by simp [go_sem]
  have B0 : Below w.heap.size w (w.alloc (.cells #[.int .u64 key] 31)) := (Below.refl _ _).alloc (Nat.le_refl _) _
  have hs0 := hs.alloc (.cells #[.int .u64 key] 31)
  have fld := field31
  clear hs k0 k1 hm
  go_enter Tryd.func24, Tryd.ntmps24
  go_wp2_with fail
  refine (H1.out _ hs0).mono ?_
  rintro e w1 ⟨rfl, hb1⟩
  have hs1 := (hs0.below hb1 hs0.pos).alloc (.cells #[.int .u64 r1] 31)
  have z1 := hb1.size
  have hb1' : Below (w.alloc (.cells #[.int .u64 key] 31)).heap.size (w.alloc (.cells #[.int .u64 key] 31)) (w1.alloc (.cells #[.int .u64 r1] 31)) := hb1.alloc z1 _
  have c1 := keep_cell hb1' c0
  have d1 : (w1.alloc (.cells #[.int .u64 r1] 31)).cell? ⟨w1.heap.size, 0, none⟩ = some (.int .u64 r1) := by simp [go_sem]
  have B1 := B0.trans (hb1'.mono B0.size)
  have pz : w.heap.size < w1.heap.size := by simp at z1; omega
  clear hb1 hb1' B0 c0 hs0 z1 H1
  go_wp2_with fail
  refine (H2.out _).mono ?_
  rintro e w2 ⟨rfl, rfl⟩
  go_wp2_with fail
  refine (H3.out _ hs1).mono ?_
  rintro e w3 ⟨rfl, hb3⟩
  have hs3 := hs1.below hb3 hs1.pos
  have c3 := keep_cell hb3 c1
  have d3 := keep_cell hb3 d1
  have B3 := B1.trans (hb3.mono B1.size)
  clear hb3 B1 c1 d1 hs1 H2 H3
  go_wp2_with fail
  refine (H4.out _).mono ?_
  rintro e w4 ⟨rfl, rfl⟩
  go_wp2_with fail
  refine (H5.out _ hs3).mono ?_
  rintro e w5 ⟨rfl, hb5⟩
  have hs5 := hs3.below hb5 hs3.pos
  have c5 := keep_cell hb5 c3
  have d5 := keep_cell hb5 d3
  have B5 := B3.trans (hb5.mono B3.size)
  clear hb5 B3 c3 d3 hs3 H4 H5
  go_wp2_with fail
  refine (H6.out _).mono ?_
  rintro e w6 ⟨rfl, rfl⟩
  go_wp2_with fail
  refine (H7.out _ hs5).mono ?_
  rintro e w7 ⟨rfl, hb7⟩
  have hs7 := hs5.below hb7 hs5.pos
  have B7 := B5.trans (hb7.mono B5.size)
  clear hb7 B5 c5 d5 hs5 H6 H7
  go_wp2_with fail
  refine (H8.out _).mono ?_
  rintro e w8 ⟨rfl, rfl⟩
  go_wp2_with fail
  refine (H9.out _ hs7).mono ?_
  rintro e w9 ⟨rfl, hb9⟩
  have hs9 := hs7.below hb9 hs7.pos
  have B9 := B7.trans (hb9.mono B7.size)
  clear hb9 B7 hs7 H8 H9
  go_wp2_with fail
  refine (H10.out _).mono ?_
  rintro e w10 ⟨rfl, rfl⟩
  go_wp2_with fail
  refine (H11.out _ hs9).mono ?_
  rintro e w11 ⟨rfl, hb11⟩
  have B11 := B9.trans (hb11.mono B9.size)
  clear hb11 B9 hs9 H10 H11
  go_wp2_with fail
  refine (H12.out _).mono ?_
  rintro e w12 ⟨rfl, rfl⟩
  go_wp2
  go_ret
  exact ⟨rfl, B11⟩
/-- SeedTells (9) -/
theorem seedTells_walk (key : Int) (s : ByteArray) (n i : Int) (w : World) (hs : St w) (bk : 0 ≤ key ∧ key ≤ 18446744073709551615) (hm : s.size ≤ maxLen) (_bn : -9223372036854775808 ≤ n ∧ n ≤ 9223372036854775807) (_bi : -9223372036854775808 ≤ i ∧ i ≤ 9223372036854775807) :
    Calls Tryd.prog 9 #[.int .u64 key, .string s, .int .i64 n, .int .i64 i] w fun e w' => e = .returned (.bool true) ∧ Below w.heap.size w w' := by
  go_enter Tryd.func9, Tryd.ntmps9
  go_wp2_with fail
  refine (names_c key n i s _ hs bk.1 bk.2 hm).mono ?_
  rintro e w1 ⟨rfl, hb1⟩
  go_wp2_with fail
  refine (awake_c _ (hs.below hb1 hs.pos)).mono ?_
  rintro e w2 ⟨rfl, hb2⟩
  go_wp2
  go_ret
  exact ⟨rfl, hb1.trans (hb2.mono hb1.size)⟩
end Go.Proofs.YtifnmehpkelifaaDoor
