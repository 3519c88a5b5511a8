/- The walks of weighs and SeedWeighs. -/
import Derived.Test.YtifnmehpkelifaaDoorLent
namespace Go.Proofs.YtifnmehpkelifaaDoor
open Go.RowKit SeedP
/-- weighs (14) -/
theorem weighs_c (key i : Int) (v : Value) (l : List Int) (w : World) (hs : St w) (hv : Rd w v (ints .i64 l)) (hr : l.length * 8 ≤ 140737488351232) (i0 : -9223372036854775808 ≤ i) (i1 : i ≤ 9223372036854775807) :
    Calls Tryd.prog 14 #[.int .u64 key, .int .i64 i, v] w fun e w' => e = .returned (.bool true) ∧ Below w.heap.size w w' := by
  have HL := Lib.hid (lent_c v l w hv hr)
  have HW := Lib.hid (fun x W (hs : St W) (hv : Rd W x (ints .i64 l)) => weigh_c key i x l W hs hv i0 i1)
  have HR := Lib.hid (fun W (hv : Rd W v (ints .i64 l)) => rweigh_c key i v l W hv i0 i1)
  have hm : l.length + 12 ≤ maxLen := by unfold maxLen; omega
  clear i0 i1
  generalize hP : weighP (wordI key) i l = P at *
  obtain ⟨P1, P2, P3⟩ := P
  clear hP
  have t1 : (P1 == P1) = true := by simp
  have t2 : (P2 == P2) = true := by simp
  have t3 : (P3 == P3) = true := by simp
  have HT := Lib.hid (And.intro t1 (And.intro t2 t3))
  clear t1 t2 t3
  go_enter Tryd.func14, Tryd.ntmps14
  go_wp2_with fail
  refine HL.out.mono ?_
  rintro e w1 ⟨⟨x, rfl, hl⟩, hb1⟩
  have HV1 := hv.below hb1
  have HX := hl.rd hm
  have HS1 := hs.below hb1 hs.pos
  clear hv hs HL
  go_wp2_with fail
  refine (HW.out x _ HS1 HX).mono ?_
  rintro e w2 ⟨rfl, hb2⟩
  have HV2 := HV1.below hb2
  have HL2 := hl.below hb2
  clear HV1 HX HS1 HW hl
  go_wp2_with fail
  refine (HR.out _ HV2).mono ?_
  rintro e w3 ⟨rfl, rfl⟩
  clear HR
  go_wp2_with fail
  refine (kept_c x v l _ HL2 HV2 hr).mono ?_
  rintro e w4 ⟨rfl, hb4⟩
  go_wp2
  go_ret
  exact ⟨rfl, hb1.trans (hb2.mono hb1.size) |>.trans (hb4.mono (Nat.le_trans hb1.size hb2.size))⟩
/-- SeedWeighs (4) -/
theorem seedWeighs_walk (key i : Int) (v : Value) (l : List Int) (w : World) (hs : St w) (_ : 0 ≤ key ∧ key ≤ 18446744073709551615) (bi : -9223372036854775808 ≤ i ∧ i ≤ 9223372036854775807)
    (hb : Rd w v (ints .i64 l) ∧ l.length * 8 ≤ 140737488351232 ∧ ∀ x ∈ l, (Lit.int .i64 x).wf = true) :
    Calls Tryd.prog 4 #[.int .u64 key, .int .i64 i, v] w fun e w' => e = .returned (.bool true) ∧ Below w.heap.size w w' := by
  obtain ⟨hv, hr, _⟩ := hb
  have HW := Lib.hid (weighs_c key i v l w hs hv hr bi.1 bi.2)
  obtain ⟨a, c, rfl, hm, _⟩ := hv.open_ints
  have hm2 : l.length ≤ 17592186043904 := by omega
  clear hv hm
  by_cases h1 : 100 < l.length
  · by_cases h2 : l.length ≤ 1000
    · go_enter Tryd.func4, Tryd.ntmps4
      go_wp2_with fail
      refine (awake_c _ hs).mono ?_
      rintro e w1 ⟨rfl, hb⟩
      go_wp2
      go_ret
      exact ⟨rfl, hb⟩
    · go_enter Tryd.func4, Tryd.ntmps4
      go_wp2_with fail
      refine HW.out.mono ?_
      rintro e w1 ⟨rfl, hb⟩
      go_wp2_with fail
      refine (awake_c _ (hs.below hb hs.pos)).mono ?_
      rintro e w2 ⟨rfl, hb2⟩
      go_wp2
      go_ret
      exact ⟨rfl, hb.trans (hb2.mono hb.size)⟩
  · go_enter Tryd.func4, Tryd.ntmps4
    go_wp2_with fail
    refine HW.out.mono ?_
    rintro e w1 ⟨rfl, hb⟩
    go_wp2_with fail
    refine (awake_c _ (hs.below hb hs.pos)).mono ?_
    rintro e w2 ⟨rfl, hb2⟩
    go_wp2
    go_ret
    exact ⟨rfl, hb.trans (hb2.mono hb.size)⟩
end Go.Proofs.YtifnmehpkelifaaDoor
