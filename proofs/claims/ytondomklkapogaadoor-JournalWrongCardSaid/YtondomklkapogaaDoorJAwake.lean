/- The walk of awake: the chapter's example. -/
import Derived.Test.YtondomklkapogaaDoorJLib
namespace Go.Proofs.YtondomklkapogaaDoor
open Go.RowKit SeedP Go.Maps
theorem sA_find : pFind sA.ents [97] = some [7, 8] := by decide
theorem sX_keys : (keysOf sX.ents).filter (isPref []) = [] := rfl
theorem lit78 (w : World) (q : Nat → Prop) (hq : q w.heap.size) : RdP (w.alloc (.cells #[.int .u8 7, .int .u8 8] 5)) q (.slice (some ⟨w.heap.size, 0, none⟩) 2 2) [7, 8] := by
  have h := rdB_lit w [7, 8] (by decide) 2 rfl
  rcases h with h | ⟨g, off, cap, e, h1, h2, h3, h4⟩
  · cases h.2
  · cases e
    exact Or.inr ⟨_, 0, 2, rfl, h1, h2, hq, h4⟩
set_option maxRecDepth 100000 in
set_option maxHeartbeats 4000000 in
/-- awake -/
theorem awake_c (w : World) (hs : St w) : Calls Tryd.prog 10 #[] w fun e w' => e = .returned (.bool true) ∧ Below w.heap.size w w' := by
  go_enter Tryd.func10, Tryd.ntmps10
  go_wp2_with fail
  refine (empty_c _ hs).mono ?_
  rintro e w1 ⟨rfl, hD1, hb1⟩
  clear hs
  go_wp2_with fail
  refine (open_l hD1 (empty_ok (-1) (by decide) (by decide))).mono ?_
  rintro e w2 ⟨jb, rfl, hJ2, hb2⟩
  go_wp2_with fail
  refine (set_l (hJ2.below ((Below.refl _ _).alloc (Nat.le_refl _) _)) [97] [7, 8] _ (fun mb hm hJ => by
    exact lit78 w2 _ (hJ.other (Blk.new w2 5 [.int .u8 7, .int .u8 8]) (by decide) (by decide))) (by decide) (by decide)).mono ?_
  rintro e w3 ⟨rfl, hJ3, hb3⟩
  have hb3 := ((Below.refl _ w2).alloc (by have := hJ2.size; omega) (.cells #[.int .u8 7, .int .u8 8] 5)).trans hb3
  have hB3 := (hb1.trans (hb2.mono hb1.size)).trans hb3
  have hcs := awake_set
  unfold csA at hcs
  rw [hcs] at hJ3
  rw [hcs]
  clear hcs hb3 hb2 hb1 hJ2 hD1
  obtain ⟨a0, c0, a1, c1, _, k1, k2, r0, r1, _⟩ := hJ3.dl.cells
  have hl0 := awake_len
  have hd0 := awake_drop
  have hl1 : sA.d.f1.length = 0 := rfl
  obtain ⟨f0, hf0⟩ : ∃ f0, sA.d.f0 = f0 := ⟨_, rfl⟩
  rw [hf0] at k1 r0 hl0 hd0
  rw [hl0] at k1 r0
  rw [hl1] at k2 r1
  rcases r0 with ⟨_, e⟩ | ⟨g0, o0, c0', e0, hc1, hc2, hc3, hc4⟩
  · rw [e] at hl0; cases hl0
  simp only [Value.slice.injEq] at e0
  obtain ⟨rfl, hq0, rfl⟩ := e0
  have hr0 : RdB w3 w3.heap.size (.slice (some ⟨g0, o0 + 36, none⟩) 8 (c0 - 36)) [1, 0, 1, 97, 0, 2, 7, 8] := by
    have h := RdB.drop (n := 36) (by omega) hc1 hc2 hc3 hc4
    rw [hd0, hl0] at h
    exact h
  have hcv := conv_c hr0
  have hcz : ¬ c0 = 36 := by omega
  clear r1 hc4 hd0 hr0 hq0 hl0 hl1 hc1 hc2 hc3 hb3 hf0
  go_wp2_with fail
  refine (open_l hJ3.dl hJ3.ok.d).mono ?_
  rw [awake_open]
  rintro e w4 ⟨jk, rfl, hJ4, hb4⟩
  have hB4 := hB3.trans (hJ3.cut hb4)
  clear hcv hcz k1 k2 hJ3 hB3 hb4
  go_wp2_with fail
  refine (get_l hJ4 [97] (by decide)).mono ?_
  rw [sA_find]
  rintro e w5 ⟨⟨a5, c5, rfl, hr5⟩, hb5⟩
  have hJ5 := hJ4.below hb5
  have hB5 := hB4.trans (hJ4.cut hb5)
  have hcv : (convert 26 9 (.slice a5 2 c5)).run Tryd.prog w5 = .ok (.string ⟨#[7, 8]⟩) w5 := conv_c hr5
  clear hb5 hJ4 hB4 hr5
  go_wp2_with fail
  have hW : Calls Tryd.prog 20 #[.pointer (some ⟨jk, 0, none⟩)] w5 fun e w' => e = .returned (.int .i64 6) ∧ w5 = w' := weight_l hJ5
  refine hW.mono ?_
  rintro e w6 ⟨rfl, rfl⟩
  clear hcv hW
  go_wp2_with fail
  have hG : Calls Tryd.prog 21 #[.pointer (some ⟨jk, 0, none⟩)] w5 fun e w' => e = .returned (.int .i64 1) ∧ w5 = w' := generation_l hJ5
  refine hG.mono ?_
  rintro e w6 ⟨rfl, rfl⟩
  clear hG
  go_wp2_with fail
  refine (drop_l hJ5 [98] (by decide)).mono ?_
  rw [awake_none]
  rintro e w6 ⟨rfl, hJ6, hb6⟩
  have hB6 := hB5.trans hb6
  clear hb6 hB5 hJ5
  go_wp2_with fail
  refine (compact_l hJ6).mono ?_
  obtain ⟨sB, hc1, hc2, hc3, hc4⟩ := awake_compact
  rw [hc1]
  rintro e w7 ⟨rfl, hJ7, hb7⟩
  have hB7 := hB6.trans hb7
  obtain ⟨a0, c0, a1, c1, _, k1, k2, r0, r1, _⟩ := hJ7.dl.cells
  have hG : Calls Tryd.prog 21 #[.pointer (some ⟨jk, 0, none⟩)] w7 fun e w' => e = .returned (.int .i64 2) ∧ w7 = w' := by
    have h := generation_l hJ7
    rw [hc2, hc4] at h
    exact h
  rw [hc3] at k2
  have HG := Lib.hid hG
  have HB7 := Lib.hid hB7
  have HS7 := Lib.hid hJ7.st
  clear r0 r1 hG hc1 hc2 hc3 hc4 k1 hb7 hB6 hJ6 hB7 hJ7
  go_wp2_with fail
  refine HG.out.mono ?_
  rintro e w8 ⟨rfl, rfl⟩
  have hS := HS7.out
  have hB := HB7.out
  have HZ := Lib.hid hB.size
  clear HG HB7 HS7 k2
  go_wp2_with fail
  have hD := DL.new w7 hS 43
  have hbn := (Below.refl _ w7).alloc (Nat.le_refl _) (.cells #[.int .i64 43, .slice none 0 0, .slice none 0 0] 29)
  refine (open_l hD (empty_ok 43 (by decide) (by decide))).mono ?_
  rintro e w8 ⟨jw, rfl, hJ8, hb8⟩
  have hb8 := hbn.trans (hD.cut hb8)
  clear hbn hD hS
  go_wp2_with fail
  refine (set_l (hJ8.below ((Below.refl _ _).alloc (Nat.le_refl _) _)) [97] [7, 8] _ (fun mb hm hJ => by
    exact lit78 w8 _ (hJ.other (Blk.new w8 5 [.int .u8 7, .int .u8 8]) (by decide) (by decide))) (by decide) (by decide)).mono ?_
  rintro e w9 ⟨rfl, hJ9, hb9⟩
  have hb9 := (((Below.refl _ w8).alloc (by have := hJ8.size; omega) (.cells #[.int .u8 7, .int .u8 8] 5)).trans hb9)
  have hB9 := hB.trans ((hb8.trans hb9).mono hB.size)
  have hcs := weak_set
  unfold csA at hcs
  rw [hcs] at hJ9
  rw [hcs]
  clear hcs hb9 hb8 hB hJ8
  go_wp2_with fail
  have hG : Calls Tryd.prog 21 #[.pointer (some ⟨jw, 0, none⟩)] w9 fun e w' => e = .returned (.int .i64 0) ∧ w9 = w' := generation_l hJ9
  refine hG.mono ?_
  rintro e w10 ⟨rfl, rfl⟩
  obtain ⟨a0, c0, a1, c1, k0, k1, k2, r0, r1, z⟩ := hJ9.dl.cells
  rw [weak_len] at k1
  have HD := Lib.hid hJ9.dl
  have HB := Lib.hid hB9
  have HO := Lib.hid hJ9.ok.d
  have z0 := z 0
  clear r0 r1 hG hJ9 hB9 k2 z
  go_wp2_with fail
  refine (open_l (HD.out.power (-1)) (empty_ok (-1) (by decide) (by decide) |> fun _ => ⟨by decide, by decide, HO.out.f0, HO.out.f1⟩)).mono ?_
  have hB10 := HB.out.trans ((HD.out.power_below (.int .i64 (-1))).mono HZ.out)
  rw [show jOpen ⟨-1, sW.d.f0, sW.d.f1⟩ = sX from weak_open]
  rintro e w10 ⟨jx, rfl, hJ10, hb10⟩
  have hB10 := hB10.trans (hb10.mono (by have h := HD.out.size; have h2 := HZ.out; simp; omega))
  clear hb10 HB HD HO k0 k1 z0
  go_wp2_with fail
  have hG : Calls Tryd.prog 21 #[.pointer (some ⟨jx, 0, none⟩)] w10 fun e w' => e = .returned (.int .i64 1) ∧ w10 = w' := generation_l hJ10
  refine hG.mono ?_
  rintro e w11 ⟨rfl, rfl⟩
  clear hG
  go_wp2_with fail
  refine (keys_l hJ10 [] (by decide)).mono ?_
  rw [sX_keys]
  rintro e w11 ⟨v, rfl, hv, hb11⟩
  obtain ⟨va, vc, rfl⟩ : ∃ va vc, v = .slice va 0 vc := by
    rcases hv.2 with ⟨rfl, _⟩ | ⟨g, cap, cur, rfl, _⟩
    · exact ⟨none, 0, rfl⟩
    · exact ⟨_, cap, rfl⟩
  have hJ11 := hJ10.below hb11
  have hB11 := hB10.trans ((hJ10.cut hb11).mono HZ.out)
  clear hv hb11 hB10 hJ10
  go_wp2_with fail
  obtain ⟨sY, hy1, hy2⟩ := weak_again
  refine (set_l hJ11 [98] [] (.slice none 0 0) (fun mb hm hJ => Or.inl ⟨Or.inl rfl, rfl⟩) (by decide) (by decide)).mono ?_
  rw [hy1]
  rintro e w12 ⟨rfl, hJ12, hb12⟩
  have hB12 := Lib.hid (hB11.trans (hb12.mono HZ.out))
  obtain ⟨a0, c0, a1, c1, k0, k1, k2, r0, r1, z⟩ := hJ12.dl.cells
  rw [hy2] at k1
  clear r0 r1 k0 k2 z hJ12 hb12 hB11 hJ11 hy1 hy2
  go_wp2
  go_ret
  exact ⟨rfl, hB12.out⟩
end Go.Proofs.YtondomklkapogaaDoor
