/- JournalWrong: the walk of the law. -/
import Derived.Test.YtondomklkapogaaDoorJLibX
import Derived.Test.YtondomklkapogaaDoorJAwake
import Derived.Test.YtondomklkapogaaDoorJNone
import Derived.Test.YtondomklkapogaaDoorJTab
import Derived.Test.YtondomklkapogaaDoorJWrongT
import Derived.Test.YtondomklkapogaaDoorJXw
import Derived.Test.YtondomklkapogaaDoorJXo
import Derived.Test.YtondomklkapogaaDoorJWrongL
import Derived.Test.YtondomklkapogaaDoorJWrongV
import Derived.Deep.CutBlock
namespace Go.Proofs.YtondomklkapogaaDoor
open Go.RowKit SeedP Go.Maps
theorem min_weak (n : Int) : min n (-2) < -1 := by omega
set_option maxRecDepth 100000 in
set_option maxHeartbeats 8000000 in
/-- the law -/
theorem journalWrong_walk (n : Int) (key : ByteArray) (W : World) (hs : St W) (h0 : -9223372036854775808 ≤ n ∧ n ≤ 9223372036854775807) (h1 : key.size ≤ maxLen ∧ key.size ≤ 140737488351232) :
    Calls Tryd.prog 9 #[.int .i64 n, .string key] W fun e w' => e = .returned (.bool true) ∧ Below W.heap.size W w' := by
  obtain ⟨⟨k⟩⟩ := key
  have hkl : k.length ≤ 140737488351232 := h1.2
  have HK := Lib.hid hkl
  have HN := Lib.hid h0
  clear h0 h1 hkl
  change Calls _ _ #[.int .i64 n, strV k] _ _
  have hS0 := hs
  go_enter Tryd.func9, Tryd.ntmps9
  go_wp2_with fail
  refine (awake_c _ hs).mono ?_
  rintro e w1 ⟨rfl, hb1⟩
  have hs1 := hS0.below hb1 hS0.pos
  have HS1 := Lib.hid hs1
  have HB1 := Lib.hid hb1
  clear hs hb1 hS0 hs1
  have hBa : Below w1.heap.size w1 ((w1.alloc (.cells #[.pointer none, .bool false, .int .i64 0, .int .i64 0, .map none, .int .i64 0, .int .u64 0, .int .i64 0] 72)).alloc (.cells #[.pointer none, .pointer (some ⟨w1.heap.size, 0, none⟩)] 30)) := ((Below.refl _ _).alloc (Nat.le_refl _) _).alloc (by simp) _
  have hNo : NoJ ((w1.alloc (.cells #[.pointer none, .bool false, .int .i64 0, .int .i64 0, .map none, .int .i64 0, .int .u64 0, .int .i64 0] 72)).alloc (.cells #[.pointer none, .pointer (some ⟨w1.heap.size, 0, none⟩)] 30)) (.pointer (some ⟨w1.heap.size, 0, none⟩)) := Or.inr ⟨_, rfl, (Blk.new w1 72 [.pointer none, .bool false, .int .i64 0, .int .i64 0, .map none, .int .i64 0, .int .u64 0, .int .i64 0]).alloc _⟩
  have hSl : Blk ((w1.alloc (.cells #[.pointer none, .bool false, .int .i64 0, .int .i64 0, .map none, .int .i64 0, .int .u64 0, .int .i64 0] 72)).alloc (.cells #[.pointer none, .pointer (some ⟨w1.heap.size, 0, none⟩)] 30)) (w1.heap.size + 1) 30 [.pointer none, .pointer (some ⟨w1.heap.size, 0, none⟩)] := by
    have := Blk.new (w1.alloc (.cells #[.pointer none, .bool false, .int .i64 0, .int .i64 0, .map none, .int .i64 0, .int .u64 0, .int .i64 0] 72)) 30 [.pointer none, .pointer (some ⟨w1.heap.size, 0, none⟩)]
    simpa using this
  have HX0 := Lib.hid (And.intro hNo (And.intro hSl hBa))
  clear hNo hSl hBa
  go_wp2_with fail
  go_loopw [31] (fun iv wr => (iv = .int .i64 0 ∨ iv = .int .i64 1 ∨ iv = .int .i64 2) ∧ NoJ wr (.pointer (some ⟨w1.heap.size, 0, none⟩)) ∧ Blk wr (w1.heap.size + 1) 30 [.pointer none, .pointer (some ⟨w1.heap.size, 0, none⟩)] ∧ Below w1.heap.size w1 wr) (fun i _ => 2 - (intOf i).toNat)
  case atStart => exact ⟨Or.inl rfl, HX0.out.1, HX0.out.2.1, HX0.out.2.2⟩
  case round =>
    obtain ⟨hiv, hno, hsl, hb⟩ := hrel
    clear HX0
    rcases hiv with rfl | rfl | rfl
    · have HNJ : Hid (∀ w, Below w1.heap.size w1 w → NoJ w (.pointer (some ⟨w1.heap.size, 0, none⟩)) → NoJ w (.pointer none)) := Lib.hid (fun w _ h => Or.inl rfl)
      have p0 : wr.cell? ⟨w1.heap.size + 1, 0, none⟩ = some (.pointer none) := hsl.cell 0 (by simp)
      have HX := Lib.hid (And.intro hno (And.intro hsl hb))
      have HG := Lib.hid (none_Get _ k wr (HNJ.out _ hb hno))
      clear hno hsl hb
      go_wp2_with fail
      refine HG.out.mono ?_
      rintro e wa ⟨rfl, rfl⟩
      clear HG
      go_wp2_with fail
      refine (none_Commit _ none 0 0 _ (HNJ.out _ HX.out.2.2 HX.out.1)).mono ?_
      rintro e wb ⟨rfl, hb1⟩
      have HX1 := Lib.hid (And.intro (HX.out.1.below hb1) (And.intro (HX.out.2.1.below hb1) (HX.out.2.2.trans (hb1.mono HX.out.2.2.size))))
      clear hb1 HX p0
      go_wp2_with fail
      refine (none_Set _ k _ (HNJ.out _ HX1.out.2.2 HX1.out.1)).mono ?_
      rintro e wc ⟨rfl, hb1⟩
      have HX := Lib.hid (And.intro (HX1.out.1.below hb1) (And.intro (HX1.out.2.1.below hb1) (HX1.out.2.2.trans (hb1.mono HX1.out.2.2.size))))
      clear hb1 HX1
      go_wp2_with fail
      refine (none_Drop _ k _ (HNJ.out _ HX.out.2.2 HX.out.1)).mono ?_
      rintro e wd ⟨rfl, hb1⟩
      have HX1 := Lib.hid (And.intro (HX.out.1.below hb1) (And.intro (HX.out.2.1.below hb1) (HX.out.2.2.trans (hb1.mono HX.out.2.2.size))))
      clear hb1 HX
      go_wp2_with fail
      refine (none_Compact _ _ (HNJ.out _ HX1.out.2.2 HX1.out.1)).mono ?_
      rintro e we ⟨rfl, rfl⟩
      go_wp2_with fail
      refine (none_Keys _ [] _ (HNJ.out _ HX1.out.2.2 HX1.out.1)).mono ?_
      rintro e we ⟨rfl, rfl⟩
      go_wp2_with fail
      refine (none_Weight _ _ (HNJ.out _ HX1.out.2.2 HX1.out.1)).mono ?_
      rintro e we ⟨rfl, rfl⟩
      go_wp2_with fail
      refine (none_Generation _ _ (HNJ.out _ HX1.out.2.2 HX1.out.1)).mono ?_
      rintro e we ⟨rfl, rfl⟩
      go_wp2
      go_roundw
      case rel => exact ⟨by simp, HX1.out.1, HX1.out.2.1, HX1.out.2.2⟩
      case measure => simp [intOf]
    · have HNJ : Hid (∀ w, Below w1.heap.size w1 w → NoJ w (.pointer (some ⟨w1.heap.size, 0, none⟩)) → NoJ w (.pointer (some ⟨w1.heap.size, 0, none⟩))) := Lib.hid (fun w _ h => h)
      have p0 : wr.cell? ⟨w1.heap.size + 1, 1, none⟩ = some (.pointer (some ⟨w1.heap.size, 0, none⟩)) := hsl.cell 1 (by simp)
      have HX := Lib.hid (And.intro hno (And.intro hsl hb))
      have HG := Lib.hid (none_Get _ k wr (HNJ.out _ hb hno))
      clear hno hsl hb
      go_wp2_with fail
      refine HG.out.mono ?_
      rintro e wa ⟨rfl, rfl⟩
      clear HG
      go_wp2_with fail
      refine (none_Commit _ none 0 0 _ (HNJ.out _ HX.out.2.2 HX.out.1)).mono ?_
      rintro e wb ⟨rfl, hb1⟩
      have HX1 := Lib.hid (And.intro (HX.out.1.below hb1) (And.intro (HX.out.2.1.below hb1) (HX.out.2.2.trans (hb1.mono HX.out.2.2.size))))
      clear hb1 HX p0
      go_wp2_with fail
      refine (none_Set _ k _ (HNJ.out _ HX1.out.2.2 HX1.out.1)).mono ?_
      rintro e wc ⟨rfl, hb1⟩
      have HX := Lib.hid (And.intro (HX1.out.1.below hb1) (And.intro (HX1.out.2.1.below hb1) (HX1.out.2.2.trans (hb1.mono HX1.out.2.2.size))))
      clear hb1 HX1
      go_wp2_with fail
      refine (none_Drop _ k _ (HNJ.out _ HX.out.2.2 HX.out.1)).mono ?_
      rintro e wd ⟨rfl, hb1⟩
      have HX1 := Lib.hid (And.intro (HX.out.1.below hb1) (And.intro (HX.out.2.1.below hb1) (HX.out.2.2.trans (hb1.mono HX.out.2.2.size))))
      clear hb1 HX
      go_wp2_with fail
      refine (none_Compact _ _ (HNJ.out _ HX1.out.2.2 HX1.out.1)).mono ?_
      rintro e we ⟨rfl, rfl⟩
      go_wp2_with fail
      refine (none_Keys _ [] _ (HNJ.out _ HX1.out.2.2 HX1.out.1)).mono ?_
      rintro e we ⟨rfl, rfl⟩
      go_wp2_with fail
      refine (none_Weight _ _ (HNJ.out _ HX1.out.2.2 HX1.out.1)).mono ?_
      rintro e we ⟨rfl, rfl⟩
      go_wp2_with fail
      refine (none_Generation _ _ (HNJ.out _ HX1.out.2.2 HX1.out.1)).mono ?_
      rintro e we ⟨rfl, rfl⟩
      go_wp2
      go_roundw
      case rel => exact ⟨by simp, HX1.out.1, HX1.out.2.1, HX1.out.2.2⟩
      case measure => simp [intOf]
    · have HS2 := Lib.hid (HS1.out.below hb HS1.out.pos)
      have HB2 := Lib.hid (HB1.out.trans (hb.mono HB1.out.size))
      clear hno hsl hb HS1 HB1
      go_wp2_with fail
      refine (open_nil wr).mono ?_
      rintro e wa ⟨rfl, rfl⟩
      go_wp2_with fail
      have hb3 : Below wr.heap.size wr (wr.alloc (.cells #[.int .i64 (min n (-2)), .slice none 0 0, .slice none 0 0] 29)) := (Below.refl _ _).alloc (Nat.le_refl _) _
      have HS3 := Lib.hid (HS2.out.below hb3 HS2.out.pos)
      have HB3 := Lib.hid (HB2.out.trans (hb3.mono HB2.out.size))
      refine (open_weak wr.heap.size (min n (-2)) _ _ _ (Blk.new wr 29 [.int .i64 (min n (-2)), .slice none 0 0, .slice none 0 0]) (min_weak n)).mono ?_
      rintro e wa ⟨rfl, rfl⟩
      clear hb3 HS2 HB2
      generalize wr.alloc (.cells #[.int .i64 (min n (-2)), .slice none 0 0, .slice none 0 0] 29) = w3 at *
      obtain ⟨o4, hmk, hz⟩ := mk_bytes 262145 (by omega) w3 (fun _ => True) trivial
      have hmk4 : (Instr.makeSlice 26 (.int .i64 262145) (.int .i64 262145)).run Tryd.prog w3 = .ok (.slice (some ⟨w3.heap.size, 0, none⟩) 262145 262145) (w3.alloc o4) := hmk
      clear hmk hz
      have hb4 : Below w3.heap.size w3 ((w3.alloc o4).alloc (.cells #[.int .i64 (-1), .slice none 0 0, .slice (some ⟨w3.heap.size, 0, none⟩) 262145 262145] 29)) := ((Below.refl _ _).alloc (Nat.le_refl _) _).alloc (by simp) _
      have HS4 := Lib.hid (HS3.out.below hb4 HS3.out.pos)
      have HB4 := Lib.hid (HB3.out.trans (hb4.mono HB3.out.size))
      have hk4 := Blk.new (w3.alloc o4) 29 [.int .i64 (-1), .slice none 0 0, .slice (some ⟨w3.heap.size, 0, none⟩) 262145 262145]
      rw [show (w3.alloc o4).heap.size = w3.heap.size + 1 by simp] at hk4
      have HO4 := Lib.hid (open_long _ (-1) _ _ _ _ _ _ _ hk4 (by omega) (Or.inr (by omega)))
      clear hb4 hk4 HS3 HB3
      go_wp2_with fail
      refine HO4.out.mono ?_
      rintro e wa ⟨rfl, rfl⟩
      clear hmk4 HO4
      generalize (w3.alloc o4).alloc (.cells #[.int .i64 (-1), .slice none 0 0, .slice (some ⟨w3.heap.size, 0, none⟩) 262145 262145] 29) = w4 at *
      go_wp2_with fail
      refine (empty_c w4 HS4.out).mono ?_
      rintro e w5 ⟨rfl, hD, hb5⟩
      have HB5 := Lib.hid (HB4.out.trans (hb5.mono HB4.out.size))
      have HDD := Lib.hid hD
      have hsz4 := HB4.out.size
      generalize hdb : w4.heap.size = db at *
      clear hb5 hdb hD HS4 HB4
      go_wp2_with fail
      refine (open_x HDD.out (empty_ok (-1) (by decide) (by decide))).mono ?_
      rintro e w6 ⟨jb, mb, rfl, hX6, hb6⟩
      have HB6 := Lib.hid (HB5.out.trans (hb6.mono HB5.out.size))
      have hx7 := hX6.below ((Below.refl w6.heap.size w6).alloc (Nat.le_refl _) (.cells #[.int .u8 1] 5))
      have hlt6 := hX6.jw.lt
      have hr7 : RdP (w6.alloc (.cells #[.int .u8 1] 5)) (fun g => g ≠ jb ∧ g ≠ db ∧ g ≠ mb) (.slice (some ⟨w6.heap.size, 0, none⟩) 1 1) [1] := by
        refine Or.inr ⟨w6.heap.size, 0, 1, rfl, Nat.le_refl _, by unfold maxLen; omega, ⟨by omega, by omega, by omega⟩, fun j hj => ?_⟩
        have h := (Blk.new w6 5 [.int .u8 1]).cell j hj
        obtain rfl : j = 0 := by simp at hj; omega
        exact h
      have HS7 := Lib.hid (set_x hx7 [97] [1] _ hr7 (by simp) (by simp))
      obtain ⟨h70, h71⟩ := wj_start FS.start.live
      rw [h70] at HS7
      have HW7 := Lib.hid h71
      have HB7 := Lib.hid (HB6.out.alloc HB6.out.size (.cells #[.int .u8 1] 5))
      have HX7 := Lib.hid hx7
      clear hX6 hb6 hx7 hlt6 hr7 h70 h71 HDD HB5 HB6
      go_wp2_with fail
      refine HS7.out.mono ?_
      rintro e w8 ⟨rfl, hX8, hg8⟩
      have HB8 := Lib.hid (HB7.out.trans ((HX7.out.cut hg8).mono hsz4))
      have HX8 := Lib.hid hX8
      clear hX8 hg8 HS7 HB7 HX7
      generalize (jCommit [⟨[97], [1], false⟩] (jOpen ⟨-1, [], []⟩)).1 = s at *
      obtain ⟨fa0, fc0, fa1, fc1, _, d1, d2, f0, _, _⟩ := HX8.out.jl.dl.cells
      have hcv := conv_c f0
      go_upto_region 22 with (fail)
      have HSZ8 := Lib.hid HX8.out.jw.lt
      have hdrw : Below w8.heap.size w8.drew w8.drew ∧ w8.heap.size ≤ w8.drew.heap.size := ⟨Below.refl _ _, Nat.le_refl _⟩
      have HAL : ∀ (w : World) (o : Obj), (Below w8.heap.size w8.drew w ∧ w8.heap.size ≤ w.heap.size) → (Below w8.heap.size w8.drew (w.alloc o) ∧ w8.heap.size ≤ (w.alloc o).heap.size) := fun w o h => ⟨h.1.alloc h.2 o, by have h2 := ((Below.refl w.heap.size w).alloc (Nat.le_refl _) o).size; omega⟩
      have hmn := wrongT_mono w8.heap.size k
      generalize hB : w8.heap.size = B at *
      refine wp_region_rows' (by kernel_rfl) 142 179 [0, 1, 2, 3, 4, 5, 6, 7, 8, 9, 10, 11, 12, 13, 14, 15, 16, 17, 18, 19, 20, 21, 22, 23, 24, 25, 26, 27, 28, 29, 30, 31, 32, 33, 34, 35, 36] (by kernel_rfl) (by kernel_rfl) (by kernel_rfl) rfl rfl (Nat.le_of_ble_eq_true (by kernel_rfl)) (fun w => Below B w8.drew w ∧ B ≤ w.heap.size) (fun w w' => Below w.heap.size w w') (wrongT B k) (by kernel_rfl) hdrw (fun t ht v ds w w' hE h => hmn t ht v ds w w' hE h) ?_ ?_
      · refine EachI.cons (fun vs w hI hG => ?_) ?_
        · exact row_run (by kernel_rfl) (.agg #[.slice none 0 0, .int .i64 5]) (w) (by kernel_rfl) ⟨hI, Below.refl _ _, rfl⟩
        refine EachI.cons (fun vs w hI hG => ?_) ?_
        · obtain ⟨o, hr, hc⟩ := mk_chgs 65 (by omega) w (fun g => B ≤ g) hI.2
          exact row_run (by kernel_rfl) (.slice (some ⟨w.heap.size, 0, none⟩) 65 65) (w.alloc o) (xw_make _ (fun _ => rfl) _ _ _ _ _ w _ 65 _ _ hr) ⟨HAL w _ hI, (Below.refl w.heap.size w).alloc (Nat.le_refl _) _, hc⟩
        refine EachI.cons (fun vs w hI hG => ?_) ?_
        · have h1 : qChg B (List.replicate 65 ⟨[], [], false⟩) (vs 1) [] w := hG 1 (by kernel_rfl)
          obtain ⟨a, cap, e, _⟩ := h1
          exact row_run (by kernel_rfl) (.agg #[.slice a _ cap, .int .i64 5]) (w) (xw_b74 _ (fun _ => rfl) _ _ _ _ _ w _ _ _ _ 5 (Eq.trans (b := vs 1) (by kernel_rfl) e)) ⟨hI, Below.refl _ _, ⟨(by show Value.agg #[.slice a _ cap, .int .i64 5] = .agg #[vs 1, .int .i64 5]; rw [e]), _, _, _, e⟩⟩
        refine EachI.cons (fun vs w hI hG => ?_) ?_
        · exact row_run (by kernel_rfl) (.agg #[.string ⟨#[]⟩, .slice none 0 0, .bool false]) (w) (by kernel_rfl) ⟨hI, Below.refl _ _, rfl⟩
        refine EachI.cons (fun vs w hI hG => ?_) ?_
        · have e : vs 3 = chV [] nilV false := hG 3 (by kernel_rfl)
          exact row_run (by kernel_rfl) (.slice (some ⟨w.heap.size, 0, none⟩) 1 1) (w.alloc (.cells #[.string ⟨#[]⟩, .slice none 0 0, .bool false] 65)) (xw_bs1 _ (fun _ => rfl) _ _ _ _ _ w _ ⟨#[]⟩ none 0 0 false (Eq.trans (b := vs 3) (by kernel_rfl) e)) ⟨HAL w _ hI, (Below.refl w.heap.size w).alloc (Nat.le_refl _) _, chgs_one w (fun g => B ≤ g) [] [] (.slice none 0 0) false (Or.inl ⟨Or.inl rfl, rfl⟩) hI.2⟩
        refine EachI.cons (fun vs w hI hG => ?_) ?_
        · have h1 : qChg B ([⟨[], [], false⟩]) (vs 4) [] w := hG 4 (by kernel_rfl)
          obtain ⟨a, cap, e, _⟩ := h1
          exact row_run (by kernel_rfl) (.agg #[.slice a _ cap, .int .i64 2]) (w) (xw_b74 _ (fun _ => rfl) _ _ _ _ _ w _ _ _ _ 2 (Eq.trans (b := vs 4) (by kernel_rfl) e)) ⟨hI, Below.refl _ _, ⟨(by show Value.agg #[.slice a _ cap, .int .i64 2] = .agg #[vs 4, .int .i64 2]; rw [e]), _, _, _, e⟩⟩
        refine EachI.cons (fun vs w hI hG => ?_) ?_
        · exact row_run (by kernel_rfl) (strV fortyB) (w) (by kernel_rfl) ⟨hI, Below.refl _ _, rfl⟩
        refine EachI.cons (fun vs w hI hG => ?_) ?_
        · have e : vs 6 = strV fortyB := hG 6 (by kernel_rfl)
          exact row_run (by kernel_rfl) (.string ((⟨fortyB.toArray⟩ : ByteArray) ++ (⟨[48].toArray⟩ : ByteArray))) (w) (xw_add _ (fun _ => rfl) _ _ _ _ _ w _ _ 9 ⟨fortyB.toArray⟩ ⟨[48].toArray⟩ (Eq.trans (b := vs 6) (by kernel_rfl) e) (by kernel_rfl) ba_len41) ⟨hI, Below.refl _ _, congrArg Value.string (ba_app fortyB [48])⟩
        refine EachI.cons (fun vs w hI hG => ?_) ?_
        · exact row_run (by kernel_rfl) (strV k) (w) (by kernel_rfl) ⟨hI, Below.refl _ _, rfl⟩
        refine EachI.cons (fun vs w hI hG => ?_) ?_
        · have e : vs 7 = strV (fortyB ++ [48]) := hG 7 (by kernel_rfl)
          have e2 : vs 8 = strV k := hG 8 (by kernel_rfl)
          exact row_run (by kernel_rfl) (.string ((⟨(fortyB ++ [48]).toArray⟩ : ByteArray) ++ (⟨k.toArray⟩ : ByteArray))) (w) (xw_add _ (fun _ => rfl) _ _ _ _ _ w _ _ 9 ⟨(fortyB ++ [48]).toArray⟩ ⟨k.toArray⟩ (Eq.trans (b := vs 7) (by kernel_rfl) e) (Eq.trans (b := vs 8) (by kernel_rfl) e2) (ba_len k HK.out)) ⟨hI, Below.refl _ _, congrArg Value.string (ba_app (fortyB ++ [48]) k)⟩
        refine EachI.cons (fun vs w hI hG => ?_) ?_
        · have e : vs 9 = strV (fortyB ++ [48] ++ k) := hG 9 (by kernel_rfl)
          exact row_run (by kernel_rfl) (.agg #[strV (fortyB ++ [48] ++ k), .slice none 0 0, .bool false]) (w) (xw_b65s _ (fun _ => rfl) _ _ _ _ _ w _ _ (Eq.trans (b := vs 9) (by kernel_rfl) e)) ⟨hI, Below.refl _ _, rfl⟩
        refine EachI.cons (fun vs w hI hG => ?_) ?_
        · have e : vs 10 = chV (fortyB ++ [48] ++ k) nilV false := hG 10 (by kernel_rfl)
          exact row_run (by kernel_rfl) (.slice (some ⟨w.heap.size, 0, none⟩) 1 1) (w.alloc (.cells #[strV (fortyB ++ [48] ++ k), .slice none 0 0, .bool false] 65)) (xw_bs1 _ (fun _ => rfl) _ _ _ _ _ w _ _ none 0 0 false (Eq.trans (b := vs 10) (by kernel_rfl) e)) ⟨HAL w _ hI, (Below.refl w.heap.size w).alloc (Nat.le_refl _) _, ⟨w.heap.size, rfl, hI.2, Blk.new w 65 [strV (fortyB ++ [48] ++ k), .slice none 0 0, .bool false]⟩⟩
        refine EachI.cons (fun vs w hI hG => ?_) ?_
        · have h1 : pLong B (fortyB ++ [48] ++ k) (vs 11) [vs 10] w := hG 11 (by kernel_rfl)
          obtain ⟨g, e, _⟩ := h1
          exact row_run (by kernel_rfl) (.agg #[.slice (some ⟨g, 0, none⟩) 1 1, .int .i64 2]) (w) (xw_b74 _ (fun _ => rfl) _ _ _ _ _ w _ _ _ _ 2 (Eq.trans (b := vs 11) (by kernel_rfl) e)) ⟨hI, Below.refl _ _, ⟨(by show Value.agg #[.slice (some ⟨g, 0, none⟩) 1 1, .int .i64 2] = .agg #[vs 11, .int .i64 2]; rw [e]), _, _, _, e⟩⟩
        refine EachI.cons (fun vs w hI hG => ?_) ?_
        · exact row_run (by kernel_rfl) (.agg #[.string ⟨#[98]⟩, .slice none 0 0, .bool false]) (w) (by kernel_rfl) ⟨hI, Below.refl _ _, rfl⟩
        refine EachI.cons (fun vs w hI hG => ?_) ?_
        · exact row_run (by kernel_rfl) (.agg #[.string ⟨#[98]⟩, .slice none 0 0, .bool false]) (w) (by kernel_rfl) ⟨hI, Below.refl _ _, rfl⟩
        refine EachI.cons (fun vs w hI hG => ?_) ?_
        · have e : vs 13 = chV [98] nilV false := hG 13 (by kernel_rfl)
          have e2 : vs 14 = chV [98] nilV false := hG 14 (by kernel_rfl)
          exact row_run (by kernel_rfl) (.slice (some ⟨w.heap.size, 0, none⟩) 2 2) (w.alloc (.cells #[.string ⟨#[98]⟩, .slice none 0 0, .bool false, .string ⟨#[98]⟩, .slice none 0 0, .bool false] 65)) (xw_bs2 _ (fun _ => rfl) _ _ _ _ _ w _ _ ⟨#[98]⟩ none 0 0 false ⟨#[98]⟩ none 0 0 false (Eq.trans (b := vs 13) (by kernel_rfl) e) (Eq.trans (b := vs 14) (by kernel_rfl) e2)) ⟨HAL w _ hI, (Below.refl w.heap.size w).alloc (Nat.le_refl _) _, chgs_two w (fun g => B ≤ g) [98] [] (.slice none 0 0) false [98] [] (.slice none 0 0) false (Or.inl ⟨Or.inl rfl, rfl⟩) (Or.inl ⟨Or.inl rfl, rfl⟩) hI.2⟩
        refine EachI.cons (fun vs w hI hG => ?_) ?_
        · have h1 : qChg B ([⟨[98], [], false⟩, ⟨[98], [], false⟩]) (vs 15) [] w := hG 15 (by kernel_rfl)
          obtain ⟨a, cap, e, _⟩ := h1
          exact row_run (by kernel_rfl) (.agg #[.slice a _ cap, .int .i64 2]) (w) (xw_b74 _ (fun _ => rfl) _ _ _ _ _ w _ _ _ _ 2 (Eq.trans (b := vs 15) (by kernel_rfl) e)) ⟨hI, Below.refl _ _, ⟨(by show Value.agg #[.slice a _ cap, .int .i64 2] = .agg #[vs 15, .int .i64 2]; rw [e]), _, _, _, e⟩⟩
        refine EachI.cons (fun vs w hI hG => ?_) ?_
        · exact row_run (by kernel_rfl) (.slice (some ⟨w.heap.size, 0, none⟩) 1 1) (w.alloc (.cells #[.int .u8 1] 5)) (by kernel_rfl) ⟨HAL w _ hI, (Below.refl w.heap.size w).alloc (Nat.le_refl _) _, rd_one w (fun g => B ≤ g) hI.2⟩
        refine EachI.cons (fun vs w hI hG => ?_) ?_
        · have hr2 : RdP w (fun g => B ≤ g) (vs 17) [1] := hG 17 (by kernel_rfl)
          obtain ⟨a2, c2, ea, _⟩ := hr2.toB.open_
          exact row_run (by kernel_rfl) (.agg #[.string ⟨#[97]⟩, .slice a2 1 c2, .bool true]) (w) (xw_b65v _ (fun _ => rfl) _ _ _ _ _ w _ ⟨#[97]⟩ a2 1 c2 (Eq.trans (b := vs 17) (by kernel_rfl) ea)) ⟨hI, Below.refl _ _, ⟨(by show Value.agg #[.string ⟨#[97]⟩, .slice a2 1 c2, .bool true] = .agg #[.string ⟨#[97]⟩, vs 17, .bool true]; rw [ea]; rfl), hr2⟩⟩
        refine EachI.cons (fun vs w hI hG => ?_) ?_
        · have h2 : pAg B [1] (fun ds => chV [97] (ds.getD 0 undef) true) (vs 18) [vs 17] w := hG 18 (by kernel_rfl)
          obtain ⟨e2, hr2⟩ := h2
          have hr2 : RdP w (fun g => B ≤ g) (vs 17) [1] := hr2
          obtain ⟨a2, c2, ea, _⟩ := hr2.toB.open_
          have e2 : vs 18 = chV [97] (vs 17) true := e2
          rw [ea] at e2 hr2
          exact row_run (by kernel_rfl) (.slice (some ⟨w.heap.size, 0, none⟩) 1 1) (w.alloc (.cells #[.string ⟨#[97]⟩, .slice a2 1 c2, .bool true] 65)) (xw_bs1 _ (fun _ => rfl) _ _ _ _ _ w _ ⟨#[97]⟩ a2 1 c2 true (Eq.trans (b := vs 18) (by kernel_rfl) e2)) ⟨HAL w _ hI, (Below.refl w.heap.size w).alloc (Nat.le_refl _) _, chgs_one w (fun g => B ≤ g) [97] [1] _ true hr2 hI.2⟩
        refine EachI.cons (fun vs w hI hG => ?_) ?_
        · have h1 : qChg B ([⟨[97], [1], true⟩]) (vs 19) [] w := hG 19 (by kernel_rfl)
          obtain ⟨a, cap, e, _⟩ := h1
          exact row_run (by kernel_rfl) (.agg #[.slice a _ cap, .int .i64 2]) (w) (xw_b74 _ (fun _ => rfl) _ _ _ _ _ w _ _ _ _ 2 (Eq.trans (b := vs 19) (by kernel_rfl) e)) ⟨hI, Below.refl _ _, ⟨(by show Value.agg #[.slice a _ cap, .int .i64 2] = .agg #[vs 19, .int .i64 2]; rw [e]), _, _, _, e⟩⟩
        refine EachI.cons (fun vs w hI hG => ?_) ?_
        · exact row_run (by kernel_rfl) (.agg #[.string ⟨#[99]⟩, .slice none 0 0, .bool true]) (w) (by kernel_rfl) ⟨hI, Below.refl _ _, rfl⟩
        refine EachI.cons (fun vs w hI hG => ?_) ?_
        · obtain ⟨o, hr, hc⟩ := mk_bytes 4097 (by omega) w (fun g => B ≤ g) hI.2
          exact row_run (by kernel_rfl) (.slice (some ⟨w.heap.size, 0, none⟩) 4097 4097) (w.alloc o) (xw_make _ (fun _ => rfl) _ _ _ _ _ w _ 4097 _ _ hr) ⟨HAL w _ hI, (Below.refl w.heap.size w).alloc (Nat.le_refl _) _, hc⟩
        refine EachI.cons (fun vs w hI hG => ?_) ?_
        · have hr2 : RdP w (fun g => B ≤ g) (vs 22) (List.replicate 4097 0) := hG 22 (by kernel_rfl)
          obtain ⟨a2, c2, ea, _⟩ := hr2.toB.open_
          exact row_run (by kernel_rfl) (.agg #[.string ⟨#[98]⟩, .slice a2 _ c2, .bool false]) (w) (xw_b65w _ (fun _ => rfl) _ _ _ _ _ w _ ⟨#[98]⟩ a2 _ c2 (Eq.trans (b := vs 22) (by kernel_rfl) ea)) ⟨hI, Below.refl _ _, ⟨(by show Value.agg #[.string ⟨#[98]⟩, .slice a2 _ c2, .bool false] = .agg #[.string ⟨#[98]⟩, vs 22, .bool false]; rw [ea]), hr2⟩⟩
        refine EachI.cons (fun vs w hI hG => ?_) ?_
        · have e : vs 21 = chV [99] nilV true := hG 21 (by kernel_rfl)
          have h2 : pAg B (List.replicate 4097 0) (fun ds => chV [98] (ds.getD 0 undef) false) (vs 23) [vs 22] w := hG 23 (by kernel_rfl)
          obtain ⟨e2, hr2⟩ := h2
          have hr2 : RdP w (fun g => B ≤ g) (vs 22) (List.replicate 4097 0) := hr2
          obtain ⟨a2, c2, ea, _⟩ := hr2.toB.open_
          have e2 : vs 23 = chV [98] (vs 22) false := e2
          rw [ea] at e2 hr2
          exact row_run (by kernel_rfl) (.slice (some ⟨w.heap.size, 0, none⟩) 2 2) (w.alloc (.cells #[.string ⟨#[99]⟩, .slice none 0 0, .bool true, .string ⟨#[98]⟩, .slice a2 _ c2, .bool false] 65)) (xw_bs2 _ (fun _ => rfl) _ _ _ _ _ w _ _ ⟨#[99]⟩ none 0 0 true ⟨#[98]⟩ a2 _ c2 false (Eq.trans (b := vs 21) (by kernel_rfl) e) (Eq.trans (b := vs 23) (by kernel_rfl) e2)) ⟨HAL w _ hI, (Below.refl w.heap.size w).alloc (Nat.le_refl _) _, chgs_two w (fun g => B ≤ g) [99] [] (.slice none 0 0) true [98] (List.replicate 4097 0) (.slice a2 _ c2) false (Or.inl ⟨Or.inl rfl, rfl⟩) hr2 hI.2⟩
        refine EachI.cons (fun vs w hI hG => ?_) ?_
        · have h1 : qChg B ([⟨[99], [], true⟩, ⟨[98], List.replicate 4097 0, false⟩]) (vs 24) [] w := hG 24 (by kernel_rfl)
          obtain ⟨a, cap, e, _⟩ := h1
          exact row_run (by kernel_rfl) (.agg #[.slice a _ cap, .int .i64 3]) (w) (xw_b74 _ (fun _ => rfl) _ _ _ _ _ w _ _ _ _ 3 (Eq.trans (b := vs 24) (by kernel_rfl) e)) ⟨hI, Below.refl _ _, ⟨(by show Value.agg #[.slice a _ cap, .int .i64 3] = .agg #[vs 24, .int .i64 3]; rw [e]), _, _, _, e⟩⟩
        refine EachI.cons (fun vs w hI hG => ?_) ?_
        · exact row_run (by kernel_rfl) (.agg #[.string ⟨#[98]⟩, .slice none 0 0, .bool false]) (w) (by kernel_rfl) ⟨hI, Below.refl _ _, rfl⟩
        refine EachI.cons (fun vs w hI hG => ?_) ?_
        · exact row_run (by kernel_rfl) (.agg #[.string ⟨#[99]⟩, .slice none 0 0, .bool true]) (w) (by kernel_rfl) ⟨hI, Below.refl _ _, rfl⟩
        refine EachI.cons (fun vs w hI hG => ?_) ?_
        · have e : vs 26 = chV [98] nilV false := hG 26 (by kernel_rfl)
          have e2 : vs 27 = chV [99] nilV true := hG 27 (by kernel_rfl)
          exact row_run (by kernel_rfl) (.slice (some ⟨w.heap.size, 0, none⟩) 2 2) (w.alloc (.cells #[.string ⟨#[98]⟩, .slice none 0 0, .bool false, .string ⟨#[99]⟩, .slice none 0 0, .bool true] 65)) (xw_bs2 _ (fun _ => rfl) _ _ _ _ _ w _ _ ⟨#[98]⟩ none 0 0 false ⟨#[99]⟩ none 0 0 true (Eq.trans (b := vs 26) (by kernel_rfl) e) (Eq.trans (b := vs 27) (by kernel_rfl) e2)) ⟨HAL w _ hI, (Below.refl w.heap.size w).alloc (Nat.le_refl _) _, chgs_two w (fun g => B ≤ g) [98] [] (.slice none 0 0) false [99] [] (.slice none 0 0) true (Or.inl ⟨Or.inl rfl, rfl⟩) (Or.inl ⟨Or.inl rfl, rfl⟩) hI.2⟩
        refine EachI.cons (fun vs w hI hG => ?_) ?_
        · have h1 : qChg B ([⟨[98], [], false⟩, ⟨[99], [], true⟩]) (vs 28) [] w := hG 28 (by kernel_rfl)
          obtain ⟨a, cap, e, _⟩ := h1
          exact row_run (by kernel_rfl) (.agg #[.slice a _ cap, .int .i64 6]) (w) (xw_b74 _ (fun _ => rfl) _ _ _ _ _ w _ _ _ _ 6 (Eq.trans (b := vs 28) (by kernel_rfl) e)) ⟨hI, Below.refl _ _, ⟨(by show Value.agg #[.slice a _ cap, .int .i64 6] = .agg #[vs 28, .int .i64 6]; rw [e]), _, _, _, e⟩⟩
        refine EachI.cons (fun vs w hI hG => ?_) ?_
        · exact row_run (by kernel_rfl) (.agg #[.string ⟨#[98]⟩, .slice none 0 0, .bool true]) (w) (by kernel_rfl) ⟨hI, Below.refl _ _, rfl⟩
        refine EachI.cons (fun vs w hI hG => ?_) ?_
        · exact row_run (by kernel_rfl) (.agg #[.string ⟨#[]⟩, .slice none 0 0, .bool false]) (w) (by kernel_rfl) ⟨hI, Below.refl _ _, rfl⟩
        refine EachI.cons (fun vs w hI hG => ?_) ?_
        · have e : vs 30 = chV [98] nilV true := hG 30 (by kernel_rfl)
          have e2 : vs 31 = chV [] nilV false := hG 31 (by kernel_rfl)
          exact row_run (by kernel_rfl) (.slice (some ⟨w.heap.size, 0, none⟩) 2 2) (w.alloc (.cells #[.string ⟨#[98]⟩, .slice none 0 0, .bool true, .string ⟨#[]⟩, .slice none 0 0, .bool false] 65)) (xw_bs2 _ (fun _ => rfl) _ _ _ _ _ w _ _ ⟨#[98]⟩ none 0 0 true ⟨#[]⟩ none 0 0 false (Eq.trans (b := vs 30) (by kernel_rfl) e) (Eq.trans (b := vs 31) (by kernel_rfl) e2)) ⟨HAL w _ hI, (Below.refl w.heap.size w).alloc (Nat.le_refl _) _, chgs_two w (fun g => B ≤ g) [98] [] (.slice none 0 0) true [] [] (.slice none 0 0) false (Or.inl ⟨Or.inl rfl, rfl⟩) (Or.inl ⟨Or.inl rfl, rfl⟩) hI.2⟩
        refine EachI.cons (fun vs w hI hG => ?_) ?_
        · have h1 : qChg B ([⟨[98], [], true⟩, ⟨[], [], false⟩]) (vs 32) [] w := hG 32 (by kernel_rfl)
          obtain ⟨a, cap, e, _⟩ := h1
          exact row_run (by kernel_rfl) (.agg #[.slice a _ cap, .int .i64 2]) (w) (xw_b74 _ (fun _ => rfl) _ _ _ _ _ w _ _ _ _ 2 (Eq.trans (b := vs 32) (by kernel_rfl) e)) ⟨hI, Below.refl _ _, ⟨(by show Value.agg #[.slice a _ cap, .int .i64 2] = .agg #[vs 32, .int .i64 2]; rw [e]), _, _, _, e⟩⟩
        refine EachI.cons (fun vs w hI hG => ?_) ?_
        · have e0 : vs 0 = .agg #[.slice none 0 0, .int .i64 5] := hG 0 (by kernel_rfl)
          have h1 : pSt 5 (vs 2) [vs 1] w := hG 2 (by kernel_rfl)
          obtain ⟨e1, a1, n1, c1, f1⟩ := h1
          have f1 : vs 1 = .slice a1 n1 c1 := f1
          have e1 : vs 2 = .agg #[vs 1, .int .i64 5] := e1
          rw [f1] at e1
          have h2 : pSt 2 (vs 5) [vs 4] w := hG 5 (by kernel_rfl)
          obtain ⟨e2, a2, n2, c2, f2⟩ := h2
          have f2 : vs 4 = .slice a2 n2 c2 := f2
          have e2 : vs 5 = .agg #[vs 4, .int .i64 2] := e2
          rw [f2] at e2
          have h3 : pSt 2 (vs 12) [vs 11] w := hG 12 (by kernel_rfl)
          obtain ⟨e3, a3, n3, c3, f3⟩ := h3
          have f3 : vs 11 = .slice a3 n3 c3 := f3
          have e3 : vs 12 = .agg #[vs 11, .int .i64 2] := e3
          rw [f3] at e3
          have h4 : pSt 2 (vs 16) [vs 15] w := hG 16 (by kernel_rfl)
          obtain ⟨e4, a4, n4, c4, f4⟩ := h4
          have f4 : vs 15 = .slice a4 n4 c4 := f4
          have e4 : vs 16 = .agg #[vs 15, .int .i64 2] := e4
          rw [f4] at e4
          have h5 : pSt 2 (vs 20) [vs 19] w := hG 20 (by kernel_rfl)
          obtain ⟨e5, a5, n5, c5, f5⟩ := h5
          have f5 : vs 19 = .slice a5 n5 c5 := f5
          have e5 : vs 20 = .agg #[vs 19, .int .i64 2] := e5
          rw [f5] at e5
          have h6 : pSt 3 (vs 25) [vs 24] w := hG 25 (by kernel_rfl)
          obtain ⟨e6, a6, n6, c6, f6⟩ := h6
          have f6 : vs 24 = .slice a6 n6 c6 := f6
          have e6 : vs 25 = .agg #[vs 24, .int .i64 3] := e6
          rw [f6] at e6
          have h7 : pSt 6 (vs 29) [vs 28] w := hG 29 (by kernel_rfl)
          obtain ⟨e7, a7, n7, c7, f7⟩ := h7
          have f7 : vs 28 = .slice a7 n7 c7 := f7
          have e7 : vs 29 = .agg #[vs 28, .int .i64 6] := e7
          rw [f7] at e7
          have h8 : pSt 2 (vs 33) [vs 32] w := hG 33 (by kernel_rfl)
          obtain ⟨e8, a8, n8, c8, f8⟩ := h8
          have f8 : vs 32 = .slice a8 n8 c8 := f8
          have e8 : vs 33 = .agg #[vs 32, .int .i64 2] := e8
          rw [f8] at e8
          exact row_run (by kernel_rfl) (.slice (some ⟨w.heap.size, 0, none⟩) 9 9) (w.alloc (.cells #[.slice none 0 0, .int .i64 5, .slice a1 n1 c1, .int .i64 5, .slice a2 n2 c2, .int .i64 2, .slice a3 n3 c3, .int .i64 2, .slice a4 n4 c4, .int .i64 2, .slice a5 n5 c5, .int .i64 2, .slice a6 n6 c6, .int .i64 3, .slice a7 n7 c7, .int .i64 6, .slice a8 n8 c8, .int .i64 2] 74)) (xw_bs9 _ (fun _ => rfl) _ _ _ _ _ w _ _ _ _ _ _ _ _ _ none a1 a2 a3 a4 a5 a6 a7 a8 0 0 n1 c1 n2 c2 n3 c3 n4 c4 n5 c5 n6 c6 n7 c7 n8 c8 5 5 2 2 2 2 3 6 2 (Eq.trans (b := vs 0) (by kernel_rfl) e0) (Eq.trans (b := vs 2) (by kernel_rfl) e1) (Eq.trans (b := vs 5) (by kernel_rfl) e2) (Eq.trans (b := vs 12) (by kernel_rfl) e3) (Eq.trans (b := vs 16) (by kernel_rfl) e4) (Eq.trans (b := vs 20) (by kernel_rfl) e5) (Eq.trans (b := vs 25) (by kernel_rfl) e6) (Eq.trans (b := vs 29) (by kernel_rfl) e7) (Eq.trans (b := vs 33) (by kernel_rfl) e8)) ⟨HAL w _ hI, (Below.refl w.heap.size w).alloc (Nat.le_refl _) _, ⟨w.heap.size, rfl, hI.2, (by have h := Blk.new w 74 [.slice none 0 0, .int .i64 5, .slice a1 n1 c1, .int .i64 5, .slice a2 n2 c2, .int .i64 2, .slice a3 n3 c3, .int .i64 2, .slice a4 n4 c4, .int .i64 2, .slice a5 n5 c5, .int .i64 2, .slice a6 n6 c6, .int .i64 3, .slice a7 n7 c7, .int .i64 6, .slice a8 n8 c8, .int .i64 2]; show Blk _ _ _ (flatV [vs 0, vs 2, vs 5, vs 12, vs 16, vs 20, vs 25, vs 29, vs 33]); rw [e0, e1, e2, e3, e4, e5, e6, e7, e8]; exact h)⟩⟩
        refine EachI.cons (fun vs w hI hG => ?_) ?_
        · have h1 : pOut B 74 (vs 34) [vs 0, vs 2, vs 5, vs 12, vs 16, vs 20, vs 25, vs 29, vs 33] w := hG 34 (by kernel_rfl)
          obtain ⟨g, e, _⟩ := h1
          exact row_run (by kernel_rfl) (.int .i64 9) (w) (xw_len _ (fun _ => rfl) _ _ _ _ w _ _ 9 9 (Eq.trans (b := vs 34) (by kernel_rfl) e)) ⟨hI, Below.refl _ _, rfl⟩
        refine EachI.cons (fun vs w hI hG => ?_) ?_
        · exact row_run (by kernel_rfl) (.int .i64 0) (w) (by kernel_rfl) ⟨hI, Below.refl _ _, rfl⟩
        exact EachI.nil
      · intro vs L' hL' w9 hI9 hG9
        obtain ⟨G, xs, e34, e35, e36, hT⟩ := wrT_of_rows hG9 HK.out
        simp only [List.map_cons, List.map_nil, List.take_succ_cons, List.take_zero, List.drop_succ_cons, List.drop_zero, List.cons_append, List.nil_append, e34, e35, e36] at hL'
        subst hL'
        have HT := Lib.hid hT
        have hb9 : Below B w8 w9 := (show Below B w8 w8.drew by rw [← hB]; exact below_drew w8).trans hI9.1
        clear hT hG9 hmn HAL hdrw
        have hb9' : Below w8.heap.size w8 w9 := by rw [hB]; exact hb9
        have HX9 := Lib.hid (HX8.out.below hb9')
        have HB9 := Lib.hid (HB8.out.trans (hb9'.mono HB8.out.size))
        have hjb : jb < B ∧ db < B ∧ mb < B := by have := HSZ8.out; omega
        clear hb9 hb9' hI9 HX8 HB8 d1 d2 f0 hcv HSZ8
        go_wp2_with fail
        go_loopw [178] (fun iv wx => ∃ i : Nat, i ≤ 9 ∧ iv = .int .i64 i ∧ JX db wx db jb mb s ∧ WrT wx B G xs k ∧ Below W.heap.size W wx) (fun i _ => 9 - (intOf i).toNat)
        case atStart => exact ⟨0, by omega, rfl, HX9.out, HT.out, HB9.out⟩
        case round =>
          obtain ⟨i, hi9, rfl, hx, ht, hb⟩ := hrel
          clear HX9 HT HB9
          have HX := Lib.hid hx
          have HT := Lib.hid ht
          have HB := Lib.hid hb
          clear hx ht hb
          by_cases hlt : i < 9
          · have b1 : (decide ((i : Int) < 9)) = true := decide_eq_true (by omega)
            have hil : i < xs.length := by rw [HT.out.len]; exact hlt
            obtain ⟨c0, c1⟩ := HT.out.cells i hil
            obtain ⟨q, hq, hqe, ⟨sa, sn, sc, hsv⟩, _⟩ := HT.out.row i hil
            have HCM : Hid (∀ w, JX db w db jb mb s → WrT w B G xs k → Calls Tryd.prog 15 #[.pointer (some ⟨jb, 0, none⟩), .slice sa sn sc] w fun e w' => e = .returned (.int .i64 xs[i].2) ∧ JX db w' db jb mb s ∧ Grown (Sj db jb mb) w w') := Lib.hid (fun w h1 h2 => by
              have h := wrong_commit h1 HW7.out h2 hjb i hil
              rw [hsv] at h
              exact h)
            rw [hsv] at c0
            generalize xs[i].2 = code at *
            clear hq hqe hsv
            go_upto_region 25 with (fail)
            have hk := Blk.new wr 74 [.slice sa sn sc, .int .i64 code]
            have hba : Below wr.heap.size wr (wr.alloc (.cells #[.slice sa sn sc, .int .i64 code] 74)) := (Below.refl _ _).alloc (Nat.le_refl _) _
            have HX2 := Lib.hid (HX.out.below hba)
            have HT2 := Lib.hid (HT.out.below hba)
            have HB2 := Lib.hid (HB.out.trans (hba.mono HB.out.size))
            have hgl := HX.out.jw.lt
            have hw0 := HB.out.size
            clear hba c0 c1 HX HT HB
            change Code.wp _ _ _ _ (wr.alloc (.cells #[.slice sa sn sc, .int .i64 code] 74))
            generalize wr.alloc (.cells #[.slice sa sn sc, .int .i64 code] 74) = wx at *
            generalize wr.heap.size = g0 at *
            have HKB := Lib.hid hk
            have hxd := HX2.out.below (below_drew wx)
            have htd := HT2.out.below (below_drew wx)
            have hkd := hk.below (below_drew wx)
            have hbd := HB2.out.trans ((below_drew wx).mono HB2.out.size)
            have hcall := (HCM.out wx.drew hxd htd).mono (R' := fun e w' => e = .returned (.int .i64 code) ∧ (JX db w' db jb mb s ∧ WrT w' B G xs k ∧ Blk w' g0 74 [.slice sa sn sc, .int .i64 code] ∧ Below W.heap.size W w')) (by
              rintro e w' ⟨rfl, hX', hg⟩
              exact ⟨rfl, hX', htd.grown hg (fun g hg' hS => by unfold Sj at hS; omega), hkd.grown hg (fun hS => by unfold Sj at hS; omega), hbd.trans ((hxd.cut hg).mono hsz4)⟩)
            have HCALL := Lib.hid hcall
            clear hcall hxd htd hkd hbd hk HCM
            refine wp_region_call' (by kernel_rfl) 3 182 189 [.pointer (some ⟨jb, 0, none⟩), .pointer (some ⟨g0, 0, none⟩), .slice sa sn sc, .int .i64 code, .pointer (some ⟨g0, 1, none⟩), .int .i64 code, .bool false] (fun w' => JX db w' db jb mb s ∧ WrT w' B G xs k ∧ Blk w' g0 74 [.slice sa sn sc, .int .i64 code] ∧ Below W.heap.size W w') (by kernel_rfl) (by kernel_rfl) rfl (by kernel_rfl) rfl rfl (Nat.le_of_ble_eq_true (by kernel_rfl)) ?_ (by kernel_rfl) 15 #[.pointer (some ⟨jb, 0, none⟩), .slice sa sn sc] (by kernel_rfl) HCALL.out ?_
            · intro w' hw'
              have hkk : Blk w' g0 74 [.slice sa sn sc, .int .i64 code] := by
                rcases hw' with rfl | h
                · exact HKB.out.below (below_drew wx)
                · exact h.2.2.1
              have x0 := hkk.cell 0 (by simp)
              have x1 := hkk.cell 1 (by simp)
              constructor
              · refine GvAll.run (by kernel_rfl) (by kernel_rfl) ?_
                refine GvAll.run (by kernel_rfl) (by kernel_rfl) ?_
                refine GvAll.run (by kernel_rfl) (xw_ldc _ (fun _ => rfl) _ _ _ _ _ _ _ _ _ (by kernel_rfl) x0) ?_
                exact GvAll.nil
              · refine GvAll.run (by kernel_rfl) (by kernel_rfl) ?_
                refine GvAll.run (by kernel_rfl) (xw_lde _ (fun _ => rfl) _ _ _ _ _ _ _ _ _ (by kernel_rfl) x1) ?_
                refine GvAll.run (by kernel_rfl) (xw_neq _ (fun _ => rfl) _ _ _ _ _ _ _ _ code (by kernel_rfl) (by kernel_rfl)) ?_
                exact GvAll.nil
            · intro L' hL' w12 hR
              simp only [List.take_succ_cons, List.take_zero, List.drop_succ_cons, List.drop_zero, List.cons_append, List.nil_append] at hL'
              subst hL'
              have HR := Lib.hid hR
              clear hR HKB HX2 HT2 HB2 HCALL
              go_wp2
              go_roundw
              case rel => exact ⟨i + 1, by omega, by go_num, HR.out.1, HR.out.2.1, HR.out.2.2.2⟩
              case measure => simp [intOf]; omega
          · obtain rfl : i = 9 := by omega
            have b1 : (decide (((9 : Nat) : Int) < 9)) = false := by decide
            have hpf : pFind s.ents [97] = some [1] := by rw [ents_up HW7.out.live, HW7.out.ents]; rfl
            have HG := Lib.hid (get_l HX.out.jl [97] (by simp))
            rw [hpf] at HG
            clear hlt HT hpf
            go_wp2_with fail
            refine HG.out.mono ?_
            rintro e w13 ⟨⟨ga, gc, rfl, _⟩, hb13⟩
            have HX13 := Lib.hid (HX.out.below hb13)
            have HB13 := Lib.hid (HB.out.trans (hb13.mono HB.out.size))
            clear hb13 HG HX HB
            obtain ⟨fb0, fd0, fb1, fd1, _, d1, d2, f0, _, _⟩ := HX13.out.jl.dl.cells
            have hcv := conv_c f0
            have hf1 : s.d.f1.length = 0 := by rw [HW7.out.f1]; rfl
            rw [hf1] at d2
            have HS13 := Lib.hid (set_x HX13.out fortyB [] (.slice none 0 0) (Or.inl ⟨Or.inl rfl, rfl⟩) (by simp [fortyB]) (by simp))
            rw [wj_last HW7.out] at HS13
            clear f0 hf1
            go_wp2_with fail
            refine HS13.out.mono ?_
            rintro e w14 ⟨rfl, _, hg14⟩
            have HB14 := Lib.hid (HB13.out.trans ((HX13.out.cut hg14).mono hsz4))
            clear hg14 HS13
            go_wp2
            go_ret
            exact ⟨rfl, HB14.out⟩
end Go.Proofs.YtondomklkapogaaDoor
