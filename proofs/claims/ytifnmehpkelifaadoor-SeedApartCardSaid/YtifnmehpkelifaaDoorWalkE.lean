/- The walks of Choose and of its reference. -/
import Derived.Test.YtifnmehpkelifaaDoorWalkD
namespace Go.Proofs.YtifnmehpkelifaaDoor
open Go.RowKit SeedP
theorem info4 : (Tryd.prog.info? 4).map (fun i => (i.zero, i.size, i.bytes)) = some (some (.bool false), 1, 1) := by kernel_rfl
def bools (l : List Bool) : List Value := l.map Value.bool
theorem bools_length (l : List Bool) : (bools l).length = l.length := by simp [bools]
def falses (n : Nat) : List Bool := List.replicate n false
theorem make67 (n : Nat) (hn : n ≤ 4294967296) (w : World) : (Instr.makeSlice 67 (.int .i64 (n : Int)) (.int .i64 (n : Int))).run Tryd.prog w = .ok (.slice (some ⟨w.heap.size, 0, none⟩) n n) (w.alloc (.cells (bools (falses n)).toArray 4)) := by
  obtain ⟨i, hi, h1, h2, h3⟩ := info_parts info4
  have hr := run_make (P := Tryd.prog) w 67 4 i _ Tryd.underlying67 hi h1 .i64 .i64 n n (by omega) (Int.le_refl _) (by rw [h3]; omega) (by omega)
  rw [h2, Nat.mul_one] at hr
  simp only [Int.toNat_natCast] at hr
  rw [hr]
  have : madeCells (Value.bool false).cells n = (bools (falses n)).toArray := by
    apply Array.toList_inj.1
    show (madeCells #[Value.bool false] n).toList = _
    rw [toList_madeCells_one]; simp [bools, falses]
  rw [this]
theorem Blk.bool {w : World} {g : Nat} {e : TypeId} {C : List Bool} (h : Blk w g e (bools C)) (j : Nat) (hj : j < C.length) : w.cell? ⟨g, j, none⟩ = some (.bool (C.getD j false)) := by
  rw [h.cell j (by rw [bools_length]; exact hj)]
  simp [bools, List.getD_eq_getElem?_getD, List.getElem?_eq_getElem hj]
theorem Blk.setBool {w : World} {g : Nat} {e : TypeId} {C : List Bool} (h : Blk w g e (bools C)) (j : Nat) (x : Bool) : Blk (w.setCell ⟨g, j, none⟩ (.bool x)) g e (bools (C.set j x)) := by
  have := h.set j (.bool x)
  have e : (bools C).set j (.bool x) = bools (C.set j x) := by simp [bools, List.map_set]
  rwa [e] at this
/-- the boxes of a function that draws, and its row -/
structure PInv2 (w wr : World) (key i : Int) (e : TypeId) (xs : List Value) : Prop where
  st : St wr
  bi : Blk wr (w.heap.size + 1) 3 (ints .i64 [i])
  b2 : Blk wr (w.heap.size + 1 + 1) 65 [.pointer (some ⟨w.heap.size + 1, 0, none⟩)]
  b3 : Blk wr (w.heap.size + 1 + 1 + 1) 35 [.func (.func 17) #[.agg #[.int .u64 key]] #[]]
  row : Blk wr (w.heap.size + 1 + 1 + 1 + 1) e xs
  below : Below w.heap.size w wr
theorem PInv2.keep {w wr w1 : World} {key i : Int} {e : TypeId} {xs : List Value} (h : PInv2 w wr key i e xs) (hb : Below wr.heap.size wr w1) : PInv2 w w1 key i e xs :=
  ⟨h.st.below hb h.st.pos, h.bi.below hb, h.b2.below hb, h.b3.below hb, h.row.below hb, h.below.trans (hb.mono h.below.size)⟩
theorem PInv2.draw {w wr w1 : World} {key i : Int} {e : TypeId} {xs : List Value} (h : PInv2 w wr key i e xs) (hb : Below wr.heap.size wr w1) (nx : Int) : PInv2 w (w1.setCell ⟨w.heap.size + 1, 0, none⟩ (.int .i64 nx)) key nx e xs :=
  have k := h.keep hb
  ⟨k.st.block (Below.heap_setCell _ _ _ _ (by simp <;> omega)), k.bi.setInt 0 nx, k.b2.other (by simp <;> omega) _, k.b3.other (by simp <;> omega) _, k.row.other (by simp <;> omega) _, k.below.setCell (by simp) _⟩
theorem PInv2.setBool {w wr : World} {key i : Int} {C : List Bool} (h : PInv2 w wr key i 4 (bools C)) (j : Nat) (x : Bool) : PInv2 w (wr.setCell ⟨w.heap.size + 1 + 1 + 1 + 1, j, none⟩ (.bool x)) key i 4 (bools (C.set j x)) :=
  ⟨h.st.block (Below.heap_setCell _ _ _ _ (by simp <;> omega)), h.bi.other (by simp <;> omega) _, h.b2.other (by simp <;> omega) _, h.b3.other (by simp <;> omega) _, h.row.setBool j x, h.below.setCell (by simp <;> omega) _⟩
/-- behind an append: one block of the call's own, from the row on, has changed -/
theorem PInv2.grown {w wr w1 : World} {key i : Int} {e : TypeId} {xs : List Value} (h : PInv2 w wr key i e xs) {row : Option Nat} (hg : wr.grownBy w1 row) (hr : ∀ k, row = some k → w.heap.size + 1 + 1 + 1 + 1 < k) : PInv2 w w1 key i e xs := by
  have hb : ∀ k, k ≤ w.heap.size + 1 + 1 + 1 + 1 → w1.heap[k]? = wr.heap[k]? := fun k hk => hg.block k (by have := h.row.lt; omega) (fun e => by have := hr k e.symm; omega)
  exact ⟨h.st.block (hb 0 (by omega)), h.bi.block (hb _ (by omega)), h.b2.block (hb _ (by omega)), h.b3.block (hb _ (by omega)), h.row.block (hb _ (by omega)), h.below.grown hg (by have := h.below.size; omega) (fun k e => by have := hr k e; omega)⟩
theorem trues_append : ∀ (l r : List Bool) (b : Nat), trues b (l ++ r) = trues b l ++ trues (b + l.length) r := by
  intro l
  induction l with
  | nil => intro r b; rfl
  | cons x l ih =>
    intro r b
    simp only [List.cons_append, trues, List.length_cons]
    rw [ih r (b + 1), show b + 1 + l.length = b + (l.length + 1) by omega]
    split <;> rfl
theorem trues_next (C : List Bool) (b : Nat) (hb : b < C.length) : trues 0 (C.take (b + 1)) = trues 0 (C.take b) ++ if C.getD b false then [(b : Int)] else [] := by
  rw [List.take_succ_eq_append_getElem hb, trues_append]
  have e : 0 + (C.take b).length = b := by simp; omega
  rw [e]
  simp only [trues, List.getD_eq_getElem?_getD, List.getElem?_eq_getElem hb, Option.getD_some]
theorem trues_len (C : List Bool) : ∀ b, (trues b C).length ≤ C.length := by
  induction C with
  | nil => intro b; simp [trues]
  | cons x C ih => intro b; simp only [trues]; have := ih (b + 1); split <;> simp <;> omega
theorem chooseL_go (wd : Int → Int) (f m : Nat) (C : List Bool) (i : Int) (h : (belowP wd i ((m : Int) + 1)).2.2 = 0) :
    chooseL wd (f + 1) m C i = chooseL wd f (m + 1) (C.set (if C.getD (belowP wd i ((m : Int) + 1)).1.toNat false then m else (belowP wd i ((m : Int) + 1)).1.toNat) true) (belowP wd i ((m : Int) + 1)).2.1 := by
  rw [chooseL, if_pos h]
theorem chooseL_stop (wd : Int → Int) (f m : Nat) (C : List Bool) (i : Int) (h : (belowP wd i ((m : Int) + 1)).2.2 ≠ 0) : chooseL wd (f + 1) m C i = ([], 0, (belowP wd i ((m : Int) + 1)).2.2) := by
  rw [chooseL, if_neg h]
/-- Choose (22) -/
theorem choose_c (key i n k : Int) (w : World) (hs : St w) (i0 : -9223372036854775808 ≤ i) (i1 : i ≤ 9223372036854775807) :
    Calls Tryd.prog 22 #[.agg #[.int .u64 key], .int .i64 i, .int .i64 n, .int .i64 k] w (PostL (chooseP (wordI key) i n k) w) := by
  by_cases hb : i < 0 ∨ 1099511627776 < i ∨ n < 0 ∨ 1000 < n ∨ k < 0 ∨ n < k
  · have H := Lib.hid (show chooseP (wordI key) i n k = ([], 0, 2) by unfold chooseP; rw [if_pos hb])
    have HB := Lib.hid hb
    clear hb
    generalize chooseP (wordI key) i n k = R at *
    by_cases h0 : i < 0
    · go_enter Tryd.func22, Tryd.ntmps22
      go_wp2
      go_ret3
      exact postL H.out (rd_nil _) (((Below.refl _ _).alloc (Nat.le_refl _) _).alloc (by simp) _)
    by_cases h1 : 1099511627776 < i
    · go_enter Tryd.func22, Tryd.ntmps22
      go_wp2
      go_ret3
      exact postL H.out (rd_nil _) (((Below.refl _ _).alloc (Nat.le_refl _) _).alloc (by simp) _)
    by_cases h2 : n < 0
    · go_enter Tryd.func22, Tryd.ntmps22
      go_wp2
      go_ret3
      exact postL H.out (rd_nil _) (((Below.refl _ _).alloc (Nat.le_refl _) _).alloc (by simp) _)
    by_cases h3 : 1000 < n
    · go_enter Tryd.func22, Tryd.ntmps22
      go_wp2
      go_ret3
      exact postL H.out (rd_nil _) (((Below.refl _ _).alloc (Nat.le_refl _) _).alloc (by simp) _)
    by_cases h4 : k < 0
    · go_enter Tryd.func22, Tryd.ntmps22
      go_wp2
      go_ret3
      exact postL H.out (rd_nil _) (((Below.refl _ _).alloc (Nat.le_refl _) _).alloc (by simp) _)
    have h5 : n < k := by have := HB.out; omega
    go_enter Tryd.func22, Tryd.ntmps22
    go_wp2
    go_ret3
    exact postL H.out (rd_nil _) (((Below.refl _ _).alloc (Nat.le_refl _) _).alloc (by simp) _)
  · have h0 : 0 ≤ i := by omega
    have h1 : i ≤ 1099511627776 := by omega
    have h2 : 0 ≤ n := by omega
    have h3 : n ≤ 1000 := by omega
    have h4 : 0 ≤ k := by omega
    have h5 : k ≤ n := by omega
    have H := Lib.hid (show chooseP (wordI key) i n k = (trues 0 (chooseL (wordI key) k.toNat (n - k).toNat (falses n.toNat) i).1, (chooseL (wordI key) k.toNat (n - k).toNat (falses n.toNat) i).2) by unfold chooseP; rw [if_neg hb]; rfl)
    obtain ⟨n, rfl⟩ := Int.eq_ofNat_of_zero_le h2
    obtain ⟨k, rfl⟩ := Int.eq_ofNat_of_zero_le h4
    have hmk := make67 n (by omega)
    have hnk : (n : Int) - k = ((n - k : Nat) : Int) := by omega
    have HK := Lib.hid hnk
    clear hb i0 i1 hnk
    generalize chooseP (wordI key) i n k = R at *
    go_enter Tryd.func22, Tryd.ntmps22
    go_wp2_with fail
    refine (drawer_c _ _ _ _ _).mono ?_
    rintro e w1 ⟨rfl, rfl⟩
    go_wp2
    have P0 : PInv2 w (((((w.alloc (.cells #[.int .u64 key] 31)).alloc (.cells #[.int .i64 i] 3)).alloc (.cells #[.pointer (some ⟨w.heap.size + 1, 0, none⟩)] 65)).alloc (.cells #[.func (.func 17) #[.agg #[.int .u64 key]] #[]] 35)).alloc (.cells (bools (falses n)).toArray 4)) key i 4 (bools (falses n)) := by
      refine ⟨((((hs.alloc _).alloc _).alloc _).alloc _).alloc _, ?_, ?_, ?_, ?_, ?_⟩
      · exact (((Blk.at _ 3 (ints .i64 [i]) (by simp)).alloc _).alloc _).alloc _
      · exact ((Blk.at _ 65 [.pointer (some ⟨w.heap.size + 1, 0, none⟩)] (by simp)).alloc _).alloc _
      · exact (Blk.at _ 35 [.func (.func 17) #[.agg #[.int .u64 key]] #[]] (by simp)).alloc _
      · exact Blk.at _ 4 _ (by simp)
      · exact (((((Below.refl _ _).alloc (Nat.le_refl _) _).alloc (by simp) _).alloc (by simp <;> omega) _).alloc (by simp <;> omega) _).alloc (by simp <;> omega) _
    generalize ((((w.alloc (.cells #[.int .u64 key] 31)).alloc (.cells #[.int .i64 i] 3)).alloc (.cells #[.pointer (some ⟨w.heap.size + 1, 0, none⟩)] 65)).alloc (.cells #[.func (.func 17) #[.agg #[.int .u64 key]] #[]] 35)).alloc (.cells (bools (falses n)).toArray 4) = w0 at *
    clear hmk
    rw [HK.out]
    have HR0 := Lib.hid (show chooseL (wordI key) k (n - k) (falses n) i = chooseL (wordI key) (k : Int).toNat ((n : Int) - k).toNat (falses (n : Int).toNat) i by rw [HK.out]; rfl)
    generalize chooseL (wordI key) (k : Int).toNat ((n : Int) - k).toNat (falses (n : Int).toNat) i = R0 at *
    go_loopw [13] (fun c wr => ∃ f m : Nat, m + f = n ∧ c = .int .i64 m ∧ ∃ (i' : Int) (C : List Bool), 0 ≤ i' ∧ i' ≤ 1099511627776 ∧ C.length = n ∧ PInv2 w wr key i' 4 (bools C) ∧ chooseL (wordI key) f m C i' = R0) (fun c _ => n - (intOf c).toNat)
    case atStart => exact ⟨k, n - k, by omega, rfl, i, _, h0, h1, by simp [falses], P0, HR0.out⟩
    case round =>
      obtain ⟨f, m, hm, rfl, i', C, i0, i1, hL, hP, hR⟩ := hrel
      have HM := Lib.hid hm
      have HL := Lib.hid hL
      have HR := Lib.hid hR
      clear hL hR P0 hm
      rcases f with _ | f
      · obtain rfl : m = n := by have := HM.out; omega
        have HR1 := Lib.hid (show R = (trues 0 C, i', 0) from H.out.trans (by rw [← HR.out]; rfl))
        obtain ⟨i3, hi3, hz1, hz2, hz3⟩ := info_parts info3
        clear HR HM HR0 H
        go_wp2
        go_loopw [16, 75] (fun v c wr => ∃ b : Nat, b ≤ m ∧ c = .int .i64 b ∧ wr.ownsRow (w.heap.size + 1 + 1 + 1 + 1 + 1) 3 1 v (trues 0 (C.take b)).length (ints .i64 (trues 0 (C.take b))) ∧ PInv2 w wr key i' 4 (bools C)) (fun _ c _ => m - (intOf c).toNat)
        case atStart => exact ⟨0, Nat.zero_le _, rfl, by simpa [trues, ints] using World.ownsRow_nil wr _ _ _, hP⟩
        case round =>
          obtain ⟨b, hb, rfl, hown, hP'⟩ := hrel
          clear hP
          by_cases hlt : b < m
          · have c1 := hP'.row.bool b (by have := HL.out; omega)
            have HN := Lib.hid (trues_next C b (by have := HL.out; omega))
            have hlen : (trues 0 (C.take b)).length ≤ 1000 := by
              have := trues_len (C.take b) 0
              have h2 : (C.take b).length ≤ b := List.length_take_le _ _
              omega
            have hbs : w.heap.size + 1 + 1 + 1 + 1 + 1 ≤ wr.heap.size := by have := hP'.row.lt; omega
            cases hv : C.getD b false with
            | true =>
              rw [hv] at c1
              have HN2 := Lib.hid (show trues 0 (C.take (b + 1)) = trues 0 (C.take b) ++ [(b : Int)] from HN.out.trans (by rw [hv]; rfl))
              clear HN hv
              generalize trues 0 (C.take b) = acc at *
              go_wp2_with (at_builtin; refine wpList_append_own _ rfl _ _ 25 rfl (w.heap.size + 1 + 1 + 1 + 1 + 1) 3 i3 (.int .i64 0) 1 8 Tryd.underlying25 hi3 hz1 hz2 hz3 rfl (by decide) _ acc.length (ints .i64 acc) rfl (hown.alloc _) ⟨wr.heap.size, 0, none⟩ 1 1 [.int .i64 b] rfl rfl ?c1 ?c2 ?c3 ?c4 ?c5 ?_)
              case c1 => exact cell_one_new _ _ _
              case c2 => simp [Value.oneCell']
              case c3 => unfold maxLen; omega
              case c4 => omega
              case c5 => simp; omega
              intro v' w1 hown1 hg1 _
              have hP1 := (hP'.keep (w1 := wr.alloc (.cells #[.int .i64 b] 3)) ((Below.refl _ _).alloc (Nat.le_refl _) _)).grown hg1 (fun k hk => by have := (hown.lt k hk).1; omega)
              clear hown hg1 hP'
              go_wp2
              go_roundw
              case rel => exact ⟨b + 1, by omega, by go_num, by rw [HN2.out]; simpa [ints] using hown1, hP1⟩
              case measure => simp [intOf]; omega
            | false =>
              rw [hv] at c1
              have HN2 := Lib.hid (show trues 0 (C.take (b + 1)) = trues 0 (C.take b) from HN.out.trans (by rw [hv]; simp))
              clear HN hv
              go_wp2
              go_roundw
              case rel => exact ⟨b + 1, by omega, by go_num, by rw [HN2.out]; exact hown, hP'⟩
              case measure => simp [intOf]; omega
          · obtain rfl : b = m := by omega
            have HF := Lib.hid (show trues 0 (C.take b) = trues 0 C by rw [List.take_of_length_le (by have := HL.out; omega)])
            have c1 := hP'.bi.int 0 (by simp)
            simp only [List.getD_cons_zero] at c1
            go_wp2
            go_quiet (fail)
            go_wp2
            go_ret3
            exact postL HR1.out ((by rw [← HF.out]; exact (Rd.of_owns hown).below (below_drewN (Below.refl _ _) _))) (below_drewN hP'.below _)
      · have hmn : m < n := by have := HM.out; omega
        by_cases he : (belowP (wordI key) i' ((m : Int) + 1)).2.2 = 0
        · obtain ⟨_, _, v0, v1, x0, x1⟩ := belowP_good _ _ _ he
          have HG := Lib.hid ((chooseL_go (wordI key) f m C i' he).symm.trans HR.out)
          have HD := Lib.hid (draw_ok key i' ((m : Int) + 1) _ _ _ _ hP.st (by omega) (by omega) (by omega) (hP.b3.cell 0 (by simp)) (hP.b2.cell 0 (by simp)) (hP.bi.cell 0 (by simp [ints])) (hP.bi.frozen 0) he)
          clear he
          generalize belowP (wordI key) i' ((m : Int) + 1) = d at *
          obtain ⟨v, nx, er⟩ := d
          simp only at v0 v1 x0 x1
          obtain ⟨v, rfl⟩ := Int.eq_ofNat_of_zero_le v0
          go_wp2_with fail
          refine HD.out.mono ?_
          rintro e w1 ⟨rfl, w2, hb2, rfl⟩
          have HP := Lib.hid (hP.draw hb2 nx)
          clear HD
          generalize w2.setCell ⟨w.heap.size + 1, 0, none⟩ (.int .i64 nx) = w3 at *
          have c1 := HP.out.row.bool v (by have := HL.out; omega)
          have f1 := HP.out.row.frozen v
          have c2 := HP.out.row.bool m (by have := HL.out; omega)
          have f2 := HP.out.row.frozen m
          cases hv : C.getD v false with
          | true =>
            have HG2 := Lib.hid (show chooseL (wordI key) f (m + 1) (C.set m true) nx = R0 by have := HG.out; simp only [Int.toNat_natCast, hv, if_true] at this; exact this)
            have HS := Lib.hid (HP.out.setBool m true)
            rw [hv] at c1
            clear HG HP hv
            generalize C.getD m false = y at *
            go_wp2
            go_roundw
            case rel => exact ⟨f, m + 1, by have := HM.out; omega, by go_num, nx, _, by omega, by omega, by rw [List.length_set]; exact HL.out, HS.out, HG2.out⟩
            case measure => simp [intOf]; omega
          | false =>
            have HG2 := Lib.hid (show chooseL (wordI key) f (m + 1) (C.set v true) nx = R0 by have := HG.out; simp only [Int.toNat_natCast, hv] at this; exact this)
            have HS := Lib.hid (HP.out.setBool v true)
            rw [hv] at c1
            clear HG HP hv
            generalize C.getD m false = y at *
            go_wp2
            go_roundw
            case rel => exact ⟨f, m + 1, by have := HM.out; omega, by go_num, nx, _, by omega, by omega, by rw [List.length_set]; exact HL.out, HS.out, HG2.out⟩
            case measure => simp [intOf]; omega
        · have HG := Lib.hid ((chooseL_stop (wordI key) f m C i' he).symm.trans HR.out)
          have HD := Lib.hid (draw_err key i' ((m : Int) + 1) _ _ _ _ hP.st (by omega) (by omega) (by omega) (hP.b3.cell 0 (by simp)) (hP.b2.cell 0 (by simp)) (hP.bi.cell 0 (by simp [ints])) he)
          have t0 : ((belowP (wordI key) i' ((m : Int) + 1)).2.2 != 0) = true := by rw [bne_iff_ne]; exact he
          clear he
          generalize belowP (wordI key) i' ((m : Int) + 1) = d at *
          go_wp2_with fail
          refine HD.out.mono ?_
          rintro e w1 ⟨rfl, hb2⟩
          go_wp2
          go_ret3
          exact postL (H.out.trans (by rw [← HG.out]; rfl)) (rd_nil _) (hP.below.trans (hb2.mono hP.below.size))
end Go.Proofs.YtifnmehpkelifaaDoor
