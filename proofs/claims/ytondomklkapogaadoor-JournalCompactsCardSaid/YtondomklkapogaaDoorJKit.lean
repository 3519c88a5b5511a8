/- Small contracts that several laws use: a string's bytes; bytes compared. -/
import Derived.Test.YtondomklkapogaaDoorJMap
import Derived.Deep.QuietTactic
import Derived.BigQuiet
namespace Go.Proofs.YtondomklkapogaaDoor
open Go.RowKit SeedP Go.Maps
theorem conv_sb (w : World) (l : List UInt8) (hl : l.length ≤ maxLen) : ∃ c w', (convert 9 26 (strV l)).run Tryd.prog w = .ok (.slice (some ⟨w.heap.size, 0, none⟩) l.length c) w' ∧ RdP w' (fun g => g = w.heap.size) (.slice (some ⟨w.heap.size, 0, none⟩) l.length c) l ∧ Below w.heap.size w w' := by
  have hr := run_bytes_of_string (P := Tryd.prog) w 9 26 5 ⟨l.toArray⟩ Tryd.underlying9 Tryd.underlying26 Tryd.underlying5
  have hs : (⟨l.toArray⟩ : ByteArray).size = l.length := List.size_toArray
  rw [hs] at hr
  have hge := grownCap_ge w l.length 0 5
  have hle := grownCap_le_maxLen w l.length 0 5 hl
  generalize grownCap w l.length 0 5 = c at *
  refine ⟨c, _, hr, Or.inr ⟨w.heap.size, 0, c, rfl, hge, hle, rfl, fun j hj => ?_⟩, (((Below.refl _ w).drew).alloc (Nat.le_refl _) _)⟩
  rw [Nat.zero_add, cell_of_row _ w.heap.size j (bytesRow ⟨l.toArray⟩ c) 5 _ (heap_alloc_new w.drew _)]
  unfold bytesRow
  rw [Array.getElem?_append_left (by simpa using hj)]
  rw [List.getD_eq_getElem?_getD, List.getElem?_eq_getElem hj]
  simp [hj]
set_option maxRecDepth 100000 in
theorem sameBytes_c (va vb : Value) (la lb : List UInt8) (w : World) (ha : RdB w w.heap.size va la) (hb : RdB w w.heap.size vb lb) :
    Calls Tryd.prog 24 #[va, vb] w fun e w' => e = .returned (.bool (decide (la = lb))) ∧ Below w.heap.size w w' := by
  obtain ⟨aa, ca, rfl, hma, _, hca⟩ := ha.open_
  obtain ⟨ab, cb, rfl, hmb, _, hcb⟩ := hb.open_
  unfold maxLen at hma hmb
  have HA := Lib.hid hca
  have HB := Lib.hid hcb
  clear hca hcb ha hb
  by_cases hl : la.length = lb.length
  · have HD := Lib.hid hl
    rw [← hl]
    clear hl
    go_enter Tryd.func24, Tryd.ntmps24
    go_wp2
    go_loopw [5] (fun i wr => ∃ j : Nat, j ≤ la.length ∧ i = .int .i64 j ∧ Hid (la.take j = lb.take j) ∧ Below w.heap.size w wr) (fun i _ => la.length - (intOf i).toNat)
    case atStart => exact ⟨0, Nat.zero_le _, rfl, Lib.hid rfl, Below.refl _ _⟩
    case round =>
      obtain ⟨j, hj, rfl, HT, hb⟩ := hrel
      by_cases hlt : j < la.length
      · rcases HA.out with rfl | ⟨ga, oa, rfl, _, _, hga, hcella⟩
        · simp at hlt
        rcases HB.out with e | ⟨gb, ob, rfl, _, _, hgb, hcellb⟩
        · have h2 := HD.out; rw [e] at h2; have h3 : la.length = 0 := h2; omega
        have c1 := keep_cell hb (hcella j hlt)
        have c2 := keep_cell hb (hcellb j (by rw [← HD.out]; exact hlt))
        have hE := Lib.hid (show la.take (j + 1) = la.take j ++ [la.getD j 0] ∧ lb.take (j + 1) = lb.take j ++ [lb.getD j 0] from ⟨by rw [List.take_succ_eq_append_getElem hlt, List.getD_eq_getElem?_getD, List.getElem?_eq_getElem hlt]; rfl, by rw [List.take_succ_eq_append_getElem (by rw [← HD.out]; exact hlt), List.getD_eq_getElem?_getD, List.getElem?_eq_getElem (by rw [← HD.out]; exact hlt)]; rfl⟩)
        generalize la.getD j 0 = x at *
        generalize lb.getD j 0 = y at *
        have HBB := Lib.hid hb
        have hx8 := x.toNat_lt
        have hy8 := y.toNat_lt
        by_cases hxy : x = y
        · subst hxy
          have hne : (((x.toNat : Int)) != ((x.toNat : Int))) = false := by simp
          have HN := Lib.hid (show la.take (j + 1) = lb.take (j + 1) by rw [hE.out.1, hE.out.2, HT.out])
          clear hcella hcellb hga hgb hb HT hE
          go_upto_region 6 with (fail)
          go_quiet (fail)
          all_goals
            go_wp2
            go_roundw
            case rel => exact ⟨j + 1, by omega, by go_num, HN, below_drewN HBB.out _⟩
            case measure => simp [intOf]; omega
        · have hne : (((x.toNat : Int)) != ((y.toNat : Int))) = true := by
            simp only [bne_iff_ne, ne_eq]
            exact fun e => hxy (UInt8.toNat_inj.1 (by omega))
          have HN := Lib.hid (show decide (la = lb) = false from decide_eq_false (fun e => by
            have h := hE.out
            rw [e] at h
            have := List.append_cancel_left (h.1.symm.trans h.2)
            exact hxy (by injection this)))
          clear hcella hcellb hga hgb hb HT hE hxy
          go_upto_region 6 with (fail)
          go_quiet (fail)
          all_goals
            go_wp2
            go_ret
            exact ⟨by rw [HN.out]; rfl, below_drewN HBB.out _⟩
      · obtain rfl : j = la.length := by omega
        have HN := Lib.hid (show decide (la = lb) = true from decide_eq_true (by
          have h := HT.out
          rw [List.take_length, HD.out, List.take_length] at h
          exact h))
        clear HT
        go_wp2
        go_ret
        exact ⟨by rw [HN.out]; rfl, hb⟩
  · have HN := Lib.hid (show decide (la = lb) = false from decide_eq_false (fun e => hl (by rw [e])))
    have hne : ((la.length : Int) != (lb.length : Int)) = true := by simp only [bne_iff_ne, ne_eq]; omega
    clear hl
    go_enter Tryd.func24, Tryd.ntmps24
    go_wp2
    go_ret
    exact ⟨by rw [HN.out]; rfl, Below.refl _ _⟩
end Go.Proofs.YtondomklkapogaaDoor
