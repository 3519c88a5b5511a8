/- The walks of Weigh and of its reference. -/
import Derived.Test.YtifnmehpkelifaaDoorWalkF
namespace Go.Proofs.YtifnmehpkelifaaDoor
open Go.RowKit SeedP
/-- the sum of the first elements -/
def S (l : List Int) (j : Nat) : Int := (l.take j).sum
theorem S_zero (l : List Int) : S l 0 = 0 := rfl
theorem S_succ (l : List Int) (j : Nat) (h : j < l.length) : S l (j + 1) = S l j + l.getD j 0 := by
  unfold S
  rw [List.take_succ_eq_append_getElem h, List.sum_append, List.getD_eq_getElem?_getD, List.getElem?_eq_getElem h]; simp
theorem S_len (l : List Int) : S l l.length = l.sum := by unfold S; rw [List.take_length]
theorem S_bd (l : List Int) : ∀ k : Nat, k ≤ l.length → (∀ j, j < k → 0 ≤ l.getD j 0 ∧ l.getD j 0 ≤ 1099511627776) → 0 ≤ S l k ∧ S l k ≤ k * 1099511627776 := by
  intro k
  induction k with
  | zero => intro _ _; rw [S_zero]; omega
  | succ k ih =>
    intro hk h
    have := ih (by omega) (fun j hj => h j (by omega))
    have := h k (by omega)
    rw [S_succ l k (by omega)]; omega
theorem S_mono (l : List Int) (h : ∀ j, j < l.length → 0 ≤ l.getD j 0) (a : Nat) : ∀ b, a ≤ b → b ≤ l.length → S l a ≤ S l b := by
  intro b
  induction b with
  | zero => intro hab _; obtain rfl : a = 0 := by omega
            exact Int.le_refl _
  | succ b ih =>
    intro hab hb
    by_cases e : a = b + 1
    · rw [e]; exact Int.le_refl _
    · have := ih (by omega) (by omega)
      have := h b (by omega)
      rw [S_succ l b (by omega)]; omega
theorem drop_cons (l : List Int) (j : Nat) (h : j < l.length) : l.drop j = l.getD j 0 :: l.drop (j + 1) := by
  rw [List.drop_eq_getElem_cons h, List.getD_eq_getElem?_getD, List.getElem?_eq_getElem h]; rfl
theorem upAt_next (t : Int) (l : List Int) (j : Nat) (h : j < l.length) (ht : ¬ t < S l (j + 1)) : upAt t (S l j) (l.drop j) = upAt t (S l (j + 1)) (l.drop (j + 1)) + 1 := by
  rw [S_succ l j h] at ht
  rw [drop_cons l j h, upAt, if_neg ht, S_succ l j h]
theorem upAt_here (t : Int) (l : List Int) (j : Nat) (h : j < l.length) (ht : t < S l (j + 1)) : upAt t (S l j) (l.drop j) = 0 := by
  rw [S_succ l j h] at ht
  rw [drop_cons l j h, upAt, if_pos ht]
theorem weigh_bad (wd : Int → Int) (i : Int) (l : List Int) (h : i < 0 ∨ 1099511627776 < i ∨ l.length < 1 ∨ 1000 < l.length) : weighP wd i l = (0, 0, 2) := by
  unfold weighP; rw [if_pos (by rcases h with h | h | h | h <;> simp [h])]
theorem weigh_elem (wd : Int → Int) (i : Int) (l : List Int) (j : Nat) (hj : j < l.length) (h : l.getD j 0 < 0 ∨ 1099511627776 < l.getD j 0) : weighP wd i l = (0, 0, 2) := by
  have : ∃ x ∈ l, x < 0 ∨ 1099511627776 < x := ⟨l.getD j 0, by rw [List.getD_eq_getElem?_getD, List.getElem?_eq_getElem hj]; exact List.getElem_mem hj, h⟩
  unfold weighP; rw [if_pos (Or.inr (Or.inr (Or.inr (Or.inr (Or.inl this)))))]
theorem weigh_zero (wd : Int → Int) (i : Int) (l : List Int) (h : l.sum = 0) : weighP wd i l = (0, 0, 2) := by
  unfold weighP; rw [if_pos (Or.inr (Or.inr (Or.inr (Or.inr (Or.inr h)))))]
theorem weigh_go (wd : Int → Int) (i : Int) (l : List Int) (h0 : 0 ≤ i) (h1 : i ≤ 1099511627776) (h2 : 1 ≤ l.length) (h3 : l.length ≤ 1000) (h4 : ∀ j, j < l.length → 0 ≤ l.getD j 0 ∧ l.getD j 0 ≤ 1099511627776) (h5 : l.sum ≠ 0) :
    weighP wd i l = if (belowP wd i l.sum).2.2 = 0 then ((upAt (belowP wd i l.sum).1 0 l : Int), (belowP wd i l.sum).2.1, 0) else (0, 0, (belowP wd i l.sum).2.2) := by
  unfold weighP
  rw [if_neg]
  rintro (h | h | h | h | ⟨x, hx, h⟩ | h)
  · omega
  · omega
  · omega
  · omega
  · obtain ⟨j, hj, rfl⟩ := List.getElem_of_mem hx
    have := h4 j hj
    rw [List.getD_eq_getElem?_getD, List.getElem?_eq_getElem hj, Option.getD_some] at this
    omega
  · exact h5 h
/-- Weigh (21) -/
theorem weigh_c (key i : Int) (v : Value) (l : List Int) (w : World) (hs : St w) (hv : Rd w v (ints .i64 l)) (i0 : -9223372036854775808 ≤ i) (i1 : i ≤ 9223372036854775807) :
    Calls Tryd.prog 21 #[.agg #[.int .u64 key], .int .i64 i, v] w fun e w' =>
      e = .returned (.tuple #[.int .i64 (weighP (wordI key) i l).1, .int .i64 (weighP (wordI key) i l).2.1, .int .i64 (weighP (wordI key) i l).2.2]) ∧ Below w.heap.size w w' := by
  obtain ⟨a, c, rfl, hm, hcell⟩ := hv.open_ints
  unfold maxLen at hm
  by_cases hb : i < 0 ∨ 1099511627776 < i ∨ l.length < 1 ∨ 1000 < l.length
  · have H := Lib.hid (weigh_bad (wordI key) i l hb)
    have HB := Lib.hid hb
    clear hb hcell hv
    by_cases h0 : i < 0
    · go_enter Tryd.func21, Tryd.ntmps21
      go_wp2
      go_ret3
      exact ⟨by rw [H.out]; rfl, ((Below.refl _ _).alloc (Nat.le_refl _) _).alloc (by simp) _⟩
    by_cases h1 : 1099511627776 < i
    · go_enter Tryd.func21, Tryd.ntmps21
      go_wp2
      go_ret3
      exact ⟨by rw [H.out]; rfl, ((Below.refl _ _).alloc (Nat.le_refl _) _).alloc (by simp) _⟩
    by_cases h2 : (l.length : Int) < 1
    · go_enter Tryd.func21, Tryd.ntmps21
      go_wp2
      go_ret3
      exact ⟨by rw [H.out]; rfl, ((Below.refl _ _).alloc (Nat.le_refl _) _).alloc (by simp) _⟩
    have h3 : (1000 : Int) < l.length := by have := HB.out; omega
    go_enter Tryd.func21, Tryd.ntmps21
    go_wp2
    go_ret3
    exact ⟨by rw [H.out]; rfl, ((Below.refl _ _).alloc (Nat.le_refl _) _).alloc (by simp) _⟩
  · have h0 : 0 ≤ i := by omega
    have h1 : i ≤ 1099511627776 := by omega
    have h2 : (1 : Int) ≤ l.length := by omega
    have h3 : (l.length : Int) ≤ 1000 := by omega
    have h2' : 1 ≤ l.length := by omega
    have h3' : l.length ≤ 1000 := by omega
    clear hb i0 i1
    rcases hcell with rfl | ⟨g, off, rfl, hcell⟩
    · simp at h2'
    go_enter Tryd.func21, Tryd.ntmps21
    go_wp2
    have hg : g < w.heap.size := World.block_lt_of_cell? w ⟨g, off + 0, none⟩ (hcell 0 h2')
    have st0 := (hs.alloc (.cells #[.int .u64 key] 31)).alloc (.cells #[.int .i64 i] 3)
    have bi0 : Blk ((w.alloc (.cells #[.int .u64 key] 31)).alloc (.cells #[.int .i64 i] 3)) (w.heap.size + 1) 3 (ints .i64 [i]) := Blk.at _ 3 (ints .i64 [i]) (by simp)
    have bs0 : Blk ((w.alloc (.cells #[.int .u64 key] 31)).alloc (.cells #[.int .i64 i] 3)) w.heap.size 31 (ints .u64 [key]) := (Blk.at _ 31 (ints .u64 [key]) rfl).alloc _
    have B0 : Below w.heap.size w ((w.alloc (.cells #[.int .u64 key] 31)).alloc (.cells #[.int .i64 i] 3)) := ((Below.refl _ _).alloc (Nat.le_refl _) _).alloc (by simp) _
    have hc0 : ∀ j, j < l.length → ((w.alloc (.cells #[.int .u64 key] 31)).alloc (.cells #[.int .i64 i] 3)).cell? ⟨g, off + j, none⟩ = some (.int .i64 (l.getD j 0)) := fun j hj => (B0.cell (p := ⟨g, off + j, none⟩) hg).trans (hcell j hj)
    clear hcell hv
    generalize (w.alloc (.cells #[.int .u64 key] 31)).alloc (.cells #[.int .i64 i] 3) = w0 at *
    have HC := Lib.hid hc0
    clear hc0
    go_loop [9, 35] (fun s c => ∃ k : Nat, k ≤ l.length ∧ c = .int .i64 k ∧ s = .int .i64 (S l k) ∧ ∀ j, j < k → 0 ≤ l.getD j 0 ∧ l.getD j 0 ≤ 1099511627776) (fun _ c => l.length - (intOf c).toNat)
    case atStart => exact ⟨0, Nat.zero_le _, rfl, rfl, fun j hj => by omega⟩
    case round =>
      obtain ⟨k, hk, rfl, rfl, hall⟩ := hrel
      have HA := Lib.hid hall
      have hS := S_bd l k hk hall
      obtain ⟨s0, s1⟩ := hS
      clear hall
      by_cases hlt : k < l.length
      · have c1 := HC.out k hlt
        have HS := Lib.hid (S_succ l k hlt)
        have HX := Lib.hid (weigh_elem (wordI key) i l k hlt)
        have HX2 := Lib.hid (show ∀ y, l.getD k 0 = y → 0 ≤ y → y ≤ 1099511627776 → ∀ j, j < k + 1 → 0 ≤ l.getD j 0 ∧ l.getD j 0 ≤ 1099511627776 from fun y e a b j hj => by
          by_cases e2 : j = k
          · rw [e2, e]; exact ⟨a, b⟩
          · exact HA.out j (by omega))
        generalize l.getD k 0 = x at *
        by_cases hx0 : x < 0
        · go_wp2
          go_ret3
          exact ⟨by rw [HX.out (Or.inl hx0)]; rfl, B0⟩
        · by_cases hx1 : 1099511627776 < x
          · go_wp2
            go_ret3
            exact ⟨by rw [HX.out (Or.inr hx1)]; rfl, B0⟩
          · generalize S l k = sk at *
            go_wp2
            go_round
            case rel => exact ⟨k + 1, by omega, by go_num, by rw [HS.out], HX2.out x rfl (by omega) (by omega)⟩
            case measure => simp [intOf]; omega
      · obtain rfl : k = l.length := by omega
        by_cases hz : S l l.length = 0
        · have H := Lib.hid (weigh_zero (wordI key) i l (by rw [← S_len]; exact hz))
          have t0 : (S l l.length == 0) = true := by rw [beq_iff_eq]; exact hz
          clear hz
          go_wp2
          go_ret3
          exact ⟨by rw [H.out]; rfl, B0⟩
        · have t0 : (S l l.length == 0) = false := by rw [beq_eq_false_iff_ne]; exact hz
          have HG := Lib.hid (weigh_go (wordI key) i l h0 h1 h2' h3' HA.out (by rw [← S_len]; exact hz))
          have HL := Lib.hid (S_len l)
          have spos : 1 ≤ S l l.length := by omega
          rw [← HL.out] at HG
          generalize hss : S l l.length = ss at *
          have HSS := Lib.hid hss
          clear hss hz
          have cs := bs0.int 0 (by simp)
          simp only [List.getD_cons_zero] at cs
          go_wp2_with fail
          refine (drawer_c _ _ _ _ _).mono ?_
          rintro e w1 ⟨rfl, rfl⟩
          have st1 := (st0.alloc (.cells #[.pointer (some ⟨w.heap.size + 1, 0, none⟩)] 65)).alloc (.cells #[.func (.func 17) #[.agg #[.int .u64 key]] #[]] 35)
          have bi1 := (bi0.alloc (.cells #[.pointer (some ⟨w.heap.size + 1, 0, none⟩)] 65)).alloc (.cells #[.func (.func 17) #[.agg #[.int .u64 key]] #[]] 35)
          have b21 : Blk ((w0.alloc (.cells #[.pointer (some ⟨w.heap.size + 1, 0, none⟩)] 65)).alloc (.cells #[.func (.func 17) #[.agg #[.int .u64 key]] #[]] 35)) w0.heap.size 65 [.pointer (some ⟨w.heap.size + 1, 0, none⟩)] := (Blk.at _ 65 [.pointer (some ⟨w.heap.size + 1, 0, none⟩)] rfl).alloc _
          have b31 : Blk ((w0.alloc (.cells #[.pointer (some ⟨w.heap.size + 1, 0, none⟩)] 65)).alloc (.cells #[.func (.func 17) #[.agg #[.int .u64 key]] #[]] 35)) (w0.heap.size + 1) 35 [.func (.func 17) #[.agg #[.int .u64 key]] #[]] := Blk.at _ 35 [.func (.func 17) #[.agg #[.int .u64 key]] #[]] (by simp)
          have B1 : Below w.heap.size w ((w0.alloc (.cells #[.pointer (some ⟨w.heap.size + 1, 0, none⟩)] 65)).alloc (.cells #[.func (.func 17) #[.agg #[.int .u64 key]] #[]] 35)) := (B0.alloc B0.size _).alloc (by simp; have := B0.size; omega) _
          have HC1 := Lib.hid (show ∀ j, j < l.length → ((w0.alloc (.cells #[.pointer (some ⟨w.heap.size + 1, 0, none⟩)] 65)).alloc (.cells #[.func (.func 17) #[.agg #[.int .u64 key]] #[]] 35)).cell? ⟨g, off + j, none⟩ = some (.int .i64 (l.getD j 0)) from fun j hj =>
            keep_cell ((Below.refl _ _).alloc (Nat.le_refl _) _) (keep_cell ((Below.refl _ _).alloc (Nat.le_refl _) _) (HC.out j hj)))
          clear HC bi0 bs0 st0 B0
          generalize (w0.alloc (.cells #[.pointer (some ⟨w.heap.size + 1, 0, none⟩)] 65)).alloc (.cells #[.func (.func 17) #[.agg #[.int .u64 key]] #[]] 35) = w4 at *
          by_cases he : (belowP (wordI key) i ss).2.2 = 0
          · obtain ⟨_, _, v0, v1, x0, x1⟩ := belowP_good _ _ _ he
            have HD := Lib.hid (draw_ok key i ss _ _ _ _ st1 (by omega) (by omega) (by omega) (b31.cell 0 (by simp)) (b21.cell 0 (by simp)) (bi1.cell 0 (by simp [ints])) (bi1.frozen 0) he)
            have HG2 := Lib.hid (HG.out.trans (if_pos he))
            clear he HG
            generalize belowP (wordI key) i ss = d at *
            obtain ⟨t, nx, er⟩ := d
            simp only at v0 v1 x0 x1
            go_wp2_with fail
            refine HD.out.mono ?_
            rintro e w1 ⟨rfl, w2, hb2, rfl⟩
            have B2 := (B1.trans (hb2.mono B1.size)).setCell (p := ⟨w.heap.size + 1, 0, none⟩) (by simp) (.int .i64 nx)
            have bi2 := (bi1.below hb2).setInt 0 nx
            have HC2 := Lib.hid (show ∀ j, j < l.length → (w2.setCell ⟨w.heap.size + 1, 0, none⟩ (.int .i64 nx)).cell? ⟨g, off + j, none⟩ = some (.int .i64 (l.getD j 0)) from fun j hj =>
              (World.cell?_of_block (w := w2) (Below.heap_setCell _ _ _ g (by show g ≠ w.heap.size + 1; omega))).trans (keep_cell hb2 (HC1.out j hj)))
            clear HC1 HD bi1 hb2 B1
            generalize w2.setCell ⟨w.heap.size + 1, 0, none⟩ (.int .i64 nx) = w3 at *
            have ci : w3.cell? ⟨w.heap.size + 1, 0, none⟩ = some (.int .i64 nx) := bi2.int 0 (by simp)
            have cz := HC2.out 0 h2'
            rw [Nat.add_zero] at cz
            have HS1 := Lib.hid (show S l 1 = l.getD 0 0 by rw [S_succ l 0 h2', S_zero, Int.zero_add])
            rw [← HS1.out] at cz
            generalize hS1v : S l 1 = s1v at cz
            have HS1v := Lib.hid hS1v
            clear hS1v
            go_wp2
            go_loop [15, 16] (fun a u => ∃ j : Nat, j < l.length ∧ a = .int .i64 j ∧ u = .int .i64 (S l (j + 1)) ∧ upAt t 0 l = j + upAt t (S l j) (l.drop j)) (fun a _ => l.length - (intOf a).toNat)
            case atStart => exact ⟨0, h2', rfl, by rw [HS1v.out], by rw [S_zero, List.drop_zero, Nat.zero_add]⟩
            case round =>
              obtain ⟨j, hj, rfl, rfl, hU⟩ := hrel
              have HU := Lib.hid hU
              clear hU
              by_cases ht : t < S l (j + 1)
              · have HF := Lib.hid (HU.out.trans (by rw [upAt_here t l j hj ht]))
                generalize S l (j + 1) = u at *
                go_wp2
                go_quiet (fail)
                go_wp2
                go_ret3
                refine ⟨?_, below_drewN B2 _⟩
                rw [HG2.out]
                simp only [HF.out]
                rfl
              · have hj1 : j + 1 < l.length := by
                  by_cases e : j + 1 < l.length
                  · exact e
                  · exfalso; apply ht; rw [show j + 1 = l.length by omega, HSS.out]; exact v1
                have HF := Lib.hid (show upAt t 0 l = (j + 1) + upAt t (S l (j + 1)) (l.drop (j + 1)) by rw [HU.out, upAt_next t l j hj ht]; omega)
                have HS2 := Lib.hid (S_succ l (j + 1) hj1)
                have c1 := HC2.out (j + 1) hj1
                have sb := S_bd l (j + 1) (by omega) (fun k hk => HA.out k (by omega))
                have xb := HA.out (j + 1) hj1
                obtain ⟨sb0, sb1⟩ := sb
                obtain ⟨xb0, xb1⟩ := xb
                generalize l.getD (j + 1) 0 = x at *
                generalize hu : S l (j + 1) = u at *
                have HU2 := Lib.hid hu
                clear hu
                go_wp2
                go_round
                case rel => exact ⟨j + 1, by omega, by go_num, by rw [HS2.out], by rw [HU2.out]; exact HF.out⟩
                case measure => simp [intOf]; omega
          · have HG2 := Lib.hid (HG.out.trans (if_neg he))
            have HD := Lib.hid (draw_err key i ss _ _ _ _ st1 (by omega) (by omega) (by omega) (b31.cell 0 (by simp)) (b21.cell 0 (by simp)) (bi1.cell 0 (by simp [ints])) he)
            have t1 : ((belowP (wordI key) i ss).2.2 != 0) = true := by rw [bne_iff_ne]; exact he
            clear he HG
            generalize belowP (wordI key) i ss = d at *
            go_wp2_with fail
            refine HD.out.mono ?_
            rintro e w1 ⟨rfl, hb2⟩
            go_wp2
            go_ret3
            exact ⟨by rw [HG2.out]; rfl, B1.trans (hb2.mono B1.size)⟩
/-- the reference's Weigh (35) -/
theorem rweigh_c (key i : Int) (v : Value) (l : List Int) (w : World) (hv : Rd w v (ints .i64 l)) (i0 : -9223372036854775808 ≤ i) (i1 : i ≤ 9223372036854775807) :
    Calls Tryd.prog 35 #[.int .u64 key, .int .i64 i, v] w fun e w' =>
      e = .returned (.tuple #[.int .i64 (weighP (wordI key) i l).1, .int .i64 (weighP (wordI key) i l).2.1, .int .i64 (weighP (wordI key) i l).2.2]) ∧ w = w' := by
  obtain ⟨a, c, rfl, hm, hcell⟩ := hv.open_ints
  unfold maxLen at hm
  by_cases hb : i < 0 ∨ 1099511627776 < i ∨ 1000 < l.length
  · have H := Lib.hid (weigh_bad (wordI key) i l (by omega))
    have HB := Lib.hid hb
    clear hb hcell hv
    by_cases h0 : i < 0
    · go_enter Tryd.func35, Tryd.ntmps35
      go_wp2
      go_ret3
      exact ⟨by rw [H.out]; rfl, rfl⟩
    by_cases h1 : 1099511627776 < i
    · go_enter Tryd.func35, Tryd.ntmps35
      go_wp2
      go_ret3
      exact ⟨by rw [H.out]; rfl, rfl⟩
    have h3 : (1000 : Int) < l.length := by have := HB.out; omega
    go_enter Tryd.func35, Tryd.ntmps35
    go_wp2
    go_ret3
    exact ⟨by rw [H.out]; rfl, rfl⟩
  · have h0 : 0 ≤ i := by omega
    have h1 : i ≤ 1099511627776 := by omega
    have h3 : (l.length : Int) ≤ 1000 := by omega
    have h3' : l.length ≤ 1000 := by omega
    have HC := Lib.hid hcell
    clear hb hcell hv
    go_enter Tryd.func35, Tryd.ntmps35
    go_wp2
    go_loopw [9, 10] (fun s c wr => ∃ k : Nat, k ≤ l.length ∧ c = .int .i64 k ∧ s = .int .i64 (S l k) ∧ (∀ j, j < k → 0 ≤ l.getD j 0 ∧ l.getD j 0 ≤ 1099511627776) ∧ wr = w) (fun _ c _ => l.length - (intOf c).toNat)
    case atStart => exact ⟨0, Nat.zero_le _, rfl, rfl, fun j hj => by omega, rfl⟩
    case round =>
      obtain ⟨k, hk, rfl, rfl, hall, rfl⟩ := hrel
      have HA := Lib.hid hall
      have hS := S_bd l k hk hall
      obtain ⟨s0, s1⟩ := hS
      clear hall
      by_cases hlt : k < l.length
      · rcases HC.out with rfl | ⟨g, off, rfl, hcell⟩
        · simp at hlt
        have c1 := hcell k hlt
        have HS := Lib.hid (S_succ l k hlt)
        have HX := Lib.hid (weigh_elem (wordI key) i l k hlt)
        have HX2 := Lib.hid (show ∀ y, l.getD k 0 = y → 0 ≤ y → y ≤ 1099511627776 → ∀ j, j < k + 1 → 0 ≤ l.getD j 0 ∧ l.getD j 0 ≤ 1099511627776 from fun y e a b j hj => by
          by_cases e2 : j = k
          · rw [e2, e]; exact ⟨a, b⟩
          · exact HA.out j (by omega))
        clear hcell
        generalize l.getD k 0 = x at *
        by_cases hx0 : x < 0
        · go_wp2
          go_ret3
          exact ⟨by rw [HX.out (Or.inl hx0)]; rfl, rfl⟩
        · by_cases hx1 : 1099511627776 < x
          · go_wp2
            go_ret3
            exact ⟨by rw [HX.out (Or.inr hx1)]; rfl, rfl⟩
          · generalize S l k = sk at *
            go_wp2
            go_roundw
            case rel => exact ⟨k + 1, by omega, by go_num, by rw [HS.out], HX2.out x rfl (by omega) (by omega), trivial⟩
            case measure => simp [intOf]; omega
      · obtain rfl : k = l.length := by omega
        by_cases hz : S l l.length = 0
        · have H := Lib.hid (weigh_zero (wordI key) i l (by rw [← S_len]; exact hz))
          have t0 : (S l l.length == 0) = true := by rw [beq_iff_eq]; exact hz
          clear hz
          go_wp2
          go_ret3
          exact ⟨by rw [H.out]; rfl, rfl⟩
        · have t0 : (S l l.length == 0) = false := by rw [beq_eq_false_iff_ne]; exact hz
          have h2' : 1 ≤ l.length := by
            cases l with
            | nil => exact absurd rfl hz
            | cons _ _ => simp
          have HG := Lib.hid (weigh_go (wordI key) i l h0 h1 h2' h3' HA.out (by rw [← S_len]; exact hz))
          have HL := Lib.hid (S_len l)
          have spos : 1 ≤ S l l.length := by omega
          rw [← HL.out] at HG
          generalize hss : S l l.length = ss at *
          have HSS := Lib.hid hss
          clear hss hz
          rcases HC.out with rfl | ⟨g, off, rfl, hcell⟩
          · simp at h2'
          have HD := Lib.hid (rbelow_c key i ss wr (by omega) (by omega) (by omega))
          have HC2 := Lib.hid hcell
          clear hcell HC
          by_cases he : (belowP (wordI key) i ss).2.2 = 0
          · obtain ⟨_, _, v0, v1, x0, x1⟩ := belowP_good _ _ _ he
            have HG2 := Lib.hid (HG.out.trans (if_pos he))
            clear HG
            generalize belowP (wordI key) i ss = d at *
            obtain ⟨t, nx, er⟩ := d
            simp only at v0 v1 x0 x1 he
            subst he
            go_wp2_with fail
            refine HD.out.mono ?_
            rintro e w1 ⟨rfl, rfl⟩
            clear HD
            go_wp2
            go_loopw [14, 15] (fun u a wr' => ∃ j : Nat, j < l.length ∧ a = .int .i64 j ∧ u = .int .i64 (S l j) ∧ upAt t 0 l = j + upAt t (S l j) (l.drop j) ∧ wr' = wr) (fun _ a _ => l.length - (intOf a).toNat)
            case atStart => exact ⟨0, h2', rfl, rfl, by rw [S_zero, List.drop_zero, Nat.zero_add], rfl⟩
            case round =>
              obtain ⟨j, hj, rfl, rfl, hU, rfl⟩ := hrel
              have HU := Lib.hid hU
              clear hU
              have c1 := HC2.out j hj
              have HS2 := Lib.hid (S_succ l j hj)
              have sb := S_bd l j (by omega) (fun k hk => HA.out k (by omega))
              have xb := HA.out j hj
              obtain ⟨sb0, sb1⟩ := sb
              obtain ⟨xb0, xb1⟩ := xb
              by_cases ht : t < S l (j + 1)
              · have HF := Lib.hid (HU.out.trans (by rw [upAt_here t l j hj ht]))
                have ht' : t < S l j + l.getD j 0 := by rw [← HS2.out]; exact ht
                clear ht
                generalize l.getD j 0 = x at *
                generalize S l j = u at *
                go_wp2
                go_ret3
                refine ⟨?_, rfl⟩
                rw [HG2.out]
                simp only [HF.out]
                rfl
              · have hj1 : j + 1 < l.length := by
                  by_cases e : j + 1 < l.length
                  · exact e
                  · exfalso; apply ht; rw [show j + 1 = l.length by omega, HSS.out]; exact v1
                have HF := Lib.hid (show upAt t 0 l = (j + 1) + upAt t (S l (j + 1)) (l.drop (j + 1)) by rw [HU.out, upAt_next t l j hj ht]; omega)
                have ht' : ¬ t < S l j + l.getD j 0 := by rw [← HS2.out]; exact ht
                clear ht
                generalize l.getD j 0 = x at *
                generalize S l j = u at *
                go_wp2
                go_roundw
                case rel => exact ⟨j + 1, by omega, by go_num, by rw [HS2.out], HF.out, trivial⟩
                case measure => simp [intOf]; omega
          · have HG2 := Lib.hid (HG.out.trans (if_neg he))
            have t1 : ((belowP (wordI key) i ss).2.2 != 0) = true := by rw [bne_iff_ne]; exact he
            clear he HG
            generalize belowP (wordI key) i ss = d at *
            go_wp2_with fail
            refine HD.out.mono ?_
            rintro e w1 ⟨rfl, rfl⟩
            go_wp2
            go_ret3
            exact ⟨by rw [HG2.out]; rfl, rfl⟩
end Go.Proofs.YtifnmehpkelifaaDoor
