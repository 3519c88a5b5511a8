/- The walk of has: whether a journal has just some entries. -/
import Derived.Test.YtondomklkapogaaDoorJEnts
import Derived.Test.YtondomklkapogaaDoorJLib
import Derived.BigQuiet
namespace Go.Proofs.YtondomklkapogaaDoor
open Go.RowKit SeedP Go.Maps
theorem isPref_nil (l : List (List UInt8)) : l.filter (isPref []) = l := by
  rw [List.filter_eq_self]; intro a _; unfold isPref; simp
theorem keysOf_get (P : PEnts) (j : Nat) (h : j < (keysOf P).length) (h' : j < P.length) : (keysOf P)[j] = P[j].1 := List.getElem_map _
theorem pWt_bound {P : PEnts} (h : ∀ e ∈ P, e.1.length ≤ 1000 ∧ e.2.length ≤ 1000000) : pWt P ≤ P.length * 1001003 := by
  induction P with
  | nil => exact Int.le_refl _
  | cons x r ih =>
    have h1 := h x (List.mem_cons_self ..)
    have h2 := ih (fun e he => h e (List.mem_cons_of_mem _ he))
    rw [pWt_cons, List.length_cons]
    unfold eWt
    omega
theorem JS.ents_ord {B : Nat} {w : World} {db jb : Nat} {s : JS} (h : JL B w db jb s) : Ordered s.ents := by
  obtain ⟨_, _, _, mb, _, h⟩ := h
  unfold JS.ents; split
  · exact List.Pairwise.nil
  · exact h.ord
theorem JS.ents_small {B : Nat} {w : World} {db jb : Nat} {s : JS} (h : JL B w db jb s) : SmallEnts s.ents := by
  obtain ⟨_, _, _, mb, _, h⟩ := h
  unfold JS.ents; split
  · exact ⟨fun e he => (by cases he), fun e he => (by cases he)⟩
  · exact h.small
theorem JL.weight {B : Nat} {w : World} {db jb : Nat} {s : JS} (h : JL B w db jb s) : (if s.down then (0 : Int) else s.c.wt) = pWt s.ents := by
  unfold JS.ents
  cases hd : s.down
  · simp only [Bool.false_eq_true, if_false]; exact h.ok.wt
  · rfl
set_option maxRecDepth 100000 in
set_option maxHeartbeats 4000000 in
/-- has -/
theorem has_c {B : Nat} {w : World} {db jb : Nat} {s : JS} (v : Value) (P : PEnts) (h : JL B w db jb s) (hv : RdE w (fun g => g < w.heap.size) v P) (hn : P.length ≤ 1000000) (hk : ∀ e ∈ P, e.1.length ≤ 1000 ∧ e.2.length ≤ 1000000) :
    Calls Tryd.prog 12 #[.pointer (some ⟨jb, 0, none⟩), v] w fun e w' => e = .returned (.bool (decide (s.ents = P))) ∧ Below w.heap.size w w' := by
  have HO := Lib.hid (JS.ents_ord h)
  have HSm := Lib.hid (JS.ents_small h)
  have HK := Lib.hid hk
  have HW := Lib.hid h.weight
  have HV := Lib.hid hv
  obtain ⟨av, cv, rfl, hc1, hc2, hc3, hc4⟩ := hv
  clear hk hc4 hc1 hc2 hc3
  go_enter Tryd.func12, Tryd.ntmps12
  go_wp2_with fail
  refine (keys_l h [] (by decide)).mono ?_
  rw [isPref_nil]
  rintro e w1 ⟨kv, rfl, hkv, hb1⟩
  have HJ := Lib.hid (h.below hb1)
  have HB1 := Lib.hid hb1
  obtain ⟨ak, ck, rfl, hkc⟩ := key_at hkv
  have hkl : (keysOf s.ents).length = s.ents.length := by unfold keysOf; rw [List.length_map]
  have HKC := Lib.hid hkc
  have hz1 := hb1.size
  rw [hkl]
  clear hkv hkc h hb1
  by_cases hlen : s.ents.length = P.length
  · have hneb : (((s.ents.length : Nat) : Int) != (P.length : Nat)) = false := by rw [hlen]; simp
    have HL := Lib.hid hlen
    clear hlen
    have HLW : Hid (Calls Tryd.prog 20 #[.pointer (some ⟨jb, 0, none⟩)] w1 fun e w' => e = .returned (.int .i64 (pWt s.ents)) ∧ w1 = w') := Lib.hid (by have h := weight_l HJ.out; rw [HW.out] at h; exact h)
    clear HLW
    have W0 := (Below.refl w1.heap.size w1)
    go_wp2
    go_loopw [6, 7] (fun sm i wr => ∃ j : Nat, j ≤ P.length ∧ i = .int .i64 j ∧ sm = .int .i64 (pWt (P.take j)) ∧ s.ents.take j = P.take j ∧ Below w1.heap.size w1 wr) (fun _ i _ => P.length - (intOf i).toNat)
    case atStart => exact ⟨0, Nat.zero_le _, rfl, rfl, rfl, W0⟩
    case round =>
      obtain ⟨j, hj, rfl, rfl, hte, hB⟩ := hrel
      have HJr := Lib.hid (HJ.out.below hB)
      have HB := Lib.hid hB
      have HT := Lib.hid hte
      clear hte W0
      by_cases hlt : j < P.length
      · have b1 : (j : Int) < P.length := by omega
        have hjl : j < s.ents.length := by rw [HL.out]; exact hlt
        have hjk : j < (keysOf s.ents).length := by omega
        have hv1 := (HV.out.below HB1.out).below (hB.mono hz1)
        obtain ⟨av', cv', e, hx1, hx2, hx3, hc⟩ := hv1
        simp only [Value.slice.injEq] at e
        obtain ⟨rfl, _, rfl⟩ := e
        rcases hc with hc | ⟨g, off, rfl, hg, hg2, hcell⟩
        · rw [hc] at hlt; simp at hlt
        obtain ⟨q0, q1⟩ := hcell j hlt
        rcases HKC.out with hkc | ⟨kg, rfl, hkg, hkg2, hkcell⟩
        · rw [hkc] at hjk; simp at hjk
        have y0 := keep_cell hB (hkcell j hjk)
        have hke : (keysOf s.ents)[j] = s.ents[j].1 := keysOf_get _ _ _ _
        rw [hke] at y0
        have hfd := find_at HO.out j hjl
        have b2 : (j : Int) < s.ents.length := by omega
        have HP1 := Lib.hid (pWt_take P j hlt)
        have hT1 : s.ents.take (j + 1) = s.ents.take j ++ [s.ents[j]] := List.take_succ_eq_append_getElem hjl
        have hT2 : P.take (j + 1) = P.take j ++ [P[j]] := List.take_succ_eq_append_getElem hlt
        have HE : Hid (s.ents = P → s.ents[j] = P[j]) := Lib.hid (fun e => by simp only [e])
        have hkb := HK.out P[j] (List.getElem_mem hlt)
        have hw0 := pWt_nonneg (P.take j)
        have hw1 : pWt (P.take j) ≤ 1001003000000 := by
          have h := pWt_bound (P := P.take j) (fun e he => HK.out e (List.mem_of_mem_take he))
          rw [List.length_take] at h
          omega
        have HEE := Lib.hid (And.intro hT1 hT2)
        have HGET := Lib.hid (get_l HJr.out P[j].1 (by omega))
        clear hT1 hT2 hkcell hcell hke hjk HKC HV hx1 hx2 hx3
        by_cases hkeq : s.ents[j].1 = P[j].1
        · rw [hkeq] at hfd y0
          rw [hfd] at HGET
          simp only [Option.getD_some, Option.isSome_some] at HGET
          by_cases hveq : s.ents[j].2 = P[j].2
          · have HEQ : Hid (s.ents.take (j + 1) = P.take (j + 1)) := Lib.hid (by rw [HEE.out.1, HEE.out.2, HT.out, show s.ents[j] = P[j] from Prod.ext hkeq hveq])
            rw [hveq] at HGET
            have hks : (⟨P[j].1.toArray⟩ : ByteArray).size = P[j].1.length := by show P[j].1.toArray.size = _; simp
            clear hveq hkeq hfd HE HEE
            generalize P[j].1 = pk at *
            generalize P[j].2 = pv at *
            go_wp2_with fail
            refine HGET.out.mono ?_
            rintro e w2 ⟨⟨ga, gc, rfl, hgr⟩, hb2⟩
            have z0 := keep_cell hb2 q0
            have z1 := keep_cell hb2 q1
            have z2 := keep_cell hb2 y0
            have hcv : ∀ n, (convert 26 9 (.slice ga pv.length gc)).run Tryd.prog (w2.drewN n) = .ok (.string ⟨(pv).toArray⟩) (w2.drewN n) := fun n => conv_c (w := w2.drewN n) hgr
            have HB2 := Lib.hid hb2
            clear q0 q1 y0 hgr hb2 HGET
            go_upto_region 9 with (fail)
            go_quiet (fail)
            all_goals
              go_wp2
              go_roundw
              case rel =>
                refine ⟨j + 1, by omega, by go_num, ?_, HEQ.out, ?_⟩
                · rw [HP1.out]
                · exact below_drewN (HB.out.trans (HB2.out.mono HB.out.size)) _
              case measure => simp [intOf]; omega
          · have hvneb : (s.ents[j].2 == P[j].2) = false := by rw [beq_eq_false_iff_ne]; exact hveq
            have HNE : Hid (s.ents ≠ P) := Lib.hid (fun e => hveq (by rw [HE.out e]))
            clear hveq hkeq hfd HE HEE HP1
            generalize P[j].1 = pk at *
            generalize P[j].2 = pv at *
            generalize s.ents[j].2 = ev at *
            generalize s.ents[j].1 = ek at *
            go_wp2_with fail
            refine HGET.out.mono ?_
            rintro e w2 ⟨⟨ga, gc, rfl, hgr⟩, hb2⟩
            have z0 := keep_cell hb2 q0
            have z1 := keep_cell hb2 q1
            have z2 := keep_cell hb2 y0
            have hcv : ∀ n, (convert 26 9 (.slice ga ev.length gc)).run Tryd.prog (w2.drewN n) = .ok (.string ⟨(ev).toArray⟩) (w2.drewN n) := fun n => conv_c (w := w2.drewN n) hgr
            have HB2 := Lib.hid hb2
            clear q0 q1 y0 hgr hb2 HGET
            go_upto_region 9 with (fail)
            go_quiet (fail)
            all_goals
              go_wp2
              go_ret
              refine ⟨ret_bool ?_, ?_⟩
              · rw [eq_comm, decide_eq_false_iff_not]; exact HNE.out
              · exact HB1.out.trans (below_drewN ((HB.out.trans (HB2.out.mono HB.out.size)).mono hz1) _)
        · have hvneb : (s.ents[j].1 == P[j].1) = false := by rw [beq_eq_false_iff_ne]; exact hkeq
          have HNE : Hid (s.ents ≠ P) := Lib.hid (fun e => hkeq (by rw [HE.out e]))
          clear hkeq hfd HE HEE HP1
          generalize (pFind s.ents P[j].1).isSome = okb at *
          generalize (pFind s.ents P[j].1).getD [] = gv at *
          generalize P[j].1 = pk at *
          generalize P[j].2 = pv at *
          generalize s.ents[j].1 = ek at *
          go_wp2_with fail
          refine HGET.out.mono ?_
          rintro e w2 ⟨⟨ga, gc, rfl, hgr⟩, hb2⟩
          have z0 := keep_cell hb2 q0
          have z1 := keep_cell hb2 q1
          have z2 := keep_cell hb2 y0
          have hcv : ∀ n, (convert 26 9 (.slice ga gv.length gc)).run Tryd.prog (w2.drewN n) = .ok (.string ⟨(gv).toArray⟩) (w2.drewN n) := fun n => conv_c (w := w2.drewN n) hgr
          have HB2 := Lib.hid hb2
          clear q0 q1 y0 hgr hb2 HGET
          go_upto_region 9 with (fail)
          go_quiet (fail)
          all_goals
            go_wp2
            go_ret
            refine ⟨ret_bool ?_, ?_⟩
            · rw [eq_comm, decide_eq_false_iff_not]; exact HNE.out
            · exact HB1.out.trans (below_drewN ((HB.out.trans (HB2.out.mono HB.out.size)).mono hz1) _)
      · have HLW : Hid (Calls Tryd.prog 20 #[.pointer (some ⟨jb, 0, none⟩)] wr fun e w' => e = .returned (.int .i64 (pWt s.ents)) ∧ wr = w') := Lib.hid (by have h := weight_l HJr.out; rw [HW.out] at h; exact h)
        have b1 : ¬ (j : Int) < P.length := by omega
        have hje : j = P.length := by omega
        have HEQ : Hid (s.ents = P) := Lib.hid (by
          have h1 := HT.out
          rw [hje, List.take_length] at h1
          rw [← h1, ← HL.out, List.take_length])
        have hpe : pWt (P.take j) = pWt s.ents := by rw [hje, List.take_length, HEQ.out]
        rw [hpe]
        clear hpe hje
        generalize pWt s.ents = pw at *
        go_wp2_with fail
        refine HLW.out.mono ?_
        rintro e w3 ⟨rfl, rfl⟩
        go_wp2
        go_ret
        exact ⟨ret_bool (by rw [decide_eq_true HEQ.out]), HB1.out.trans (HB.out.mono hz1)⟩
  · have hneb : (((s.ents.length : Nat) : Int) != (P.length : Nat)) = true := by rw [bne_iff_ne]; omega
    have HL := Lib.hid hlen
    clear hlen
    go_wp2
    go_ret
    exact ⟨ret_bool (by rw [eq_comm, decide_eq_false_iff_not]; intro e; exact HL.out (by rw [e])), HB1.out⟩
end Go.Proofs.YtondomklkapogaaDoor
