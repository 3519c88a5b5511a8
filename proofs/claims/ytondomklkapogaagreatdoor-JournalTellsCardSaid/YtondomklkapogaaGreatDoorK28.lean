/- The reference's Check. -/
import Derived.Test.YtondomklkapogaaGreatDoorK24
import Derived.Test.YtondomklkapogaaGreatDoorK27
namespace Go.Proofs.YtondomklkapogaaGreatDoor
open Go.RowKit SeedP Go.Maps
/-- the number that Check gives -/
def rCheckN (P : PEnts) (cs : List Chg) : Int :=
 if cs.length = 0 ∨ 64 < cs.length then 5
 else if validP cs ≠ 0 then validP cs
 else if (cs.any fun c => c.drop && !(pFind P c.key).isSome) = true then 6
 else if 131072 < pWt (pChgs P cs) then 4 else 0
theorem rck_many {P : PEnts} {cs : List Chg} (h : cs.length = 0 ∨ 64 < cs.length) : rCheckN P cs = 5 := by unfold rCheckN; rw [if_pos h]
theorem rck_valid {P : PEnts} {cs : List Chg} (h : ¬ (cs.length = 0 ∨ 64 < cs.length)) {n : Int} (hn : validP cs = n) (h0 : n ≠ 0) : rCheckN P cs = n := by unfold rCheckN; rw [if_neg h, if_pos (by rw [hn]; exact h0), hn]
theorem rck_none {P : PEnts} {cs : List Chg} (h : ¬ (cs.length = 0 ∨ 64 < cs.length)) (hv : validP cs = 0) (ha : (cs.any fun c => c.drop && !(pFind P c.key).isSome) = true) : rCheckN P cs = 6 := by unfold rCheckN; rw [if_neg h, if_neg (by rw [hv]; decide), if_pos ha]
theorem rck_rest {P : PEnts} {cs : List Chg} (h : ¬ (cs.length = 0 ∨ 64 < cs.length)) (hv : validP cs = 0) (ha : (cs.any fun c => c.drop && !(pFind P c.key).isSome) = false) : rCheckN P cs = if 131072 < pWt (pChgs P cs) then 4 else 0 := by unfold rCheckN; rw [if_neg h, if_neg (by rw [hv]; decide), if_neg (by rw [ha]; decide)]
theorem xr_eqlS (ρ : Operand → Value) (d : Option Tmp) (ty : TypeId) (pos : String) (af : Array Edge) (gd : Option (Nat × Bool)) (x y : Operand) (a b : List UInt8) (w : World) (hx : ρ x = strV a) (hy : ρ y = strV b) :
 (execOp ρ ⟨d, .binOp .eql 9 x y 9, ty, pos, af, gd⟩).run Tryz.prog w = .ok (.value (.bool (a == b))) w := by
 simp [go_sem, hx, hy]
theorem ChgsAt.raise {w : World} {B B' : Nat} {v : Value} {cs : List Chg} (h : ChgsAt w B v cs) (hB : B ≤ B') : ChgsAt w B' v cs := by
 obtain ⟨a, cap, e, h1, h2, h3⟩ := h
 refine ⟨a, cap, e, h1, h2, ?_⟩
 rcases h3 with h3 | ⟨g, off, e2, hg, h4⟩
 ·exact Or.inl h3
 ·refine Or.inr ⟨g, off, e2, by omega, fun j hj => ?_⟩
  obtain ⟨vv, d0, d1, d2, dv⟩ := h4 j hj
  exact ⟨vv, d0, d1, d2, dv.mono hB⟩
theorem code_len (cs : List Chg) : (codeOf cs).length = codeSize cs := by
 unfold codeOf codeSize
 rw [List.length_cons]
 have h : ∀ L : List Chg, (L.flatMap chgCode).length = (L.map chgSize).sum := by
  intro L
  induction L with
  | nil => rfl
  | cons x L ih =>
    rw [List.flatMap_cons, List.length_append, ih, List.map_cons, List.sum_cons]
    congr 1
    unfold chgCode chgSize
    cases x.drop
    ·simp only [Bool.false_eq_true, if_false, List.length_cons, List.length_append, numB_length]; omega
    ·simp only [if_true, List.length_cons]; omega
 rw [h]; omega
set_option maxRecDepth 100000 in
set_option maxHeartbeats 4000000 in
/-- Check -/
theorem rcheck_c (v : Value) (P : PEnts) (vc : Value) (cs : List Chg) (W : World) (hv : EntsAt W W.heap.size v P) (hc : ChgsAt W W.heap.size vc cs) (hP : P.length ≤ 1000000) (hn : cs.length ≤ 1000000) (hb : ∀ c ∈ cs, c.key.length ≤ 1000000 ∧ c.val.length ≤ 1000000) (hw : pWt (pChgs P cs) ≤ 4611686018427387904) :
 Calls Tryz.prog 54 #[v, vc] W fun e w' => e = .returned (.int .i64 (rCheckN P cs)) ∧ Below W.heap.size W w' := by
 have HV := Lib.hid hv
 have HC := Lib.hid hc
 have HBD := Lib.hid hb
 have HW := Lib.hid hw
 obtain ⟨ac, cap, rfl, _, hcm, hcc⟩ := hc
 obtain ⟨al, cl, rfl, _, hlm, _⟩ := hv
 unfold maxLen at hcm hlm
 have HCC := Lib.hid hcc
 clear hcc hb hw
 have hcl : (cs.length : Int) ≤ 1000000 := by omega
 by_cases hmany : cs.length = 0 ∨ 64 < cs.length
 ·have HN : Hid (Ending.returned (.int .i64 5) = .returned (.int .i64 (rCheckN P cs))) := Lib.hid (by rw [rck_many hmany])
  by_cases h0 : cs.length = 0
  ·have t1 : decide ((cs.length : Int) < 1) = true := decide_eq_true (by omega)
   clear hmany h0
   go_enter Tryz.func54, Tryz.ntmps54
   go_wp2
   go_ret
   exact ⟨HN.out, Below.refl _ _⟩
  ·have t1 : decide ((cs.length : Int) < 1) = false := decide_eq_false (by omega)
   have t2 : decide ((64 : Int) < (cs.length : Int)) = true := decide_eq_true (by omega)
   clear hmany h0
   go_enter Tryz.func54, Tryz.ntmps54
   go_wp2
   go_ret
   exact ⟨HN.out, Below.refl _ _⟩
 have HM := Lib.hid hmany
 have hn64 : cs.length ≤ 64 := by omega
 have hn1 : 1 ≤ cs.length := by omega
 have t1 : decide ((cs.length : Int) < 1) = false := decide_eq_false (by omega)
 have t2 : decide ((64 : Int) < (cs.length : Int)) = false := decide_eq_false (by omega)
 rcases HCC.out with h | ⟨g, off, rfl, hg, hcell⟩
 ·rw [h] at hn1; simp at hn1
 have HALL : Hid (∀ (j : Nat) (hj : j < cs.length), ∃ av cv, ∀ wx, Below W.heap.size W wx → wx.cell? ⟨g, off + j * 3, none⟩ = some (strV cs[j].key) ∧ wx.cell? ⟨g, off + j * 3 + 1, none⟩ = some (.slice av cs[j].val.length cv) ∧ wx.cell? ⟨g, off + j * 3 + 2, none⟩ = some (.bool cs[j].drop)) := Lib.hid (fun j hj => by
  obtain ⟨vv, d0, d1, d2, dv⟩ := hcell j hj
  obtain ⟨av, cv, rfl, _⟩ := dv.open_
  exact ⟨av, cv, fun wx hbx => ⟨(hbx.cell (p := ⟨g, off + j * 3, none⟩) hg).trans d0, (hbx.cell (p := ⟨g, off + j * 3 + 1, none⟩) hg).trans d1, (hbx.cell (p := ⟨g, off + j * 3 + 2, none⟩) hg).trans d2⟩⟩)
 clear hcell HCC hmany
 go_enter Tryz.func54, Tryz.ntmps54
 go_wp2_with fail
 go_loopw [5] (fun iv wx => ∃ i : Nat, i ≤ cs.length ∧ iv = .int .i64 i ∧ Hid (∀ q, q < i → badAt cs q = false) ∧ Below W.heap.size W wx) (fun i _ => cs.length - (intOf i).toNat)
 case atStart => exact ⟨0, Nat.zero_le _, rfl, Lib.hid (fun q hq => by omega), Below.refl _ _⟩
 case round =>
  obtain ⟨i, hi, rfl, HF, hbw⟩ := hrel
  have HBW := Lib.hid hbw
  clear hbw
  by_cases hlt : i < cs.length
  ·have t3 : decide ((i : Int) < (cs.length : Int)) = true := decide_eq_true (by omega)
   have HBA := Lib.hid (badAt_eq cs i hlt)
   obtain ⟨av, cv, hcw⟩ := HALL.out i hlt
   have HCW := Lib.hid hcw
   have hbd := HBD.out cs[i] (List.getElem_mem hlt)
   obtain ⟨c0, c1, c2⟩ := hcw wr HBW.out
   clear hcw
   generalize cs[i] = ci at *
   obtain ⟨key, val, drop⟩ := ci
   simp only at c0 c1 c2 hbd
   obtain ⟨hb1, hb2⟩ := hbd
   have HBA2 : Hid (badAt cs i = (decide (key.length < 1) || decide (40 < key.length) || ((cs.take i).map (·.key)).contains key || (drop && decide (0 < val.length)))) := HBA
   clear HBA
   have HRET : Hid (∀ wx, badAt cs i = true → Below W.heap.size W wx → Ending.returned (.int .i64 2) = .returned (.int .i64 (rCheckN P cs)) ∧ Below W.heap.size W wx) := Lib.hid (fun wx h hbx => ⟨by rw [rck_valid HM.out (valid_bad cs i hlt h) (by decide)], hbx⟩)
   by_cases k1 : key.length < 1
   ·have s1 : decide ((key.length : Int) < 1) = true := decide_eq_true (by omega)
    go_wp2
    go_ret
    exact HRET.out _ (by rw [HBA2.out]; simp [k1]) HBW.out
   have s1 : decide ((key.length : Int) < 1) = false := decide_eq_false (by omega)
   by_cases k2 : 40 < key.length
   ·have s2 : decide ((40 : Int) < (key.length : Int)) = true := decide_eq_true (by omega)
    go_wp2
    go_ret
    exact HRET.out _ (by rw [HBA2.out]; simp [k2]) HBW.out
   have s2 : decide ((40 : Int) < (key.length : Int)) = false := decide_eq_false (by omega)
   by_cases k3 : drop = true ∧ 0 < val.length
   ·obtain ⟨rfl, k3⟩ := k3
    have s3 : decide ((0 : Int) < (val.length : Int)) = true := decide_eq_true (by omega)
    go_wp2
    go_ret
    exact HRET.out _ (by rw [HBA2.out]; simp [k3]) HBW.out
   have HK3 : Hid ((drop && decide (0 < val.length)) = false) := Lib.hid (by
    cases drop with
    | false => rfl
    | true =>
      have h : ¬ 0 < val.length := fun h => k3 ⟨rfl, h⟩
      simp only [Bool.true_and]; exact decide_eq_false h)
   have s3 : drop = true → decide ((0 : Int) < (val.length : Int)) = false := fun h => by
    subst h
    have h2 := HK3.out
    simp only [Bool.true_and] at h2
    have h3 := of_decide_eq_false h2
    exact decide_eq_false (by omega)
   have HT2 : Hid (∀ wx, Below W.heap.size W wx → wx.cell? ⟨g, off + i * 3, none⟩ = some (strV key)) := Lib.hid (fun wx hbx => (HCW.out wx hbx).1)
   cases drop with
   | false =>
     clear s3
     go_wp2_with fail
     go_loopw [6] (fun kv wx => ∃ k : Nat, k ≤ i ∧ kv = .int .i64 k ∧ Hid (∀ q, q < k → ∀ (h : q < cs.length), cs[q].key ≠ key) ∧ Below W.heap.size W wx) (fun k _ => i - (intOf k).toNat)
     case atStart => exact ⟨0, by omega, rfl, Lib.hid (fun q hq => by omega), HBW.out⟩
     case round =>
      obtain ⟨k, hki, rfl, HKS, hbk⟩ := hrel
      have HBK := Lib.hid hbk
      have HBKD := Lib.hid (hbk.trans ((bl_drew wr).mono hbk.size))
      clear hbk c0 c1 c2
      by_cases hk : k < i
      ·have t4 : decide ((k : Int) < (i : Int)) = true := decide_eq_true (by omega)
       have hkn : k < cs.length := by omega
       obtain ⟨av2, cv2, hc2⟩ := HALL.out k hkn
       have x0 := (hc2 _ HBKD.out).1
       have y0 := HT2.out _ HBKD.out
       clear hc2
       obtain ⟨kk, hkk⟩ : ∃ x, cs[k].key = x := ⟨_, rfl⟩
       rw [hkk] at x0
       have HKK := Lib.hid hkk
       clear hkk
       go_upto_region 11 with (fail)
       refine wp_region_mix (by kernel_rfl) (by kernel_rfl) (by kernel_rfl) [some (.slice (some ⟨g, off, none⟩) cs.length cap), some (.int .i64 (k : Int)), some (.pointer (some ⟨g, off + k * 3, none⟩)), some (.pointer (some ⟨g, off + k * 3, none⟩)), some (strV kk), some (.slice (some ⟨g, off, none⟩) cs.length cap), some (.int .i64 (i : Int)), some (.pointer (some ⟨g, off + i * 3, none⟩)), some (.pointer (some ⟨g, off + i * 3, none⟩)), some (strV key), some (.bool (kk == key))] [] (by kernel_rfl) (by kernel_rfl) (fun _ _ wx => wx = wr.drew) rfl ?_ ?_
       ·refine EachI.cons (MixOk.pure (by kernel_rfl) (fun _ => by kernel_rfl) (fun _ _ => by kernel_rfl)) ?_
        refine EachI.cons (MixOk.pure (by kernel_rfl) (fun _ => by kernel_rfl) (fun _ _ => by kernel_rfl)) ?_
        refine EachI.cons (MixOk.pure (by kernel_rfl) (fun _ => by kernel_rfl) (fun _ wx => xr_atC _ _ _ _ _ _ _ _ g off cs.length cap k wx (by kernel_rfl) (by kernel_rfl) hkn)) ?_
        refine EachI.cons (MixOk.pure (by kernel_rfl) (fun _ => by kernel_rfl) (fun _ _ => by kernel_rfl)) ?_
        refine EachI.cons (MixOk.look (by kernel_rfl) (fun _ => by kernel_rfl) (fun dn ws wx hG hdep hcl hni => xr_str _ _ _ _ _ _ _ ⟨g, off + k * 3, none⟩ _ wx (by kernel_rfl) (by subst hG; exact x0))) ?_
        refine EachI.cons (MixOk.pure (by kernel_rfl) (fun _ => by kernel_rfl) (fun _ _ => by kernel_rfl)) ?_
        refine EachI.cons (MixOk.pure (by kernel_rfl) (fun _ => by kernel_rfl) (fun _ _ => by kernel_rfl)) ?_
        refine EachI.cons (MixOk.pure (by kernel_rfl) (fun _ => by kernel_rfl) (fun _ wx => xr_atC _ _ _ _ _ _ _ _ g off cs.length cap i wx (by kernel_rfl) (by kernel_rfl) hlt)) ?_
        refine EachI.cons (MixOk.pure (by kernel_rfl) (fun _ => by kernel_rfl) (fun _ _ => by kernel_rfl)) ?_
        refine EachI.cons (MixOk.look (by kernel_rfl) (fun _ => by kernel_rfl) (fun dn ws wx hG hdep hcl hni => xr_str _ _ _ _ _ _ _ ⟨g, off + i * 3, none⟩ _ wx (by kernel_rfl) (by subst hG; exact y0))) ?_
        refine EachI.cons (MixOk.pure (by kernel_rfl) (fun _ => by kernel_rfl) (fun _ wx => xr_eqlS _ _ _ _ _ _ _ _ kk key wx (by kernel_rfl) (by kernel_rfl))) ?_
        exact EachI.nil
       intro ws L' hL' w7 hG7
       subst hG7
       simp only [setAll, mix, List.set_cons_succ, List.set_cons_zero, List.getElem?_cons_succ, List.getElem?_cons_zero, Option.join_some, Option.getD_some, Nat.reduceAdd] at hL'
       subst hL'
       cases hq : (kk == key) with
       | true =>
         have hm : ((cs.take i).map (·.key)).contains key = true := by
          have e : cs[k].key = key := by rw [HKK.out]; exact eq_of_beq hq
          have h : key ∈ (cs.take i).map (·.key) := List.mem_map.2 ⟨cs[k], List.mem_take_iff_getElem.2 ⟨k, by omega, rfl⟩, e⟩
          simpa using h
         go_wp2
         go_ret
         exact HRET.out _ (by rw [HBA2.out, hm]; simp) HBKD.out
       | false =>
         go_wp2
         go_roundw
         case rel => exact ⟨k + 1, by omega, by go_num, Lib.hid (fun q hq2 h => by
          by_cases e : q = k
          ·subst e; rw [HKK.out]; exact fun e => by rw [e] at hq; simp at hq
          ·exact HKS.out q (by omega) h), HBKD.out⟩
         case measure => simp [intOf]; omega
      ·obtain rfl : k = i := by omega
       have t4 : decide ((k : Int) < (k : Int)) = false := by simp
       have HNB : Hid (badAt cs k = false) := Lib.hid (by
        rw [HBA2.out, HK3.out]
        have hm : ((cs.take k).map (·.key)).contains key = false := by
         cases h : ((cs.take k).map (·.key)).contains key with
         | false => rfl
         | true =>
           have h2 : key ∈ (cs.take k).map (·.key) := by simpa using h
           obtain ⟨c, hc, e⟩ := List.mem_map.1 h2
           obtain ⟨q, hq, e2⟩ := List.mem_take_iff_getElem.1 hc
           exact absurd (by rw [e2]; exact e) (HKS.out q (by omega) (by omega))
        rw [hm]; simp [k1, k2])
       go_wp2
       go_roundw
       case rel => exact ⟨k + 1, by omega, by go_num, Lib.hid (fun q hq => by
        by_cases e : q = k
        ·rw [e]; exact HNB.out
        ·exact HF.out q (by omega)), HBK.out⟩
       case measure => simp [intOf]; omega
   | true =>
     have hv0 : val.length = 0 := by have h := of_decide_eq_false (s3 rfl); omega
     rw [hv0] at c1
     clear s3 k3
     go_wp2_with fail
     go_loopw [6] (fun kv wx => ∃ k : Nat, k ≤ i ∧ kv = .int .i64 k ∧ Hid (∀ q, q < k → ∀ (h : q < cs.length), cs[q].key ≠ key) ∧ Below W.heap.size W wx) (fun k _ => i - (intOf k).toNat)
     case atStart => exact ⟨0, by omega, rfl, Lib.hid (fun q hq => by omega), HBW.out⟩
     case round =>
      obtain ⟨k, hki, rfl, HKS, hbk⟩ := hrel
      have HBK := Lib.hid hbk
      have HBKD := Lib.hid (hbk.trans ((bl_drew wr).mono hbk.size))
      clear hbk c0 c1 c2
      by_cases hk : k < i
      ·have t4 : decide ((k : Int) < (i : Int)) = true := decide_eq_true (by omega)
       have hkn : k < cs.length := by omega
       obtain ⟨av2, cv2, hc2⟩ := HALL.out k hkn
       have x0 := (hc2 _ HBKD.out).1
       have y0 := HT2.out _ HBKD.out
       clear hc2
       obtain ⟨kk, hkk⟩ : ∃ x, cs[k].key = x := ⟨_, rfl⟩
       rw [hkk] at x0
       have HKK := Lib.hid hkk
       clear hkk
       go_upto_region 11 with (fail)
       refine wp_region_mix (by kernel_rfl) (by kernel_rfl) (by kernel_rfl) [some (.slice (some ⟨g, off, none⟩) cs.length cap), some (.int .i64 (k : Int)), some (.pointer (some ⟨g, off + k * 3, none⟩)), some (.pointer (some ⟨g, off + k * 3, none⟩)), some (strV kk), some (.slice (some ⟨g, off, none⟩) cs.length cap), some (.int .i64 (i : Int)), some (.pointer (some ⟨g, off + i * 3, none⟩)), some (.pointer (some ⟨g, off + i * 3, none⟩)), some (strV key), some (.bool (kk == key))] [] (by kernel_rfl) (by kernel_rfl) (fun _ _ wx => wx = wr.drew) rfl ?_ ?_
       ·refine EachI.cons (MixOk.pure (by kernel_rfl) (fun _ => by kernel_rfl) (fun _ _ => by kernel_rfl)) ?_
        refine EachI.cons (MixOk.pure (by kernel_rfl) (fun _ => by kernel_rfl) (fun _ _ => by kernel_rfl)) ?_
        refine EachI.cons (MixOk.pure (by kernel_rfl) (fun _ => by kernel_rfl) (fun _ wx => xr_atC _ _ _ _ _ _ _ _ g off cs.length cap k wx (by kernel_rfl) (by kernel_rfl) hkn)) ?_
        refine EachI.cons (MixOk.pure (by kernel_rfl) (fun _ => by kernel_rfl) (fun _ _ => by kernel_rfl)) ?_
        refine EachI.cons (MixOk.look (by kernel_rfl) (fun _ => by kernel_rfl) (fun dn ws wx hG hdep hcl hni => xr_str _ _ _ _ _ _ _ ⟨g, off + k * 3, none⟩ _ wx (by kernel_rfl) (by subst hG; exact x0))) ?_
        refine EachI.cons (MixOk.pure (by kernel_rfl) (fun _ => by kernel_rfl) (fun _ _ => by kernel_rfl)) ?_
        refine EachI.cons (MixOk.pure (by kernel_rfl) (fun _ => by kernel_rfl) (fun _ _ => by kernel_rfl)) ?_
        refine EachI.cons (MixOk.pure (by kernel_rfl) (fun _ => by kernel_rfl) (fun _ wx => xr_atC _ _ _ _ _ _ _ _ g off cs.length cap i wx (by kernel_rfl) (by kernel_rfl) hlt)) ?_
        refine EachI.cons (MixOk.pure (by kernel_rfl) (fun _ => by kernel_rfl) (fun _ _ => by kernel_rfl)) ?_
        refine EachI.cons (MixOk.look (by kernel_rfl) (fun _ => by kernel_rfl) (fun dn ws wx hG hdep hcl hni => xr_str _ _ _ _ _ _ _ ⟨g, off + i * 3, none⟩ _ wx (by kernel_rfl) (by subst hG; exact y0))) ?_
        refine EachI.cons (MixOk.pure (by kernel_rfl) (fun _ => by kernel_rfl) (fun _ wx => xr_eqlS _ _ _ _ _ _ _ _ kk key wx (by kernel_rfl) (by kernel_rfl))) ?_
        exact EachI.nil
       intro ws L' hL' w7 hG7
       subst hG7
       simp only [setAll, mix, List.set_cons_succ, List.set_cons_zero, List.getElem?_cons_succ, List.getElem?_cons_zero, Option.join_some, Option.getD_some, Nat.reduceAdd] at hL'
       subst hL'
       cases hq : (kk == key) with
       | true =>
         have hm : ((cs.take i).map (·.key)).contains key = true := by
          have e : cs[k].key = key := by rw [HKK.out]; exact eq_of_beq hq
          have h : key ∈ (cs.take i).map (·.key) := List.mem_map.2 ⟨cs[k], List.mem_take_iff_getElem.2 ⟨k, by omega, rfl⟩, e⟩
          simpa using h
         go_wp2
         go_ret
         exact HRET.out _ (by rw [HBA2.out, hm]; simp) HBKD.out
       | false =>
         go_wp2
         go_roundw
         case rel => exact ⟨k + 1, by omega, by go_num, Lib.hid (fun q hq2 h => by
          by_cases e : q = k
          ·subst e; rw [HKK.out]; exact fun e => by rw [e] at hq; simp at hq
          ·exact HKS.out q (by omega) h), HBKD.out⟩
         case measure => simp [intOf]; omega
      ·obtain rfl : k = i := by omega
       have t4 : decide ((k : Int) < (k : Int)) = false := by simp
       have HNB : Hid (badAt cs k = false) := Lib.hid (by
        rw [HBA2.out, HK3.out]
        have hm : ((cs.take k).map (·.key)).contains key = false := by
         cases h : ((cs.take k).map (·.key)).contains key with
         | false => rfl
         | true =>
           have h2 : key ∈ (cs.take k).map (·.key) := by simpa using h
           obtain ⟨c, hc, e⟩ := List.mem_map.1 h2
           obtain ⟨q, hq, e2⟩ := List.mem_take_iff_getElem.1 hc
           exact absurd (by rw [e2]; exact e) (HKS.out q (by omega) (by omega))
        rw [hm]; simp [k1, k2])
       go_wp2
       go_roundw
       case rel => exact ⟨k + 1, by omega, by go_num, Lib.hid (fun q hq => by
        by_cases e : q = k
        ·rw [e]; exact HNB.out
        ·exact HF.out q (by omega)), HBK.out⟩
       case measure => simp [intOf]; omega
  ·obtain rfl : i = cs.length := by omega
   have t3 : decide ((cs.length : Int) < (cs.length : Int)) = false := by simp
   have HKEY : Hid (∀ (q : Nat) (h : q < cs.length), cs[q].key.length ≤ 40) := Lib.hid (fun q h => by
    have h1 := HF.out q h
    rw [badAt_eq cs q h] at h1
    unfold bad1 at h1
    simp only [Bool.or_eq_false_iff, decide_eq_false_iff_not] at h1
    omega)
   go_wp2_with fail
   go_loopw [7] (fun kv wx => ∃ k : Nat, k ≤ cs.length ∧ kv = .int .i64 k ∧ Hid (∀ q, q < k → ∀ (h : q < cs.length), cs[q].val.length ≤ 4096) ∧ Below W.heap.size W wx) (fun k _ => cs.length - (intOf k).toNat)
   case atStart => exact ⟨0, Nat.zero_le _, rfl, Lib.hid (fun q hq => by omega), HBW.out⟩
   case round =>
    obtain ⟨k, hkn, rfl, HVL, hbk⟩ := hrel
    have HBK := Lib.hid hbk
    clear hbk
    by_cases hk : k < cs.length
    ·have t4 : decide ((k : Int) < (cs.length : Int)) = true := decide_eq_true (by omega)
     obtain ⟨av, cv, hcw⟩ := HALL.out k hk
     obtain ⟨_, c1, _⟩ := hcw wr HBK.out
     clear hcw
     have hbd := (HBD.out cs[k] (List.getElem_mem hk)).2
     obtain ⟨vl, hvl⟩ : ∃ n, cs[k].val.length = n := ⟨_, rfl⟩
     rw [hvl] at c1 hbd
     have HVK := Lib.hid hvl
     clear hvl
     by_cases h4 : 4096 < vl
     ·have s1 : decide ((4096 : Int) < (vl : Int)) = true := decide_eq_true (by omega)
      have HR3 : Hid (Ending.returned (.int .i64 3) = .returned (.int .i64 (rCheckN P cs))) := Lib.hid (by
       rw [rck_valid HM.out (valid_long cs HF.out (by
        have h : (cs.any fun c => decide (4096 < c.val.length)) = true := List.any_eq_true.2 ⟨cs[k], List.getElem_mem hk, decide_eq_true (by rw [HVK.out]; exact h4)⟩
        rw [h]; rfl)) (by decide)])
      go_wp2
      go_ret
      exact ⟨HR3.out, HBK.out⟩
     ·have s1 : decide ((4096 : Int) < (vl : Int)) = false := decide_eq_false (by omega)
      go_wp2
      go_roundw
      case rel => exact ⟨k + 1, by omega, by go_num, Lib.hid (fun q hq h => by
       by_cases e : q = k
       ·subst e; rw [HVK.out]; omega
       ·exact HVL.out q (by omega) h), HBK.out⟩
      case measure => simp [intOf]; omega
    ·obtain rfl : k = cs.length := by omega
     have t4 : decide ((cs.length : Int) < (cs.length : Int)) = false := by simp
     have HCD := Lib.hid (rcode_c (.slice (some ⟨g, off, none⟩) cs.length cap) cs wr ((HC.out.below HBK.out).raise HBK.out.size) (by omega) (fun c hc => by
      obtain ⟨q, hq, rfl⟩ := List.mem_iff_getElem.1 hc
      have h1 := HKEY.out q hq
      have h2 := HVL.out q hq hq
      omega))
     go_wp2_with fail
     refine HCD.out.mono ?_
     rintro e w2 ⟨⟨v2, rfl, hown⟩, hb2⟩
     obtain ⟨a2, c2, rfl, _⟩ := (RdB.of_own hown).open_
     have HB2 := Lib.hid (HBK.out.trans (hb2.mono HBK.out.size))
     clear HCD hown hb2
     have hcs : (codeOf cs).length = codeSize cs := code_len cs
     obtain ⟨cn, hcn⟩ : ∃ n, (codeOf cs).length = n := ⟨_, rfl⟩
     rw [hcn] at hcs
     rw [hcn]
     have HCS := Lib.hid hcs
     have hcb : cn ≤ 10000000 := by
      rw [hcs]
      have h : ∀ L : List Chg, (∀ c ∈ L, c.key.length ≤ 40 ∧ c.val.length ≤ 4096) → (L.map chgSize).sum ≤ L.length * 5000 := by
       intro L
       induction L with
       | nil => intro _; simp
       | cons x L ih =>
         intro h
         have h1 := ih (fun c hc => h c (List.mem_cons_of_mem _ hc))
         have h2 := h x List.mem_cons_self
         rw [List.map_cons, List.sum_cons, List.length_cons]
         have h3 : chgSize x ≤ 5000 := by unfold chgSize; split <;> omega
         omega
      have h2 := h cs (fun c hc => by
       obtain ⟨q, hq, rfl⟩ := List.mem_iff_getElem.1 hc
       exact ⟨HKEY.out q hq, HVL.out q hq hq⟩)
      unfold codeSize
      have h4 : cs.length * 5000 ≤ 64 * 5000 := Nat.mul_le_mul_right _ hn64
      omega
     clear hcs hcn
     have HAV : Hid ((cs.any fun c => decide (4096 < c.val.length)) = false) := Lib.hid (by
      rw [List.any_eq_false]
      intro c hc
      obtain ⟨q, hq, rfl⟩ := List.mem_iff_getElem.1 hc
      have h2 := HVL.out q hq hq
      simp; omega)
     by_cases hlong : 65536 < cn
     ·have s1 : decide ((65536 : Int) < (cn : Int)) = true := decide_eq_true (by omega)
      have HR3 : Hid (Ending.returned (.int .i64 3) = .returned (.int .i64 (rCheckN P cs))) := Lib.hid (by
       rw [rck_valid HM.out (valid_long cs HF.out (by rw [← HCS.out, decide_eq_true hlong]; simp)) (by decide)])
      go_wp2
      go_ret
      exact ⟨HR3.out, HB2.out⟩
     have s1 : decide ((65536 : Int) < (cn : Int)) = false := decide_eq_false (by omega)
     have HVAL : Hid (validP cs = 0) := Lib.hid (valid_fine cs HF.out (by rw [HAV.out, ← HCS.out, decide_eq_false hlong]; rfl))
     go_wp2_with fail
     go_loopw [8] (fun kv wx => ∃ k : Nat, k ≤ cs.length ∧ kv = .int .i64 k ∧ Hid (∀ q, q < k → ∀ (h : q < cs.length), (cs[q].drop && !(pFind P cs[q].key).isSome) = false) ∧ Below W.heap.size W wx) (fun k _ => cs.length - (intOf k).toNat)
     case atStart => exact ⟨0, Nat.zero_le _, rfl, Lib.hid (fun q hq => by omega), HB2.out⟩
     case round =>
      obtain ⟨k, hkn, rfl, HMS, hbk⟩ := hrel
      have HBQ := Lib.hid hbk
      clear hbk
      by_cases hk : k < cs.length
      ·have t5 : decide ((k : Int) < (cs.length : Int)) = true := decide_eq_true (by omega)
       obtain ⟨av, cv, hcw⟩ := HALL.out k hk
       obtain ⟨x0, _, x2⟩ := hcw wr HBQ.out
       clear hcw
       obtain ⟨ck, hck⟩ : ∃ c, cs[k] = c := ⟨_, rfl⟩
       rw [hck] at x0 x2
       have HCK := Lib.hid hck
       clear hck
       obtain ⟨key, val, drop⟩ := ck
       simp only at x0 x2
       cases drop with
       | false =>
         go_wp2
         go_roundw
         case rel => exact ⟨k + 1, by omega, by go_num, Lib.hid (fun q hq h => by
          by_cases e : q = k
          ·subst e; rw [HCK.out]; rfl
          ·exact HMS.out q (by omega) h), HBQ.out⟩
         case measure => simp [intOf]; omega
       | true =>
         have HFD := Lib.hid (rfind_c (.slice al P.length cl) P key W.heap.size wr (HV.out.below HBQ.out))
         go_wp2_with fail
         refine HFD.out.mono ?_
         rintro e w3 ⟨⟨n, rfl, hn1, hn2⟩, rfl⟩
         clear HFD
         cases hs : (pFind P key).isSome with
         | true =>
           rw [hs] at hn2
           have hn3 : decide (n < 0) = false := hn2
           clear hn2
           go_wp2
           go_roundw
           case rel => exact ⟨k + 1, by omega, by go_num, Lib.hid (fun q hq h => by
            by_cases e : q = k
            ·subst e; rw [HCK.out]; simp only [hs]; rfl
            ·exact HMS.out q (by omega) h), HBQ.out⟩
           case measure => simp [intOf]; omega
         | false =>
           rw [hs] at hn2
           have hn3 : decide (n < 0) = true := hn2
           have HR6 : Hid (Ending.returned (.int .i64 6) = .returned (.int .i64 (rCheckN P cs))) := Lib.hid (by
            rw [rck_none HM.out HVAL.out (List.any_eq_true.2 ⟨cs[k], List.getElem_mem hk, by rw [HCK.out]; simp only [hs]; rfl⟩)])
           clear hn2
           go_wp2
           go_ret
           exact ⟨HR6.out, HBQ.out⟩
      ·obtain rfl : k = cs.length := by omega
       have t5 : decide ((cs.length : Int) < (cs.length : Int)) = false := by simp
       have HRS : Hid (rCheckN P cs = if 131072 < pWt (pChgs P cs) then 4 else 0) := Lib.hid (rck_rest HM.out HVAL.out (by
        rw [List.any_eq_false]
        intro c hc
        obtain ⟨q, hq, rfl⟩ := List.mem_iff_getElem.1 hc
        have h2 := HMS.out q hq hq
        rw [h2]; simp))
       have HCH := Lib.hid (rchanged_c (.slice al P.length cl) P (.slice (some ⟨g, off, none⟩) cs.length cap) cs wr ((HV.out.below HBQ.out).mono HBQ.out.size) ((HC.out.below HBQ.out).raise HBQ.out.size) hP (by omega))
       go_wp2_with fail
       refine HCH.out.mono ?_
       rintro e w5 ⟨⟨v5, rfl, he5⟩, hb5⟩
       have HB5 := Lib.hid (HBQ.out.trans (hb5.mono HBQ.out.size))
       have HWT := Lib.hid (rweight_c v5 (pChgs P cs) w5.heap.size w5 he5 HW.out)
       clear HCH hb5 he5
       go_wp2_with fail
       refine HWT.out.mono ?_
       rintro e w6 ⟨rfl, hb6⟩
       have HB6 := Lib.hid (HB5.out.trans (hb6.mono HB5.out.size))
       clear HWT hb6
       obtain ⟨wt, hwt⟩ : ∃ n, pWt (pChgs P cs) = n := ⟨_, rfl⟩
       rw [hwt]
       rw [hwt] at HRS
       clear hwt
       by_cases hf : 131072 < wt
       ·have s2 : decide ((131072 : Int) < wt) = true := decide_eq_true hf
        have HR4 : Hid (Ending.returned (.int .i64 4) = .returned (.int .i64 (rCheckN P cs))) := Lib.hid (by rw [HRS.out, if_pos hf])
        go_wp2
        go_ret
        exact ⟨HR4.out, HB6.out⟩
       ·have s2 : decide ((131072 : Int) < wt) = false := decide_eq_false hf
        have HR0 : Hid (Ending.returned (.int .i64 0) = .returned (.int .i64 (rCheckN P cs))) := Lib.hid (by rw [HRS.out, if_neg hf])
        go_wp2
        go_ret
        exact ⟨HR0.out, HB6.out⟩
end Go.Proofs.YtondomklkapogaaGreatDoor
