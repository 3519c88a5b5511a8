/- The walks of weigh, weightAfter, possible. -/
import Derived.Test.YtondomklkapogaaDoorJValid
import Derived.Deep.RegionHeld3
namespace Go.Proofs.YtondomklkapogaaDoor
open Go.RowKit SeedP Go.Maps
theorem Grown.map_drew {w : World} {mb : Nat} {p : Nat → Prop} {L : List Ent} (h : MapAt w mb p L) : MapAt w.drew mb p L := ⟨h.own, h.val⟩
/-- weigh -/
theorem weigh_c (k : ByteArray) (a : Option Addr) (n c : Nat) (w : World) (hk : k.size ≤ 4294967296) (hn : n ≤ 4294967296) :
    Calls Tryd.prog 50 #[.string k, .slice a n c] w fun e w' => e = .returned (.int .i64 (3 + k.size + n)) ∧ w = w' := by
  go_enter Tryd.func50, Tryd.ntmps50
  go_wp2
  go_ret
  exact ⟨rfl, rfl⟩
/-- the change of the weight by one change -/
def chgWeight (L : List Ent) (c : Chg) : Int := (if c.drop then 0 else 3 + (c.key.length : Int) + c.val.length) - match eFind L c.key with | some e => 3 + (c.key.length : Int) + e.bytes.length | none => 0
def wAfter (L : List Ent) (wt : Int) (cs : List Chg) : Int := wt + (cs.map (chgWeight L)).sum
theorem wAfter_take (L : List Ent) (wt : Int) (cs : List Chg) (j : Nat) (h : j < cs.length) : wAfter L wt (cs.take (j + 1)) = wAfter L wt (cs.take j) + chgWeight L cs[j] := by
  unfold wAfter; rw [List.take_succ_eq_append_getElem h, List.map_append, List.sum_append]; simp; omega
theorem chgWeight_bd (L : List Ent) (c : Chg) (hk : c.key.length ≤ 4294967296) (hv : c.val.length ≤ 4294967296) (hL : ∀ e ∈ L, e.bytes.length ≤ 4294967296) : -8589934600 ≤ chgWeight L c ∧ chgWeight L c ≤ 8589934600 := by
  unfold chgWeight
  cases hf : eFind L c.key with
  | none => simp only; split <;> omega
  | some e => have := hL e (eFind_mem hf).1; simp only; split <;> omega
set_option maxRecDepth 100000 in
/-- weightAfter -/
theorem weightAfter_c (cb co mb : Nat) (wt : Int) (v : Value) (cs : List Chg) (L : List Ent) (p : Nat → Prop) (w : World) (hm : w.cell? ⟨cb, co + 1, none⟩ = some (.map (some mb))) (hw : w.cell? ⟨cb, co + 2, none⟩ = some (.int .i64 wt))
    (hM : MapAt w mb p L) (hv : ChgsAt w w.heap.size v cs) (hn : cs.length ≤ 1000000) (hb : ∀ c ∈ cs, c.key.length ≤ 4294967296 ∧ c.val.length ≤ 4294967296) (hL : ∀ e ∈ L, e.bytes.length ≤ 4294967296) (hw0 : -4294967296 ≤ wt) (hw1 : wt ≤ 4294967296) :
    Calls Tryd.prog 31 #[.pointer (some ⟨cb, co, none⟩), v] w fun e w' => e = .returned (.int .i64 (wAfter L wt cs)) ∧ Below w.heap.size w w' := by
  obtain ⟨a, cap, rfl, hcap, hcm, hc⟩ := hv
  have HC := Lib.hid hc
  have HB := Lib.hid hb
  have HL := Lib.hid hL
  have HM := Lib.hid hM
  clear hc hb hL hM
  go_enter Tryd.func31, Tryd.ntmps31
  go_wp2
  go_loopw [5, 16] (fun z i wr => ∃ j : Nat, j ≤ cs.length ∧ i = .int .i64 j ∧ z = .int .i64 (wAfter L wt (cs.take j)) ∧ -4294967296 - (j : Int) * 8589934600 ≤ wAfter L wt (cs.take j) ∧ wAfter L wt (cs.take j) ≤ 4294967296 + (j : Int) * 8589934600 ∧ Below w.heap.size w wr) (fun _ i _ => cs.length - (intOf i).toNat)
  case atStart => exact ⟨0, Nat.zero_le _, rfl, by simp [wAfter], by simp [wAfter]; omega, by simp [wAfter]; omega, Below.refl _ _⟩
  case round =>
    obtain ⟨j, hj, rfl, rfl, z0, z1, hB⟩ := hrel
    by_cases hlt : j < cs.length
    · rcases HC.out with h | ⟨g, off, rfl, hg, hch⟩
      · rw [h] at hlt; simp at hlt
      obtain ⟨vv, h0, h1, h2, h3⟩ := (hch j hlt).below hB hg
      have b1 : (j : Int) < cs.length := by omega
      have hbd := HB.out cs[j] (List.getElem_mem hlt)
      obtain ⟨hbd1, hbd2⟩ := hbd
      have HST := Lib.hid (wAfter_take L wt cs j hlt)
      have hcw := chgWeight_bd L cs[j] hbd1 hbd2 HL.out
      generalize cs[j] = c at *
      obtain ⟨key, val, drop⟩ := c
      simp only at h0 h1 h2 hbd1 hbd2 h3
      obtain ⟨av, capv, rfl, _, _, _⟩ := h3.open_
      clear hch h3
      have hks : (⟨key.toArray⟩ : ByteArray).size = key.length := by show key.toArray.size = _; simp
      have HBB := hB.alloc hB.size (.cells #[.string ⟨key.toArray⟩, .slice av val.length capv, .bool drop] 65)
      have HM1 := HM.out.grown (S := fun _ => False) (Grown.of_below HBB) (by simp) (by simp)
      have hm1 := keep_cell HBB hm
      have hbk := Blk.new wr 65 [.string ⟨key.toArray⟩, .slice av val.length capv, .bool drop]
      clear hB
      go_upto_region 5 with (fail)
      clear h0 h1 h2
      have hbk : Blk (wr.alloc (.cells #[.string ⟨key.toArray⟩, .slice av val.length capv, .bool drop] 65)) wr.heap.size 65 [.string ⟨key.toArray⟩, .slice av val.length capv, .bool drop] := hbk
      generalize wr.alloc (.cells #[.string ⟨key.toArray⟩, .slice av val.length capv, .bool drop] 65) = w1 at *
      generalize wr.heap.size = gb at *
      have c0 := hbk.cell 0 (by simp)
      have c1 := hbk.cell 1 (by simp)
      have c2 := hbk.cell 2 (by simp)
      simp only [List.getD_cons_zero, List.getD_cons_succ] at c0 c1 c2
      have hlk := (Grown.map_drew HM1).look key (by unfold maxLen; omega)
      have HBW := Lib.hid HBB.drew
      have HCW : Hid (chgWeight L ⟨key, val, drop⟩ = (if drop then 0 else 3 + (key.length : Int) + val.length) - match eFind L key with | some e => 3 + (key.length : Int) + e.bytes.length | none => 0) := Lib.hid rfl
      have HVV := Lib.hid (fun e (he : eFind L key = some e) => And.intro (HL.out e (eFind_mem he).1) (HM1.val e (eFind_mem he).1))
      clear HM1 HBB hbk
      generalize hf : eFind L key = fnd at *
      have HFD := Lib.hid hf
      clear hf
      generalize wAfter L wt (cs.take j) = z at *
      cases fnd with
      | none =>
        simp only at hlk
        have HCW : Hid (chgWeight L ⟨key, val, drop⟩ = (if drop then 0 else 3 + (key.length : Int) + val.length) - 0) := HCW
        clear HVV HFD
        go_region_held3 (fun w' => w'.cell? ⟨cb, co + 1, none⟩ = some (.map (some mb)) ∧ w'.cell? ⟨gb, 0, none⟩ = some (.string ⟨key.toArray⟩))
          (exact ⟨hm1, c0⟩) (fail)
        clear hlk
        cases drop with
        | true =>
          have HCZ := Lib.hid HCW.out
          simp only [if_true] at HCZ
          go_wp2
          go_roundw
          case rel => exact ⟨j + 1, by omega, by go_num, by rw [HST.out, HCZ.out]; congr 1 <;> omega, by rw [HST.out]; omega, by rw [HST.out]; omega, HBW.out⟩
          case measure => simp [intOf]; omega
        | false =>
          have HCZ := Lib.hid HCW.out
          simp only [Bool.false_eq_true, if_false] at HCZ
          go_wp2_with fail
          refine (weigh_c ⟨key.toArray⟩ av val.length capv _ (by omega) (by omega)).mono ?_
          rintro e3 w3 ⟨rfl, rfl⟩
          rw [hks]
          go_wp2
          go_roundw
          case rel => exact ⟨j + 1, by omega, by go_num, by rw [HST.out, HCZ.out]; congr 1 <;> omega, by rw [HST.out]; omega, by rw [HST.out]; omega, HBW.out⟩
          case measure => simp [intOf]; omega
      | some e =>
        obtain ⟨heb, hev⟩ := HVV.out e rfl
        obtain ⟨ea, ec, hev2, _, _, _⟩ := hev.toB.open_
        simp only at hlk
        rw [hev2] at hlk
        have HCW : Hid (chgWeight L ⟨key, val, drop⟩ = (if drop then 0 else 3 + (key.length : Int) + val.length) - (3 + (key.length : Int) + e.bytes.length)) := HCW
        clear HVV HFD hev hev2
        go_region_held3 (fun w' => w'.cell? ⟨cb, co + 1, none⟩ = some (.map (some mb)) ∧ w'.cell? ⟨gb, 0, none⟩ = some (.string ⟨key.toArray⟩))
          (exact ⟨hm1, c0⟩) (fail)
        clear hlk
        cases drop with
        | true =>
          have HCZ := Lib.hid HCW.out
          simp only [if_true] at HCZ
          go_wp2_with fail
          refine (weigh_c ⟨key.toArray⟩ ea e.bytes.length ec _ (by omega) (by omega)).mono ?_
          rintro e2 w2 ⟨rfl, rfl⟩
          rw [hks]
          go_wp2
          go_roundw
          case rel => exact ⟨j + 1, by omega, by go_num, by rw [HST.out, HCZ.out]; congr 1 <;> omega, by rw [HST.out]; omega, by rw [HST.out]; omega, HBW.out⟩
          case measure => simp [intOf]; omega
        | false =>
          have HCZ := Lib.hid HCW.out
          simp only [Bool.false_eq_true, if_false] at HCZ
          go_wp2_with fail
          refine (weigh_c ⟨key.toArray⟩ ea e.bytes.length ec _ (by omega) (by omega)).mono ?_
          rintro e2 w2 ⟨rfl, rfl⟩
          rw [hks]
          go_wp2_with fail
          refine (weigh_c ⟨key.toArray⟩ av val.length capv _ (by omega) (by omega)).mono ?_
          rintro e3 w3 ⟨rfl, rfl⟩
          rw [hks]
          go_wp2
          go_roundw
          case rel => exact ⟨j + 1, by omega, by go_num, by rw [HST.out, HCZ.out]; congr 1 <;> omega, by rw [HST.out]; omega, by rw [HST.out]; omega, HBW.out⟩
          case measure => simp [intOf]; omega
    · obtain rfl : j = cs.length := by omega
      have hcs : wAfter L wt (cs.take cs.length) = wAfter L wt cs := by rw [List.take_of_length_le (Nat.le_refl _)]
      rw [hcs] at z0 z1 ⊢
      clear hcs
      go_wp2
      go_ret
      exact ⟨rfl, hB⟩
/-- can the changes be made -/
def possP (L : List Ent) (wt : Int) (cs : List Chg) : Bool := !(cs.any fun c => c.drop && !(eFind L c.key).isSome) && decide (wAfter L wt cs ≤ 131072)
theorem ChgsAt.up {w w' : World} {v : Value} {cs : List Chg} (h : ChgsAt w w.heap.size v cs) (hb : Below w.heap.size w w') : ChgsAt w' w'.heap.size v cs := by
  obtain ⟨a, cap, e, h1, h2, h3⟩ := h.below hb
  refine ⟨a, cap, e, h1, h2, ?_⟩
  rcases h3 with h3 | ⟨g, off, e2, hg, h4⟩
  · exact Or.inl h3
  · refine Or.inr ⟨g, off, e2, Nat.lt_of_lt_of_le hg hb.size, fun j hj => ?_⟩
    obtain ⟨vv, q0, q1, q2, q3⟩ := h4 j hj
    exact ⟨vv, q0, q1, q2, q3.mono hb.size⟩
set_option maxRecDepth 100000 in
/-- possible -/
theorem possible_c (cb co mb : Nat) (wt : Int) (v : Value) (cs : List Chg) (L : List Ent) (p : Nat → Prop) (w : World) (hm : w.cell? ⟨cb, co + 1, none⟩ = some (.map (some mb))) (hw : w.cell? ⟨cb, co + 2, none⟩ = some (.int .i64 wt))
    (hM : MapAt w mb p L) (hv : ChgsAt w w.heap.size v cs) (hn : cs.length ≤ 1000000) (hb : ∀ c ∈ cs, c.key.length ≤ 4294967296 ∧ c.val.length ≤ 4294967296) (hL : ∀ e ∈ L, e.bytes.length ≤ 4294967296) (hw0 : -4294967296 ≤ wt) (hw1 : wt ≤ 4294967296) :
    Calls Tryd.prog 46 #[.pointer (some ⟨cb, co, none⟩), v] w fun e w' => e = .returned (.bool (possP L wt cs)) ∧ Below w.heap.size w w' := by
  have HV := Lib.hid hv
  obtain ⟨a, cap, rfl, hcap, hcm, hc⟩ := hv
  have HC := Lib.hid hc
  have HB := Lib.hid hb
  have HL := Lib.hid hL
  have HM := Lib.hid hM
  clear hc hb hL hM
  go_enter Tryd.func46, Tryd.ntmps46
  go_wp2
  go_loopw [11] (fun i wr => ∃ j : Nat, j ≤ cs.length ∧ i = .int .i64 j ∧ (∀ q (h : q < j) (h2 : q < cs.length), (cs[q].drop && !(eFind L cs[q].key).isSome) = false) ∧ Below w.heap.size w wr) (fun i _ => cs.length - (intOf i).toNat)
  case atStart => exact ⟨0, Nat.zero_le _, rfl, fun q hq => by omega, Below.refl _ _⟩
  case round =>
    obtain ⟨j, hj, rfl, hok, hB⟩ := hrel
    have HOK := Lib.hid hok
    clear hok
    by_cases hlt : j < cs.length
    · rcases HC.out with h | ⟨g, off, rfl, hg, hch⟩
      · rw [h] at hlt; simp at hlt
      obtain ⟨vv, h0, h1, h2, h3⟩ := (hch j hlt).below hB hg
      have b1 : (j : Int) < cs.length := by omega
      have hbd := HB.out cs[j] (List.getElem_mem hlt)
      obtain ⟨hbd1, hbd2⟩ := hbd
      have HNO := Lib.hid (show (cs[j].drop && !(eFind L cs[j].key).isSome) = true → possP L wt cs = false from fun h => by
        unfold possP
        rw [show (cs.any fun c => c.drop && !(eFind L c.key).isSome) = true from List.any_eq_true.2 ⟨cs[j], List.getElem_mem hlt, h⟩]; rfl)
      have HNX := Lib.hid (show (cs[j].drop && !(eFind L cs[j].key).isSome) = false → ∀ q (h : q < j + 1) (h2 : q < cs.length), (cs[q].drop && !(eFind L cs[q].key).isSome) = false from fun h q hq h2 => by
        by_cases e : q = j
        · subst e; exact h
        · exact HOK.out q (by omega) h2)
      generalize cs[j] = c at *
      obtain ⟨key, val, drop⟩ := c
      simp only at h0 h1 h2 hbd1 hbd2 h3
      obtain ⟨av, capv, rfl, _, _, _⟩ := h3.open_
      clear hch h3
      have hks : (⟨key.toArray⟩ : ByteArray).size = key.length := by show key.toArray.size = _; simp
      have HBB := hB.alloc hB.size (.cells #[.string ⟨key.toArray⟩, .slice av val.length capv, .bool drop] 65)
      have HM1 := HM.out.grown (S := fun _ => False) (Grown.of_below HBB) (by simp) (by simp)
      have hm1 := keep_cell HBB hm
      have hbk := Blk.new wr 65 [.string ⟨key.toArray⟩, .slice av val.length capv, .bool drop]
      clear hB
      go_upto_region 4 with (fail)
      clear h0 h1 h2
      have hbk : Blk (wr.alloc (.cells #[.string ⟨key.toArray⟩, .slice av val.length capv, .bool drop] 65)) wr.heap.size 65 [.string ⟨key.toArray⟩, .slice av val.length capv, .bool drop] := hbk
      generalize wr.alloc (.cells #[.string ⟨key.toArray⟩, .slice av val.length capv, .bool drop] 65) = w1 at *
      generalize wr.heap.size = gb at *
      have c0 := hbk.cell 0 (by simp)
      have c2 := hbk.cell 2 (by simp)
      simp only [List.getD_cons_zero, List.getD_cons_succ] at c0 c2
      have hlk := (Grown.map_drew HM1).look key (by unfold maxLen; omega)
      have HBW := Lib.hid HBB.drew
      have HNO : Hid ((drop && !(eFind L key).isSome) = true → possP L wt cs = false) := HNO
      have HNX : Hid ((drop && !(eFind L key).isSome) = false → ∀ q (h : q < j + 1) (h2 : q < cs.length), (cs[q].drop && !(eFind L cs[q].key).isSome) = false) := HNX
      have HVV := Lib.hid (fun e (he : eFind L key = some e) => HM1.val e (eFind_mem he).1)
      clear HM1 HBB hbk
      generalize hf : eFind L key = fnd at *
      clear hf
      cases fnd with
      | none =>
        simp only at hlk
        clear HVV
        go_region_held3 (fun w' => w'.cell? ⟨cb, co + 1, none⟩ = some (.map (some mb)) ∧ w'.cell? ⟨gb, 0, none⟩ = some (.string ⟨key.toArray⟩))
          (exact ⟨hm1, c0⟩) (fail)
        clear hlk
        cases drop with
        | true =>
          have HR := Lib.hid (HNO.out rfl)
          go_wp2
          go_ret
          exact ⟨ret_bool HR.out.symm, HBW.out⟩
        | false =>
          go_wp2
          go_roundw
          case rel => exact ⟨j + 1, by omega, by go_num, HNX.out rfl, HBW.out⟩
          case measure => simp [intOf]; omega
      | some e =>
        have hev := HVV.out e rfl
        obtain ⟨ea, ec, hev2, _, _, _⟩ := hev.toB.open_
        simp only at hlk
        rw [hev2] at hlk
        clear HVV hev hev2
        go_region_held3 (fun w' => w'.cell? ⟨cb, co + 1, none⟩ = some (.map (some mb)) ∧ w'.cell? ⟨gb, 0, none⟩ = some (.string ⟨key.toArray⟩))
          (exact ⟨hm1, c0⟩) (fail)
        clear hlk
        have HR := Lib.hid (HNX.out (by cases drop <;> rfl))
        clear HNX HNO
        cases drop with
        | true =>
          go_wp2
          go_roundw
          case rel => exact ⟨j + 1, by omega, by go_num, HR.out, HBW.out⟩
          case measure => simp [intOf]; omega
        | false =>
          go_wp2
          go_roundw
          case rel => exact ⟨j + 1, by omega, by go_num, HR.out, HBW.out⟩
          case measure => simp [intOf]; omega
    · obtain rfl : j = cs.length := by omega
      have HPP := Lib.hid (show possP L wt cs = decide (wAfter L wt cs ≤ 131072) by
        unfold possP
        rw [show (cs.any fun c => c.drop && !(eFind L c.key).isSome) = false from by
          rw [Bool.eq_false_iff]; intro h
          obtain ⟨c, hc, h2⟩ := List.any_eq_true.1 h
          obtain ⟨q, hq, rfl⟩ := List.mem_iff_getElem.1 hc
          rw [HOK.out q hq hq] at h2; cases h2]; rfl)
      have HW := Lib.hid (weightAfter_c cb co mb wt _ cs L p wr (keep_cell hB hm) (keep_cell hB hw) (HM.out.grown (S := fun _ => False) (Grown.of_below hB) (by simp) (by simp)) (HV.out.up hB) hn HB.out HL.out hw0 hw1)
      generalize wAfter L wt cs = z at *
      go_wp2_with fail
      refine HW.out.mono ?_
      rintro e w2 ⟨rfl, hb2⟩
      go_wp2
      go_ret
      exact ⟨ret_bool HPP.out.symm, hB.trans (hb2.mono hB.size)⟩
end Go.Proofs.YtondomklkapogaaDoor
