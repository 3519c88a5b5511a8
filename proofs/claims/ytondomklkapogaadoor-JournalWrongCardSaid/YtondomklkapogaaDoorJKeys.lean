/- The walks of HasPrefix and Keys. -/
import Derived.Test.YtondomklkapogaaDoorJCall
import Derived.Maps.RangeWalk
import Derived.Sort.OwnSorted
namespace Go.Proofs.YtondomklkapogaaDoor
open Go.RowKit SeedP Go.Maps Go.Shelf Go.Sort
/-- does p stand at the front of k -/
def isPref (p k : List UInt8) : Bool := decide (p.length ≤ k.length) && k.take p.length == p
set_option maxRecDepth 100000 in
theorem hasPrefixL_c (k p : List UInt8) (w : World) (hp : p.length ≤ 140737488351232) :
    Calls Tryd.prog 54 #[strV k, strV p] w fun e w' => e = .returned (.bool (isPref p k)) ∧ w = w' := by
  have hks : (⟨k.toArray⟩ : ByteArray).size = k.length := by show k.toArray.size = _; simp
  have hps : (⟨p.toArray⟩ : ByteArray).size = p.length := by show p.toArray.size = _; simp
  by_cases hl : p.length ≤ k.length
  · have hlb : (decide (p.length ≤ k.length)) = true := by simpa using hl
    have hl2 : (p.length : Int) ≤ (k.length : Int) := by omega
    have h0 : (0 : Int) ≤ (p.length : Int) := by omega
    go_enter Tryd.func54, Tryd.ntmps54
    go_wp2
    go_ret
    refine ⟨?_, rfl⟩
    show Ending.returned (.bool (((⟨k.toArray⟩ : ByteArray).extract 0 p.length).toList == p)) = _
    have e : ((⟨k.toArray⟩ : ByteArray).extract 0 p.length).toList = k.take p.length := by
      rw [ByteArray.toList_eq, Lib.extract_data]; simp
    rw [e]
    unfold isPref; rw [hlb, Bool.true_and]
  · have hlb : (decide (p.length ≤ k.length)) = false := by simpa using hl
    go_enter Tryd.func54, Tryd.ntmps54
    go_wp2
    go_ret
    exact ⟨by unfold isPref; rw [hlb]; rfl, rfl⟩
set_option maxRecDepth 100000 in
theorem hasPrefix_c (k p : List UInt8) (w : World) (hp : p.length ≤ 140737488351232) :
    Calls Tryd.prog 41 #[strV k, strV p] w fun e w' => e = .returned (.bool (isPref p k)) ∧ w = w' := by
  have HL := Lib.hid (hasPrefixL_c k p w hp)
  clear hp
  generalize isPref p k = b at *
  go_enter Tryd.func41, Tryd.ntmps41
  go_wp2_with fail
  refine HL.out.mono ?_
  rintro e w1 ⟨rfl, rfl⟩
  go_wp2
  go_ret
  exact ⟨rfl, rfl⟩
theorem infoS : (Tryd.prog.info? 9).map (fun i => (i.zero, i.size, i.bytes)) = some (some (.string ⟨#[]⟩), 1, 16) := by kernel_rfl
theorem keysOf_len {P : PEnts} (h : SmallEnts P) {k : List UInt8} (hk : k ∈ keysOf P) : k.length ≤ 40 := by
  obtain ⟨e, he, rfl⟩ := List.mem_map.1 hk
  exact (h.key e he).2
theorem sort_filter {P : PEnts} (ho : Ordered P) {ss : List (List UInt8)} (h : ss.Perm (keysOf P)) (f : List UInt8 → Bool) : (ss.filter f).mergeSort (fun x y => decide (x ≤ y)) = (keysOf P).filter f := by
  have e := mergeSort_of_perm (h.filter f)
  have e2 : (ss.filter f).mergeSort (fun x y => decide (x ≤ y)) = (ss.filter f).mergeSort Go.leB := rfl
  rw [e2, e]
  refine List.mergeSort_of_pairwise ?_
  refine List.Pairwise.sublist List.filter_sublist ?_
  unfold keysOf
  rw [List.pairwise_map]
  refine ho.imp ?_
  intro a b hab
  simp only [Go.leB, decide_eq_true_eq]
  exact List.le_of_lt (blt_lt hab)
set_option maxRecDepth 100000 in
set_option maxHeartbeats 2000000 in
/-- Keys -/
theorem keysFn_c {jb db mb : Nat} {p : Nat → Prop} {s : JS} (pf : List UInt8) (w : World) (h : JW w jb db mb p s) (hpf : pf.length ≤ 140737488351232) :
    Calls Tryd.prog 19 #[.pointer (some ⟨jb, 0, none⟩), strV pf] w fun e w' => ∃ v, e = .returned v ∧
      w'.ownsRow w.heap.size 9 1 v (if s.down then [] else (keysOf s.c.ents).filter (isPref pf)).length ((if s.down then [] else (keysOf s.c.ents).filter (isPref pf)).map strV) ∧ Below w.heap.size w w' := by
  obtain ⟨i0, hi, hz0, hz1, hz2⟩ := info_parts infoS
  have k4 := h.cells.2.2.2.2.1
  have HU := Lib.hid (usable_c w h)
  obtain ⟨L, hM, hE⟩ := h.map
  have hown := hM.own
  have hml := hM.lt
  have hll : L.length ≤ 131072 := by
    have h1 := pWt_len s.c.ents
    have h2 := h.ok.wt
    have h3 := h.ok.max
    have : L.length = s.c.ents.length := by rw [← hE, EB_length]
    omega
  have HS := Lib.hid (And.intro h.ord (And.intro h.small hE))
  clear h hM
  generalize s.down = d at *
  cases d
  · simp only [Bool.false_eq_true, if_false]
    go_enter Tryd.func19, Tryd.ntmps19
    go_wp2_with fail
    refine HU.out.mono ?_
    rintro e w1 ⟨rfl, rfl⟩
    clear HU
    go_wp2_with (first
      | (at_range; refine wpList_range_own _ rfl _ 67 rfl 9 _ keyed Tryd.underlying67 _ mb _ _ rfl hown ?_; intro w0 hrg0 hg0 hs0)
      | fail)
    go_frame
    generalize hF : isPref pf = f at *
    have HFF := Lib.hid hF
    clear hF
    have hsz0 : Maps.size (toD L) = L.length := toD_size L
    go_loopw [5] (fun v wr => ∃ (left : Lit → Bool) (cnt : Nat) (ss : List (List UInt8)), wr.ranges Tryd.prog 9 tokR mb w.heap.size L.length (toD L) left cnt ∧ ss.length + cnt ≤ L.length ∧
        wr.ownsRow w.heap.size 9 1 v (ss.filter f).length ((ss.filter f).map encStr) ∧ Collected (toD L) left ss ∧ Below w.heap.size w wr)
      (fun _ wr => wr.rangeLeft mb w.heap.size)
    case atStart =>
      exact ⟨_, _, [], hrg0, by rw [hsz0]; simp, by simpa using World.ownsRow_nil w0 w.heap.size 9 1, Collected.start _, (Below.refl _ _).grown hg0 (Nat.le_refl _) (fun j hj => by cases hj)⟩
    case round =>
      obtain ⟨left, cnt, ss, hrg, hcs, hrow, hC, hnx⟩ := hrel
      go_wp2_with (first
        | (at_next; refine wpList_next_ranges _ rfl _ rfl 9 keyed tokR encStr (fun v : Value => v) (fun key kl hk => by obtain ⟨x, hx, _⟩ := Maps.keyOf_str Tryd.underlying9 hk; exact ⟨x, hx⟩) (fun v y hv => ⟨v, rfl⟩) mb w.heap.size L.length _ _ _ rfl hrg ?_ ?_)
        | fail)
      · intro hc0 hl0
        have hperm := hC.perm hown keyed Tryd.underlying9 hl0
        rw [strKeys_toD, hE] at hperm
        have HSF := Lib.hid (sort_filter HS.out.1 hperm f)
        have hfl : (ss.filter f).length = ((keysOf s.c.ents).filter f).length := (hperm.filter f).length_eq
        rcases hrow.2 with ⟨rfl, hx⟩ | ⟨g, cap, cur, rfl, hbase, hb, h1, h2, h3, h4⟩
        · have hnil : ss.filter f = [] := by simpa using hx
          have HSN := Lib.hid (AnyM.slices_Sort_string_none Tryd.sort42 none 0 wr)
          have hk0 : (keysOf s.c.ents).filter f = [] := by
            rw [hnil] at hfl
            exact List.eq_nil_of_length_eq_zero (by simpa using hfl.symm)
          have HK0 := Lib.hid hk0
          have HNX := Lib.hid hnx
          clear hrow hperm hfl hx hnil hk0 hcs hC hrg hrg0 hg0 hs0
          go_wp2_with (first | (go_at_call 42; refine HSN.out.mono ?_; rintro e w' ⟨rfl, rfl⟩) | fail)
          go_ret
          refine ⟨_, rfl, ?_, HNX.out⟩
          rw [HFF.out, HK0.out]
          simpa using World.ownsRow_nil w' w.heap.size 9 1
        · have hH : Holds encStr wr g 0 (ss.filter f).toArray := holds_of_block hb (by simpa using h4)
          have hgl : g < wr.heap.size := (Array.getElem?_eq_some_iff.1 hb).1
          have hfl2 : (ss.filter f).length ≤ ss.length := List.length_filter_le _ _
          have HSN := Lib.hid (AnyM.slices_Sort_string Tryd.sort42 g 0 cap (ss.filter f) wr hH hgl (by omega))
          have HFI := Lib.hid (fun (nn : Nat) (os : Array Obj) => And.intro (ownsRow_sorted (n := nn) (os := os) (ss := ss.filter f) (ts := (ss.filter f).mergeSort (fun x y => decide (x ≤ y))) (by simp) hbase hb h1 h2 h3) (hnx.grown (grownBy_sorted (n := nn) (os := os) ((ss.filter f).mergeSort (fun x y => decide (x ≤ y))).toArray) hnx.size (fun j hj => by cases hj; exact hbase)))
          have HFL := Lib.hid hfl
          clear hrow hperm hfl hfl2 hH hb h1 h2 h3 h4 hcs hC hrg hrg0 hg0 hs0
          go_wp2_with (first | (go_at_call 42; refine HSN.out.mono ?_; rintro e w' ⟨rfl, nn, os, rfl⟩) | fail)
          go_ret
          have hfi := HFI.out nn os
          rw [HSF.out] at hfi
          refine ⟨_, rfl, ?_, ?_⟩
          · rw [HFF.out, ← HFL.out, HSF.out]; exact hfi.1
          · rw [HSF.out]; exact hfi.2
      · intro x c kl yd yp w2 cnt2 hkey hlk hv hat hrg2 hlt hg2 hs2 hen
        obtain ⟨x', ex, rfl, _⟩ := Maps.keyOf_str Tryd.underlying9 hkey
        obtain rfl : x = x' := encStr_inj ex
        have hrow2 := hrow.kept hg2 (Or.inr (row_ne_iter hrow hrg).symm)
        have hC2 := hC.step hlk hat
        have hB2 : Below w.heap.size w w2 := hnx.grown hg2 hnx.size (fun j hj => by cases hj; exact Nat.le_refl _)
        have HP := Lib.hid (hasPrefix_c x pf w2 hpf)
        rw [HFF.out] at HP
        have HLE := Lib.hid (And.intro hrg.left_eq (And.intro hB2 hC2))
        clear hs2 hat hlk hkey hC ex
        cases hfx : f x with
        | false =>
          rw [hfx] at HP
          have hff : (ss ++ [x]).filter f = ss.filter f := by rw [List.filter_append]; simp [hfx]
          have HFX := Lib.hid hff
          clear hff hfx
          go_wp2_with (first | (go_at_call 41; refine HP.out.mono ?_; rintro e w' ⟨rfl, rfl⟩) | fail)
          go_roundw
          case rel => exact ⟨_, cnt2, ss ++ [x], hrg2, by simp; omega, by rw [HFX.out]; exact hrow2, HLE.out.2.2, HLE.out.2.1⟩
          case measure => rw [hrg2.left_eq, HLE.out.1]; exact hlt
        | true =>
          rw [hfx] at HP
          have hff : (ss ++ [x]).filter f = ss.filter f ++ [x] := by rw [List.filter_append]; simp [hfx]
          have HFX := Lib.hid hff
          have hfl2 : (ss.filter f).length ≤ ss.length := List.length_filter_le _ _
          clear hff hfx
          have hz := hB2.size
          go_wp2_with (first
            | (go_at_call 41; refine HP.out.mono ?_; rintro e w' ⟨rfl, rfl⟩)
            | (at_builtin; refine wpList_append_own _ rfl _ _ 48 rfl w.heap.size 9 i0 (.string ⟨#[]⟩) 1 16 Tryd.underlying48 hi hz0 hz1 hz2 rfl (by decide) _ _ _ rfl (hrow2.alloc _) ⟨w2.heap.size, 0, none⟩ 1 1 [encStr x] rfl rfl (cell_one_new _ _ _) (by simp [Value.oneCell', encStr]) (by unfold maxLen; omega) (by omega) (by simp; omega) ?_; intro v' w3 hown' hg3 hnil3)
            | fail)
          have hrg3 := (hrg2.alloc _).kept hg3 (row_ne_low hrow2 hml) (row_ne_iter hrow2 hrg2)
          go_roundw
          case rel =>
            refine ⟨_, cnt2, ss ++ [x], hrg3, by simp; omega, ?_, HLE.out.2.2, ?_⟩
            · rw [HFX.out]; simpa using hown'
            · exact (HLE.out.2.1.alloc HLE.out.2.1.size _).grown hg3 (by simp; omega) (fun j hj => (hrow2.lt j hj).1)
          case measure => rw [hrg3.left_eq, HLE.out.1]; exact hlt
  · simp only [if_true]
    go_enter Tryd.func19, Tryd.ntmps19
    go_wp2_with fail
    refine HU.out.mono ?_
    rintro e w1 ⟨rfl, rfl⟩
    go_wp2
    go_ret
    exact ⟨_, rfl, by simpa using World.ownsRow_nil w w.heap.size 9 1, Below.refl _ _⟩
end Go.Proofs.YtondomklkapogaaDoor
