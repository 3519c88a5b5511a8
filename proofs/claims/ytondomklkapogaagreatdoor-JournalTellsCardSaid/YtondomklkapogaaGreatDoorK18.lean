/- The walks of HasPrefix and Keys. -/
import Derived.Test.YtondomklkapogaaGreatDoorK16
import Derived.Maps.RangeWalk
import Derived.Sort.OwnSorted
import Derived.Test.YtondomklkapogaaGreatDoorK11
namespace Go.Proofs.YtondomklkapogaaGreatDoor
section
open Go.RowKit SeedP Go.Maps Go.Shelf Go.Sort
/-- does p stand at the front of k -/
def isPref (p k : List UInt8) : Bool := decide (p.length ≤ k.length) && k.take p.length == p
set_option maxRecDepth 100000 in
theorem hasPrefixL_c (k p : List UInt8) (w : World) (hp : p.length ≤ 140737488351232) :
 Calls Tryz.prog 85 #[strV k, strV p] w fun e w' => e = .returned (.bool (isPref p k)) ∧ w = w' := by
 have hks : (⟨k.toArray⟩ : ByteArray).size = k.length := by show k.toArray.size = _; simp
 have hps : (⟨p.toArray⟩ : ByteArray).size = p.length := by show p.toArray.size = _; simp
 by_cases hl : p.length ≤ k.length
 ·have hlb : (decide (p.length ≤ k.length)) = true := by simpa using hl
  have hl2 : (p.length : Int) ≤ (k.length : Int) := by omega
  have h0 : (0 : Int) ≤ (p.length : Int) := by omega
  go_enter Tryz.func85, Tryz.ntmps85
  go_wp2
  go_ret
  refine ⟨?_, rfl⟩
  show Ending.returned (.bool (((⟨k.toArray⟩ : ByteArray).extract 0 p.length).toList == p)) = _
  have e : ((⟨k.toArray⟩ : ByteArray).extract 0 p.length).toList = k.take p.length := by
   rw [ByteArray.toList_eq, Lib.extract_data]; simp
  rw [e]
  unfold isPref; rw [hlb, Bool.true_and]
 ·have hlb : (decide (p.length ≤ k.length)) = false := by simpa using hl
  go_enter Tryz.func85, Tryz.ntmps85
  go_wp2
  go_ret
  exact ⟨by unfold isPref; rw [hlb]; rfl, rfl⟩
set_option maxRecDepth 100000 in
theorem hasPrefix_c (k p : List UInt8) (w : World) (hp : p.length ≤ 140737488351232) :
 Calls Tryz.prog 66 #[strV k, strV p] w fun e w' => e = .returned (.bool (isPref p k)) ∧ w = w' := by
 have HL := Lib.hid (hasPrefixL_c k p w hp)
 clear hp
 generalize isPref p k = b at *
 go_enter Tryz.func66, Tryz.ntmps66
 go_wp2_with fail
 refine HL.out.mono ?_
 rintro e w1 ⟨rfl, rfl⟩
 go_wp2
 go_ret
 exact ⟨rfl, rfl⟩
theorem infoS : (Tryz.prog.info? 9).map (fun i => (i.zero, i.size, i.bytes)) = some (some (.string ⟨#[]⟩), 1, 16) := by kernel_rfl
theorem sort_filter {P : PEnts} (ho : Ordered P) {ss : List (List UInt8)} (h : ss.Perm (keysOf P)) (f : List UInt8 → Bool) : (ss.filter f).mergeSort (fun x y => decide (x ≤ y)) = (keysOf P).filter f := by
 have e := mergeSort_of_perm (h.filter f)
 have e2 : (ss.filter f).mergeSort (fun x y => decide (x ≤ y)) = (ss.filter f).mergeSort Go.leB := rfl
 rw [e2, e]
 refine List.mergeSort_of_pairwise ?_
 refine List.Pairwise.sublist List.filter_sublist ?_
 unfold keysOf
 rw [List.pairwise_map]
 refine ho.imp ?_
 intro a b hab
 simp only [Go.leB, decide_eq_true_eq]
 exact List.le_of_lt (blt_lt hab)
set_option maxRecDepth 100000 in
set_option maxHeartbeats 2000000 in
/-- Keys -/
theorem keysFn_c {jb db mb : Nat} {p : Nat → Prop} {s : JS} (pf : List UInt8) (w : World) (h : JW w jb db mb p s) (hpf : pf.length ≤ 140737488351232) :
 Calls Tryz.prog 34 #[.pointer (some ⟨jb, 0, none⟩), strV pf] w fun e w' => ∃ v, e = .returned v ∧
  w'.ownsRow w.heap.size 9 1 v (if s.down then [] else (keysOf s.c.ents).filter (isPref pf)).length ((if s.down then [] else (keysOf s.c.ents).filter (isPref pf)).map strV) ∧ Below w.heap.size w w' := by
 obtain ⟨i0, hi, hz0, hz1, hz2⟩ := info_parts infoS
 have k4 := h.cells.2.2.2.2.1
 have HU := Lib.hid (usable_c w h)
 obtain ⟨L, hM, hE⟩ := h.map
 have hown := hM.own
 have hml := hM.lt
 have hll : L.length ≤ 131072 := by
  have h1 := pWt_len s.c.ents
  have h2 := h.ok.wt
  have h3 := h.ok.max
  have : L.length = s.c.ents.length := by rw [← hE, EB_length]
  omega
 have HS := Lib.hid (And.intro h.ord (And.intro h.small hE))
 clear h hM
 generalize s.down = d at *
 cases d
 ·simp only [Bool.false_eq_true, if_false]
  go_enter Tryz.func34, Tryz.ntmps34
  go_wp2_with fail
  refine HU.out.mono ?_
  rintro e w1 ⟨rfl, rfl⟩
  clear HU
  go_wp2_with (first
   | (at_range; refine wpList_range_own _ rfl _ 77 rfl 9 _ keyed Tryz.underlying77 _ mb _ _ rfl hown ?_; intro w0 hrg0 hg0 hs0)
   | fail)
  go_frame
  generalize hF : isPref pf = f at *
  have HFF := Lib.hid hF
  clear hF
  have hsz0 : Maps.size (toD L) = L.length := toD_size L
  go_loopw [5] (fun v wr => ∃ (left : Lit → Bool) (cnt : Nat) (ss : List (List UInt8)), wr.ranges Tryz.prog 9 tokR mb w.heap.size L.length (toD L) left cnt ∧ ss.length + cnt ≤ L.length ∧
   wr.ownsRow w.heap.size 9 1 v (ss.filter f).length ((ss.filter f).map encStr) ∧ Collected (toD L) left ss ∧ Below w.heap.size w wr)
   (fun _ wr => wr.rangeLeft mb w.heap.size)
  case atStart =>
   exact ⟨_, _, [], hrg0, by rw [hsz0]; simp, by simpa using World.ownsRow_nil w0 w.heap.size 9 1, Collected.start _, (Below.refl _ _).grown hg0 (Nat.le_refl _) (fun j hj => by cases hj)⟩
  case round =>
   obtain ⟨left, cnt, ss, hrg, hcs, hrow, hC, hnx⟩ := hrel
   go_wp2_with (first
    | (at_next; refine wpList_next_ranges _ rfl _ rfl 9 keyed tokR encStr (fun v : Value => v) (fun key kl hk => by obtain ⟨x, hx, _⟩ := Maps.keyOf_str Tryz.underlying9 hk; exact ⟨x, hx⟩) (fun v y hv => ⟨v, rfl⟩) mb w.heap.size L.length _ _ _ rfl hrg ?_ ?_)
    | fail)
   ·intro hc0 hl0
    have hperm := hC.perm hown keyed Tryz.underlying9 hl0
    rw [strKeys_toD, hE] at hperm
    have HSF := Lib.hid (sort_filter HS.out.1 hperm f)
    have hfl : (ss.filter f).length = ((keysOf s.c.ents).filter f).length := (hperm.filter f).length_eq
    rcases hrow.2 with ⟨rfl, hx⟩ | ⟨g, cap, cur, rfl, hbase, hb, h1, h2, h3, h4⟩
    ·have hnil : ss.filter f = [] := by simpa using hx
     have HSN := Lib.hid (AnyM.slices_Sort_string_none Tryz.sort67 none 0 wr)
     have hk0 : (keysOf s.c.ents).filter f = [] := by
      rw [hnil] at hfl
      exact List.eq_nil_of_length_eq_zero (by simpa using hfl.symm)
     have HK0 := Lib.hid hk0
     have HNX := Lib.hid hnx
     clear hrow hperm hfl hx hnil hk0 hcs hC hrg hrg0 hg0 hs0
     go_wp2_with (first | (go_at_call 67; refine HSN.out.mono ?_; rintro e w' ⟨rfl, rfl⟩) | fail)
     go_ret
     refine ⟨_, rfl, ?_, HNX.out⟩
     rw [HFF.out, HK0.out]
     simpa using World.ownsRow_nil w' w.heap.size 9 1
    ·have hH : Holds encStr wr g 0 (ss.filter f).toArray := holds_of_block hb (by simpa using h4)
     have hgl : g < wr.heap.size := (Array.getElem?_eq_some_iff.1 hb).1
     have hfl2 : (ss.filter f).length ≤ ss.length := List.length_filter_le _ _
     have HSN := Lib.hid (AnyM.slices_Sort_string Tryz.sort67 g 0 cap (ss.filter f) wr hH hgl (by omega))
     have HFI := Lib.hid (fun (nn : Nat) (os : Array Obj) => And.intro (ownsRow_sorted (n := nn) (os := os) (ss := ss.filter f) (ts := (ss.filter f).mergeSort (fun x y => decide (x ≤ y))) (by simp) hbase hb h1 h2 h3) (hnx.grown (grownBy_sorted (n := nn) (os := os) ((ss.filter f).mergeSort (fun x y => decide (x ≤ y))).toArray) hnx.size (fun j hj => by cases hj; exact hbase)))
     have HFL := Lib.hid hfl
     clear hrow hperm hfl hfl2 hH hb h1 h2 h3 h4 hcs hC hrg hrg0 hg0 hs0
     go_wp2_with (first | (go_at_call 67; refine HSN.out.mono ?_; rintro e w' ⟨rfl, nn, os, rfl⟩) | fail)
     go_ret
     have hfi := HFI.out nn os
     rw [HSF.out] at hfi
     refine ⟨_, rfl, ?_, ?_⟩
     ·rw [HFF.out, ← HFL.out, HSF.out]; exact hfi.1
     ·rw [HSF.out]; exact hfi.2
   ·intro x c kl yd yp w2 cnt2 hkey hlk hv hat hrg2 hlt hg2 hs2 hen
    obtain ⟨x', ex, rfl, _⟩ := Maps.keyOf_str Tryz.underlying9 hkey
    obtain rfl : x = x' := encStr_inj ex
    have hrow2 := hrow.kept hg2 (Or.inr (row_ne_iter hrow hrg).symm)
    have hC2 := hC.step hlk hat
    have hB2 : Below w.heap.size w w2 := hnx.grown hg2 hnx.size (fun j hj => by cases hj; exact Nat.le_refl _)
    have HP := Lib.hid (hasPrefix_c x pf w2 hpf)
    rw [HFF.out] at HP
    have HLE := Lib.hid (And.intro hrg.left_eq (And.intro hB2 hC2))
    clear hs2 hat hlk hkey hC ex
    cases hfx : f x with
    | false =>
      rw [hfx] at HP
      have hff : (ss ++ [x]).filter f = ss.filter f := by rw [List.filter_append]; simp [hfx]
      have HFX := Lib.hid hff
      clear hff hfx
      go_wp2_with (first | (go_at_call 66; refine HP.out.mono ?_; rintro e w' ⟨rfl, rfl⟩) | fail)
      go_roundw
      case rel => exact ⟨_, cnt2, ss ++ [x], hrg2, by simp; omega, by rw [HFX.out]; exact hrow2, HLE.out.2.2, HLE.out.2.1⟩
      case measure => rw [hrg2.left_eq, HLE.out.1]; exact hlt
    | true =>
      rw [hfx] at HP
      have hff : (ss ++ [x]).filter f = ss.filter f ++ [x] := by rw [List.filter_append]; simp [hfx]
      have HFX := Lib.hid hff
      have hfl2 : (ss.filter f).length ≤ ss.length := List.length_filter_le _ _
      clear hff hfx
      have hz := hB2.size
      go_wp2_with (first
       | (go_at_call 66; refine HP.out.mono ?_; rintro e w' ⟨rfl, rfl⟩)
       | (at_builtin; refine wpList_append_own _ rfl _ _ 75 rfl w.heap.size 9 i0 (.string ⟨#[]⟩) 1 16 Tryz.underlying75 hi hz0 hz1 hz2 rfl (by decide) _ _ _ rfl (hrow2.alloc _) ⟨w2.heap.size, 0, none⟩ 1 1 [encStr x] rfl rfl (cell_one_new _ _ _) (by simp [Value.oneCell', encStr]) (by unfold maxLen; omega) (by omega) (by simp; omega) ?_; intro v' w3 hown' hg3 hnil3)
       | fail)
      have hrg3 := (hrg2.alloc _).kept hg3 (row_ne_low hrow2 hml) (row_ne_iter hrow2 hrg2)
      go_roundw
      case rel =>
       refine ⟨_, cnt2, ss ++ [x], hrg3, by simp; omega, ?_, HLE.out.2.2, ?_⟩
       ·rw [HFX.out]; simpa using hown'
       ·exact (HLE.out.2.1.alloc HLE.out.2.1.size _).grown hg3 (by simp; omega) (fun j hj => (hrow2.lt j hj).1)
      case measure => rw [hrg3.left_eq, HLE.out.1]; exact hlt
 ·simp only [if_true]
  go_enter Tryz.func34, Tryz.ntmps34
  go_wp2_with fail
  refine HU.out.mono ?_
  rintro e w1 ⟨rfl, rfl⟩
  go_wp2
  go_ret
  exact ⟨_, rfl, by simpa using World.ownsRow_nil w w.heap.size 9 1, Below.refl _ _⟩
end
section
open Go.RowKit SeedP Go.Maps
theorem jCompact_plain {s : JS} (h : s.d.pw = -1) : jCompact s = (⟨s.d.put (compactFile s) (blockB (subI 0 (stateB (s.c.gen + 1) s.c.ents)) (stateB (s.c.gen + 1) s.c.ents)), s.down, compactFile s, ⟨s.c.gen + 1, s.c.ents, s.c.wt, subI 0 (stateB (s.c.gen + 1) s.c.ents), 12 + (stateB (s.c.gen + 1) s.c.ents).length⟩⟩, true) := by
 unfold jCompact
 simp only []
 generalize stateB (s.c.gen + 1) s.c.ents = code
 generalize compactFile s = f
 obtain ⟨⟨pw, f0, f1⟩, dn, fl, c⟩ := s
 have h : pw = -1 := h
 subst h
 by_cases e : ((DS.mk (-1) f0 f1).get f).length = 0
 ·have hc : dCut f 0 (DS.mk (-1) f0 f1) = (DS.mk (-1) f0 f1, true) := by unfold dCut; rw [if_pos e]
  rw [hc]
  simp only []
  have e2 : (DS.mk (-1) f0 f1).get f = [] := List.eq_nil_of_length_eq_zero e
  have hw : dWrite f (blockB (subI 0 code) code) (DS.mk (-1) f0 f1) = ((DS.mk (-1) f0 f1).put f (blockB (subI 0 code) code), true) := by unfold dWrite; rw [if_pos (by show (-1 : Int) < 0; omega), e2, List.nil_append]
  rw [hw]
 ·have hc : dCut f 0 (DS.mk (-1) f0 f1) = ((DS.mk (-1) f0 f1).put f [], true) := by
   unfold dCut; rw [if_neg e, if_neg (by show ¬ ((-1 : Int) = 0); omega)]; rfl
  rw [hc]
  simp only []
  have hw : dWrite f (blockB (subI 0 code) code) ((DS.mk (-1) f0 f1).put f []) = ((DS.mk (-1) f0 f1).put f (blockB (subI 0 code) code), true) := by
   unfold dWrite
   rw [if_pos (by rw [DS.put_pw]; show (-1 : Int) < 0; omega), DS.get_put, List.nil_append]
   cases f <;> rfl
  rw [hw]
theorem jDo4_plain {s : JS} {cs : List Chg} (h : s.d.pw = -1) : jDo4 cs s = (⟨s.d.put s.file (s.d.get s.file ++ blockB (subI s.c.sum (codeOf cs)) (codeOf cs)), s.down, s.file, ⟨s.c.gen, pChgs s.c.ents cs, pWAfter s.c.ents s.c.wt cs, subI s.c.sum (codeOf cs), s.c.ed + 12 + (codeOf cs).length⟩⟩, true) := by
 unfold jDo4
 have hw : dWrite s.file (blockB (subI s.c.sum (codeOf cs)) (codeOf cs)) s.d = (s.d.put s.file (s.d.get s.file ++ blockB (subI s.c.sum (codeOf cs)) (codeOf cs)), true) := by unfold dWrite; rw [if_pos (by omega)]
 simp only []
 rw [hw]
/-- a commit, with power that does not fail, on a file that begins with what the journal has, and that is not full -/
theorem jDo_plain {s : JS} {cs : List Chg} (h : s.d.pw = -1) (hg : 1 ≤ s.c.gen) (he : s.c.ed ≤ (s.d.get s.file).length) (ho : overfullP s (codeOf cs).length = false) :
 jDo cs s = (⟨s.d.put s.file ((s.d.get s.file).take s.c.ed ++ blockB (subI s.c.sum (codeOf cs)) (codeOf cs)), s.down, s.file, ⟨s.c.gen, pChgs s.c.ents cs, pWAfter s.c.ents s.c.wt cs, subI s.c.sum (codeOf cs), s.c.ed + 12 + (codeOf cs).length⟩⟩, true) := by
 have h1 : jDo1 s = (s, true) := by unfold jDo1; rw [if_neg (by omega)]
 have h2 : jDo2 s = (⟨s.d.put s.file ((s.d.get s.file).take s.c.ed), s.down, s.file, s.c⟩, true) := by
  unfold jDo2
  split
  ·rename_i hl
   have hc : dCut s.file s.c.ed s.d = (s.d.put s.file ((s.d.get s.file).take s.c.ed), true) := by
    unfold dCut; rw [if_neg (by omega), if_neg (by omega), if_neg (by omega)]
   rw [hc]
  ·have e : (s.d.get s.file).take s.c.ed = s.d.get s.file := List.take_of_length_le (by omega)
   rw [e]
   have : s.d.put s.file (s.d.get s.file) = s.d := by obtain ⟨d, _, f, _⟩ := s; cases f <;> rfl
   rw [this]
 unfold jDo
 rw [h1, show jThen (s, true) jDo2 = jDo2 s from jThen_ok rfl, h2, show jThen (⟨s.d.put s.file ((s.d.get s.file).take s.c.ed), s.down, s.file, s.c⟩, true) (jDo3 (codeOf cs).length) = jDo3 (codeOf cs).length ⟨s.d.put s.file ((s.d.get s.file).take s.c.ed), s.down, s.file, s.c⟩ from jThen_ok rfl]
 have h3 : jDo3 (codeOf cs).length (⟨s.d.put s.file ((s.d.get s.file).take s.c.ed), s.down, s.file, s.c⟩ : JS) = (⟨s.d.put s.file ((s.d.get s.file).take s.c.ed), s.down, s.file, s.c⟩, true) := by
  unfold jDo3; rw [if_neg]; unfold overfullP at ho ⊢; simpa using ho
 rw [h3, jThen_ok rfl, jDo4_plain (by show (s.d.put _ _).pw = -1; rw [DS.put_pw]; exact h)]
 simp only [DS.get_put]
 cases s.file <;> rfl
theorem jOpen_empty (pw : Int) : jOpen ⟨pw, [], []⟩ = ⟨⟨pw, [], []⟩, false, false, zeroC⟩ := by unfold jOpen; rw [openP_zero readF_nil readF_nil]
def emptyState : List UInt8 := stateB 1 []
theorem emptyState_len : emptyState.length = 12 := rfl
/-- the first commit on an empty disk -/
theorem first_commit {cs : List Chg} (hm : May ⟨⟨-1, [], []⟩, false, false, zeroC⟩ cs) :
 jCommit cs ⟨⟨-1, [], []⟩, false, false, zeroC⟩ = (⟨⟨-1, blockB (subI 0 emptyState) emptyState ++ blockB (subI (subI 0 emptyState) (codeOf cs)) (codeOf cs), []⟩, false, false, ⟨1, pChgs [] cs, pWAfter [] 0 cs, subI (subI 0 emptyState) (codeOf cs), 36 + (codeOf cs).length⟩⟩, 0) := by
 have hl := codeOf_len cs
 have hs := hm.valid.size
 rw [jCommit_eq rfl hm (by rintro ⟨h, _⟩; cases h)]
 have h1 : jDo1 (⟨⟨-1, [], []⟩, false, false, zeroC⟩ : JS) = (⟨⟨-1, blockB (subI 0 emptyState) emptyState, []⟩, false, false, ⟨1, [], 0, subI 0 emptyState, 24⟩⟩, true) := by
  unfold jDo1
  rw [if_pos (show zeroC.gen = 0 from rfl), jCompact_plain rfl]
  rfl
 have h2 : jDo cs (⟨⟨-1, [], []⟩, false, false, zeroC⟩ : JS) = jDo cs (⟨⟨-1, blockB (subI 0 emptyState) emptyState, []⟩, false, false, ⟨1, [], 0, subI 0 emptyState, 24⟩⟩ : JS) := by
  have h3 : jDo1 (⟨⟨-1, blockB (subI 0 emptyState) emptyState, []⟩, false, false, ⟨1, [], 0, subI 0 emptyState, 24⟩⟩ : JS) = (⟨⟨-1, blockB (subI 0 emptyState) emptyState, []⟩, false, false, ⟨1, [], 0, subI 0 emptyState, 24⟩⟩, true) := by unfold jDo1; rw [if_neg (by show ¬ (1 = 0); omega)]
  unfold jDo
  rw [h1, h3]
 have hbl : (blockB (subI 0 emptyState) emptyState).length = 24 := by rw [blockB_len, emptyState_len]
 rw [h2, jDo_plain rfl (by show 1 ≤ 1; omega) (by show 24 ≤ (blockB _ _).length; omega) (by unfold overfullP; simp only [decide_eq_false_iff_not]; omega)]
 unfold jPowered
 simp only [if_true]
 have ht : (blockB (subI 0 emptyState) emptyState).take 24 = blockB (subI 0 emptyState) emptyState := List.take_of_length_le (by omega)
 show ((⟨⟨-1, (blockB (subI 0 emptyState) emptyState).take 24 ++ _, []⟩, false, false, _⟩ : JS), (0 : Int)) = _
 rw [ht]
def csA : List Chg := [⟨[97], [7, 8], false⟩]
theorem one_valid {k v : List UInt8} {b : Bool} (h1 : 1 ≤ k.length) (h2 : k.length ≤ 40) (h3 : v.length ≤ 4096) (h4 : b = true → v = []) : Valid [⟨k, v, b⟩] := by
 refine ⟨fun c hc => ?_, fun c hc => ?_, fun c hc => ?_, by simp, ?_⟩
 ·obtain rfl := List.mem_singleton.1 hc; exact ⟨h1, h2⟩
 ·obtain rfl := List.mem_singleton.1 hc; exact h3
 ·obtain rfl := List.mem_singleton.1 hc; exact h4
 ·unfold codeSize chgSize
  cases b <;> simp <;> omega
def sumE : Int := subI 0 emptyState
def blockE : List UInt8 := blockB sumE emptyState
def blockA : List UInt8 := blockB (subI sumE (codeOf csA)) (codeOf csA)
theorem blockE_len : blockE.length = 24 := by unfold blockE; rw [blockB_len, emptyState_len]
theorem blockA_len : blockA.length = 20 := by unfold blockA; rw [blockB_len]; rfl
def sA : JS := ⟨⟨-1, blockE ++ blockA, []⟩, false, false, ⟨1, [([97], [7, 8])], 6, subI sumE (codeOf csA), 44⟩⟩
theorem awake_set : jCommit csA (jOpen ⟨-1, [], []⟩) = (sA, 0) := by
 have hm : May ⟨⟨-1, [], []⟩, false, false, zeroC⟩ csA := ⟨by decide, by decide, one_valid (by decide) (by decide) (by decide) (fun h => by cases h), (fun c hc h => by obtain rfl := List.mem_singleton.1 hc; cases h), by decide⟩
 rw [jOpen_empty, first_commit hm]
 rfl
theorem awake_len : sA.d.f0.length = 44 := by show (blockE ++ blockA).length = 44; rw [List.length_append, blockE_len, blockA_len]
theorem awake_drop : sA.d.f0.drop 36 = [1, 0, 1, 97, 0, 2, 7, 8] := by
 show (blockE ++ blockA).drop 36 = _
 rw [List.drop_append, List.drop_eq_nil_of_le (by rw [blockE_len]; omega), blockE_len, List.nil_append]
 unfold blockA blockB
 rw [List.drop_append_of_le_length (by simp [numB_length])]
 rw [List.drop_of_length_le (by simp [numB_length])]
 rfl
theorem empty_ok (pw : Int) (h0 : -1 ≤ pw) (h1 : pw ≤ 9223372036854775807) : DS.Ok ⟨pw, [], []⟩ := ⟨h0, h1, Nat.zero_le _, Nat.zero_le _⟩
theorem awake_live : Live sA := by
 have h := (commit_live (cs := csA) (open_live (empty_ok (-1) (by decide) (by decide)))).2.1
 rw [awake_set] at h
 exact (h rfl).2.1
theorem awake_open : jOpen sA.d = sA := by unfold jOpen; rw [live_open awake_live]; rfl
theorem awake_none : jCommit [⟨[98], [], true⟩] sA = (sA, 6) := by
 have hv : Valid [⟨[98], [], true⟩] := one_valid (by decide) (by decide) (by decide) (fun _ => rfl)
 unfold jCommit
 rw [if_neg (by show ¬ (false = true); simp), if_neg (by simp), if_neg (by rw [(valid_zero _).2 hv]; simp), if_pos (by rfl)]
theorem awake_compact : ∃ s, jCompactOp sA = (s, 0) ∧ s.down = false ∧ s.d.f1.length = 30 ∧ s.c.gen = 2 := by
 have hc := jCompact_plain (s := sA) rfl
 have he : jCompactOp sA = jPowered (jCompact sA) := by unfold jCompactOp; rw [if_neg (by show ¬ (false = true); simp), if_neg (by show ¬ (1 = 4611686018427387904); omega)]
 rw [he, hc]
 refine ⟨_, rfl, rfl, ?_, rfl⟩
 show (blockB _ _).length = 30
 rw [blockB_len]; rfl
/-! ### a disk with too little power -/
theorem jDo4_failP {s : JS} {cs : List Chg} (h : (dWrite s.file (blockB (subI s.c.sum (codeOf cs)) (codeOf cs)) s.d).2 = false) : jDo4 cs s = (⟨(dWrite s.file (blockB (subI s.c.sum (codeOf cs)) (codeOf cs)) s.d).1, s.down, s.file, s.c⟩, false) := by
 unfold jDo4; simp only []
 rcases hx : dWrite s.file (blockB (subI s.c.sum (codeOf cs)) (codeOf cs)) s.d with ⟨d2, b2⟩
 rw [hx] at h
 obtain rfl : b2 = false := h
 rfl
def sW : JS := ⟨⟨0, blockE ++ blockA.take 19, []⟩, true, false, ⟨1, [], 0, sumE, 24⟩⟩
theorem weak_set : jCommit csA (jOpen ⟨43, [], []⟩) = (sW, 360) := by
 have hm : May ⟨⟨43, [], []⟩, false, false, zeroC⟩ csA := ⟨by decide, by decide, one_valid (by decide) (by decide) (by decide) (fun h => by cases h), (fun c hc h => by obtain rfl := List.mem_singleton.1 hc; cases h), by decide⟩
 rw [jOpen_empty, jCommit_eq rfl hm (by rintro ⟨h, _⟩; cases h)]
 have hb := blockE_len
 have ha := blockA_len
 have h1 : jDo1 (⟨⟨43, [], []⟩, false, false, zeroC⟩ : JS) = (⟨⟨19, blockE, []⟩, false, false, ⟨1, [], 0, sumE, 24⟩⟩, true) := by
  unfold jDo1
  rw [if_pos (show zeroC.gen = 0 from rfl)]
  have hc : dCut false 0 (DS.mk 43 [] []) = (DS.mk 43 [] [], true) := by unfold dCut; rw [if_pos (show ((DS.mk 43 [] []).get false).length = 0 from rfl)]
  have hw : dWrite false blockE (DS.mk 43 [] []) = (DS.mk 19 blockE [], true) := by
   unfold dWrite
   rw [if_neg (by show ¬ ((43 : Int) < 0); omega), if_pos (by show ((blockE.length : Nat) : Int) ≤ 43; omega), hb]
   rfl
  have h0 : (compactFile (⟨⟨43, [], []⟩, false, false, zeroC⟩ : JS)) = false := rfl
  rcases jCompact_cases (⟨⟨43, [], []⟩, false, false, zeroC⟩ : JS) with ⟨d, he, hd⟩ | ⟨d, he, hk, hd⟩
  ·rw [h0] at hd
   rcases hd with hd | ⟨_, hd⟩
   ·have := hc.symm.trans hd; cases this
   ·have hd : dWrite false blockE (dCut false 0 (DS.mk 43 [] [])).1 = (d, false) := hd
    rw [hc] at hd
    have := hw.symm.trans hd; cases this
  ·rw [h0] at hd
   have hd : dWrite false blockE (dCut false 0 (DS.mk 43 [] [])).1 = (d, true) := hd
   rw [hc] at hd
   have := hw.symm.trans hd
   obtain rfl : DS.mk 19 blockE [] = d := by injection this
   rw [he]; rfl
 have h2 : jDo2 (⟨⟨19, blockE, []⟩, false, false, ⟨1, [], 0, sumE, 24⟩⟩ : JS) = (⟨⟨19, blockE, []⟩, false, false, ⟨1, [], 0, sumE, 24⟩⟩, true) := by
  unfold jDo2; rw [if_neg (by show ¬ (24 < blockE.length); omega)]
 have h3 : jDo3 (codeOf csA).length (⟨⟨19, blockE, []⟩, false, false, ⟨1, [], 0, sumE, 24⟩⟩ : JS) = (⟨⟨19, blockE, []⟩, false, false, ⟨1, [], 0, sumE, 24⟩⟩, true) := by
  unfold jDo3; rw [if_neg (by unfold overfullP; decide)]
 have h4 : jDo4 csA (⟨⟨19, blockE, []⟩, false, false, ⟨1, [], 0, sumE, 24⟩⟩ : JS) = (⟨⟨0, blockE ++ blockA.take 19, []⟩, false, false, ⟨1, [], 0, sumE, 24⟩⟩, false) := by
  have hw : dWrite false blockA (DS.mk 19 blockE []) = (DS.mk 0 (blockE ++ blockA.take 19) [], false) := by
   unfold dWrite
   rw [if_neg (by show ¬ ((19 : Int) < 0); omega), if_neg (by show ¬ (((blockA.length : Nat) : Int) ≤ 19); omega)]
   rfl
  have hf := jDo4_failP (cs := csA) (s := (⟨⟨19, blockE, []⟩, false, false, ⟨1, [], 0, sumE, 24⟩⟩ : JS)) (by show (dWrite false blockA (DS.mk 19 blockE [])).2 = false; rw [hw])
  rw [hf]
  show ((⟨(dWrite false blockA (DS.mk 19 blockE [])).1, false, false, _⟩ : JS), false) = _
  rw [hw]
 unfold jDo
 rw [h1, show jThen ((⟨⟨19, blockE, []⟩, false, false, ⟨1, [], 0, sumE, 24⟩⟩ : JS), true) jDo2 = jDo2 _ from jThen_ok rfl, h2, show jThen ((⟨⟨19, blockE, []⟩, false, false, ⟨1, [], 0, sumE, 24⟩⟩ : JS), true) (jDo3 (codeOf csA).length) = jDo3 (codeOf csA).length _ from jThen_ok rfl, h3, show jThen ((⟨⟨19, blockE, []⟩, false, false, ⟨1, [], 0, sumE, 24⟩⟩ : JS), true) (jDo4 csA) = jDo4 csA _ from jThen_ok rfl, h4]
 rfl
theorem weak_len : sW.d.f0.length = 43 := by
 show (blockE ++ blockA.take 19).length = 43
 rw [List.length_append, blockE_len, List.length_take, blockA_len]; rfl
theorem chainE : Chain blockE ⟨1, [], 0, sumE, 24⟩ := by
 have h := readF_state (P := []) (gen := 1) List.Pairwise.nil ⟨fun e he => (by cases he), fun e he => (by cases he)⟩ (by decide) (by decide) (by decide)
 exact (readF_chain h).1
/-- what is found on it -/
def sX : JS := ⟨⟨-1, blockE ++ blockA.take 19, []⟩, false, false, ⟨1, [], 0, sumE, 24⟩⟩
theorem weak_open : jOpen ⟨-1, blockE ++ blockA.take 19, []⟩ = sX := by
 have h := readF_torn chainE blockE_len (subI sumE (codeOf csA)) (codeOf csA) 19 (by decide) (by decide)
 have e : openP ⟨-1, blockE ++ blockA.take 19, []⟩ = (false, ⟨1, [], 0, sumE, 24⟩) := openP_of (f := false) h (fun c' hc' => by
  have hc' : readF [] = some c' := hc'
  rw [readF_nil] at hc'; cases hc')
 unfold jOpen
 rw [e]; rfl
theorem weak_again : ∃ s, jCommit [⟨[98], [], false⟩] sX = (s, 0) ∧ s.d.f0.length = 42 := by
 have hb := blockE_len
 have hv : Valid [⟨[98], [], false⟩] := one_valid (by decide) (by decide) (by decide) (fun _ => rfl)
 have hm : May sX [⟨[98], [], false⟩] := ⟨by decide, by decide, hv, (fun c hc h => by obtain rfl := List.mem_singleton.1 hc; cases h), by decide⟩
 have hl : (codeOf [⟨[98], [], false⟩]).length = 6 := by decide
 rw [jCommit_eq rfl hm (by rintro ⟨h, _⟩; cases h), jDo_plain rfl (by decide) (by show 24 ≤ (blockE ++ blockA.take 19).length; rw [List.length_append]; omega) (by unfold overfullP; decide)]
 refine ⟨_, rfl, ?_⟩
 show ((blockE ++ blockA.take 19).take 24 ++ blockB _ _).length = 42
 rw [List.length_append, blockB_len, hl, List.length_take, List.length_append]
 omega
end
end Go.Proofs.YtondomklkapogaaGreatDoor
