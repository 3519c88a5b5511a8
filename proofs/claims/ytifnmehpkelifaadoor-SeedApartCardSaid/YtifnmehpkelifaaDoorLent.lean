/- The walks of mark, LentInts and KeptInts. -/
import Derived.Test.YtifnmehpkelifaaDoorAwake
import Derived.IntWalk
namespace Go.Proofs.YtifnmehpkelifaaDoor
open Go.RowKit SeedP
/-- mark (47) at slice 1 -/
theorem mark_c (i : Int) (w : World) (h0 : 0 ≤ i) (h1 : i ≤ 4611686018427387904) :
    Calls Tryd.prog 47 #[.int .i64 1, .int .i64 i] w fun e w' => e = .returned (.int .i64 (8000024 + i)) ∧ w = w' := by
  go_enter Tryd.func47, Tryd.ntmps47
  go_wp2
  go_ret
  exact ⟨rfl, rfl⟩
def marks (n : Nat) : List Int := (List.range n).map fun (k : Nat) => 8000024 + (k : Int)
theorem marks_length (n : Nat) : (marks n).length = n := by simp [marks]
theorem marks_snoc (n : Nat) : marks (n + 1) = marks n ++ [8000024 + (n : Int)] := by simp [marks, List.range_succ]
theorem marks_getD (n j : Nat) (h : j < n) : (marks n).getD j 0 = 8000024 + (j : Int) := by simp [marks, List.getD_eq_getElem?_getD, h]
/-- What LentInts leaves: a block of the call's own with the elements and twelve marks. -/
def Lent (w : World) (v : Value) (l : List Int) : Prop :=
  ∃ g, v = .slice (some ⟨g, 0, none⟩) l.length (l.length + 12) ∧ Blk w g 3 (ints .i64 (l ++ marks 12))
theorem Lent.rd {w : World} {v : Value} {l : List Int} (h : Lent w v l) (hm : l.length + 12 ≤ maxLen) : Rd w v (ints .i64 l) := by
  obtain ⟨g, rfl, hb⟩ := h
  refine Or.inr ⟨g, 0, l.length + 12, by rw [ints_length], by rw [ints_length]; omega, hm, fun j u hu => ?_⟩
  have hj := (List.getElem?_eq_some_iff.1 hu).1
  rw [ints_length] at hj
  rw [Nat.zero_add, hb.int j (by simp; omega)]
  rw [ints_get _ _ _ hj] at hu
  have e : (l ++ marks 12).getD j 0 = l.getD j 0 := by simp [List.getD_eq_getElem?_getD, List.getElem?_append, hj]
  rw [e]; exact hu
theorem Lent.below {w w' : World} {v : Value} {l : List Int} (h : Lent w v l) (hb : Below w.heap.size w w') : Lent w' v l := by
  obtain ⟨g, rfl, h2⟩ := h; exact ⟨g, rfl, h2.below hb⟩
theorem owns_full {w : World} {base g n : Nat} {e : TypeId} {xs : List Value} (h : w.ownsRow base e 1 (.slice (some ⟨g, 0, none⟩) n n) n xs) : Blk w g e xs := by
  obtain ⟨hl, h2⟩ := h
  rcases h2 with ⟨h, _⟩ | ⟨g', cap, cur, h, _, hg, _, _, hs, ht⟩
  · cases h
  · simp only [Value.slice.injEq, Option.some.injEq, Addr.mk.injEq, and_true, true_and] at h
    obtain ⟨rfl, rfl⟩ := h
    rw [List.take_of_length_le (by rw [Array.length_toList, hs]; exact Nat.le_refl _)] at ht
    subst ht
    exact hg
theorem ints_append (k : IntKind) (a b : List Int) : ints k (a ++ b) = ints k a ++ ints k b := by simp [ints]
set_option maxHeartbeats 1000000 in
/-- LentInts (34) -/
theorem lent_c (v : Value) (l : List Int) (w : World) (hv : Rd w v (ints .i64 l)) (hr : l.length * 8 ≤ 140737488351232) :
    Calls Tryd.prog 34 #[v] w fun e w' => (∃ x, e = .returned x ∧ Lent w' x l) ∧ Below w.heap.size w w' := by
  obtain ⟨i3, hi3, hz1, hz2, hz3⟩ := info_parts info3
  obtain ⟨a, c, rfl, hnone, hcell⟩ : ∃ a c, v = .slice a l.length c ∧ (a = none → l.length = 0 ∧ c = 0) ∧ ∀ ad, a = some ad → ∀ j u, (ints .i64 l)[j]? = some u → w.cell? (ad.add j) = some u := by
    rcases hv with ⟨hv, h⟩ | ⟨g, off, cap, rfl, h1, h2, h3⟩
    · obtain rfl : l = [] := by simpa [ints] using h
      rcases hv with rfl | ⟨a, cap, rfl⟩
      · exact ⟨none, 0, rfl, fun _ => ⟨rfl, rfl⟩, fun ad h => by cases h⟩
      · exact ⟨some a, cap, rfl, fun h => by (cases h), fun ad h j u hu => by simp [ints] at hu⟩
    · refine ⟨some ⟨g, off, none⟩, cap, by rw [ints_length], fun h => by (cases h), fun ad h j u hu => ?_⟩
      cases h
      have e : (⟨g, off, none⟩ : Addr).add j = ⟨g, off + j, none⟩ := by unfold Addr.add; split <;> simp_all
      rw [e]; exact h3 j u hu
  have hm : l.length ≤ 17592186043904 := by omega
  go_enter Tryd.func34, Tryd.ntmps34
  go_wp2_with (at_make; refine wpList_make_own _ rfl _ _ 25 rfl w.heap.size 3 i3 (.int .i64 0) 1 Tryd.underlying25 hi3 hz1 hz2 .i64 .i64 _ (l.length + 12) rfl rfl (by omega) ?b1 ?b2 ?b3 ?_)
  case b1 => rw [hz3]; omega
  case b2 => unfold maxLen; omega
  case b3 => exact Nat.le_refl _
  intro w1 hown1 hg1
  have B1 : Below w.heap.size w w1 := (Below.refl _ _).grown hg1 (Nat.le_refl _) (fun k h => by cases h)
  have hcell1 : ∀ ad, a = some ad → ∀ j u, (ints .i64 l)[j]? = some u → w1.cell? (ad.add j) = some u := fun ad h j u hu => (B1.cell (World.block_lt_of_cell? w _ (hcell ad h j u hu))).trans (hcell ad h j u hu)
  have HC := Lib.hid hcell1
  have HN := Lib.hid hnone
  clear hcell hcell1 hnone hg1 hv
  go_wp2_with (at_builtin; refine wpList_append_fits_any _ rfl _ _ 25 rfl w.heap.size 3 i3 1 Tryd.underlying25 hi3 hz2 w.heap.size 0 (l.length + 12) [] rfl hown1 a l.length c (ints .i64 l) rfl (by rw [ints_length, Nat.mul_one]) HN.out HC.out ?c1 ?c2 ?_)
  case c1 => intro u hu; simp only [ints, List.mem_map] at hu; obtain ⟨_, _, rfl⟩ := hu; rfl
  case c2 => omega
  intro w2 hown2 hg2
  have B2 := B1.grown hg2 B1.size (fun k h => by cases h; exact Nat.le_refl _)
  clear hown1 hg2 B1 HC HN
  go_wp2
  go_loopw [3, 4] (fun o i wr => ∃ k : Nat, k ≤ 12 ∧ i = .int .i64 k ∧ o = .slice (some ⟨w.heap.size, 0, none⟩) (l.length + k) (l.length + 12) ∧ wr.ownsRow w.heap.size 3 1 (.slice (some ⟨w.heap.size, 0, none⟩) (l.length + k) (l.length + 12)) (l.length + k) (ints .i64 (l ++ marks k)) ∧ Below w.heap.size w wr) (fun _ i _ => 12 - (intOf i).toNat)
  case atStart => exact ⟨0, by omega, rfl, rfl, by simpa [marks] using hown2, B2⟩
  case round =>
    obtain ⟨k, hk, rfl, rfl, hown, hB⟩ := hrel
    clear hown2 B2
    by_cases hlt : k < 12
    · have HS := Lib.hid (marks_snoc k)
      go_wp2_with fail
      refine (mark_c k _ (by omega) (by omega)).mono ?_
      rintro e w3 ⟨rfl, rfl⟩
      go_wp2_with (at_builtin; refine wpList_append_fits _ rfl _ _ 25 rfl w.heap.size 3 i3 1 Tryd.underlying25 hi3 hz2 w.heap.size (l.length + k) (l.length + 12) (ints .i64 (l ++ marks k)) rfl (hown.alloc _) ⟨wr.heap.size, 0, none⟩ 1 1 [.int .i64 (8000024 + k)] rfl rfl ?d1 ?d2 ?d3 ?_)
      case d1 => exact cell_one_new _ _ _
      case d2 => simp [Value.oneCell']
      case d3 => omega
      intro w4 hown4 hg4
      have B4 := (hB.alloc hB.size (.cells #[.int .i64 (8000024 + k)] 3)).grown hg4 (by have := hB.size; simp; omega) (fun j h => by cases h; exact Nat.le_refl _)
      have hown5 : w4.ownsRow w.heap.size 3 1 (.slice (some ⟨w.heap.size, 0, none⟩) (l.length + (k + 1)) (l.length + 12)) (l.length + (k + 1)) (ints .i64 (l ++ marks (k + 1))) := by
        rw [HS.out, ← List.append_assoc, ints_append]; exact hown4
      clear hown hg4 hown4 hB
      go_wp2
      go_roundw
      case rel => exact ⟨k + 1, by omega, by go_num, by congr 1, hown5, B4⟩
      case measure => simp [intOf]; omega
    · obtain rfl : k = 12 := by omega
      have hb := owns_full hown
      go_wp2
      go_ret
      exact ⟨⟨_, rfl, _, rfl, hb⟩, hB⟩
/-- the same world but for draws -/
def Dr (w w' : World) : Prop := ∃ m, w' = w.drewN m
theorem Dr.refl (w : World) : Dr w w := ⟨0, rfl⟩
theorem Dr.drewN {w w' : World} (h : Dr w w') (n : Nat) : Dr w (w'.drewN n) := by obtain ⟨m, rfl⟩ := h; exact ⟨m + n, by rw [World.drewN_drewN]⟩
theorem Dr.cell {w w' : World} (h : Dr w w') (a : Addr) : w'.cell? a = w.cell? a := by obtain ⟨m, rfl⟩ := h; rfl
theorem Dr.below {w w' : World} (h : Dr w w') (B : Nat) : Below B w w' := by obtain ⟨m, rfl⟩ := h; exact below_drewN (Below.refl _ _) _
theorem mark_q (i : Int) (w : World) (h0 : 0 ≤ i) (h1 : i ≤ 4611686018427387904) :
    Calls Tryd.prog 47 #[.int .i64 1, .int .i64 i] w fun e w' => e = .returned (.int .i64 (8000024 + i)) ∧ w' = w := (mark_c i w h0 h1).mono fun _ _ ⟨h, h'⟩ => ⟨h, h'.symm⟩
set_option maxHeartbeats 1000000 in
/-- KeptInts (36) -/
theorem kept_c (v u : Value) (l : List Int) (w : World) (hv : Lent w v l) (hu : Rd w u (ints .i64 l)) (hr : l.length * 8 ≤ 140737488351232) :
    Calls Tryd.prog 36 #[v, u] w fun e w' => e = .returned (.bool true) ∧ Below w.heap.size w w' := by
  obtain ⟨g, rfl, hb⟩ := hv
  obtain ⟨a, c, rfl, hm, hcell⟩ := hu.open_ints
  have hm : l.length ≤ 17592186043904 := by omega
  have HC := Lib.hid hcell
  have hlen : (l ++ marks 12).length = l.length + 12 := by simp [marks_length]
  have HL := Lib.hid hlen
  have t0 : ((l.length : Int) != l.length) = false := by simp
  clear hcell hlen hu hr
  go_enter Tryd.func36, Tryd.ntmps36
  go_wp2
  go_loopw [6] (fun i wr => ∃ k : Nat, k ≤ l.length + 12 ∧ i = .int .i64 k ∧ Dr w wr) (fun i _ => l.length + 12 - (intOf i).toNat)
  case atStart => exact ⟨0, Nat.zero_le _, rfl, Dr.refl w⟩
  case round =>
    obtain ⟨k, hk, rfl, hD⟩ := hrel
    by_cases hlt : k < l.length + 12
    · have c1 := (hD.cell _).trans (hb.int k (by rw [HL.out]; exact hlt))
      by_cases hin : k < l.length
      · rcases HC.out with rfl | ⟨g', off', rfl, hc2⟩
        · simp at hin
        have c2 := (hD.cell _).trans (hc2 k hin)
        have e1 : (l ++ marks 12).getD k 0 = l.getD k 0 := by simp [List.getD_eq_getElem?_getD, List.getElem?_append, hin]
        rw [e1] at c1
        have t1 : decide (k < l.length) = true := decide_eq_true hin
        have t2 : decide (l.length ≤ k) = false := decide_eq_false (by omega)
        have b1 : (k : Int) < l.length := by omega
        have b2 : (k : Int) < (l.length : Int) + 12 := by omega
        clear hc2 e1
        generalize l.getD k 0 = x at *
        go_wp2
        go_quiet (fail)
        go_wp2
        go_roundw
        case rel => exact ⟨k + 1, by omega, by go_num, hD.drewN nq⟩
        case measure => simp [intOf]; omega
      · have e1 : (l ++ marks 12).getD k 0 = 8000024 + ((k : Int) - l.length) := by
          have e2 : (l ++ marks 12).getD k 0 = (marks 12).getD (k - l.length) 0 := by simp [List.getD_eq_getElem?_getD, List.getElem?_append, hin]
          rw [e2, marks_getD 12 _ (by omega)]; omega
        rw [e1] at c1
        have t1 : decide (k < l.length) = false := decide_eq_false hin
        have t2 : decide (l.length ≤ k) = true := decide_eq_true (by omega)
        have b1 : (l.length : Int) ≤ k := by omega
        have b2 : (k : Int) < (l.length : Int) + 12 := by omega
        have HM := Lib.hid (fun W => mark_q ((k : Int) - l.length) W (by omega) (by omega))
        have q1 : IntKind.i64.wrap ((k : Int) - l.length) = (k : Int) - l.length := IntWalk.i64_in _ (by omega)
        clear e1
        go_wp2
        go_quiet ((go_at_call 47; exact Calls.quiet_of_same (HM.out _)))
        clear q1
        go_wp2
        go_roundw
        case rel => exact ⟨k + 1, by omega, by go_num, hD.drewN nq⟩
        case measure => simp [intOf]; omega
    · obtain rfl : k = l.length + 12 := by omega
      go_wp2
      go_ret
      exact ⟨rfl, hD.below _⟩
end Go.Proofs.YtifnmehpkelifaaDoor
