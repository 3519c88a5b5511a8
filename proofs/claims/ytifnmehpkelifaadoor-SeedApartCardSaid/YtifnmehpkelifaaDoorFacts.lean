/- What holds of draws: plain laws. -/
import Derived.Test.YtifnmehpkelifaaDoorWalkG
namespace Go.Proofs.YtifnmehpkelifaaDoor
open Go.RowKit SeedP
def gB : BitVec 64 := 0x9e3779b97f4a7c15#64
theorem gB_inv : gB * invB gB = 1#64 := by decide
theorem ofI_g : ofI 11400714819323198485 = gB := by decide
theorem word_inj (key a b : Int) (h : wordI key a = wordI key b) : a % 18446744073709551616 = b % 18446744073709551616 := by
  unfold wordI mixI at h
  have h2 := mixB_inj (toI_inj h)
  rw [ofI_add, ofI_add, ofI_mul, ofI_mul, ofI_g] at h2
  have h3 : ofI (a + 1) * gB = ofI (b + 1) * gB := by
    have e : ∀ x y : BitVec 64, y = x + y - x := fun x y => by rw [BitVec.add_comm, BitVec.add_sub_cancel]
    rw [e (ofI key) (ofI (a + 1) * gB), h2, ← e]
  have h4 : ofI (a + 1) = ofI (b + 1) := by
    rw [← mul_inv_cancel (ofI (a + 1)) gB (invB gB) gB_inv, h3, mul_inv_cancel _ _ _ gB_inv]
  have h5 := ofI_inj h4
  omega
theorem word_rng (key : Int) : ∀ i, 0 ≤ wordI key i ∧ wordI key i < 18446744073709551616 := fun _ => ⟨mixI_nonneg _, mixI_lt _⟩
theorem word_inj' (key : Int) : ∀ a b : Int, 0 ≤ a → a < 1099511627776 → 0 ≤ b → b < 1099511627776 → wordI key a = wordI key b → a = b := fun a b h0 h1 h2 h3 h => by
  have := word_inj key a b h; omega
/-- a draw that has room for n words succeeds -/
theorem draw_fine (key i n : Int) (h0 : 0 ≤ i) (hn : 1 ≤ n) (h : i + n ≤ 1099511627776) :
    ∃ v nx, belowP (wordI key) i n = (v, nx, 0) ∧ 0 ≤ v ∧ v < n ∧ i < nx ∧ nx ≤ i + n := belowP_ok _ (word_rng key) (word_inj' key) i n h0 hn h
theorem draw_full (key i n : Int) (h0 : 0 ≤ i) (h1 : i ≤ 1099511627776) (hn : 1 ≤ n) (h : (belowP (wordI key) i n).2.2 ≠ 0) : belowP (wordI key) i n = (0, 0, 4) ∧ 1099511627776 < i + n := by
  rcases belowP_cases (wordI key) i n h0 h1 hn with hf | ⟨k, _, _, _, he⟩
  · exact ⟨hf, belowP_full _ (word_rng key) (word_inj' key) i n h0 h1 hn hf⟩
  · exfalso; apply h; rw [he]
/-! Choose of all -/
def upto (m f : Nat) : List Bool := List.replicate m true ++ List.replicate f false
theorem upto_getD (m f v : Nat) : (upto m f).getD v false = decide (v < m) := by
  simp only [upto, List.getD_eq_getElem?_getD, List.getElem?_append, List.length_replicate, List.getElem?_replicate]
  by_cases h : v < m
  · simp [h]
  · simp only [h, if_false]; split <;> simp
theorem upto_set (m f : Nat) : (upto m (f + 1)).set m true = upto (m + 1) f := by
  unfold upto
  rw [List.set_append, if_neg (by simp), List.length_replicate, Nat.sub_self, List.replicate_succ (n := f), List.set_cons_zero, List.replicate_succ' (n := m), List.append_assoc]
  rfl
theorem choose_all (key : Int) : ∀ (f m : Nat) (i : Int), 0 ≤ i → m + f ≤ 1000 → i + f * 1000 ≤ 1099511627776 → ∃ nx, chooseL (wordI key) f m (upto m f) i = (upto (m + f) 0, nx, 0) ∧ i + f ≤ nx ∧ nx ≤ i + f * 1000 := by
  intro f
  induction f with
  | zero => intro m i _ _ _; exact ⟨i, rfl, by omega, by omega⟩
  | succ f ih =>
    intro m i h0 hm hi
    obtain ⟨v, nx, he, v0, v1, x0, x1⟩ := draw_fine key i (m + 1) h0 (by omega) (by omega)
    obtain ⟨v, rfl⟩ := Int.eq_ofNat_of_zero_le v0
    obtain ⟨nx', he', x2, x3⟩ := ih (m + 1) nx (by omega) (by omega) (by omega)
    refine ⟨nx', ?_, by omega, by omega⟩
    have hs : (if (upto m (f + 1)).getD v false then m else v) = m := by
      rw [upto_getD]
      by_cases h : v < m
      · simp [h]
      · simp [h]; omega
    rw [chooseL_go _ _ _ _ _ (by rw [he]), he]
    simp only [Int.toNat_natCast]
    rw [hs, upto_set, he', show m + 1 + f = m + (f + 1) by omega]
theorem trues_all (n : Nat) : ∀ b, trues b (List.replicate n true) = (List.range' b n).map (fun (k : Nat) => (k : Int)) := by
  induction n with
  | zero => intro b; rfl
  | succ n ih => intro b; simp only [List.replicate_succ, trues, if_true, ih, List.range'_succ, List.map_cons]
theorem chooseP_all (key i n : Int) (h0 : 0 ≤ i) (hn : 0 ≤ n) (h1 : n ≤ 1000) (hi : i + 1000000 ≤ 1099511627776) :
    ∃ nx, chooseP (wordI key) i n n = (iota n.toNat, nx, 0) ∧ i + n ≤ nx ∧ nx ≤ i + 1000000 := by
  obtain ⟨n, rfl⟩ := Int.eq_ofNat_of_zero_le hn
  obtain ⟨nx, he, x0, x1⟩ := choose_all key n 0 i h0 (by omega) (by omega)
  refine ⟨nx, ?_, by omega, by omega⟩
  unfold chooseP
  rw [if_neg (by omega)]
  have e : (upto 0 n) = List.replicate n false := by simp [upto]
  simp only [Int.toNat_natCast, Int.sub_self, Int.toNat_zero]
  rw [← e, he]
  simp only [Nat.zero_add, upto, List.replicate_zero, List.append_nil, trues_all]
  rw [iota, List.range_eq_range']
theorem perm_31 (wd : Int → Int) : permP wd 3 1 = ([0], 3, 0) := by unfold permP; rw [if_neg (by omega)]; rfl
theorem choose_44 (key : Int) : ∃ nx, chooseP (wordI key) 0 4 4 = ([0, 1, 2, 3], nx, 0) := by
  obtain ⟨nx, h, _⟩ := chooseP_all key 0 4 (by omega) (by omega) (by omega) (by omega)
  exact ⟨nx, h⟩
theorem weigh_050 (key : Int) : ∃ nx, weighP (wordI key) 0 [0, 5, 0] = (1, nx, 0) := by
  obtain ⟨t, nx, he, t0, t1, _, _⟩ := draw_fine key 0 5 (by omega) (by omega) (by omega)
  refine ⟨nx, ?_⟩
  have hs : [(0 : Int), 5, 0].sum = 5 := rfl
  rw [weigh_go _ _ _ (by omega) (by omega) (by decide) (by decide) (fun j hj => by
    have : j = 0 ∨ j = 1 ∨ j = 2 := by simp at hj; omega
    rcases this with rfl | rfl | rfl <;> decide) (by rw [hs]; decide), hs, he]
  simp only [if_true, upAt, Int.zero_add]
  rw [if_neg (by omega), if_pos t1]; rfl
theorem below_end (wd : Int → Int) : belowP wd 1099511627776 6 = (0, 0, 4) := by
  unfold belowP; rw [if_neg (by omega)]; exact belowL_end wd 6
end Go.Proofs.YtifnmehpkelifaaDoor
