/- Plain laws for SeedLists: an order has every number once; a choice is increasing; what is weighed has a weight. -/
import Derived.Test.YtifnmehpkelifaaDoorBun
namespace Go.Proofs.YtifnmehpkelifaaDoor
open Go.RowKit SeedP
/-! ### orders -/
theorem swapI_count (l : List Int) (p q : Nat) (hp : p < l.length) (hq : q < l.length) (c : Int) : (swapI l p q).count c = l.count c := by
  unfold swapI
  have hP : l.getD p 0 = l[p] := by simp [List.getD_eq_getElem?_getD, List.getElem?_eq_getElem hp]
  have hQ : l.getD q 0 = l[q] := by simp [List.getD_eq_getElem?_getD, List.getElem?_eq_getElem hq]
  have a1 : (if l[p] == c then 1 else 0) ≤ l.count c := by
    split
    · rename_i h; exact List.one_le_count_iff.2 (by rw [← eq_of_beq h]; exact List.getElem_mem hp)
    · exact Nat.zero_le _
  have a2 : (if l[q] == c then 1 else 0) ≤ l.count c := by
    split
    · rename_i h; exact List.one_le_count_iff.2 (by rw [← eq_of_beq h]; exact List.getElem_mem hq)
    · exact Nat.zero_le _
  rw [hP, hQ]
  generalize hx : l[p] = x at *
  generalize hy : l[q] = y at *
  have hq2 : q < (l.set p y).length := by simpa using hq
  rw [List.count_set hq2, List.count_set hp, List.getElem_set, hx, hy]
  by_cases h : p = q
  · subst h; rw [hx] at hy; subst hy; simp only [if_true]; omega
  · rw [if_neg h]; omega
theorem permL_ok (key : Int) : ∀ (p : Nat) (l : List Int) (i : Int), 0 ≤ i → p < 1000 → p < l.length → i + p * 1000 ≤ 1099511627776 →
    ∃ L nx, permL (wordI key) p l i = (L, nx, 0) ∧ L.length = l.length ∧ (∀ c, L.count c = l.count c) ∧ i + p ≤ nx := by
  intro p
  induction p with
  | zero => intro l i h0 _ _ _; exact ⟨l, i, rfl, rfl, fun _ => rfl, by omega⟩
  | succ p ih =>
    intro l i h0 hp hl hi
    obtain ⟨v, nx, he, v0, v1, x0, x1⟩ := draw_fine key i ((p : Int) + 1 + 1) h0 (by omega) (by omega)
    obtain ⟨L, nx', e, hL, hc, hx⟩ := ih (swapI l (p + 1) v.toNat) nx (by omega) (by omega) (by rw [swapI_length]; omega) (by omega)
    refine ⟨L, nx', ?_, by rw [hL, swapI_length], fun c => by rw [hc, swapI_count _ _ _ hl (by omega)], by omega⟩
    rw [permL_go _ _ _ _ (by rw [he]), he]; exact e
theorem iota_count (n x : Nat) : (iota n).count (x : Int) = if x < n then 1 else 0 := by
  induction n with
  | zero => simp [iota]
  | succ n ih =>
    have e : iota (n + 1) = iota n ++ [(n : Int)] := by simp [iota, List.range_succ]
    rw [e, List.count_append, ih, List.count_singleton]
    by_cases h : x = n
    · subst h; simp
    · have h2 : ((n : Int) == (x : Int)) = false := beq_eq_false_iff_ne.2 (by omega)
      rw [h2]
      by_cases h3 : x < n
      · simp [h3]; omega
      · simp [h3]; omega
theorem iota_mem (n : Nat) (y : Int) (h : y ∈ iota n) : 0 ≤ y ∧ y < n := by
  simp only [iota, List.mem_map, List.mem_range] at h
  obtain ⟨k, hk, rfl⟩ := h; omega
theorem perm_ok (key i : Int) (n : Nat) (h0 : 0 ≤ i) (hn : n ≤ 100) (hi : i ≤ 549755813888) :
    ∃ L nx, permP (wordI key) i n = (L, nx, 0) ∧ L.length = n ∧ (∀ j, j < n → 0 ≤ L.getD j 0 ∧ L.getD j 0 < n) ∧ (∀ x, x < n → L.count (x : Int) = 1) ∧ i + (n - 1) ≤ nx ∧ i ≤ nx := by
  have e : permP (wordI key) i n = permL (wordI key) (n - 1) (iota n) i := by
    unfold permP; rw [if_neg (by omega)]; simp only [Int.toNat_natCast]; congr 1; omega
  rw [e]
  rcases n with _ | n
  · exact ⟨[], i, rfl, rfl, fun j hj => by omega, fun x hx => by omega, by omega, by omega⟩
  · obtain ⟨L, nx, e, hL, hc, hx⟩ := permL_ok key n (iota (n + 1)) i h0 (by omega) (by rw [iota_length]; omega) (by omega)
    rw [iota_length] at hL
    refine ⟨L, nx, e, hL, fun j hj => ?_, fun x hx => ?_, by omega, by omega⟩
    · have hm : L.getD j 0 ∈ L := by rw [List.getD_eq_getElem?_getD, List.getElem?_eq_getElem (by omega)]; exact List.getElem_mem _
      have : 1 ≤ (iota (n + 1)).count (L.getD j 0) := by rw [← hc]; exact List.one_le_count_iff.2 hm
      have := iota_mem _ _ (List.one_le_count_iff.1 this)
      omega
    · rw [hc, iota_count, if_pos hx]
/-! ### choices -/
theorem trues_count (C : List Bool) : ∀ b, (trues b C).length = C.count true := by
  induction C with
  | nil => intro b; rfl
  | cons x C ih => intro b; cases x <;> simp [trues, ih]
theorem trues_bd (C : List Bool) : ∀ b, ∀ y ∈ trues b C, (b : Int) ≤ y ∧ y < b + C.length := by
  induction C with
  | nil => intro b y hy; simp [trues] at hy
  | cons x C ih =>
    intro b y hy
    have key : y ∈ trues (b + 1) C → (b : Int) ≤ y ∧ y < b + (x :: C).length := fun h => by
      have := ih (b + 1) y h; simp only [List.length_cons]; omega
    cases x with
    | false => simp only [trues] at hy; exact key (by simpa using hy)
    | true =>
      simp only [trues, if_true, List.mem_cons] at hy
      rcases hy with rfl | hy
      · simp only [List.length_cons]; omega
      · exact key hy
theorem trues_sorted (C : List Bool) : ∀ b, (trues b C).Pairwise (· < ·) := by
  induction C with
  | nil => intro b; exact List.Pairwise.nil
  | cons x C ih =>
    intro b
    cases x with
    | false => simpa [trues] using ih (b + 1)
    | true =>
      simp only [trues, if_true, List.pairwise_cons]
      exact ⟨fun y hy => by have := trues_bd C (b + 1) y hy; omega, ih (b + 1)⟩
theorem chooseL_ok (key : Int) : ∀ (f m : Nat) (C : List Bool) (i : Int), 0 ≤ i → m + f ≤ 1000 → m + f = C.length → (∀ v, m ≤ v → C.getD v false = false) → i + f * 1000 ≤ 1099511627776 →
    ∃ D nx, chooseL (wordI key) f m C i = (D, nx, 0) ∧ D.length = C.length ∧ D.count true = C.count true + f ∧ i + f ≤ nx := by
  intro f
  induction f with
  | zero => intro m C i _ _ _ _ _; exact ⟨C, i, rfl, rfl, by omega, by omega⟩
  | succ f ih =>
    intro m C i h0 hm hl hz hi
    obtain ⟨v, nx, he, v0, v1, x0, x1⟩ := draw_fine key i ((m : Int) + 1) h0 (by omega) (by omega)
    obtain ⟨v, rfl⟩ := Int.eq_ofNat_of_zero_le v0
    generalize hs : (if C.getD v false then m else v) = s
    have hsm : s ≤ m := by rw [← hs]; split <;> omega
    have hsf : C.getD s false = false := by
      rw [← hs]
      split
      · exact hz m (Nat.le_refl _)
      · rename_i h; simpa using h
    have hslt : s < C.length := by omega
    obtain ⟨D, nx', e, hD, hc, hx⟩ := ih (m + 1) (C.set s true) nx (by omega) (by omega) (by rw [List.length_set]; omega) (fun u hu => by
      have := hz u (by omega)
      simp only [List.getD_eq_getElem?_getD, List.getElem?_set] at this ⊢
      rw [if_neg (by omega)]; exact this) (by omega)
    refine ⟨D, nx', ?_, by rw [hD, List.length_set], ?_, by omega⟩
    · rw [chooseL_go _ _ _ _ _ (by rw [he]), he]
      simp only [Int.toNat_natCast]
      rw [hs]; exact e
    · rw [hc, List.count_set hslt]
      have : C[s] = false := by simpa [List.getD_eq_getElem?_getD, List.getElem?_eq_getElem hslt] using hsf
      rw [this]; simp; omega
theorem choose_ok (key i : Int) (n k : Nat) (h0 : 0 ≤ i) (hn : n ≤ 100) (hk : k ≤ n) (hi : i ≤ 549755813888) :
    ∃ L nx, chooseP (wordI key) i n k = (L, nx, 0) ∧ L.length = k ∧ (∀ j, j < k → 0 ≤ L.getD j 0 ∧ L.getD j 0 < n) ∧ (∀ j, j + 1 < k → L.getD j 0 < L.getD (j + 1) 0) ∧ i + k ≤ nx := by
  obtain ⟨D, nx, e, hD, hc, hx⟩ := chooseL_ok key k (n - k) (List.replicate n false) i h0 (by omega) (by simp; omega) (fun v _ => by
    simp only [List.getD_eq_getElem?_getD, List.getElem?_replicate]; split <;> rfl) (by omega)
  rw [List.length_replicate] at hD
  have hc : D.count true = k := by rw [hc]; simp [List.count_replicate]
  have hl : (trues 0 D).length = k := by rw [trues_count, hc]
  refine ⟨trues 0 D, nx, ?_, hl, fun j hj => ?_, fun j hj => ?_, hx⟩
  · unfold chooseP
    rw [if_neg (by omega)]
    simp only [Int.toNat_natCast]
    rw [show ((n : Int) - k).toNat = n - k by omega, e]
  · have hm : (trues 0 D).getD j 0 ∈ trues 0 D := by rw [List.getD_eq_getElem?_getD, List.getElem?_eq_getElem (by omega)]; exact List.getElem_mem _
    have := trues_bd D 0 _ hm
    omega
  · have := List.pairwise_iff_getElem.1 (trues_sorted D 0) j (j + 1) (by omega) (by omega) (by omega)
    simpa [List.getD_eq_getElem?_getD, List.getElem?_eq_getElem (show j < (trues 0 D).length by omega), List.getElem?_eq_getElem (show j + 1 < (trues 0 D).length by omega)] using this
/-! ### weights -/
theorem upAt_ok (t : Int) : ∀ (l : List Int) (acc : Int), acc ≤ t → t < acc + l.sum → upAt t acc l < l.length ∧ 0 < l.getD (upAt t acc l) 0 := by
  intro l
  induction l with
  | nil => intro acc h0 h1; simp at h1; omega
  | cons x l ih =>
    intro acc h0 h1
    simp only [List.sum_cons] at h1
    simp only [upAt]
    by_cases h : t < acc + x
    · rw [if_pos h]; exact ⟨by simp, by show 0 < x; omega⟩
    · rw [if_neg h]
      have := ih (acc + x) (by omega) (by omega)
      exact ⟨by simp only [List.length_cons]; omega, this.2⟩
theorem sum_bd (l : List Int) (h : ∀ j, j < l.length → 0 ≤ l.getD j 0 ∧ l.getD j 0 ≤ 255) : 0 ≤ l.sum ∧ l.sum ≤ l.length * 255 := by
  induction l with
  | nil => simp
  | cons x l ih =>
    have h1 := h 0 (by simp)
    have h2 := ih (fun j hj => h (j + 1) (by simp; omega))
    simp only [List.sum_cons, List.length_cons, List.getD_cons_zero] at *
    omega
theorem weigh_ok (key i : Int) (l : List Int) (h0 : 0 ≤ i) (hi : i ≤ 549755813888) (hl : l.length ≤ 100) (hb : ∀ j, j < l.length → 0 ≤ l.getD j 0 ∧ l.getD j 0 ≤ 255) (hs : l.sum ≠ 0) :
    ∃ (x : Nat) (nx : Int), weighP (wordI key) i l = ((x : Int), nx, 0) ∧ i < nx ∧ x < l.length ∧ 0 < l.getD x 0 := by
  have sb := sum_bd l hb
  have h2 : 1 ≤ l.length := by
    cases l with
    | nil => exact absurd rfl hs
    | cons _ _ => simp
  obtain ⟨t, nx, he, t0, t1, x0, x1⟩ := draw_fine key i l.sum h0 (by omega) (by omega)
  have hu := upAt_ok t l 0 t0 (by omega)
  refine ⟨upAt t 0 l, nx, ?_, x0, hu.1, hu.2⟩
  rw [weigh_go _ i l h0 (by omega) h2 (by omega) (fun j hj => by have := hb j hj; omega) hs, he]
  simp
/-! ### counting -/
theorem take_count (L : List Int) (x : Nat) (hx : x < L.length) (v : Int) : (L.take (x + 1)).count v = (L.take x).count v + if L.getD x 0 = v then 1 else 0 := by
  rw [List.take_succ_eq_append_getElem hx, List.count_append, List.count_singleton]
  have : L.getD x 0 = L[x] := by simp [List.getD_eq_getElem?_getD, List.getElem?_eq_getElem hx]
  rw [this]
  by_cases h : L[x] = v
  · simp [h]
  · simp [h]
end Go.Proofs.YtifnmehpkelifaaDoor
