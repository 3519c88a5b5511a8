/- Blocks that are known whole; slices of integers that a call makes. -/
import Derived.Test.YtondomklkapogaaDoorBase
namespace Go.Proofs.YtondomklkapogaaDoor
open Go.RowKit SeedP
/-! ### A block known whole -/
def Blk (w : World) (g : Nat) (e : TypeId) (l : List Value) : Prop := w.heap[g]? = some (.cells l.toArray e (0, 0))
section
variable {w w' : World} {g : Nat} {e : TypeId} {l : List Value}
theorem Blk.lt (h : Blk w g e l) : g < w.heap.size := (Array.getElem?_eq_some_iff.1 h).1
theorem Blk.block (h : Blk w g e l) (hk : w'.heap[g]? = w.heap[g]?) : Blk w' g e l := hk.trans h
theorem Blk.below (h : Blk w g e l) (hb : Below w.heap.size w w') : Blk w' g e l := h.block (hb.block g h.lt)
theorem Blk.alloc (h : Blk w g e l) (o : Obj) : Blk (w.alloc o) g e l := h.block (Below.heap_alloc w o g h.lt)
theorem Blk.drew (h : Blk w g e l) : Blk w.drew g e l := h
theorem Blk.drewN (h : Blk w g e l) (n : Nat) : Blk (w.drewN n) g e l := h
theorem Blk.new (w : World) (e : TypeId) (l : List Value) : Blk (w.alloc (.cells l.toArray e)) w.heap.size e l := heap_alloc_new w _
theorem Blk.at {g : Nat} (w : World) (e : TypeId) (l : List Value) (hg : g = w.heap.size) : Blk (w.alloc (.cells l.toArray e)) g e l := by subst hg; exact Blk.new w e l
theorem Blk.other (h : Blk w g e l) {a : Addr} (hne : g ≠ a.block) (v : Value) : Blk (w.setCell a v) g e l := h.block (Below.heap_setCell w a v g hne)
theorem Blk.set (h : Blk w g e l) (j : Nat) (v : Value) : Blk (w.setCell ⟨g, j, none⟩ v) g e (l.set j v) := by
  have := heap_setCell_same w g j l.toArray e v h
  unfold Blk; rw [this]; simp
theorem Blk.cell (h : Blk w g e l) (j : Nat) (hj : j < l.length) : w.cell? ⟨g, j, none⟩ = some (l.getD j undef) := by
  rw [cell_of_row w g j l.toArray e (0, 0) h]; simp [List.getElem?_eq_getElem hj, List.getD_eq_getElem?_getD]
theorem Blk.frozen (h : Blk w g e l) (j : Nat) : w.frozen? ⟨g, j, none⟩ = false := frozen_of_row w g j l.toArray e h
theorem Blk.rd (h : Blk w g e l) (hm : l.length ≤ maxLen) : Rd w (.slice (some ⟨g, 0, none⟩) l.length l.length) l :=
  Or.inr ⟨g, 0, l.length, rfl, Nat.le_refl _, hm, fun j u hu => by
    have hj := (List.getElem?_eq_some_iff.1 hu).1
    rw [Nat.zero_add, h.cell j hj, List.getD_eq_getElem?_getD, hu]; rfl⟩
theorem Blk.rdN (h : Blk w g e l) {n : Nat} (hn : l.length = n) (hm : n ≤ maxLen) : Rd w (.slice (some ⟨g, 0, none⟩) n n) l := by subst hn; exact h.rd hm
end
theorem ints_set (k : IntKind) (L : List Int) (j : Nat) (x : Int) : (ints k L).set j (.int k x) = ints k (L.set j x) := by simp [ints, List.map_set]
theorem ints_getD (k : IntKind) (L : List Int) (j : Nat) (h : j < L.length) : (ints k L).getD j undef = .int k (L.getD j 0) := by
  rw [List.getD_eq_getElem?_getD, ints_get k L j h]; rfl
theorem Blk.int {w : World} {g : Nat} {e : TypeId} {k : IntKind} {L : List Int} (h : Blk w g e (ints k L)) (j : Nat) (hj : j < L.length) : w.cell? ⟨g, j, none⟩ = some (.int k (L.getD j 0)) := by
  rw [h.cell j (by rw [ints_length]; exact hj), ints_getD k L j hj]
theorem Blk.setInt {w : World} {g : Nat} {e : TypeId} {k : IntKind} {L : List Int} (h : Blk w g e (ints k L)) (j : Nat) (x : Int) : Blk (w.setCell ⟨g, j, none⟩ (.int k x)) g e (ints k (L.set j x)) := by
  rw [← ints_set]; exact h.set j _
/-- a new row of zeros -/
def zeros (n : Nat) : List Int := List.replicate n 0
theorem zeros_length (n : Nat) : (zeros n).length = n := by simp [zeros]
theorem make_ints {P : Program} (t e : TypeId) (i : TypeInfo) (k : IntKind) (ht : P.underlying t = some (.slice e)) (hi : P.info? e = some i) (hz : i.zero = some (.int k 0)) (hs : i.size = 1) (hby : i.bytes ≤ 8)
    (n : Nat) (hn : n ≤ 4294967296) (w : World) :
    (Instr.makeSlice t (.int .i64 (n : Int)) (.int .i64 (n : Int))).run P w = .ok (.slice (some ⟨w.heap.size, 0, none⟩) n n) (w.alloc (.cells (ints k (zeros n)).toArray e)) := by
  have hb : (i.bytes : Int) * (n : Int) ≤ 281474976710656 := by
    have h : i.bytes * n ≤ 8 * 4294967296 := Nat.mul_le_mul hby hn
    have : ((i.bytes * n : Nat) : Int) ≤ 281474976710656 := by omega
    rwa [Int.natCast_mul] at this
  have hr := run_make (P := P) w t e i _ ht hi hz .i64 .i64 n n (by omega) (Int.le_refl _) hb (by omega)
  rw [hs, Nat.mul_one] at hr
  simp only [Int.toNat_natCast] at hr
  rw [hr]
  have : madeCells (Value.int k 0).cells n = (ints k (zeros n)).toArray := by
    apply Array.toList_inj.1
    show (madeCells #[Value.int k 0] n).toList = _
    rw [toList_madeCells_one]; simp [ints, zeros]
  rw [this]
/-- what the functions that make lists leave -/
def PostL (R : List Int × Int × Int) (w : World) (e : Ending) (w' : World) : Prop :=
  ∃ v, e = .returned (.tuple #[v, .int .i64 R.2.1, .int .i64 R.2.2]) ∧ Rd w' v (ints .i64 R.1) ∧ Below w.heap.size w w'
theorem lists_eq {la lb : List Int} (hl : la.length = lb.length) (h : ∀ j, j < la.length → la.getD j 0 = lb.getD j 0) : la = lb := by
  apply List.ext_getElem hl
  intro j h1 h2
  have := h j h1
  simpa [List.getD_eq_getElem?_getD, List.getElem?_eq_getElem h1, List.getElem?_eq_getElem h2] using this
theorem getD_set (L : List Int) (j k : Nat) (x : Int) (hj : j < L.length) : (L.set j x).getD k 0 = if k = j then x else L.getD k 0 := by
  simp only [List.getD_eq_getElem?_getD, List.getElem?_set]
  by_cases h : k = j
  · subst h; simp [hj]
  · rw [if_neg (fun e => h e.symm), if_neg h]
theorem iota_getD (n j : Nat) (h : j < n) : (iota n).getD j 0 = j := by simp [iota, List.getD_eq_getElem?_getD, h]
theorem iota_length (n : Nat) : (iota n).length = n := by simp [iota]
theorem eq_iota {L : List Int} {n : Nat} (hl : L.length = n) (h : ∀ j, j < n → L.getD j 0 = j) : L = iota n :=
  lists_eq (by rw [hl, iota_length]) fun j hj => by rw [h j (by omega), iota_getD n j (by omega)]
theorem postL {R : List Int × Int × Int} {w w' : World} {v : Value} {L : List Int} {a b : Int} (hR : R = (L, a, b)) (hv : Rd w' v (ints .i64 L)) (hb : Below w.heap.size w w') :
    PostL R w (.returned (.tuple #[v, .int .i64 a, .int .i64 b])) w' := by subst hR; exact ⟨v, rfl, hv, hb⟩
theorem rd_nil (w : World) : Rd w (.slice none 0 0) (ints .i64 []) := Or.inl ⟨Or.inl rfl, rfl⟩
theorem belowP_good (wd : Int → Int) (i n : Int) (h : (belowP wd i n).2.2 = 0) : 0 ≤ i ∧ 1 ≤ n ∧ 0 ≤ (belowP wd i n).1 ∧ (belowP wd i n).1 < n ∧ i < (belowP wd i n).2.1 ∧ (belowP wd i n).2.1 ≤ 1099511627776 := by
  by_cases hb : i < 0 ∨ 1099511627776 < i ∨ n < 1
  · rw [belowP_bad wd i n hb] at h; cases h
  · rcases belowP_cases wd i n (by omega) (by omega) (by omega) with hf | ⟨k, hk, _, _, he⟩
    · rw [hf] at h; cases h
    · rw [he]
      have := restP_lt (wd (i + k)) n (by omega)
      exact ⟨by omega, by omega, this.1, this.2, by show i < i + k + 1; omega, by show i + k + 1 ≤ _; omega⟩
theorem permL_go (wd : Int → Int) (p : Nat) (l : List Int) (i : Int) (h : (belowP wd i ((p : Int) + 1 + 1)).2.2 = 0) : permL wd (p + 1) l i = permL wd p (swapI l (p + 1) (belowP wd i ((p : Int) + 1 + 1)).1.toNat) (belowP wd i ((p : Int) + 1 + 1)).2.1 := by
  have e : (p : Int) + 1 + 1 = p + 2 := by omega
  rw [e] at h ⊢
  rw [permL, if_pos h]
theorem permL_stop (wd : Int → Int) (p : Nat) (l : List Int) (i : Int) (h : (belowP wd i ((p : Int) + 1 + 1)).2.2 ≠ 0) : permL wd (p + 1) l i = ([], 0, (belowP wd i ((p : Int) + 1 + 1)).2.2) := by
  have e : (p : Int) + 1 + 1 = p + 2 := by omega
  rw [e] at h ⊢
  rw [permL, if_neg h]
theorem swapI_length (l : List Int) (p q : Nat) : (swapI l p q).length = l.length := by simp [swapI]
theorem swapI_same (l : List Int) (p : Nat) (h : p < l.length) : swapI l p p = l := by
  apply lists_eq (swapI_length l p p)
  intro j hj
  unfold swapI
  rw [getD_set _ _ _ _ (by simpa using h), getD_set _ _ _ _ h]
  split
  · rename_i e; rw [e]
  · rfl
end Go.Proofs.YtondomklkapogaaDoor
