/- Plain laws for SeedApart: different words, numbers, names have different streams. -/
import Derived.Test.YtifnmehpkelifaaDoorBun
import Derived.Lib.SlBytesRow
import Derived.Laws.IdiomStrings
namespace Go.Proofs.YtifnmehpkelifaaDoor
open Go.RowKit SeedP
theorem beq_of {a b : Int} {c d : Int} (h : a = b ↔ c = d) : (a == b) = (c == d) := by
  by_cases e : a = b
  · rw [h.1 e, e]; simp
  · rw [beq_eq_false_iff_ne.2 e, beq_eq_false_iff_ne.2 (fun e' => e (h.2 e'))]
theorem mix_same (x y : Int) (x0 : 0 ≤ x) (x1 : x ≤ 18446744073709551615) (y0 : 0 ≤ y) (y1 : y ≤ 18446744073709551615) : (mixI x == mixI y) = (x == y) :=
  beq_of ⟨fun h => by have := mixI_inj h; omega, fun h => by rw [h]⟩
theorem xor_cancel_l (k a b : Int) (h : bits .xor .u64 k a = bits .xor .u64 k b) : a % 18446744073709551616 = b % 18446744073709551616 := by
  rw [w_xor, w_xor] at h
  have := toI_inj h
  exact ofI_inj (BitVec.xor_right_inj (ofI k) |>.1 this)
theorem xor_cancel_r (k a b : Int) (h : bits .xor .u64 a k = bits .xor .u64 b k) : a % 18446744073709551616 = b % 18446744073709551616 := by
  rw [w_xor, w_xor] at h
  have := toI_inj h
  exact ofI_inj (BitVec.xor_left_inj (ofI k) |>.1 this)
theorem xor_lo' (x y : Int) : bits .xor .u64 x y % 18446744073709551616 = bits .xor .u64 x y := by
  have := xor_lo x y; have := xor_hi x y; omega
theorem mixI_xor_inj {a b : Int} {c d : Int} (h : mixI (bits .xor .u64 a c) = mixI (bits .xor .u64 b d)) : bits .xor .u64 a c = bits .xor .u64 b d := by
  have := mixI_inj h; rwa [xor_lo', xor_lo'] at this
theorem at_same_n (key i j : Int) (i0 : -9223372036854775808 ≤ i) (i1 : i ≤ 9223372036854775807) (j0 : -9223372036854775808 ≤ j) (j1 : j ≤ 9223372036854775807) : (atI key i == atI key j) = (i == j) :=
  beq_of ⟨fun h => by have := xor_cancel_l _ _ _ (mixI_xor_inj h); omega, fun h => by rw [h]⟩
theorem at_same_k (x y i : Int) (x0 : 0 ≤ x) (x1 : x ≤ 18446744073709551615) (y0 : 0 ≤ y) (y1 : y ≤ 18446744073709551615) : (atI x i == atI y i) = (x == y) :=
  beq_of ⟨fun h => by
    have h2 := xor_cancel_r _ _ _ (mixI_xor_inj h)
    have h3 : mixI (x + 1) = mixI (y + 1) := by
      have := mixI_nonneg (x + 1); have := mixI_lt (x + 1); have := mixI_nonneg (y + 1); have := mixI_lt (y + 1); omega
    have := mixI_inj h3; omega, fun h => by rw [h]⟩
theorem word_same (key p q : Int) (p0 : 0 ≤ p) (p1 : p < 1099511627776) (q0 : 0 ≤ q) (q1 : q < 1099511627776) : (wordI key p == wordI key q) = (p == q) :=
  beq_of ⟨fun h => word_inj' key p q p0 p1 q0 q1 h, fun h => by rw [h]⟩
theorem subK_inj (l : List UInt8) : ∀ a b : Int, 0 ≤ a → a ≤ 18446744073709551615 → 0 ≤ b → b ≤ 18446744073709551615 → subK a l = subK b l → a = b := by
  induction l with
  | nil => intro a b _ _ _ _ h; exact h
  | cons c r ih =>
    intro a b a0 a1 b0 b1 h
    have h1 := ih _ _ (mixI_nonneg _) (mixI_le _) (mixI_nonneg _) (mixI_le _) (show subK (mixI (bits .xor .u64 a c.toNat)) r = subK (mixI (bits .xor .u64 b c.toNat)) r from h)
    have := xor_cancel_r _ _ _ (mixI_xor_inj h1); omega
theorem sub_same_k (x y : Int) (l : List UInt8) (x0 : 0 ≤ x) (x1 : x ≤ 18446744073709551615) (y0 : 0 ≤ y) (y1 : y ≤ 18446744073709551615) : (subI x l == subI y l) = (x == y) :=
  beq_of ⟨fun h => by
    have h1 := subK_inj l _ _ (mixI_nonneg _) (mixI_le _) (mixI_nonneg _) (mixI_le _) h
    have := xor_cancel_r _ _ _ (mixI_xor_inj h1); omega, fun h => by rw [h]⟩
theorem subK_append (k : Int) (a b : List UInt8) : subK k (a ++ b) = subK (subK k a) b := by simp [subK]
theorem sub_same_l (key : Int) (a r : List UInt8) (c d : UInt8) : (subI key (a ++ c :: r) = subI key (a ++ d :: r)) ↔ c = d := by
  constructor
  · intro h
    unfold subI at h
    rw [show (a ++ d :: r).length = (a ++ c :: r).length by simp, subK_append, subK_append] at h
    generalize subK (mixI (bits .xor .u64 key ((a ++ c :: r).length : Nat))) a = k at h
    have h1 := subK_inj r _ _ (mixI_nonneg _) (mixI_le _) (mixI_nonneg _) (mixI_le _) (show subK (mixI (bits .xor .u64 k c.toNat)) r = subK (mixI (bits .xor .u64 k d.toNat)) r from h)
    have h2 := xor_cancel_l _ _ _ (mixI_xor_inj h1)
    have := c.toNat_lt; have := d.toNat_lt
    exact UInt8.toNat_inj.1 (by omega)
  · rintro rfl; rfl
theorem sub_set (key : Int) (l : List UInt8) (t : Nat) (ht : t < l.length) (d : UInt8) : (subI key l = subI key (l.set t d)) ↔ l[t] = d := by
  have e1 : l = l.take t ++ l[t] :: l.drop (t + 1) := by rw [List.getElem_cons_drop, List.take_append_drop]
  have e2 : l.set t d = l.take t ++ d :: l.drop (t + 1) := List.set_eq_take_append_cons_drop .. |>.trans (by rw [if_pos ht])
  rw [e2]
  have h := sub_same_l key (l.take t) (l.drop (t + 1)) l[t] d
  rwa [← e1] at h
theorem x8 (a b : UInt8) : bits .xor .u8 a.toNat b.toNat = ((a ^^^ b).toNat : Int) := by
  show IntKind.u8.wrap (((BitVec.ofInt 8 a.toNat ^^^ BitVec.ofInt 8 b.toNat).toNat : Nat) : Int) = _
  rw [IntKind.wrap_u8]
  have e : ∀ c : UInt8, BitVec.ofInt 8 (c.toNat : Int) = c.toBitVec := fun c => by
    apply BitVec.eq_of_toNat_eq; simp
  rw [e, e]
  have := (a ^^^ b).toNat_lt
  show (((a.toBitVec ^^^ b.toBitVec).toNat : Nat) : Int) % 256 = _
  rw [← UInt8.toBitVec_xor]
  show (((a ^^^ b).toNat : Nat) : Int) % 256 = _
  omega
/-- the bytes with one turned -/
def turned (s : ByteArray) (q : Nat) (d : UInt8) : ByteArray := ⟨s.data.setIfInBounds q d⟩
theorem turned_size (s : ByteArray) (q : Nat) (d : UInt8) : (turned s q d).size = s.size := by show (s.data.setIfInBounds q d).size = s.data.size; simp
theorem turned_list (s : ByteArray) (q : Nat) (d : UInt8) : (turned s q d).data.toList = s.data.toList.set q d := by simp [turned]
theorem u8_xor_eq (a b : UInt8) : a = a ^^^ b ↔ b = 0 := by
  constructor
  · intro h
    have h2 : a ^^^ a = a ^^^ (a ^^^ b) := by rw [← h]
    rw [UInt8.xor_self, ← UInt8.xor_assoc, UInt8.xor_self, UInt8.zero_xor] at h2
    exact h2.symm
  · rintro rfl; simp
theorem sub_turned (key : Int) (s : ByteArray) (q : Nat) (hq : q < s.size) (b : UInt8) : (subI key s.data.toList == subI key (turned s q (s[q] ^^^ b)).data.toList) = ((b.toNat : Int) == 0) := by
  rw [turned_list]
  refine beq_of ?_
  rw [sub_set key s.data.toList q (by simpa using hq)]
  have e : s.data.toList[q]'(by simpa using hq) = s[q] := by simp; rfl
  rw [e, u8_xor_eq]
  constructor
  · rintro rfl; rfl
  · intro h; exact UInt8.toNat_inj.1 (by simpa using h)
/-- the row that '[]byte(s)' lays, read -/
theorem bytes_laid (w : World) (s : ByteArray) (cap : Nat) (fr : Nat × Nat) : Lib.Bytes (w.alloc (.cells (bytesRow s cap) 5 fr)) w.heap.size 0 s := fun i hi => by
  rw [Nat.zero_add, World.cell?_alloc_mark, bytesRow_at s cap i hi]; rfl
theorem bytesRow_size (s : ByteArray) (cap : Nat) : s.size ≤ (bytesRow s cap).size := by show s.data.size ≤ _; simp [bytesRow]
theorem bytes_free (w : World) (s : ByteArray) (cap m : Nat) (q : Nat) (hq : q < s.size) : (w.alloc (.cells (bytesRow s cap) 5 ((bytesRow s cap).size, m))).frozen? ⟨w.heap.size, q, none⟩ = false := by
  rw [World.frozen?_alloc_mark]
  have := bytesRow_size s cap
  simp; omega
theorem turned_at (s : ByteArray) (q : Nat) (d : UInt8) (i : Nat) (h : i < (turned s q d).size) (h2 : i < s.size) : (turned s q d)[i] = if q = i then d else s[i] :=
  Array.getElem_setIfInBounds (xs := s.data) (i := q) (a := d) (j := i) (by simpa using h2)
theorem bytes_turned {w : World} {g : Nat} {s : ByteArray} (h : Lib.Bytes w g 0 s) (q : Nat) (d : UInt8) : Lib.Bytes (w.setCell ⟨g, q, none⟩ (.int .u8 d.toNat)) g 0 (turned s q d) := fun i hi => by
  have hi2 : i < s.size := by rw [turned_size] at hi; exact hi
  rw [turned_at s q d i hi hi2, Nat.zero_add]
  have h1 := h i hi2
  rw [Nat.zero_add] at h1
  by_cases e : q = i
  · subst e
    rw [if_pos rfl]
    exact World.cell?_setCell_same _ _ _ h1
  · rw [show (w.setCell ⟨g, q, none⟩ (.int .u8 d.toNat)).cell? ⟨g, i, none⟩ = w.cell? ⟨g, i, none⟩ by apply World.cell?_setCell_other; intro h; cases h; exact e rfl, h1, if_neg e]
theorem Bytes_below {w w' : World} {g o : Nat} {s : ByteArray} (h : Lib.Bytes w g o s) (hb : Below w.heap.size w w') : Lib.Bytes w' g o s := fun i hi => keep_cell hb (h i hi)
end Go.Proofs.YtifnmehpkelifaaDoor
