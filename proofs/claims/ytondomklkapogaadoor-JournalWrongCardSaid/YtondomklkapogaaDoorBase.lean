/- Words as integers: what the walk writes of a word's arithmetic, and the same over bit vectors; slices that read as lists. -/
import Derived.Test.YtondomklkapogaaDoorPure
import Derived.WalkKit
import Derived.WalkSpells
import Derived.WalkLawsBesides
import Derived.Lib.Hide
namespace Go.Proofs.YtondomklkapogaaDoor
open Go.RowKit SeedP

def ofI (x : Int) : BitVec 64 := BitVec.ofInt 64 x
def toI (b : BitVec 64) : Int := (b.toNat : Int)
theorem toI_nonneg (b : BitVec 64) : 0 ≤ toI b := by unfold toI; omega
theorem toI_lt (b : BitVec 64) : toI b < 18446744073709551616 := by unfold toI; have := b.isLt; omega
theorem toI_le (b : BitVec 64) : toI b ≤ 18446744073709551615 := by have := toI_lt b; omega
theorem ofI_toI (b : BitVec 64) : ofI (toI b) = b := by
  unfold ofI toI; rw [BitVec.ofInt_natCast]; simp
theorem toNat_ofI (x : Int) : ((ofI x).toNat : Int) = x % 18446744073709551616 := by
  unfold ofI; rw [BitVec.toNat_ofInt]
  have h : 0 ≤ x % ((2 ^ 64 : Nat) : Int) := Int.emod_nonneg _ (by decide)
  rw [Int.toNat_of_nonneg h]; rfl
theorem toI_ofI (x : Int) : toI (ofI x) = x % 18446744073709551616 := toNat_ofI x
theorem toI_ofI_in (x : Int) (h0 : 0 ≤ x) (h1 : x < 18446744073709551616) : toI (ofI x) = x := by rw [toI_ofI]; omega
theorem ofI_inj {x y : Int} (h : ofI x = ofI y) : x % 18446744073709551616 = y % 18446744073709551616 := by rw [← toI_ofI, ← toI_ofI, h]
theorem ofI_eq {x y : Int} (h : x % 18446744073709551616 = y % 18446744073709551616) : ofI x = ofI y := by
  rw [← ofI_toI (ofI x), ← ofI_toI (ofI y), toI_ofI, toI_ofI, h]
theorem toI_inj {x y : BitVec 64} (h : toI x = toI y) : x = y := by rw [← ofI_toI x, ← ofI_toI y, h]
theorem w_wrap (x : Int) : IntKind.u64.wrap x = toI (ofI x) := by rw [IntKind.wrap_u64, toI_ofI]
theorem w_xor (x y : Int) : bits .xor .u64 x y = toI (ofI x ^^^ ofI y) := by
  show IntKind.u64.wrap (((ofI x ^^^ ofI y).toNat : Nat) : Int) = _
  rw [w_wrap]; exact congrArg toI (ofI_toI _)
theorem w_or (x y : Int) : bits .or .u64 x y = toI (ofI x ||| ofI y) := by
  show IntKind.u64.wrap (((ofI x ||| ofI y).toNat : Nat) : Int) = _
  rw [w_wrap]; exact congrArg toI (ofI_toI _)
theorem w_and (x y : Int) : bits .and .u64 x y = toI (ofI x &&& ofI y) := by
  show IntKind.u64.wrap (((ofI x &&& ofI y).toNat : Nat) : Int) = _
  rw [w_wrap]; exact congrArg toI (ofI_toI _)
theorem ofI_mul (x y : Int) : ofI (x * y) = ofI x * ofI y := BitVec.ofInt_mul _ _
theorem ofI_add (x y : Int) : ofI (x + y) = ofI x + ofI y := BitVec.ofInt_add _ _
theorem ofI_neg (x : Int) : ofI (-x) = -ofI x := BitVec.ofInt_neg
theorem ofI_sub (x y : Int) : ofI (x - y) = ofI x - ofI y := by rw [Int.sub_eq_add_neg, ofI_add, ofI_neg, BitVec.sub_eq_add_neg]
theorem toI_shr (b : BitVec 64) (s : Nat) : toI b / (2 ^ s : Int) = toI (b >>> s) := by
  unfold toI; rw [BitVec.toNat_ushiftRight, Nat.shiftRight_eq_div_pow]; simp
theorem shr30 (b : BitVec 64) : toI b / (1073741824 : Int) = toI (b >>> 30) := toI_shr b 30
theorem shr27 (b : BitVec 64) : toI b / (134217728 : Int) = toI (b >>> 27) := toI_shr b 27
theorem shr31 (b : BitVec 64) : toI b / (2147483648 : Int) = toI (b >>> 31) := toI_shr b 31

theorem shr62 (b : BitVec 64) : toI b / (4611686018427387904 : Int) = toI (b >>> 62) := toI_shr b 62
theorem shr54 (b : BitVec 64) : toI b / (18014398509481984 : Int) = toI (b >>> 54) := toI_shr b 54
theorem shr60 (b : BitVec 64) : toI b / (1152921504606846976 : Int) = toI (b >>> 60) := toI_shr b 60
theorem ofI_0 : ofI 0 = 0#64 := rfl
theorem ofI_1 : ofI 1 = 1#64 := rfl
theorem ofI_c1 : ofI 13787848793156543929 = c1 := by decide
theorem ofI_c2 : ofI 10723151780598845931 = c2 := by decide
theorem ofI_pow (m : Nat) : ofI (2 ^ m) = BitVec.twoPow 64 m := by
  apply BitVec.eq_of_toNat_eq
  have h := toNat_ofI (2 ^ m)
  rw [BitVec.toNat_twoPow]
  have e : ((2 : Int) ^ m) % 18446744073709551616 = ((2 ^ m % 2 ^ 64 : Nat) : Int) := by
    rw [Int.natCast_emod, Int.natCast_pow]; rfl
  rw [e] at h
  exact Int.ofNat.inj h
theorem toI_shl (b : BitVec 64) (m : Nat) : IntKind.u64.wrap (toI b * 2 ^ m) = toI (b <<< m) := by
  rw [w_wrap, ofI_mul, ofI_toI, ofI_pow, BitVec.shiftLeft_eq_mul_twoPow]
theorem u_form (b y : BitVec 64) (m k : Nat) (h : m + k < 64) :
    bits .or .u64 (toI y) (IntKind.u64.wrap (bits .xor .u64 (bits .and .u64 (toI b / 2 ^ m) 1) (bits .and .u64 (toI y / 2 ^ (m + k)) 1) * 2 ^ m)) = toI (uStep b k y m) := by
  rw [toI_shr, toI_shr, w_and, w_and, w_xor, toI_shl, w_or]
  simp only [ofI_toI, ofI_1]
  unfold uStep; rw [if_pos h]
theorem u_form' (b y : BitVec 64) (m k : Nat) (h : ¬ m + k < 64) :
    bits .or .u64 (toI y) (IntKind.u64.wrap (bits .and .u64 (toI b / 2 ^ m) 1 * 2 ^ m)) = toI (uStep b k y m) := by
  rw [toI_shr, w_and, toI_shl, w_or]
  simp only [ofI_toI, ofI_1]
  unfold uStep; rw [if_neg h, BitVec.xor_zero]
theorem uLoop_un (b : BitVec 64) (k : Nat) (h : 22 ≤ k) : uLoop b k 64 0#64 = unxs k b := by
  have e := xs_uLoop b k (by omega)
  rw [← unxs_xs k (uLoop b k 64 0#64) (by omega), e]
theorem ofI_wrap (x : Int) : ofI (IntKind.u64.wrap x) = ofI x := by rw [w_wrap, ofI_toI]
theorem d_form (b y o t : BitVec 64) : bits .and .u64 (IntKind.u64.wrap (toI b - IntKind.u64.wrap (toI y * toI o))) (toI t) = toI ((b - y * o) &&& t) := by
  rw [w_and, ofI_wrap, ofI_sub, ofI_wrap, ofI_mul, ofI_toI, ofI_toI, ofI_toI, ofI_toI]
theorem toI_ne (b : BitVec 64) (h : b ≠ 0#64) : (toI b != 0) = true := by
  rw [bne_iff_ne]; intro e; exact h (toI_inj (e.trans rfl))
theorem or_form (a b : BitVec 64) : bits .or .u64 (toI a) (toI b) = toI (a ||| b) := by rw [w_or, ofI_toI, ofI_toI]
theorem pow_next (j : Nat) : IntKind.u64.wrap (toI (BitVec.twoPow 64 j) * 2) = toI (BitVec.twoPow 64 (j + 1)) := by
  rw [w_wrap, ofI_mul, ofI_toI, show ofI 2 = BitVec.twoPow 64 1 by decide, BitVec.twoPow_mul_twoPow_eq]
theorem toI_pow (j : Nat) (h : j < 64) : toI (BitVec.twoPow 64 j) = ((2 ^ j : Nat) : Int) := by
  unfold toI; rw [BitVec.toNat_twoPow_of_lt h]
theorem pow_ne (j : Nat) (h : j < 64) : (toI (BitVec.twoPow 64 j) != 0) = true := by
  rw [toI_pow j h, bne_iff_ne]; have := Nat.two_pow_pos j; omega
theorem pow_end : toI (BitVec.twoPow 64 64) = 0 := rfl
/-- how many bits are still to come: the loop's measure -/
def dMuI (x : Int) : Nat := if x = 0 then 0 else 64 - x.toNat.log2
def dMu (v : Value) : Nat := dMuI (intOf v)
theorem dMu_at (j : Nat) (h : j ≤ 64) : dMu (.int .u64 (toI (BitVec.twoPow 64 j))) = 64 - j := by
  show dMuI (toI (BitVec.twoPow 64 j)) = _
  unfold dMuI
  by_cases hj : j < 64
  · have := Nat.two_pow_pos j
    rw [toI_pow j hj, if_neg (by rw [Int.natCast_eq_zero]; omega), Int.toNat_natCast, Nat.log2_two_pow]
  · obtain rfl : j = 64 := by omega
    rw [if_pos pow_end]
theorem tdiv_toI (b : BitVec 64) (c : Int) : (toI b).tdiv c = toI b / c := Int.tdiv_eq_ediv_of_nonneg (toI_nonneg b)
theorem exists_toI (x : Int) (h0 : 0 ≤ x) (h1 : x ≤ 18446744073709551615) : ∃ b, x = toI b := ⟨ofI x, (toI_ofI_in x h0 (by omega)).symm⟩
theorem ret_int {k : IntKind} {a b : Int} (h : a = b) : Ending.returned (.int k a) = .returned (.int k b) := by rw [h]
theorem ret_bool {a b : Bool} (h : a = b) : Ending.returned (.bool a) = .returned (.bool b) := by rw [h]
theorem ret_two {k : IntKind} {a b : Int} {c d : Value} (h : a = b) (h' : c = d) : Ending.returned (.tuple #[.int k a, c]) = .returned (.tuple #[.int k b, d]) := by rw [h, h']
/-- Mixing, of integers. -/
def mixI (x : Int) : Int := toI (mixB (ofI x))
def unmixI (x : Int) : Int := toI (unmixB (ofI x))
theorem mixI_nonneg (x : Int) : 0 ≤ mixI x := toI_nonneg _
theorem mixI_lt (x : Int) : mixI x < 18446744073709551616 := toI_lt _
theorem mixI_le (x : Int) : mixI x ≤ 18446744073709551615 := toI_le _
theorem unmixI_nonneg (x : Int) : 0 ≤ unmixI x := toI_nonneg _
theorem unmixI_le (x : Int) : unmixI x ≤ 18446744073709551615 := toI_le _
theorem unmix_mixI (x : Int) (h0 : 0 ≤ x) (h1 : x < 18446744073709551616) : unmixI (mixI x) = x := by
  unfold unmixI mixI; rw [ofI_toI, unmix_mix, toI_ofI_in x h0 h1]
theorem mix_unmixI (x : Int) (h0 : 0 ≤ x) (h1 : x < 18446744073709551616) : mixI (unmixI x) = x := by
  unfold unmixI mixI; rw [ofI_toI, mix_unmix, toI_ofI_in x h0 h1]
theorem mixI_inj {x y : Int} (h : mixI x = mixI y) : x % 18446744073709551616 = y % 18446744073709551616 := ofI_inj (mixB_inj (toI_inj h))
theorem mixI_congr {x y : Int} (h : x % 18446744073709551616 = y % 18446744073709551616) : mixI x = mixI y := by unfold mixI; rw [ofI_eq h]
theorem mixI_mod (x : Int) : mixI (x % 18446744073709551616) = mixI x := mixI_congr (by omega)
theorem u64_lo (x : Int) : 0 ≤ IntKind.u64.wrap x := by rw [w_wrap]; exact toI_nonneg _
theorem u64_hi (x : Int) : IntKind.u64.wrap x ≤ 18446744073709551615 := by rw [w_wrap]; exact toI_le _
theorem xor_lo (x y : Int) : 0 ≤ bits .xor .u64 x y := by rw [w_xor]; exact toI_nonneg _
theorem xor_hi (x y : Int) : bits .xor .u64 x y ≤ 18446744073709551615 := by rw [w_xor]; exact toI_le _
/-- The word of a stream with an index. -/
def wordI (key i : Int) : Int := mixI (key + (i + 1) * 11400714819323198485)
theorem word_form (key i : Int) : mixI (IntKind.u64.wrap (key + IntKind.u64.wrap ((i + 1) * 11400714819323198485))) = wordI key i := by
  unfold wordI mixI; rw [ofI_wrap, ofI_add, ofI_wrap, ← ofI_add]
theorem wordI_lo (key i : Int) : 0 ≤ wordI key i := mixI_nonneg _
theorem wordI_hi (key i : Int) : wordI key i ≤ 18446744073709551615 := mixI_le _
/-- The Key of a stream in a stream. -/
def atI (key n : Int) : Int := mixI (bits .xor .u64 (mixI (key + 1)) n)
theorem at_form (key n : Int) : mixI (bits .xor .u64 (mixI (IntKind.u64.wrap (key + 1))) (IntKind.u64.wrap n)) = atI key n := by
  unfold atI
  rw [w_xor, w_xor, ofI_wrap, show mixI (IntKind.u64.wrap (key + 1)) = mixI (key + 1) by unfold mixI; rw [ofI_wrap]]
/-- What Word returns. -/
def wordR (key i : Int) : Int × Int := if 0 ≤ i ∧ i < 1099511627776 then (wordI key i, 0) else (0, 2)
theorem wordR_yes (key i : Int) (h0 : 0 ≤ i) (h1 : i < 1099511627776) : wordR key i = (wordI key i, 0) := by unfold wordR; rw [if_pos ⟨h0, h1⟩]
theorem wordR_no (key i : Int) (h : i < 0 ∨ 1099511627776 ≤ i) : wordR key i = (0, 2) := by unfold wordR; rw [if_neg (by omega)]
/-- Pick, as the walk writes it. -/
theorem pick_low (x n : Int) (hn : 1 ≤ n) (h : x.tmod n < 0) : x.tmod n + n = x % n := by
  have b0 := Int.emod_nonneg x (show n ≠ 0 by omega)
  have b1 := Int.emod_lt_of_pos x (show 0 < n by omega)
  rw [Int.tmod_eq_emod] at *
  split at h
  · omega
  · rename_i hc
    rw [if_neg hc]
    have : (n.natAbs : Int) = n := by omega
    omega
theorem pick_high (x n : Int) (hn : 1 ≤ n) (h : 0 ≤ x.tmod n) : x.tmod n = x % n := by
  have b0 := Int.emod_nonneg x (show n ≠ 0 by omega)
  have b1 := Int.emod_lt_of_pos x (show 0 < n by omega)
  rw [Int.tmod_eq_emod] at *
  split at h
  · rename_i hc; rw [if_pos hc]; omega
  · exfalso
    have : (n.natAbs : Int) = n := by omega
    omega
def newtN (odd : BitVec 64) : Nat → BitVec 64
  | 0 => odd
  | k + 1 => newt odd (newtN odd k)
theorem newtN5 (odd : BitVec 64) : newtN odd 5 = invB odd := rfl
theorem newt_form (b y : BitVec 64) : IntKind.u64.wrap (toI y * IntKind.u64.wrap (2 - IntKind.u64.wrap (toI b * toI y))) = toI (newt b y) := by
  rw [w_wrap, ofI_mul, ofI_wrap, ofI_sub, ofI_wrap, ofI_mul, ofI_toI, ofI_toI]; rfl
/-- The Key of the stream of a name: k, and then each byte. -/
def subK (k : Int) (l : List UInt8) : Int := l.foldl (fun k b => mixI (bits .xor .u64 k b.toNat)) k
theorem subK_snoc (k : Int) (l : List UInt8) (b : UInt8) : subK k (l ++ [b]) = mixI (bits .xor .u64 (subK k l) b.toNat) := by simp [subK]
theorem subK_bd (k : Int) (h0 : 0 ≤ k) (h1 : k ≤ 18446744073709551615) (l : List UInt8) : 0 ≤ subK k l ∧ subK k l ≤ 18446744073709551615 := by
  induction l generalizing k with
  | nil => exact ⟨h0, h1⟩
  | cons b r ih => exact ih _ (mixI_nonneg _) (mixI_le _)
theorem str_ne (s : ByteArray) (h : ¬ s.size = 0) : s.toList.isEmpty = false := by
  rw [ByteArray.toList_eq]
  cases e : s.data.toList with
  | nil => exfalso; apply h; have : s.data.toList.length = s.size := by simp
           rw [e] at this; simpa using this.symm
  | cons _ _ => rfl
theorem byte_wrap (b : UInt8) : IntKind.u64.wrap (b.toNat : Int) = b.toNat := by rw [IntKind.wrap_u64]; have := b.toNat_lt; omega
theorem take_snoc (s : ByteArray) (k : Nat) (h : k < s.size) : s.data.toList.take (k + 1) = s.data.toList.take k ++ [s[k]] := by
  rw [List.take_succ_eq_append_getElem (by simpa using h)]; rfl
def subI (key : Int) (l : List UInt8) : Int := subK (mixI (bits .xor .u64 key l.length)) l
/-- Rest, as the walk writes it. -/
theorem rest_no (x n : Int) (hn : 1 ≤ n) (n1 : n ≤ 9223372036854775807) (h : IntKind.u64.wrap (18446744073709551615 - (IntKind.u64.wrap (-n)).tmod n) < x) : restP x n = (0, false) := by
  have e : IntKind.u64.wrap (-n) = 18446744073709551616 - n := by rw [IntKind.wrap_u64]; omega
  have ob := over_bounds n hn
  rw [e, Int.tmod_eq_emod_of_nonneg (by omega)] at h
  change IntKind.u64.wrap (18446744073709551615 - restOver n) < x at h
  rw [IntKind.wrap_u64] at h
  exact restP_of_no x n hn (by omega)
theorem rest_yes (x n : Int) (hn : 1 ≤ n) (n1 : n ≤ 9223372036854775807) (h : x ≤ IntKind.u64.wrap (18446744073709551615 - (IntKind.u64.wrap (-n)).tmod n)) : restP x n = (x % n, true) := by
  have e : IntKind.u64.wrap (-n) = 18446744073709551616 - n := by rw [IntKind.wrap_u64]; omega
  have ob := over_bounds n hn
  rw [e, Int.tmod_eq_emod_of_nonneg (by omega)] at h
  change x ≤ IntKind.u64.wrap (18446744073709551615 - restOver n) at h
  rw [IntKind.wrap_u64] at h
  exact restP_of_ok x n hn (by omega)
theorem mod_facts (x n : Int) (h0 : 0 ≤ x) (hn : 1 ≤ n) : 0 ≤ x % n ∧ x % n < n ∧ x % n ≤ x :=
  ⟨Int.emod_nonneg _ (by omega), Int.emod_lt_of_pos _ (by omega), by
    have e := Int.mul_ediv_add_emod x n
    have q := Int.mul_nonneg (show 0 ≤ n by omega) (Int.ediv_nonneg h0 (show 0 ≤ n by omega))
    omega⟩
/-- what the walk writes of Mix -/
theorem mix_form (x : Int) (h0 : 0 ≤ x) (h1 : x ≤ 18446744073709551615) :
    IntKind.u64.wrap (bits .xor .u64
      (IntKind.u64.wrap (bits .xor .u64 (IntKind.u64.wrap (bits .xor .u64 x (x / 1073741824) * 13787848793156543929)) (IntKind.u64.wrap (bits .xor .u64 x (x / 1073741824) * 13787848793156543929) / 134217728) * 10723151780598845931))
      (IntKind.u64.wrap (bits .xor .u64 (IntKind.u64.wrap (bits .xor .u64 x (x / 1073741824) * 13787848793156543929)) (IntKind.u64.wrap (bits .xor .u64 x (x / 1073741824) * 13787848793156543929) / 134217728) * 10723151780598845931) / 2147483648)) = mixI x := by
  obtain ⟨b, rfl⟩ := exists_toI x h0 h1
  unfold mixI
  simp only [shr30, shr27, shr31, w_xor, w_wrap, ofI_mul, ofI_toI]
  rfl

/-! ### Slices that read as lists -/
/-- From this place on the cells hold these values. -/
def RowAt (w : World) (g off : Nat) (xs : List Value) : Prop := ∀ j u, xs[j]? = some u → w.cell? ⟨g, off + j, none⟩ = some u
/-- A slice value that reads as a list of one-cell values. -/
def Rd (w : World) (v : Value) (xs : List Value) : Prop :=
  ((v = .slice none 0 0 ∨ ∃ a cap, v = .slice (some a) 0 cap) ∧ xs = []) ∨ ∃ g off cap, v = .slice (some ⟨g, off, none⟩) xs.length cap ∧ xs.length ≤ cap ∧ cap ≤ maxLen ∧ RowAt w g off xs
theorem RowAt.kept {w w' : World} {g off : Nat} {xs : List Value} (h : RowAt w g off xs) (hk : ∀ k, k < w.heap.size → w'.heap[k]? = w.heap[k]?) : RowAt w' g off xs := fun j u hu =>
  (World.cell?_of_block (w := w) (hk g (World.block_lt_of_cell? w ⟨g, off + j, none⟩ (h j u hu)))).trans (h j u hu)
theorem Rd.below {w w' : World} {v : Value} {xs : List Value} (h : Rd w v xs) (hb : Below w.heap.size w w') : Rd w' v xs := by
  rcases h with h | ⟨g, off, cap, e, h1, h2, h3⟩
  · exact Or.inl h
  · exact Or.inr ⟨g, off, cap, e, h1, h2, h3.kept hb.block⟩
theorem Rd.of_owns {w : World} {base : Nat} {e : TypeId} {v : Value} {n : Nat} {xs : List Value} (h : w.ownsRow base e 1 v n xs) : Rd w v xs := by
  have h' := h
  obtain ⟨hl, h2⟩ := h
  rw [Nat.mul_one] at hl
  rcases h2 with ⟨rfl, rfl⟩ | ⟨g, cap, cur, rfl, hb, hg, hn, hc, hs, ht⟩
  · exact Or.inl ⟨Or.inl rfl, List.eq_nil_of_length_eq_zero hl⟩
  · refine Or.inr ⟨g, 0, cap, by rw [hl], by omega, hc, fun j u hu => ?_⟩
    rw [Nat.zero_add, h'.cellAt j (by have := (List.getElem?_eq_some_iff.1 hu).1; omega), hu]
/-- The elements, as integers of one kind. -/
def ints (k : IntKind) (l : List Int) : List Value := l.map (Value.int k)
theorem ints_length (k : IntKind) (l : List Int) : (ints k l).length = l.length := by simp [ints]
theorem ints_get (k : IntKind) (l : List Int) (j : Nat) (h : j < l.length) : (ints k l)[j]? = some (.int k (l.getD j 0)) := by
  simp [ints, List.getElem?_eq_getElem h, List.getD_eq_getElem?_getD]
/-- What the walk is told of a slice of integers. -/
theorem Rd.open_ints {w : World} {v : Value} {k : IntKind} {l : List Int} (h : Rd w v (ints k l)) :
    ∃ a cap, v = .slice a l.length cap ∧ l.length ≤ maxLen ∧ (l = [] ∨ ∃ g off, a = some ⟨g, off, none⟩ ∧ ∀ j, j < l.length → w.cell? ⟨g, off + j, none⟩ = some (.int k (l.getD j 0))) := by
  rcases h with ⟨hv, h⟩ | ⟨g, off, cap, rfl, h1, h2, h3⟩
  · obtain rfl : l = [] := by simpa [ints] using h
    rcases hv with rfl | ⟨a, cap, rfl⟩
    · exact ⟨none, 0, rfl, by simp [maxLen], Or.inl rfl⟩
    · exact ⟨some a, cap, rfl, by simp [maxLen], Or.inl rfl⟩
  · rw [ints_length] at *
    exact ⟨_, cap, rfl, by omega, Or.inr ⟨g, off, rfl, fun j hj => h3 j _ (ints_get k l j hj)⟩⟩
/-- Behind a contract: all cells and marks that were there read as before. -/
theorem bcell {W w1 : World} (hb : Below W.heap.size W w1) : (∀ b o, b < W.heap.size → w1.cell? ⟨b, o, none⟩ = W.cell? ⟨b, o, none⟩) ∧ (∀ b o, b < W.heap.size → w1.frozen? ⟨b, o, none⟩ = W.frozen? ⟨b, o, none⟩) :=
  ⟨fun b o h => hb.cell (p := ⟨b, o, none⟩) h, fun b o h => hb.frozen (p := ⟨b, o, none⟩) h⟩
theorem keep_cell {W w1 : World} (hb : Below W.heap.size W w1) {b o : Nat} {v : Value} (h : W.cell? ⟨b, o, none⟩ = some v) : w1.cell? ⟨b, o, none⟩ = some v :=
  (hb.cell (p := ⟨b, o, none⟩) (World.block_lt_of_cell? W ⟨b, o, none⟩ h)).trans h
theorem keep_frozen {W w1 : World} (hb : Below W.heap.size W w1) {b o : Nat} (hlt : b < W.heap.size) (h : W.frozen? ⟨b, o, none⟩ = false) : w1.frozen? ⟨b, o, none⟩ = false :=
  (hb.frozen (p := ⟨b, o, none⟩) hlt).trans h
theorem undrew {B : Nat} {w w1 : World} (h : Below B w.drew w1) : Below B w w1 := ⟨h.os, h.tape, h.output, h.size, h.block⟩
theorem undrewN {B n : Nat} {w w1 : World} (h : Below B (w.drewN n) w1) : Below B w w1 := ⟨h.os, h.tape, h.output, h.size, h.block⟩
theorem below_drewN {B : Nat} {a w : World} (h : Below B a w) (n : Nat) : Below B a (w.drewN n) := ⟨h.os, h.tape, h.output, h.size, h.block⟩

theorem belowL_yes (wd : Int → Int) (n j : Int) (hj : j < 1099511627776) (h : (restP (wd j) n).2 = true) : belowL wd n (1099511627776 - j).toNat j = ((restP (wd j) n).1, j + 1, 0) := by
  obtain ⟨f, hf⟩ : ∃ f, (1099511627776 - j).toNat = f + 1 := ⟨(1099511627776 - j).toNat - 1, by omega⟩
  rw [hf]; unfold belowL; rw [if_pos h]
theorem belowL_no (wd : Int → Int) (n j : Int) (hj : j < 1099511627776) (h : (restP (wd j) n).2 = false) : belowL wd n (1099511627776 - j).toNat j = belowL wd n (1099511627776 - (j + 1)).toNat (j + 1) := by
  obtain ⟨f, hf⟩ : ∃ f, (1099511627776 - j).toNat = f + 1 := ⟨(1099511627776 - j).toNat - 1, by omega⟩
  rw [hf, show (1099511627776 - (j + 1)).toNat = f by omega]; rw [belowL, if_neg (by rw [h]; simp)]
theorem belowL_end (wd : Int → Int) (n : Int) : belowL wd n (1099511627776 - 1099511627776 : Int).toNat 1099511627776 = (0, 0, 4) := by
  rw [show (1099511627776 - 1099511627776 : Int).toNat = 0 by decide]; rfl
theorem ret_three {k : IntKind} {a b : Int} {c d e f : Value} (h : a = b) (h' : c = d) (h'' : e = f) : Ending.returned (.tuple #[.int k a, c, e]) = .returned (.tuple #[.int k b, d, f]) := by rw [h, h', h'']
end Go.Proofs.YtondomklkapogaaDoor
