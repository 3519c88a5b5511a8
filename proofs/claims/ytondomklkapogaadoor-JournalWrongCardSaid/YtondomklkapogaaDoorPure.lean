/- The plain functions of package seed and what holds of them: mixing can be undone; the rests of words; draws; no program in sight. -/
namespace Go.Proofs.YtondomklkapogaaDoor.SeedP
/-- a shift step -/
def xs (s : Nat) (x : BitVec 64) : BitVec 64 := x ^^^ (x >>> s)
def unxs (s : Nat) (x : BitVec 64) : BitVec 64 := x ^^^ (x >>> s) ^^^ (x >>> (2 * s))
theorem ushr_zero (x : BitVec 64) (n : Nat) (h : 64 ≤ n) : x >>> n = 0#64 := by
  apply BitVec.eq_of_getLsbD_eq; intro i hi
  simp [BitVec.getLsbD_ushiftRight]; apply BitVec.getLsbD_of_ge; omega
theorem xor4 (a b c d : BitVec 64) : a ^^^ b ^^^ (b ^^^ c) ^^^ (c ^^^ d) = a ^^^ d := by
  apply BitVec.eq_of_getLsbD_eq; intro i hi
  simp only [BitVec.getLsbD_xor]
  cases a.getLsbD i <;> cases b.getLsbD i <;> cases c.getLsbD i <;> cases d.getLsbD i <;> rfl
theorem xor4' (a b c d : BitVec 64) : (a ^^^ b ^^^ c) ^^^ (b ^^^ c ^^^ d) = a ^^^ d := by
  apply BitVec.eq_of_getLsbD_eq; intro i hi
  simp only [BitVec.getLsbD_xor]
  cases a.getLsbD i <;> cases b.getLsbD i <;> cases c.getLsbD i <;> cases d.getLsbD i <;> rfl
theorem unxs_xs (s : Nat) (x : BitVec 64) (h : 64 ≤ 3 * s) : unxs s (xs s x) = x := by
  unfold unxs xs
  rw [BitVec.ushiftRight_xor_distrib, BitVec.ushiftRight_xor_distrib, ← BitVec.shiftRight_add, ← BitVec.shiftRight_add, show s + s = 2 * s by omega, xor4, ushr_zero x (s + 2 * s) (by omega)]
  simp
theorem xs_unxs (s : Nat) (x : BitVec 64) (h : 64 ≤ 3 * s) : xs s (unxs s x) = x := by
  unfold unxs xs
  rw [BitVec.ushiftRight_xor_distrib, BitVec.ushiftRight_xor_distrib, ← BitVec.shiftRight_add, ← BitVec.shiftRight_add, show s + s = 2 * s by omega, show 2 * s + s = 3 * s by omega, xor4', ushr_zero x (3 * s) h]
  simp
def c1 : BitVec 64 := 0xbf58476d1ce4e5b9#64
def c2 : BitVec 64 := 0x94d049bb133111eb#64
/-- five doublings of the inverse of an odd word -/
def newt (odd x : BitVec 64) : BitVec 64 := x * (2#64 - odd * x)
def invB (odd : BitVec 64) : BitVec 64 := newt odd (newt odd (newt odd (newt odd (newt odd odd))))
theorem inv1 : c1 * invB c1 = 1#64 := by decide
theorem inv2 : c2 * invB c2 = 1#64 := by decide
theorem inv0 : invB 1#64 = 1#64 := by decide
def mixB (x : BitVec 64) : BitVec 64 := xs 31 (xs 27 (xs 30 x * c1) * c2)
def unmixB (x : BitVec 64) : BitVec 64 := unxs 30 (unxs 27 (unxs 31 x * invB c2) * invB c1)
theorem mul_inv_cancel (x c d : BitVec 64) (h : c * d = 1#64) : x * c * d = x := by
  rw [BitVec.mul_assoc, h, BitVec.mul_one]
theorem unmix_mix (x : BitVec 64) : unmixB (mixB x) = x := by
  unfold unmixB mixB
  rw [unxs_xs 31 _ (by omega), mul_inv_cancel _ _ _ inv2, unxs_xs 27 _ (by omega), mul_inv_cancel _ _ _ inv1, unxs_xs 30 _ (by omega)]
theorem mix_unmix (x : BitVec 64) : mixB (unmixB x) = x := by
  unfold unmixB mixB
  rw [xs_unxs 30 _ (by omega), mul_inv_cancel _ _ _ (by rw [BitVec.mul_comm]; exact inv1), xs_unxs 27 _ (by omega), mul_inv_cancel _ _ _ (by rw [BitVec.mul_comm]; exact inv2), xs_unxs 31 _ (by omega)]
theorem mixB_inj {x y : BitVec 64} (h : mixB x = mixB y) : x = y := by rw [← unmix_mix x, h, unmix_mix]
def uStep (x : BitVec 64) (k : Nat) (y : BitVec 64) (i : Nat) : BitVec 64 :=
  y ||| ((((x >>> i) &&& 1#64) ^^^ (if i + k < 64 then (y >>> (i + k)) &&& 1#64 else 0#64)) <<< i)
/-- the indexes below n are still to be done, from the highest one on -/
def uLoop (x : BitVec 64) (k : Nat) : Nat → BitVec 64 → BitVec 64
  | 0, y => y
  | n + 1, y => uLoop x k n (uStep x k y n)
theorem one_bit (j : Nat) : (1#64).getLsbD j = decide (j = 0) := by
  rw [BitVec.getLsbD_one]; simp
theorem uStep_bit (x y : BitVec 64) (k i j : Nat) (hi : i < 64) (hj : j < 64) :
    (uStep x k y i).getLsbD j = (y.getLsbD j || (decide (j = i) && (x.getLsbD i ^^ y.getLsbD (i + k)))) := by
  unfold uStep
  rw [BitVec.getLsbD_or, BitVec.getLsbD_shiftLeft]
  by_cases h : j = i
  · subst h
    simp only [hj, Nat.lt_irrefl, decide_true, Bool.true_and, decide_false, Bool.not_false, Nat.sub_self, BitVec.getLsbD_xor, BitVec.getLsbD_and, BitVec.getLsbD_ushiftRight, Nat.add_zero, one_bit, Bool.and_true]
    split
    · simp
    · rename_i h; rw [BitVec.getLsbD_of_ge y (j + k) (by omega)]; simp
  · by_cases hlt : j < i
    · simp [h, hlt]
    · have h0 : ¬ (j - i = 0) := by omega
      have : ((x >>> i &&& 1#64) ^^^ (if i + k < 64 then y >>> (i + k) &&& 1#64 else 0#64)).getLsbD (j - i) = false := by
        rw [BitVec.getLsbD_xor, BitVec.getLsbD_and, one_bit]
        split
        · rw [BitVec.getLsbD_and, one_bit]; simp [h0]
        · simp [h0]
      rw [this]; simp [h]
theorem uLoop_bits (x : BitVec 64) (k : Nat) (hk : 0 < k) : ∀ n y, n ≤ 64 → (∀ j, j < n → y.getLsbD j = false) → (∀ j, n ≤ j → j < 64 → y.getLsbD j = (x.getLsbD j ^^ y.getLsbD (j + k))) →
    ∀ j, j < 64 → (uLoop x k n y).getLsbD j = (x.getLsbD j ^^ (uLoop x k n y).getLsbD (j + k)) := by
  intro n
  induction n with
  | zero => intro y _ _ h j hj; exact h j (by omega) hj
  | succ n ih =>
    intro y hn h0 h1
    refine ih _ (by omega) (fun j hj => ?_) (fun j hj hj' => ?_)
    · rw [uStep_bit x y k n j (by omega) (by omega), h0 j (by omega)]; simp; omega
    · rw [uStep_bit x y k n j (by omega) hj']
      by_cases hs : j + k < 64
      · rw [uStep_bit x y k n (j + k) (by omega) hs]
        by_cases hjn : j = n
        · subst hjn; rw [h0 j (by omega)]; simp; intro h; omega
        · have e : ¬ (j + k = n) := by omega
          rw [h1 j (by omega) hj']; simp [hjn, e]
      · rw [BitVec.getLsbD_of_ge _ (j + k) (by omega)]
        by_cases hjn : j = n
        · subst hjn; rw [h0 j (by omega), BitVec.getLsbD_of_ge y (j + k) (by omega)]; simp
        · have := h1 j (by omega) hj'
          rw [BitVec.getLsbD_of_ge y (j + k) (by omega)] at this
          rw [this]; simp [hjn]
theorem xs_uLoop (x : BitVec 64) (k : Nat) (hk : 0 < k) : xs k (uLoop x k 64 0#64) = x := by
  apply BitVec.eq_of_getLsbD_eq; intro j hj
  have h := uLoop_bits x k hk 64 0#64 (by omega) (fun j _ => by simp) (fun j a b => by omega) j hj
  unfold xs
  rw [BitVec.getLsbD_xor, BitVec.getLsbD_ushiftRight, Nat.add_comm k j, h]
  cases x.getLsbD j <;> cases (uLoop x k 64 0#64).getLsbD (j + k) <;> rfl
/-! divide -/
def dStep (x odd y : BitVec 64) (j : Nat) : BitVec 64 := if (x - y * odd) &&& BitVec.twoPow 64 j ≠ 0#64 then y ||| BitVec.twoPow 64 j else y
def dLoop (x odd : BitVec 64) : Nat → Nat → BitVec 64 → BitVec 64
  | 0, _, y => y
  | n + 1, j, y => dLoop x odd n (j + 1) (dStep x odd y j)
theorem shl_sub (a b : BitVec 64) (j : Nat) : a <<< j - b <<< j = (a - b) <<< j := by
  rw [BitVec.shiftLeft_eq_mul_twoPow, BitVec.shiftLeft_eq_mul_twoPow, BitVec.shiftLeft_eq_mul_twoPow]
  rw [BitVec.sub_eq_add_neg, BitVec.sub_eq_add_neg, BitVec.add_mul, BitVec.neg_mul]
theorem even_half (s : BitVec 64) (h : s.getLsbD 0 = false) : s = (s >>> 1) <<< 1 := by
  apply BitVec.eq_of_getLsbD_eq; intro i hi
  rw [BitVec.getLsbD_shiftLeft, BitVec.getLsbD_ushiftRight]
  by_cases h0 : i = 0
  · subst h0; rw [h]; simp
  · simp [hi, show ¬ i < 1 by omega, show 1 + (i - 1) = i by omega]
theorem and_twoPow (r : BitVec 64) (j : Nat) (hj : j < 64) : (r &&& BitVec.twoPow 64 j = 0#64) ↔ r.getLsbD j = false := by
  constructor
  · intro h
    have := congrArg (fun z => z.getLsbD j) h
    simpa [BitVec.getLsbD_and, BitVec.getLsbD_twoPow, hj] using this
  · intro h
    apply BitVec.eq_of_getLsbD_eq; intro i hi
    rw [BitVec.getLsbD_and, BitVec.getLsbD_twoPow]
    by_cases e : j = i
    · subst e; simp [h]
    · simp [e]
theorem lsb_sub (a b : BitVec 64) (ha : a.getLsbD 0 = true) (hb : b.getLsbD 0 = true) : (a - b).getLsbD 0 = false := by
  have ha' : a.toNat % 2 = 1 := by simpa [BitVec.getLsbD, Nat.testBit_zero] using ha
  have hb' : b.toNat % 2 = 1 := by simpa [BitVec.getLsbD, Nat.testBit_zero] using hb
  have : (a - b).toNat % 2 = 0 := by rw [BitVec.toNat_sub]; have := a.isLt; have := b.isLt; omega
  show (a - b).toNat.testBit 0 = false
  rw [Nat.testBit_zero, this]; rfl
theorem dLoop_spec (x odd : BitVec 64) (ho : odd.getLsbD 0 = true) : ∀ (n j : Nat) (y : BitVec 64), n + j = 64 → (∀ i, j ≤ i → y.getLsbD i = false) → (∃ s : BitVec 64, x - y * odd = s <<< j) →
    x - dLoop x odd n j y * odd = 0#64 := by
  intro n
  induction n with
  | zero =>
    intro j y hj _ ⟨s, hs⟩
    obtain rfl : j = 64 := by omega
    show x - y * odd = 0#64
    rw [hs]
    apply BitVec.eq_of_getLsbD_eq; intro i hi
    rw [BitVec.getLsbD_shiftLeft]; simp [hi]
  | succ n ih =>
    intro j y hj h0 ⟨s, hs⟩
    have hj64 : j < 64 := by omega
    have bitj : (x - y * odd).getLsbD j = s.getLsbD 0 := by rw [hs, BitVec.getLsbD_shiftLeft]; simp [hj64]
    refine ih (j + 1) _ (by omega) ?_ ?_
    · intro i hi
      unfold dStep
      split
      · rw [BitVec.getLsbD_or, h0 i (by omega), BitVec.getLsbD_twoPow]; simp; omega
      · exact h0 i (by omega)
    · unfold dStep
      cases hb : s.getLsbD 0 with
      | false =>
        rw [if_neg (fun hh => hh ((and_twoPow _ _ hj64).2 (bitj.trans hb))), hs]
        refine ⟨s >>> 1, ?_⟩
        rw [Nat.add_comm, BitVec.shiftLeft_add, ← even_half s hb]
      | true =>
        rw [if_pos (by rw [ne_eq, and_twoPow _ _ hj64, bitj, hb]; simp)]
        have hy : y ||| BitVec.twoPow 64 j = y + BitVec.twoPow 64 j := by
          rw [BitVec.add_eq_or_of_and_eq_zero]
          rw [and_twoPow _ _ hj64]; exact h0 j (by omega)
        have e : x - (y + BitVec.twoPow 64 j) * odd = (s - odd) <<< j := by
          rw [BitVec.add_mul, ← shl_sub, ← hs, BitVec.shiftLeft_eq_mul_twoPow, BitVec.mul_comm (BitVec.twoPow 64 j) odd]
          rw [BitVec.sub_eq_add_neg, BitVec.sub_eq_add_neg, BitVec.sub_eq_add_neg, BitVec.neg_add, BitVec.sub_eq_add_neg, BitVec.add_assoc]
        rw [hy, e]
        refine ⟨(s - odd) >>> 1, ?_⟩
        rw [Nat.add_comm, BitVec.shiftLeft_add, ← even_half _ (lsb_sub s odd hb ho)]
theorem dLoop_mul (x odd : BitVec 64) (ho : odd.getLsbD 0 = true) : dLoop x odd 64 0 0#64 * odd = x := by
  have h := dLoop_spec x odd ho 64 0 0#64 rfl (fun i _ => by simp) ⟨x, by simp⟩
  generalize dLoop x odd 64 0 0#64 * odd = z at h ⊢
  have e : x - z + z = 0#64 + z := by rw [h]
  rw [BitVec.sub_add_cancel, BitVec.zero_add] at e
  exact e.symm
/-! Rest -/
def restOver (n : Int) : Int := (18446744073709551616 - n) % n
def restOk (w n : Int) : Bool := decide (w ≤ 18446744073709551615 - restOver n)
def restP (w n : Int) : Int × Bool := if n < 1 then (0, false) else if restOk w n then (w % n, true) else (0, false)
theorem over_eq (n : Int) : restOver n = 18446744073709551616 % n := by
  unfold restOver; rw [Int.sub_emod_right]
theorem over_bounds (n : Int) (h : 1 ≤ n) : 0 ≤ restOver n ∧ restOver n < n := by
  rw [over_eq]; exact ⟨Int.emod_nonneg _ (by omega), Int.emod_lt_of_pos _ (by omega)⟩
/-- what lies ahead of the last, incomplete stretch is a multiple of n -/
theorem accepted (n : Int) (_h : 1 ≤ n) : ∃ q, 18446744073709551616 - restOver n = n * q := by
  refine ⟨18446744073709551616 / n, ?_⟩
  have := Int.mul_ediv_add_emod 18446744073709551616 n
  rw [over_eq]; omega
theorem mod_step (w n : Int) (hn : 1 ≤ n) (_h0 : 0 ≤ w) : (w + 1) % n = if w % n = n - 1 then 0 else w % n + 1 := by
  have e := Int.mul_ediv_add_emod w n
  have b0 := Int.emod_nonneg w (show n ≠ 0 by omega)
  have b1 := Int.emod_lt_of_pos w (show 0 < n by omega)
  split
  · rename_i h
    have : w + 1 = n * (w / n + 1) := by rw [Int.mul_add]; omega
    rw [this, Int.mul_emod_right]
  · have : w + 1 = (w % n + 1) + n * (w / n) := by omega
    rw [this, Int.add_mul_emod_self_left, Int.emod_eq_of_lt (by omega) (by omega)]
theorem mult_mod (n q : Int) : (n * q) % n = 0 := Int.mul_emod_right _ _
/-- the last accepted word has the rest n - 1 -/
theorem last_rest (w n : Int) (hn : 1 ≤ n) (_h0 : 0 ≤ w) (h : w + 1 = 18446744073709551616 - restOver n) : w % n = n - 1 := by
  obtain ⟨q, hq⟩ := accepted n hn
  have hw : w = (n - 1) + n * (q - 1) := by rw [Int.mul_sub]; omega
  rw [hw, Int.add_mul_emod_self_left, Int.emod_eq_of_lt (by omega) (by omega)]
theorem restP_lt (w n : Int) (hn : 1 ≤ n) : 0 ≤ (restP w n).1 ∧ (restP w n).1 < n := by
  unfold restP
  rw [if_neg (by omega)]
  split
  · exact ⟨Int.emod_nonneg _ (by omega), Int.emod_lt_of_pos _ (by omega)⟩
  · exact ⟨Int.le_refl _, by show (0 : Int) < n; omega⟩
theorem restP_no (w n : Int) (h : (restP w n).2 = false) : (restP w n).1 = 0 := by
  unfold restP at *
  split
  · rfl
  · rename_i hn; rw [if_neg hn] at h
    split
    · rename_i hk; rw [if_pos hk] at h; cases h
    · rfl
theorem restP_yes (w n : Int) (h : (restP w n).2 = true) : 1 ≤ n ∧ w ≤ 18446744073709551615 - restOver n ∧ (restP w n).1 = w % n := by
  unfold restP at *
  split at h
  · cases h
  · rename_i hn
    split at h
    · rename_i hk; rw [if_neg hn, if_pos hk]; exact ⟨by omega, by simpa [restOk] using hk, rfl⟩
    · cases h
theorem restP_of_ok (w n : Int) (hn : 1 ≤ n) (h : w ≤ 18446744073709551615 - restOver n) : restP w n = (w % n, true) := by
  unfold restP; rw [if_neg (by omega), if_pos (by simpa [restOk] using h)]
theorem restP_of_no (w n : Int) (hn : 1 ≤ n) (h : ¬ w ≤ 18446744073709551615 - restOver n) : restP w n = (0, false) := by
  unfold restP; rw [if_neg (by omega), if_neg (by simpa [restOk] using h)]
/-- the reference's way to say it -/
def restR (w n : Int) : Int × Bool := if n < 1 then (0, false) else if 18446744073709551615 - (w - w % n) < n - 1 then (0, false) else (w % n, true)
theorem restR_eq (w n : Int) (_h0 : 0 ≤ w) : restR w n = restP w n := by
  unfold restR
  by_cases hn : n < 1
  · unfold restP; rw [if_pos hn, if_pos hn]
  · rw [if_neg hn]
    have hn1 : 1 ≤ n := by omega
    have e := Int.mul_ediv_add_emod w n
    have e2 := Int.mul_ediv_add_emod 18446744073709551616 n
    have b0 := Int.emod_nonneg w (show n ≠ 0 by omega)
    have b1 := Int.emod_lt_of_pos w (show 0 < n by omega)
    have c0 := Int.emod_nonneg 18446744073709551616 (show n ≠ 0 by omega)
    have c1 := Int.emod_lt_of_pos 18446744073709551616 (show 0 < n by omega)
    have ho := over_eq n
    generalize hq : w / n = q at *
    generalize hr : w % n = r at *
    generalize hQ : (18446744073709551616 : Int) / n = Q at *
    generalize hR : (18446744073709551616 : Int) % n = R at *
    by_cases hlt : q < Q
    · have h1 : n * (q + 1) ≤ n * Q := Int.mul_le_mul_of_nonneg_left (by omega) (by omega)
      rw [Int.mul_add] at h1
      rw [if_neg (by omega), restP_of_ok w n hn1 (by omega), hr]
    · have h1 : n * Q ≤ n * q := Int.mul_le_mul_of_nonneg_left (by omega) (by omega)
      rw [if_pos (by omega), restP_of_no w n hn1 (by omega)]
/-! Below: f is how many words are left -/
def belowL (wd : Int → Int) (n : Int) : Nat → Int → Int × Int × Int
  | 0, _ => (0, 0, 4)
  | f + 1, i => if (restP (wd i) n).2 then ((restP (wd i) n).1, i + 1, 0) else belowL wd n f (i + 1)
def belowP (wd : Int → Int) (i n : Int) : Int × Int × Int :=
  if i < 0 ∨ 1099511627776 < i ∨ n < 1 then (0, 0, 2) else belowL wd n (1099511627776 - i).toNat i
theorem belowL_cases (wd : Int → Int) (n : Int) : ∀ f i, belowL wd n f i = (0, 0, 4) ∨
    ∃ k : Nat, k < f ∧ (restP (wd (i + k)) n).2 = true ∧ (∀ j : Nat, j < k → (restP (wd (i + j)) n).2 = false) ∧ belowL wd n f i = ((restP (wd (i + k)) n).1, i + k + 1, 0) := by
  intro f
  induction f with
  | zero => intro i; exact Or.inl rfl
  | succ f ih =>
    intro i
    unfold belowL
    cases h : (restP (wd i) n).2 with
    | true => exact Or.inr ⟨0, by omega, by simpa using h, fun j hj => by omega, by simp⟩
    | false =>
      rcases ih (i + 1) with h1 | ⟨k, hk, hy, hno, he⟩
      · left; simpa using h1
      · right
        refine ⟨k + 1, by omega, ?_, ?_, ?_⟩
        · rw [show i + ((k + 1 : Nat) : Int) = i + 1 + k by omega]; exact hy
        · intro j hj
          cases j with
          | zero => simpa using h
          | succ j => rw [show i + ((j + 1 : Nat) : Int) = i + 1 + j by omega]; exact hno j (by omega)
        · rw [show i + ((k + 1 : Nat) : Int) = i + 1 + k by omega]
          simpa using he
theorem belowL_none (wd : Int → Int) (n : Int) : ∀ f i, belowL wd n f i = (0, 0, 4) → ∀ j : Nat, j < f → (restP (wd (i + j)) n).2 = false := by
  intro f
  induction f with
  | zero => intro i _ j hj; omega
  | succ f ih =>
    intro i h j hj
    unfold belowL at h
    cases hr : (restP (wd i) n).2 with
    | true => rw [hr] at h; simp at h
    | false =>
      rw [hr] at h
      cases j with
      | zero => simpa using hr
      | succ j => rw [show i + ((j + 1 : Nat) : Int) = i + 1 + j by omega]; exact ih (i + 1) (by simpa using h) j (by omega)
/-- n different numbers below m: n is at most m -/
theorem pigeon : ∀ (m n : Nat) (f : Nat → Nat), (∀ i, i < n → f i < m) → (∀ i j, i < n → j < n → f i = f j → i = j) → n ≤ m := by
  intro m
  induction m with
  | zero => intro n f h _; cases n with | zero => omega | succ n => have := h 0 (by omega); omega
  | succ m ih =>
    intro n f h hinj
    cases n with
    | zero => omega
    | succ n =>
      -- the number that the last one has changes places with the greatest
      have := ih n (fun i => if f i = m then f n else f i) (fun i hi => by
        have h1 := h i (by omega); have h2 := h n (by omega)
        show (if f i = m then f n else f i) < m
        split
        · rename_i e
          have : f n ≠ m := fun e2 => by have := hinj i n (by omega) (by omega) (by omega); omega
          omega
        · omega) (fun i j hi hj e => by
        by_cases a : f i = m <;> by_cases b : f j = m <;> simp only [a, b, if_true, if_false] at e
        · exact hinj i j (by omega) (by omega) (by omega)
        · have := hinj n j (by omega) (by omega) e; omega
        · have := hinj i n (by omega) (by omega) e; omega
        · exact hinj i j (by omega) (by omega) e)
      omega
/-- of n different words one is accepted -/
theorem some_accepted (wd : Int → Int) (hw : ∀ i, 0 ≤ wd i ∧ wd i < 18446744073709551616) (n i : Int) (hn : 1 ≤ n) (k : Nat) (hk : n ≤ k) (hinj : ∀ a b : Nat, a < k → b < k → wd (i + a) = wd (i + b) → a = b)
    (hno : ∀ j : Nat, j < k → (restP (wd (i + j)) n).2 = false) : False := by
  have ob := over_bounds n hn
  have hlow : ∀ j : Nat, j < k → 18446744073709551616 - restOver n ≤ wd (i + j) := fun j hj => by
    have h := hno j hj
    by_cases hle : wd (i + j) ≤ 18446744073709551615 - restOver n
    · rw [restP_of_ok _ _ hn hle] at h; cases h
    · omega
  have := pigeon (restOver n).toNat k (fun j => (wd (i + j) - (18446744073709551616 - restOver n)).toNat) (fun j hj => by
    have h1 := hlow j hj; have h2 := hw (i + j); omega) (fun a b ha hb e => by
    have h1 := hlow a ha; have h2 := hlow b hb
    exact hinj a b ha hb (by omega))
  omega
theorem belowP_bad (wd : Int → Int) (i n : Int) (h : i < 0 ∨ 1099511627776 < i ∨ n < 1) : belowP wd i n = (0, 0, 2) := by unfold belowP; rw [if_pos h]
theorem belowL_err (wd : Int → Int) (n : Int) (f : Nat) (i : Int) : (belowL wd n f i).2.2 = 0 ∨ belowL wd n f i = (0, 0, 4) := by
  rcases belowL_cases wd n f i with h | ⟨k, _, _, _, h⟩
  · exact Or.inr h
  · rw [h]; exact Or.inl rfl
theorem belowP_err (wd : Int → Int) (i n : Int) : (belowP wd i n).2.2 = 0 ∨ ((belowP wd i n).2.2 ≠ 0 ∧ (belowP wd i n).1 = 0 ∧ (belowP wd i n).2.1 = 0 ∧ ((belowP wd i n).2.2 = 2 ∨ (belowP wd i n).2.2 = 4)) := by
  unfold belowP
  split
  · exact Or.inr ⟨by simp, rfl, rfl, Or.inl rfl⟩
  · rcases belowL_err wd n (1099511627776 - i).toNat i with h | h
    · exact Or.inl h
    · rw [h]; exact Or.inr ⟨by simp, rfl, rfl, Or.inr rfl⟩
/-- the result of a draw, in one word -/
theorem belowP_cases (wd : Int → Int) (i n : Int) (h0 : 0 ≤ i) (h1 : i ≤ 1099511627776) (hn : 1 ≤ n) : belowP wd i n = (0, 0, 4) ∨
    ∃ k : Nat, i + k < 1099511627776 ∧ (restP (wd (i + k)) n).2 = true ∧ (∀ j : Nat, j < k → (restP (wd (i + j)) n).2 = false) ∧ belowP wd i n = ((restP (wd (i + k)) n).1, i + k + 1, 0) := by
  unfold belowP
  rw [if_neg (by omega)]
  rcases belowL_cases wd n (1099511627776 - i).toNat i with h | ⟨k, hk, a, b, c⟩
  · exact Or.inl h
  · exact Or.inr ⟨k, by omega, a, b, c⟩
theorem belowP_full (wd : Int → Int) (hw : ∀ i, 0 ≤ wd i ∧ wd i < 18446744073709551616) (hinj : ∀ a b : Int, 0 ≤ a → a < 1099511627776 → 0 ≤ b → b < 1099511627776 → wd a = wd b → a = b) (i n : Int) (h0 : 0 ≤ i) (h1 : i ≤ 1099511627776) (hn : 1 ≤ n)
    (h : belowP wd i n = (0, 0, 4)) : 1099511627776 < i + n := by
  unfold belowP at h
  rw [if_neg (by omega)] at h
  by_cases hc : 1099511627776 < i + n
  · exact hc
  · exfalso
    have hno := belowL_none wd n _ _ h
    refine some_accepted wd hw n i hn (1099511627776 - i).toNat (by omega) (fun a b ha hb e => ?_) hno
    have := hinj (i + a) (i + b) (by omega) (by omega) (by omega) (by omega) e
    omega
/-- a draw that has room for n words ends in time -/
theorem belowP_ok (wd : Int → Int) (hw : ∀ i, 0 ≤ wd i ∧ wd i < 18446744073709551616) (hinj : ∀ a b : Int, 0 ≤ a → a < 1099511627776 → 0 ≤ b → b < 1099511627776 → wd a = wd b → a = b) (i n : Int) (h0 : 0 ≤ i) (hn : 1 ≤ n) (h : i + n ≤ 1099511627776) :
    ∃ v nx, belowP wd i n = (v, nx, 0) ∧ 0 ≤ v ∧ v < n ∧ i < nx ∧ nx ≤ i + n := by
  rcases belowP_cases wd i n h0 (by omega) hn with hf | ⟨k, hk, hy, hno, he⟩
  · have := belowP_full wd hw hinj i n h0 (by omega) hn hf; omega
  · refine ⟨_, _, he, (restP_lt _ n hn).1, (restP_lt _ n hn).2, by omega, ?_⟩
    by_cases hc : (k : Int) < n
    · omega
    · exfalso
      refine some_accepted wd hw n i hn k (by omega) (fun a b ha hb e => ?_) hno
      have := hinj (i + a) (i + b) (by omega) (by omega) (by omega) (by omega) e
      omega
def swapI (l : List Int) (p q : Nat) : List Int := (l.set p (l.getD q 0)).set q (l.getD p 0)
def iota (n : Nat) : List Int := (List.range n).map fun (k : Nat) => (k : Int)
/-- the places p, p - 1, .. 1 -/
def permL (wd : Int → Int) : Nat → List Int → Int → List Int × Int × Int
  | 0, l, i => (l, i, 0)
  | p + 1, l, i => if (belowP wd i (p + 2)).2.2 = 0 then permL wd p (swapI l (p + 1) (belowP wd i (p + 2)).1.toNat) (belowP wd i (p + 2)).2.1 else ([], 0, (belowP wd i (p + 2)).2.2)
def permP (wd : Int → Int) (i n : Int) : List Int × Int × Int :=
  if i < 0 ∨ 1099511627776 < i ∨ n < 0 ∨ 1000 < n then ([], 0, 2) else permL wd (n - 1).toNat (iota n.toNat) i
def chooseL (wd : Int → Int) : Nat → Nat → List Bool → Int → List Bool × Int × Int
  | 0, _, c, i => (c, i, 0)
  | f + 1, m, c, i => if (belowP wd i (m + 1)).2.2 = 0 then chooseL wd f (m + 1) (c.set (if c.getD (belowP wd i (m + 1)).1.toNat false then m else (belowP wd i (m + 1)).1.toNat) true) (belowP wd i (m + 1)).2.1 else ([], 0, (belowP wd i (m + 1)).2.2)
/-- the places that are true, from the place b on -/
def trues : Nat → List Bool → List Int
  | _, [] => []
  | b, x :: r => if x then (b : Int) :: trues (b + 1) r else trues (b + 1) r
def chooseP (wd : Int → Int) (i n k : Int) : List Int × Int × Int :=
  if i < 0 ∨ 1099511627776 < i ∨ n < 0 ∨ 1000 < n ∨ k < 0 ∨ n < k then ([], 0, 2)
  else (trues 0 (chooseL wd k.toNat (n - k).toNat (List.replicate n.toNat false) i).1, (chooseL wd k.toNat (n - k).toNat (List.replicate n.toNat false) i).2)
def upAt (t : Int) : Int → List Int → Nat
  | _, [] => 0
  | acc, x :: r => if t < acc + x then 0 else upAt t (acc + x) r + 1
def weighP (wd : Int → Int) (i : Int) (l : List Int) : Int × Int × Int :=
  if i < 0 ∨ 1099511627776 < i ∨ l.length < 1 ∨ 1000 < l.length ∨ (∃ x ∈ l, x < 0 ∨ 1099511627776 < x) ∨ l.sum = 0 then (0, 0, 2)
  else if (belowP wd i l.sum).2.2 = 0 then ((upAt (belowP wd i l.sum).1 0 l : Int), (belowP wd i l.sum).2.1, 0) else (0, 0, (belowP wd i l.sum).2.2)
end Go.Proofs.YtondomklkapogaaDoor.SeedP
