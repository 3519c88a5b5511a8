/- Plain laws: sums tell one changed byte. -/
import Derived.Test.YtondomklkapogaaDoorJMay
import Derived.Test.YtondomklkapogaaDoorJAwakeP
namespace Go.Proofs.YtondomklkapogaaDoor
section
open Go.RowKit SeedP Go.Maps
theorem xor_cancel_l (k a b : Int) (h : bits .xor .u64 k a = bits .xor .u64 k b) : a % 18446744073709551616 = b % 18446744073709551616 := by
  rw [w_xor, w_xor] at h
  have := toI_inj h
  exact ofI_inj (BitVec.xor_right_inj (ofI k) |>.1 this)
theorem xor_cancel_r (k a b : Int) (h : bits .xor .u64 a k = bits .xor .u64 b k) : a % 18446744073709551616 = b % 18446744073709551616 := by
  rw [w_xor, w_xor] at h
  have := toI_inj h
  exact ofI_inj (BitVec.xor_left_inj (ofI k) |>.1 this)
theorem xor_lo' (x y : Int) : bits .xor .u64 x y % 18446744073709551616 = bits .xor .u64 x y := by
  have := xor_lo x y; have := xor_hi x y; omega
theorem mixI_xor_inj {a b : Int} {c d : Int} (h : mixI (bits .xor .u64 a c) = mixI (bits .xor .u64 b d)) : bits .xor .u64 a c = bits .xor .u64 b d := by
  have := mixI_inj h; rwa [xor_lo', xor_lo'] at this
theorem subK_inj (l : List UInt8) : ∀ a b : Int, 0 ≤ a → a ≤ 18446744073709551615 → 0 ≤ b → b ≤ 18446744073709551615 → subK a l = subK b l → a = b := by
  induction l with
  | nil => intro a b _ _ _ _ h; exact h
  | cons c r ih =>
    intro a b a0 a1 b0 b1 h
    have h1 := ih _ _ (mixI_nonneg _) (mixI_le _) (mixI_nonneg _) (mixI_le _) (show subK (mixI (bits .xor .u64 a c.toNat)) r = subK (mixI (bits .xor .u64 b c.toNat)) r from h)
    have := xor_cancel_r _ _ _ (mixI_xor_inj h1); omega
theorem subK_append (k : Int) (a b : List UInt8) : subK k (a ++ b) = subK (subK k a) b := by simp [subK]
theorem sub_same_l (key : Int) (a r : List UInt8) (c d : UInt8) : (subI key (a ++ c :: r) = subI key (a ++ d :: r)) ↔ c = d := by
  constructor
  · intro h
    unfold subI at h
    rw [show (a ++ d :: r).length = (a ++ c :: r).length by simp, subK_append, subK_append] at h
    generalize subK (mixI (bits .xor .u64 key ((a ++ c :: r).length : Nat))) a = k at h
    have h1 := subK_inj r _ _ (mixI_nonneg _) (mixI_le _) (mixI_nonneg _) (mixI_le _) (show subK (mixI (bits .xor .u64 k c.toNat)) r = subK (mixI (bits .xor .u64 k d.toNat)) r from h)
    have h2 := xor_cancel_l _ _ _ (mixI_xor_inj h1)
    have := c.toNat_lt; have := d.toNat_lt
    exact UInt8.toNat_inj.1 (by omega)
  · rintro rfl; rfl
theorem sub_set (key : Int) (l : List UInt8) (t : Nat) (ht : t < l.length) (d : UInt8) : (subI key l = subI key (l.set t d)) ↔ l[t] = d := by
  have e1 : l = l.take t ++ l[t] :: l.drop (t + 1) := by rw [List.getElem_cons_drop, List.take_append_drop]
  have e2 : l.set t d = l.take t ++ d :: l.drop (t + 1) := List.set_eq_take_append_cons_drop .. |>.trans (by rw [if_pos ht])
  rw [e2]
  have h := sub_same_l key (l.take t) (l.drop (t + 1)) l[t] d
  rwa [← e1] at h
theorem x8 (a b : UInt8) : bits .xor .u8 a.toNat b.toNat = ((a ^^^ b).toNat : Int) := by
  show IntKind.u8.wrap (((BitVec.ofInt 8 a.toNat ^^^ BitVec.ofInt 8 b.toNat).toNat : Nat) : Int) = _
  rw [IntKind.wrap_u8]
  have e : ∀ c : UInt8, BitVec.ofInt 8 (c.toNat : Int) = c.toBitVec := fun c => by
    apply BitVec.eq_of_toNat_eq; simp
  rw [e, e]
  have := (a ^^^ b).toNat_lt
  show (((a.toBitVec ^^^ b.toBitVec).toNat : Nat) : Int) % 256 = _
  rw [← UInt8.toBitVec_xor]
  show (((a ^^^ b).toNat : Nat) : Int) % 256 = _
  omega
end
section
open Go.RowKit SeedP Go.Maps
/-- a file all of whose blocks are good, that ends where the last one does; whatever it said at any block's end is among S -/
structure HI (S : List PEnts) (file : List UInt8) (c : Cont) : Prop where
  chain : Chain file c
  fin : file.length = c.ed
  first : ∃ code s gen P wt, nextB file 0 = some (code, s) ∧ rState code = some (gen, P, wt)
  all : ∀ c', Chain file c' → c'.ents ∈ S ∧ (c' = c ∨ ∃ code s cs, nextB (file.drop c'.ed) c'.sum = some (code, s) ∧ rComm code = some cs ∧ pPoss c'.ents c'.wt cs = true)
theorem HI.mono {S S' : List PEnts} {file : List UInt8} {c : Cont} (h : HI S file c) (hS : ∀ P ∈ S, P ∈ S') : HI S' file c :=
  ⟨h.chain, h.fin, h.first, fun c' hc => ⟨hS _ (h.all c' hc).1, (h.all c' hc).2⟩⟩
theorem nextB_app {l : List UInt8} {x : Int} {code : List UInt8} {s : Int} (h : nextB l x = some (code, s)) (r : List UInt8) : nextB (l ++ r) x = some (code, s) := by
  have h1 := nextB_local h (l.drop (12 + code.length) ++ r)
  rwa [← List.append_assoc, List.take_append_drop] at h1
theorem HI.state {S : List PEnts} {P : PEnts} {gen : Nat} (ho : Ordered P) (hs : SmallEnts P) (hw : pWt P ≤ 131072) (hg1 : 1 ≤ gen) (hg2 : gen ≤ 4611686018427387904) (hP : P ∈ S) :
    HI S (blockB (subI 0 (stateB gen P)) (stateB gen P)) ⟨gen, P, pWt P, subI 0 (stateB gen P), 12 + (stateB gen P).length⟩ := by
  have hl := stateB_len gen P
  have hn := nextB_block 0 (stateB gen P) [] (by omega)
  rw [List.append_nil] at hn
  have hr := rState_code ho hs hw hg1 hg2
  have hc : ∀ c', Chain (blockB (subI 0 (stateB gen P)) (stateB gen P)) c' → c' = ⟨gen, P, pWt P, subI 0 (stateB gen P), 12 + (stateB gen P).length⟩ := by
    intro c' h
    induction h with
    | start hn' hr' =>
      rw [hn] at hn'
      simp only [Option.some.injEq, Prod.mk.injEq] at hn'
      obtain ⟨rfl, rfl⟩ := hn'
      rw [hr] at hr'
      simp only [Option.some.injEq, Prod.mk.injEq] at hr'
      obtain ⟨rfl, rfl, rfl⟩ := hr'
      rfl
    | next _ hn' _ _ ih =>
      subst ih
      rw [List.drop_eq_nil_of_le (by show (blockB _ _).length ≤ 12 + _; rw [blockB_len]; omega), nextB_nil] at hn'
      cases hn'
  exact ⟨Chain.start hn hr, blockB_len _ _, ⟨_, _, _, _, _, hn, hr⟩, fun c' h => by have e := hc c' h; subst e; exact ⟨hP, Or.inl rfl⟩⟩
theorem HI.commit {S S' : List PEnts} {file : List UInt8} {c : Cont} (h : HI S file c) (hS : ∀ P ∈ S, P ∈ S') {cs : List Chg} (hv : Valid cs) (h1 : 1 ≤ cs.length) (h2 : cs.length ≤ 64) (hp : pPoss c.ents c.wt cs = true) (hP : pChgs c.ents cs ∈ S') :
    HI S' (file ++ blockB (subI c.sum (codeOf cs)) (codeOf cs)) ⟨c.gen, pChgs c.ents cs, pWAfter c.ents c.wt cs, subI c.sum (codeOf cs), c.ed + 12 + (codeOf cs).length⟩ := by
  have hlen := codeOf_len cs
  have hsz := hv.size
  have hfin := h.fin
  have hcomm := rComm_code hv h1 h2
  have hblk := nextB_block c.sum (codeOf cs) [] (by omega)
  rw [List.append_nil] at hblk
  have hnew := block_chain h.chain h.fin hv h1 h2 hp []
  rw [List.append_nil] at hnew
  generalize hb : blockB (subI c.sum (codeOf cs)) (codeOf cs) = blk at *
  have hbl : blk.length = 12 + (codeOf cs).length := by rw [← hb, blockB_len]
  have hend : (file ++ blk).length = c.ed + 12 + (codeOf cs).length := by rw [List.length_append]; omega
  have hd : (file ++ blk).drop c.ed = blk := List.drop_left' hfin
  obtain ⟨code0, s0, gen0, P0, wt0, hn0, hr0⟩ := h.first
  have hn02 := nextB_app hn0 blk
  have hc : ∀ c', Chain (file ++ blk) c' → Chain file c' ∨ c' = ⟨c.gen, pChgs c.ents cs, pWAfter c.ents c.wt cs, subI c.sum (codeOf cs), c.ed + 12 + (codeOf cs).length⟩ := by
    intro c' hc'
    induction hc' with
    | start hn' hr' =>
      rw [hn02] at hn'
      simp only [Option.some.injEq, Prod.mk.injEq] at hn'
      obtain ⟨rfl, rfl⟩ := hn'
      exact Or.inl (Chain.start hn0 hr')
    | @next c1 code s cs1 hc1 hn' hr' hp' ih =>
      rcases ih with ih | ih
      · rcases (h.all c1 ih).2 with e | ⟨code1, s1, cs2, hn1, hr1, hp1⟩
        · subst e
          rw [hd, hblk] at hn'
          simp only [Option.some.injEq, Prod.mk.injEq] at hn'
          obtain ⟨rfl, rfl⟩ := hn'
          rw [hcomm] at hr'
          obtain rfl : cs = cs1 := by injection hr'
          exact Or.inr rfl
        · have hle : c1.ed ≤ file.length := ih.good.ed.2
          have hn2 := nextB_app hn1 blk
          rw [List.drop_append_of_le_length hle, hn2] at hn'
          simp only [Option.some.injEq, Prod.mk.injEq] at hn'
          obtain ⟨rfl, rfl⟩ := hn'
          exact Or.inl (Chain.next ih hn1 hr' hp')
      · subst ih
        rw [List.drop_eq_nil_of_le (by show _ ≤ c.ed + 12 + _; omega), nextB_nil] at hn'
        cases hn'
  refine ⟨hnew, hend, ⟨_, _, _, _, _, hn02, hr0⟩, fun c' hc' => ?_⟩
  rcases hc c' hc' with h3 | h3
  · refine ⟨hS _ (h.all c' h3).1, Or.inr ?_⟩
    rcases (h.all c' h3).2 with e | ⟨code1, s1, cs2, hn1, hr1, hp1⟩
    · subst e
      exact ⟨_, _, cs, by rw [hd]; exact hblk, hcomm, hp⟩
    · have hle : c'.ed ≤ file.length := h3.good.ed.2
      exact ⟨_, _, cs2, by rw [List.drop_append_of_le_length hle]; exact nextB_app hn1 blk, hr1, hp1⟩
  · subst h3
    exact ⟨hP, Or.inl rfl⟩
/-- where the blocks begin -/
def posB (file : List UInt8) : Nat → Nat
  | 0 => 0
  | i + 1 => posB file i + 12 + bLen (file.drop (posB file i))
theorem posB_mono (file : List UInt8) {i j : Nat} (h : i ≤ j) : posB file i ≤ posB file j := by
  induction j with
  | zero => obtain rfl : i = 0 := by omega
            exact Nat.le_refl _
  | succ j ih =>
    rcases Nat.lt_or_ge j i with h1 | h1
    · obtain rfl : i = j + 1 := by omega
      exact Nat.le_refl _
    · have := ih h1
      rw [posB]; omega
theorem chain_pos {file : List UInt8} {c : Cont} (h : Chain file c) : ∃ i, c.ed = posB file (i + 1) := by
  induction h with
  | start hn hr =>
    refine ⟨0, ?_⟩
    have := (nextB_some hn).2.1
    rw [posB, posB, List.drop_zero]
    show 12 + _ = _; omega
  | @next c code s cs hc hn hr hp ih =>
    obtain ⟨i, hi⟩ := ih
    refine ⟨i + 1, ?_⟩
    have := (nextB_some hn).2.1
    rw [posB, ← hi]
    show c.ed + 12 + _ = _; omega
theorem numV_inj : ∀ {a b : List UInt8}, a.length = b.length → numV a = numV b → a = b
  | [], [], _, _ => rfl
  | [], _ :: _, h, _ => by cases h
  | _ :: _, [], h, _ => by cases h
  | x :: r, y :: t, h, e => by
    have hl : r.length = t.length := by simpa using h
    rw [numV_cons, numV_cons, hl] at e
    have h1 := numV_lt r
    have h2 := numV_lt t
    rw [hl] at h1
    have h3 : x.toNat = y.toNat := by
      rcases Nat.lt_trichotomy x.toNat y.toNat with g | g | g
      · have := Nat.mul_le_mul_right (256 ^ t.length) (show x.toNat + 1 ≤ y.toNat from g)
        rw [Nat.add_mul] at this; omega
      · exact g
      · have := Nat.mul_le_mul_right (256 ^ t.length) (show y.toNat + 1 ≤ x.toNat from g)
        rw [Nat.add_mul] at this; omega
    rw [h3] at e
    rw [UInt8.toNat_inj.1 h3, numV_inj hl (by omega)]
/-- a byte of a sum or a code is changed: the block is bad -/
theorem nextB_flip {l : List UInt8} {x : Int} {code : List UInt8} {s : Int} (h : nextB l x = some (code, s)) {k : Nat} (hk4 : 4 ≤ k) (hk : k < 12 + code.length) {b : UInt8} (hl : k < l.length) (hb : l[k] ≠ b) : nextB (l.set k b) x = none := by
  obtain ⟨h1, h2, h3, h4, h5⟩ := nextB_some h
  have e1 : bLen (l.set k b) = bLen l := by unfold bLen; rw [List.take_set_of_le (by omega)]
  rw [nextB_eq, if_neg]
  rintro ⟨_, _, h6⟩
  by_cases hk12 : k < 12
  · have e2 : bCode (l.set k b) = bCode l := by unfold bCode; rw [e1, List.drop_set_of_lt (by omega)]
    rw [e2, ← h3, h5, h4] at h6
    have h7 : bSum l = bSum (l.set k b) := by omega
    unfold bSum at h7
    have h8 := numV_inj (by simp) h7
    have h9 := congrArg (fun t => t[k - 4]?) h8
    simp only [List.getElem?_take, List.getElem?_drop] at h9
    rw [if_pos (by omega), if_pos (by omega), show 4 + (k - 4) = k by omega, List.getElem?_eq_getElem hl, List.getElem?_set_self hl] at h9
    exact hb (by injection h9)
  · have e3 : bSum (l.set k b) = bSum l := by unfold bSum; rw [List.drop_set]; rw [if_neg (by omega), List.take_set_of_le (by omega)]
    have e2 : bCode (l.set k b) = (bCode l).set (k - 12) b := by unfold bCode; rw [e1, List.drop_set, if_neg (by omega), List.take_set]
    have hlt : k - 12 < (bCode l).length := by rw [← h3]; omega
    rw [e2, e3, ← h4, ← h5, h3] at h6
    have h7 := (sub_set x (bCode l) (k - 12) hlt b).1 h6.symm
    have h9 : (bCode l)[k - 12]? = some b := by rw [List.getElem?_eq_getElem hlt, h7]
    unfold bCode at h9
    rw [List.getElem?_take, if_pos (by omega), List.getElem?_drop, show 12 + (k - 12) = k by omega, List.getElem?_eq_getElem hl] at h9
    exact hb (by injection h9)
/-- a byte behind it is changed: the block is as it was -/
theorem nextB_far {l : List UInt8} {x : Int} {code : List UInt8} {s : Int} (h : nextB l x = some (code, s)) {k : Nat} (hk : 12 + code.length ≤ k) (b : UInt8) : nextB (l.set k b) x = some (code, s) := by
  have h1 := nextB_local h ((l.set k b).drop (12 + code.length))
  have h2 : (l.set k b).take (12 + code.length) = l.take (12 + code.length) := List.take_set_of_le hk
  rwa [← h2, List.take_append_drop] at h1
/-- what a file with one byte changed tells is what it told at some block's end -/
theorem flip_chain {S : List PEnts} {file : List UInt8} {c : Cont} (h : HI S file c) {k : Nat} (hk : k < file.length) {b : UInt8} (hb : file[k] ≠ b) (hp : ∀ i, posB file i < file.length → ¬ (posB file i ≤ k ∧ k < posB file i + 4)) :
    ∀ c', Chain (file.set k b) c' → Chain file c' ∧ c'.ed ≤ k := by
  intro c' hc'
  obtain ⟨code0, s0, gen0, P0, wt0, hn0, hr0⟩ := h.first
  have h4 : 4 ≤ k := by
    have := hp 0 (by rw [posB]; omega)
    rw [posB] at this; omega
  induction hc' with
  | start hn hr =>
    by_cases hlt : k < 12 + code0.length
    · rw [nextB_flip hn0 h4 hlt hk hb] at hn; cases hn
    · rw [nextB_far hn0 (by omega)] at hn
      simp only [Option.some.injEq, Prod.mk.injEq] at hn
      obtain ⟨rfl, rfl⟩ := hn
      exact ⟨Chain.start hn0 hr, by show 12 + _ ≤ _; omega⟩
  | @next c1 code s cs1 hc1 hn hr hp1 ih =>
    obtain ⟨ih1, ih2⟩ := ih
    rcases (h.all c1 ih1).2 with e | ⟨code1, s1, cs2, hn1, hr1, hp2⟩
    · subst e
      have := h.fin; omega
    · obtain ⟨i, hi⟩ := chain_pos ih1
      have hpi := hp (i + 1) (by omega)
      rw [← hi] at hpi
      have hkl : k - c1.ed < (file.drop c1.ed).length := by rw [List.length_drop]; omega
      have hbe : (file.drop c1.ed)[k - c1.ed] ≠ b := by
        rw [List.getElem_drop]
        intro e; apply hb; rw [← e]; congr 1; omega
      have hds : (file.set k b).drop c1.ed = (file.drop c1.ed).set (k - c1.ed) b := by rw [List.drop_set, if_neg (by omega)]
      rw [hds] at hn
      by_cases hlt : k - c1.ed < 12 + code1.length
      · rw [nextB_flip hn1 (by omega) hlt hkl hbe] at hn; cases hn
      · rw [nextB_far hn1 (by omega)] at hn
        simp only [Option.some.injEq, Prod.mk.injEq] at hn
        obtain ⟨rfl, rfl⟩ := hn
        exact ⟨Chain.next ih1 hn1 hr hp1, by show c1.ed + 12 + _ ≤ _; omega⟩
/-- empty, or good to its end -/
def FileH (S : List PEnts) (file : List UInt8) : Prop := file = [] ∨ ∃ c, HI S file c
theorem FileH.mono {S S' : List PEnts} {file : List UInt8} (h : FileH S file) (hS : ∀ P ∈ S, P ∈ S') : FileH S' file := by
  rcases h with h | ⟨c, h⟩
  · exact Or.inl h
  · exact Or.inr ⟨c, h.mono hS⟩
theorem FileH.read {S : List PEnts} {file : List UInt8} (h : FileH S file) {c : Cont} (hc : readF file = some c) : c.ents ∈ S := by
  rcases h with rfl | ⟨c0, h⟩
  · rw [readF_nil] at hc; cases hc
  · exact (h.all c (readF_chain hc).1).1
theorem FileH.flip {S : List PEnts} {file : List UInt8} (h : FileH S file) {k : Nat} (hk : k < file.length) {b : UInt8} (hp : ∀ i, posB file i < file.length → ¬ (posB file i ≤ k ∧ k < posB file i + 4)) {c : Cont} (hc : readF (file.set k b) = some c) : c.ents ∈ S := by
  by_cases hb : file[k] = b
  · rw [← hb, List.set_getElem_self] at hc
    exact h.read hc
  · rcases h with rfl | ⟨c0, h⟩
    · cases hk
    · exact (h.all c (flip_chain h hk hb hp c (readF_chain hc).1).1).1
theorem openP_mem {S : List PEnts} {d : DS} (h0 : ∀ c, readF d.f0 = some c → c.ents ∈ S) (h1 : ∀ c, readF d.f1 = some c → c.ents ∈ S) (hz : ([] : PEnts) ∈ S) : (openP d).2.ents ∈ S := by
  have step : ∀ (o : Option Cont) (f : Bool) (s : Bool × Cont), (∀ c, o = some c → c.ents ∈ S) → s.2.ents ∈ S → (pickC o f s).2.ents ∈ S := by
    intro o f s ho hs
    unfold pickC
    cases o with
    | none => exact hs
    | some c =>
      simp only []
      split
      · exact ho c rfl
      · exact hs
  exact step _ _ _ h1 (step _ _ _ h0 hz)
/-- the journal that a law makes on an empty disk with power -/
structure Hist (S : List PEnts) (s : JS) : Prop where
  live : Live s
  pw : s.d.pw = -1
  nil : ([] : PEnts) ∈ S
  cur : 1 ≤ s.c.gen → HI S (s.d.get s.file) s.c
  other : FileH S (s.d.get (!s.file))
  zero : s.c.gen = 0 → s.d.f0 = [] ∧ s.d.f1 = []
  mem : s.c.ents ∈ S
theorem Hist.mono {S S' : List PEnts} {s : JS} (h : Hist S s) (hS : ∀ P ∈ S, P ∈ S') : Hist S' s :=
  ⟨h.live, h.pw, hS _ h.nil, fun hg => (h.cur hg).mono hS, h.other.mono hS, h.zero, hS _ h.mem⟩
theorem Hist.files {S : List PEnts} {s : JS} (h : Hist S s) (f : Bool) : FileH S (s.d.get f) := by
  rcases Nat.eq_zero_or_pos s.c.gen with hg | hg
  · have hz := h.zero hg
    cases f
    · exact Or.inl hz.1
    · exact Or.inl hz.2
  · by_cases e : f = s.file
    · rw [e]; exact Or.inr ⟨_, h.cur hg⟩
    · have : f = !s.file := by cases f <;> cases hf : s.file <;> simp_all
      rw [this]; exact h.other
theorem Hist.start : Hist [[]] (jOpen ⟨-1, [], []⟩) := by
  have hl := open_live (empty_ok (-1) (by decide) (by decide))
  rw [jOpen_empty] at hl ⊢
  exact ⟨hl, rfl, List.mem_singleton.2 rfl, fun h => (by have h : 1 ≤ 0 := h; omega), Or.inl rfl, fun _ => ⟨rfl, rfl⟩, List.mem_singleton.2 rfl⟩
theorem Hist.compact {S : List PEnts} {s : JS} (h : Hist S s) (hg : s.c.gen < 4611686018427387904) : (jCompact s).2 = true ∧ Hist S (jCompact s).1 ∧ (jCompact s).1.c.ents = s.c.ents ∧ (jCompact s).1.c.gen = s.c.gen + 1 := by
  have hf := jCompact_full h.pw
  obtain ⟨l, e, g, hfile, hed, hnew, hold⟩ := (compact_live h.live hg).1 hf.1
  have hwt := h.live.wt
  have hnz : 1 ≤ (jCompact s).1.c.gen := by omega
  have hHI := HI.state (S := S) h.live.ord h.live.small hwt (show 1 ≤ s.c.gen + 1 by omega) (by omega) h.mem
  rw [← hnew] at hHI
  refine ⟨hf.1, ⟨l, hf.2, h.nil, fun _ => ?_, ?_, fun hz => (by omega), by rw [e]; exact h.mem⟩, e, g⟩
  · rw [hfile]
    have hc := l.chain hnz
    rw [hfile] at hc
    have hc2 := (hHI.all _ hc).2
    rcases hc2 with e2 | ⟨code, s1, cs, hn, _⟩
    · rw [e2]; exact hHI
    · have := (nextB_some hn).1
      have h2 := hHI.fin
      have h3 : (jCompact s).1.c.ed = 12 + (stateB (s.c.gen + 1) s.c.ents).length := hed
      rw [List.length_drop, h3] at this
      simp only at h2
      omega
  · rw [hfile, hold]
    rcases Nat.eq_zero_or_pos s.c.gen with hz | hp
    · rw [compactFile_zero hz]; exact Or.inl (h.zero hz).2
    · rw [compactFile_pos hp, Bool.not_not]; exact Or.inr ⟨_, h.cur hp⟩
theorem Hist.compactOp {S : List PEnts} {s : JS} (h : Hist S s) (hg : s.c.gen < 4611686018427387904) : (jCompactOp s).2 = 0 ∧ Hist S (jCompactOp s).1 ∧ (jCompactOp s).1.c.ents = s.c.ents ∧ (jCompactOp s).1.c.gen = s.c.gen + 1 := by
  obtain ⟨h1, h2, h3, h4⟩ := h.compact hg
  unfold jCompactOp
  rw [if_neg (by rw [h.live.up]; simp), if_neg (by omega)]
  unfold jPowered
  rw [if_pos h1]
  exact ⟨rfl, h2, h3, h4⟩
theorem Hist.commit {S S' : List PEnts} {s : JS} {cs : List Chg} (h : Hist S s) (hm : May s cs) (hg : s.c.gen + 2 < 4611686018427387904) (hS : ∀ P ∈ S, P ∈ S') (hP : pChgs s.c.ents cs ∈ S') :
    (jCommit cs s).2 = 0 ∧ Hist S' (jCommit cs s).1 ∧ (jCommit cs s).1.c.ents = pChgs s.c.ents cs ∧ (jCommit cs s).1.c.gen ≤ s.c.gen + 2 := by
  have hcl := commit_live (cs := cs) h.live
  have hcm := (commit_may h.live hm (by omega)).2 h.pw
  obtain ⟨_, hl, he, hge⟩ := hcl.2.1 hcm.1
  refine ⟨hcm.1, ?_, he, hge⟩
  have hlen := codeOf_len cs
  have hsz := hm.valid.size
  rw [jCommit_eq h.live.up hm (by omega)] at hl ⊢
  have hfull := jDo_full (cs := cs) h.pw
  have hpo : ∀ t : JS, Live t → t.c.ents = s.c.ents → pPoss t.c.ents t.c.wt cs = true := by
    intro t ht e
    have : t.c.wt = s.c.wt := by rw [ht.ok.wt, e, ← h.live.ok.wt]
    rw [e, this]; exact hm.poss
  unfold jPowered at hl ⊢
  rw [if_pos hfull.1] at hl ⊢
  -- the first step
  obtain ⟨s1, e1, h1, n1, g1⟩ : ∃ s1, jDo1 s = (s1, true) ∧ Hist S s1 ∧ s1.c.ents = s.c.ents ∧ 1 ≤ s1.c.gen ∧ s1.c.gen ≤ s.c.gen + 1 := by
    unfold jDo1
    split
    · obtain ⟨a, b, c, d⟩ := h.compact (by omega)
      exact ⟨(jCompact s).1, Prod.ext rfl a, b, c, by omega, by omega⟩
    · exact ⟨s, rfl, h, rfl, by omega, by omega⟩
  have e2 : jDo2 s1 = (s1, true) := by
    unfold jDo2
    rw [if_neg (by have := (h1.cur g1.1).fin; omega)]
  obtain ⟨s3, e3, h3, n3, g3⟩ : ∃ s3, jDo3 (codeOf cs).length s1 = (s3, true) ∧ Hist S s3 ∧ s3.c.ents = s.c.ents ∧ 1 ≤ s3.c.gen := by
    unfold jDo3
    split
    · obtain ⟨a, b, c, d⟩ := h1.compact (by omega)
      exact ⟨(jCompact s1).1, Prod.ext rfl a, b, by rw [c, n1], by omega⟩
    · exact ⟨s1, rfl, h1, n1, g1.1⟩
  have hdo : jDo cs s = jDo4 cs s3 := by
    unfold jDo
    rw [e1, show jThen (s1, true) jDo2 = jDo2 s1 from jThen_ok rfl, e2, show jThen (s1, true) (jDo3 (codeOf cs).length) = jDo3 (codeOf cs).length s1 from jThen_ok rfl, e3, show jThen (s3, true) (jDo4 cs) = jDo4 cs s3 from jThen_ok rfl]
  have h4 := jDo4_plain (cs := cs) h3.pw
  rw [hdo, h4] at hl ⊢
  have hhi := (h3.cur g3).commit hS hm.valid hm.some hm.many (hpo s3 h3.live n3) (by rw [n3]; exact hP)
  refine ⟨hl, ?_, hS _ h.nil, fun _ => ?_, ?_, fun hz => ?_, ?_⟩
  · show (s3.d.put _ _).pw = -1
    rw [DS.put_pw]; exact h3.pw
  · show HI S' ((s3.d.put s3.file _).get s3.file) _
    rw [DS.get_put]; exact hhi
  · show FileH S' ((s3.d.put s3.file _).get (!s3.file))
    rw [DS.get_put_not]; exact h3.other.mono hS
  · have hz : s3.c.gen = 0 := hz
    omega
  · show pChgs s3.c.ents cs ∈ S'
    rw [n3]; exact hP
end
end Go.Proofs.YtondomklkapogaaDoor
