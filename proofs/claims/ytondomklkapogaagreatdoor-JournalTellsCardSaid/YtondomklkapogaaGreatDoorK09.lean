/- Plain laws: what is read is in order. -/
import Derived.Test.YtondomklkapogaaGreatDoorK06
import Derived.Test.YtondomklkapogaaGreatDoorK08
namespace Go.Proofs.YtondomklkapogaaGreatDoor
open Go.RowKit SeedP Go.Maps
theorem bl_eq : ∀ (x y : List UInt8), Op.bytesLess x y = bytesBefore x y
 | [], [] => rfl
 | _ :: _, [] => rfl
 | [], _ :: _ => rfl
 | a :: x, b :: y => by rw [Op.bytesLess, bytesBefore, bl_eq x y]
theorem blt_irrefl : ∀ (a : List UInt8), bytesBefore a a = false
 | [] => rfl
 | x :: r => by simp [bytesBefore, blt_irrefl r]
theorem blt_trans : ∀ (a b c : List UInt8), bytesBefore a b = true → bytesBefore b c = true → bytesBefore a c = true
 | [], [], _, h, _ => by simp [bytesBefore] at h
 | [], _ :: _, [], _, h => by simp [bytesBefore] at h
 | [], _ :: _, _ :: _, _, _ => rfl
 | _ :: _, [], _, h, _ => by simp [bytesBefore] at h
 | _ :: _, _ :: _, [], _, h => by simp [bytesBefore] at h
 | x :: r, y :: s, z :: t, h1, h2 => by
   simp only [bytesBefore, Bool.or_eq_true, decide_eq_true_eq, Bool.and_eq_true, beq_iff_eq, UInt8.lt_iff_toNat_lt] at h1 h2 ⊢
   rcases h1 with h1 | ⟨rfl, h1⟩
   ·rcases h2 with h2 | ⟨rfl, h2⟩
    ·exact Or.inl (by omega)
    ·exact Or.inl h1
   ·rcases h2 with h2 | ⟨rfl, h2⟩
    ·exact Or.inl h2
    ·exact Or.inr ⟨rfl, blt_trans r s t h1 h2⟩
theorem blt_total : ∀ (a b : List UInt8), a ≠ b → bytesBefore a b = true ∨ bytesBefore b a = true
 | [], [], h => absurd rfl h
 | [], _ :: _, _ => .inl rfl
 | _ :: _, [], _ => .inr rfl
 | x :: r, y :: s, h => by
   simp only [bytesBefore, Bool.or_eq_true, decide_eq_true_eq, Bool.and_eq_true, beq_iff_eq, UInt8.lt_iff_toNat_lt]
   by_cases hxy : x = y
   ·subst hxy
    rcases blt_total r s (fun e => h (by rw [e])) with h1 | h1
    ·exact Or.inl (Or.inr ⟨rfl, h1⟩)
    ·exact Or.inr (Or.inr ⟨rfl, h1⟩)
   ·rcases Nat.lt_trichotomy x.toNat y.toNat with h1 | h1 | h1
    ·exact Or.inl (Or.inl h1)
    ·exact absurd (UInt8.toNat_inj.1 h1) hxy
    ·exact Or.inr (Or.inl h1)
theorem leB_iff (a b : List UInt8) : leB a b = true ↔ bytesBefore a b = true ∨ a = b := by unfold leB; rw [bl_eq]; simp
theorem leB_not (a b : List UInt8) (h : leB a b = false) : bytesBefore b a = true := by
 have h2 : ¬ (bytesBefore a b = true ∨ a = b) := fun h3 => by rw [← leB_iff] at h3; rw [h3] at h; cases h
 rcases blt_total a b (fun e => h2 (Or.inr e)) with h3 | h3
 ·exact absurd (Or.inl h3) h2
 ·exact h3
theorem keys_pPut (P : PEnts) (x : List UInt8 × List UInt8) (k : List UInt8) : k ∈ keysOf (pPut P x) ↔ k = x.1 ∨ (k ∈ keysOf P ∧ k ≠ x.1) := by
 unfold pPut
 have h := (keys_perm (pIns_perm x (pDel P x.1))).mem_iff (a := k)
 rw [h]
 show k ∈ x.1 :: keysOf (pDel P x.1) ↔ _
 rw [List.mem_cons, keys_pDel]; simp
theorem rEnts_ok {s : RSt} : ∀ n {P : PEnts} {last : List UInt8} {wt : Int} {s' : RSt}, rEnts n s = some (P, last, wt, s') → (keysOf P).Nodup ∧ wt = pWt P ∧ (∀ k ∈ keysOf P, leB k last = true) ∧ P.length = n := by
 intro n
 induction n with
 | zero =>
   intro P last wt s' h
   simp only [rEnts, Option.some.injEq, Prod.mk.injEq] at h
   obtain ⟨rfl, rfl, rfl, rfl⟩ := h
   exact ⟨by simp [keysOf], by simp [pWt], by simp [keysOf], rfl⟩
 | succ n ih =>
   intro P last wt s' h
   rw [rEnts] at h
   cases hE : rEnts n s with
   | none => rw [hE] at h; cases h
   | some T =>
     obtain ⟨Q, l0, w0, s0⟩ := T
     rw [hE] at h
     simp only at h
     split at h
     ·cases h
     ·rename_i hc
      simp only [Option.some.injEq, Prod.mk.injEq] at h
      obtain ⟨rfl, rfl, rfl, rfl⟩ := h
      obtain ⟨h1, h2, h3, h4⟩ := ih hE
      have hle : leB (rKey s0).1 l0 = false := by cases hq : leB (rKey s0).1 l0 <;> simp_all
      have hlt := leB_not _ _ hle
      have hno : (rKey s0).1 ∉ keysOf Q := fun hin => by rw [h3 _ hin] at hle; cases hle
      have hf := (pFind_none Q (rKey s0).1).2 hno
      refine ⟨pPut_nodup _ _ h1, ?_, ?_, ?_⟩
      ·rw [pPut_wt _ _ h1]
       simp only [hf]
       rw [h2]; unfold eWt; simp only; omega
      ·intro k hk
       rcases (keys_pPut _ _ _).1 hk with rfl | ⟨hk, _⟩
       ·exact (leB_iff _ _).2 (Or.inr rfl)
       ·rcases (leB_iff _ _).1 (h3 k hk) with h5 | h5
        ·exact (leB_iff _ _).2 (Or.inl (blt_trans _ _ _ h5 hlt))
        ·rw [h5]; exact (leB_iff _ _).2 (Or.inl hlt)
      ·unfold pPut; rw [pIns_length, pDel_not Q _ hno, h4]
theorem rState_ok {code : List UInt8} {gen : Nat} {P : PEnts} {wt : Int} (h : rState code = some (gen, P, wt)) : (keysOf P).Nodup ∧ wt = pWt P ∧ wt ≤ 131072 ∧ 1 ≤ gen ∧ gen ≤ 4611686018427387904 := by
 unfold rState at h
 split at h
 ·cases h
 ·rename_i hc
  split at h
  ·cases h
  ·rename_i Q l0 w0 s0 hE
   split at h
   ·rename_i hd
    simp only [Option.some.injEq, Prod.mk.injEq] at h
    obtain ⟨rfl, rfl, rfl⟩ := h
    have := rEnts_ok _ hE
    exact ⟨this.1, this.2.1, hd.2.2, by omega, by omega⟩
   ·cases h
theorem rChgs_len {s : RSt} : ∀ n {l : List Chg} {s' : RSt}, rChgs n s = some (l, s') → l.length = n := by
 intro n
 induction n with
 | zero =>
   intro l s' h
   simp only [rChgs, Option.some.injEq, Prod.mk.injEq] at h
   obtain ⟨rfl, _⟩ := h; rfl
 | succ n ih =>
   intro l s' h
   rw [rChgs] at h
   split at h
   ·cases h
   ·rename_i l0 s0 hE
    split at h
    ·cases h
    ·simp only [Option.some.injEq, Prod.mk.injEq] at h
     obtain ⟨rfl, _⟩ := h
     rw [List.length_append, ih hE]; rfl
theorem rComm_ok {code : List UInt8} {cs : List Chg} (h : rComm code = some cs) : Valid cs ∧ 1 ≤ cs.length ∧ cs.length ≤ 64 ∧ code.length ≤ 65536 := by
 unfold rComm at h
 split at h
 ·cases h
 ·rename_i hc
  split at h
  ·cases h
  ·rename_i l s hE
   split at h
   ·rename_i hd
    simp only [Option.some.injEq] at h
    subst h
    have := rChgs_len _ hE
    exact ⟨(valid_zero _).1 hd.2.2, by omega, by omega, by omega⟩
   ·cases h
/-! ### blocks -/
def bLen (l : List UInt8) : Nat := numV (l.take 4)
def bCode (l : List UInt8) : List UInt8 := (l.drop 12).take (bLen l)
def bSum (l : List UInt8) : Nat := numV ((l.drop 4).take 8)
theorem rTake_ok {n : Nat} {l : List UInt8} (h : n ≤ l.length) : rTake n (l, false) = (l.take n, l.drop n, false) := by
 unfold rTake; rw [if_neg (by simp; omega)]
theorem rTake_bad (n : Nat) (l : List UInt8) : rTake n (l, true) = ([], l, true) := by unfold rTake; rw [if_pos (Or.inl rfl)]
theorem rTake_short {n : Nat} {l : List UInt8} (h : l.length < n) (b : Bool) : rTake n (l, b) = ([], l, true) := by unfold rTake; rw [if_pos (Or.inr h)]
theorem nextB_eq (l : List UInt8) (x : Int) : nextB l x = if 12 ≤ l.length ∧ 12 + bLen l ≤ l.length ∧ subI x (bCode l) = (bSum l : Int) then some (bCode l, (bSum l : Int)) else none := by
 unfold nextB
 by_cases h4 : 4 ≤ l.length
 ·have e4 : rNum 4 (l, false) = (bLen l, l.drop 4, false) := by unfold rNum; rw [rTake_ok h4]; rfl
  rw [e4]
  by_cases h8 : 12 ≤ l.length
  ·have e8 : rNum 8 (l.drop 4, false) = (bSum l, l.drop 12, false) := by
    unfold rNum; rw [rTake_ok (by rw [List.length_drop]; omega), List.drop_drop]; rfl
   simp only [e8]
   by_cases hn : 12 + bLen l ≤ l.length
   ·rw [rTake_ok (by rw [List.length_drop]; omega)]
    simp only [Bool.false_eq_true, false_or]
    by_cases hs : subI x (bCode l) = (bSum l : Int)
    ·rw [if_neg (by intro h; exact h hs), if_pos ⟨h8, hn, hs⟩]; rfl
    ·have e2 : ¬ (12 ≤ l.length ∧ 12 + bLen l ≤ l.length ∧ subI x (bCode l) = (bSum l : Int)) := fun h => hs h.2.2
     rw [if_neg e2]
     have e3 : subI x ((l.drop 12).take (bLen l)) ≠ (bSum l : Int) := hs
     rw [if_pos e3]
   ·rw [rTake_short (by rw [List.length_drop]; omega), if_pos (Or.inl rfl), if_neg (by omega)]
  ·have e8 : (rNum 8 (l.drop 4, false)).2 = (l.drop 4, true) := by
    unfold rNum; rw [rTake_short (by rw [List.length_drop]; omega)]
   simp only [e8]
   rw [rTake_bad, if_pos (Or.inl rfl), if_neg (by omega)]
 ·have e4 : rNum 4 (l, false) = (0, l, true) := by unfold rNum; rw [rTake_short (by omega)]; rfl
  have e8 : rNum 8 (l, true) = (0, l, true) := by unfold rNum; rw [rTake_bad]; rfl
  simp only [e4, e8]
  rw [rTake_bad, if_pos (Or.inl rfl), if_neg (by omega)]
theorem nextB_some {l : List UInt8} {x : Int} {code : List UInt8} {sum : Int} (h : nextB l x = some (code, sum)) : 12 + code.length ≤ l.length ∧ code.length = bLen l ∧ code = bCode l ∧ sum = (bSum l : Int) ∧ subI x code = sum := by
 rw [nextB_eq] at h
 split at h
 ·rename_i hc
  simp only [Option.some.injEq, Prod.mk.injEq] at h
  obtain ⟨rfl, rfl⟩ := h
  have hl : (bCode l).length = bLen l := by unfold bCode; rw [List.length_take, List.length_drop]; omega
  exact ⟨by omega, hl, rfl, rfl, hc.2.2⟩
 ·cases h
end Go.Proofs.YtondomklkapogaaGreatDoor
