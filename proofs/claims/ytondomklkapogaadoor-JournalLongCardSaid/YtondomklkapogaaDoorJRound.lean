/- Plain laws: what is written is read again. -/
import Derived.Test.YtondomklkapogaaDoorJOpsL
namespace Go.Proofs.YtondomklkapogaaDoor
open Go.RowKit SeedP Go.Maps
theorem numV_from : ∀ (l : List UInt8) (a : Nat), l.foldl (fun n b => n * 256 + b.toNat) a = a * 256 ^ l.length + numV l
  | [], a => by simp [numV]
  | b :: r, a => by
    have h0 : numV (b :: r) = (0 * 256 + b.toNat) * 256 ^ r.length + numV r := numV_from r (0 * 256 + b.toNat)
    rw [List.foldl_cons, numV_from r, h0, List.length_cons, Nat.pow_succ, Nat.add_mul, Nat.zero_mul, Nat.zero_add, Nat.mul_assoc a, Nat.mul_comm 256 (256 ^ r.length)]
    omega
theorem numV_cons (b : UInt8) (r : List UInt8) : numV (b :: r) = b.toNat * 256 ^ r.length + numV r := by
  have h0 : numV (b :: r) = (0 * 256 + b.toNat) * 256 ^ r.length + numV r := numV_from r (0 * 256 + b.toNat)
  rw [h0, Nat.zero_mul, Nat.zero_add]
theorem numV_numB (n : Nat) : ∀ k, numV (numB n k) = n % 256 ^ k
  | 0 => by simp [numB, numV, Nat.mod_one]
  | k + 1 => by
    rw [numB, numV_cons, numB_length, numV_numB n k, UInt8.toNat_ofNat', show 2 ^ 8 = 256 from rfl, Nat.pow_succ, Nat.mod_mul (a := 256 ^ k)]
    rw [Nat.mul_comm (256 ^ k)]
    omega
theorem rTake_app (a r : List UInt8) {n : Nat} (h : a.length = n) : rTake n (a ++ r, false) = (a, r, false) := by
  subst h
  rw [rTake_ok (by rw [List.length_append]; omega)]
  simp
theorem rNum_app (n k : Nat) (r : List UInt8) (h : n < 256 ^ k) : rNum k (numB n k ++ r, false) = (n, r, false) := by
  unfold rNum
  rw [rTake_app _ _ (numB_length n k)]
  simp only [numV_numB, Nat.mod_eq_of_lt h]
theorem rNum_one (b : UInt8) (r : List UInt8) : rNum 1 (b :: r, false) = (b.toNat, r, false) := by
  unfold rNum
  rw [show b :: r = [b] ++ r from rfl, rTake_app [b] r (n := 1) rfl]
  simp [numV]
theorem toNat_small {n : Nat} (h : n < 256) : (UInt8.ofNat n).toNat = n := by rw [UInt8.toNat_ofNat']; omega
theorem rKey_app (k r : List UInt8) (h1 : 1 ≤ k.length) (h2 : k.length ≤ 40) : rKey (UInt8.ofNat k.length :: k ++ r, false) = (k, r, false) := by
  unfold rKey
  rw [List.cons_append, rNum_one, toNat_small (by omega)]
  simp only []
  rw [if_neg (by omega), rTake_app _ _ rfl]
theorem rVal_app (v r : List UInt8) (h : v.length ≤ 4096) : rVal (numB v.length 2 ++ v ++ r, false) = (v, r, false) := by
  unfold rVal
  rw [List.append_assoc, rNum_app _ _ _ (by omega)]
  simp only []
  rw [if_neg (by omega), rTake_app _ _ rfl]
theorem chg_ext {c : Chg} (h : c.drop = true) (hv : c.val = []) : (⟨c.key, [], true⟩ : Chg) = c := by cases c; simp_all
theorem rChg_app (c : Chg) (r : List UInt8) (h1 : 1 ≤ c.key.length) (h2 : c.key.length ≤ 40) (h3 : c.val.length ≤ 4096) (h4 : c.drop = true → c.val = []) : rChg (chgCode c ++ r, false) = some (c, r, false) := by
  unfold rChg chgCode
  cases hd : c.drop
  · simp only [Bool.false_eq_true, if_false]
    rw [List.cons_append, rNum_one]
    rw [show (UInt8.ofNat c.key.length :: c.key ++ numB c.val.length 2 ++ c.val ++ r) = UInt8.ofNat c.key.length :: c.key ++ (numB c.val.length 2 ++ c.val ++ r) by simp]
    simp only [show ((0 : UInt8).toNat = 0) from rfl, if_true]
    rw [rKey_app _ _ h1 h2]
    simp only []
    rw [rVal_app _ _ h3]
    simp only [Bool.false_eq_true, if_false]
    rw [← hd]
  · simp only [if_true]
    rw [List.cons_append, rNum_one]
    simp only [show ((1 : UInt8).toNat = 1) from rfl, show ¬ (1 = 0) by decide, if_false, if_true]
    rw [rKey_app _ _ h1 h2]
    simp only [Bool.false_eq_true, if_false]
    rw [chg_ext hd (h4 hd)]
theorem rChgs_app {cs : List Chg} (hv : Valid cs) (r : List UInt8) : ∀ j, j ≤ cs.length → rChgs j (cs.flatMap chgCode ++ r, false) = some (cs.take j, (cs.drop j).flatMap chgCode ++ r, false) := by
  intro j
  induction j with
  | zero => intro _; simp [rChgs]
  | succ j ih =>
    intro hj
    have hm := List.getElem_mem (l := cs) (n := j) (by omega)
    rw [rChgs, ih (by omega)]
    simp only []
    rw [List.drop_eq_getElem_cons (by omega), List.flatMap_cons, List.append_assoc, rChg_app _ _ (hv.key _ hm).1 (hv.key _ hm).2 (hv.val _ hm) (hv.drop _ hm)]
    simp only []
    rw [List.take_succ_eq_append_getElem (by omega)]
/-- what Commit writes reads as what was committed -/
theorem rComm_code {cs : List Chg} (hv : Valid cs) (h1 : 1 ≤ cs.length) (h2 : cs.length ≤ 64) : rComm (codeOf cs) = some cs := by
  have hl := codeOf_len cs
  have hs := hv.size
  unfold rComm
  have hn : rNum 1 (codeOf cs, false) = (cs.length, cs.flatMap chgCode, false) := by
    unfold codeOf; rw [rNum_one, toNat_small (by omega)]
  rw [hn]
  simp only []
  rw [if_neg (by omega)]
  have := rChgs_app hv [] cs.length (Nat.le_refl _)
  simp only [List.append_nil, List.take_length, List.drop_length, List.flatMap_nil] at this
  rw [this]
  simp only []
  rw [if_pos ⟨trivial, trivial, (valid_zero cs).2 hv⟩]
/-- entries in increasing order of keys -/
def Ordered (P : PEnts) : Prop := P.Pairwise (fun a b => bytesBefore a.1 b.1 = true)
theorem pIns_last {P : PEnts} {x : List UInt8 × List UInt8} (h : ∀ e ∈ P, bytesBefore e.1 x.1 = true) : pIns x P = P ++ [x] := by
  induction P with
  | nil => rfl
  | cons y r ih =>
    have hy := h y (List.mem_cons_self ..)
    have hn : (Lit.string x.1).before (Lit.string y.1) = false := by
      show bytesBefore x.1 y.1 = false
      cases hb : bytesBefore x.1 y.1 with
      | false => rfl
      | true => have := blt_trans _ _ _ hb hy; rw [blt_irrefl] at this; cases this
    rw [pIns, hn, ih (fun e he => h e (List.mem_cons_of_mem _ he))]
    simp
theorem pPut_last {P : PEnts} {x : List UInt8 × List UInt8} (h : ∀ e ∈ P, bytesBefore e.1 x.1 = true) : pPut P x = P ++ [x] := by
  unfold pPut
  rw [pDel_not, pIns_last h]
  intro hm
  obtain ⟨e, he, hk⟩ := List.mem_map.1 hm
  have := h e he
  rw [hk, blt_irrefl] at this; cases this
theorem pWt_snoc (P : PEnts) (x : List UInt8 × List UInt8) : pWt (P ++ [x]) = pWt P + (3 + (x.1.length : Int) + x.2.length) := by
  have := pWt_perm (List.perm_append_comm (l₁ := P) (l₂ := [x]))
  rw [this, List.singleton_append, pWt_cons]; unfold eWt; omega
structure SmallEnts (P : PEnts) : Prop where
  key : ∀ e ∈ P, 1 ≤ e.1.length ∧ e.1.length ≤ 40
  val : ∀ e ∈ P, e.2.length ≤ 4096
def lastKey (P : PEnts) : Nat → List UInt8
  | 0 => []
  | j + 1 => ((P[j]?).map (·.1)).getD []
theorem rEnts_app {P : PEnts} (ho : Ordered P) (hs : SmallEnts P) (r : List UInt8) : ∀ j, j ≤ P.length →
    rEnts j (P.flatMap entB ++ r, false) = some (P.take j, (lastKey P j), pWt (P.take j), (P.drop j).flatMap entB ++ r, false) := by
  intro j
  induction j with
  | zero => intro _; simp [rEnts, pWt, lastKey]
  | succ j ih =>
    intro hj
    have hjl : j < P.length := by omega
    have hm := List.getElem_mem (l := P) (n := j) hjl
    rw [rEnts, ih (by omega)]
    simp only []
    rw [List.drop_eq_getElem_cons hjl, List.flatMap_cons, List.append_assoc]
    rw [show entB P[j] ++ ((P.drop (j + 1)).flatMap entB ++ r) = UInt8.ofNat P[j].1.length :: P[j].1 ++ (numB P[j].2.length 2 ++ P[j].2 ++ ((P.drop (j + 1)).flatMap entB ++ r)) by unfold entB; simp]
    rw [rKey_app _ _ (hs.key _ hm).1 (hs.key _ hm).2]
    simp only []
    rw [rVal_app _ _ (hs.val _ hm)]
    simp only []
    have hle : leB P[j].1 (lastKey P j) = false := by
      cases hl : leB P[j].1 (lastKey P j) with
      | false => rfl
      | true =>
        rw [leB_iff] at hl
        cases j with
        | zero =>
          have h1 := (hs.key _ hm).1
          rcases hl with hl | hl
          · unfold lastKey at hl
            cases hk : P[0].1 with
            | nil => rw [hk] at h1; simp at h1
            | cons a b => rw [hk] at hl; simp [bytesBefore] at hl
          · unfold lastKey at hl; rw [hl] at h1; simp at h1
        | succ i =>
          simp only [lastKey, List.getElem?_eq_getElem (show i < P.length by omega), Option.map_some, Option.getD_some] at hl
          have hb := List.pairwise_iff_getElem.1 ho i (i + 1) (by omega) hjl (by omega)
          rcases hl with hl | hl
          · have := blt_trans _ _ _ hl hb; rw [blt_irrefl] at this; cases this
          · rw [hl, blt_irrefl] at hb; cases hb
    have hall : ∀ e ∈ P.take j, bytesBefore e.1 P[j].1 = true := by
      intro e he
      obtain ⟨i, hi, rfl⟩ := List.getElem_of_mem he
      rw [List.length_take] at hi
      rw [List.getElem_take]
      exact List.pairwise_iff_getElem.1 ho i j (by omega) hjl (by omega)
    rw [if_neg (by rw [hle]; simp), pPut_last hall, List.take_succ_eq_append_getElem hjl, pWt_snoc]
    simp [lastKey, List.getElem?_eq_getElem hjl]
/-- what compact writes reads as the entries -/
theorem rState_code {P : PEnts} {gen : Nat} (ho : Ordered P) (hs : SmallEnts P) (hw : pWt P ≤ 131072) (hg1 : 1 ≤ gen) (hg2 : gen ≤ 4611686018427387904) : rState (stateB gen P) = some (gen, P, pWt P) := by
  have hl := pWt_len P
  have h8 : rNum 8 (stateB gen P, false) = (gen, numB P.length 4 ++ P.flatMap entB, false) := by
    unfold stateB; rw [List.append_assoc, rNum_app _ _ _ (by omega)]
  have h4 : rNum 4 (numB P.length 4 ++ P.flatMap entB, false) = (P.length, P.flatMap entB, false) := rNum_app _ _ _ (by omega)
  unfold rState
  rw [h8]
  simp only []
  rw [h4]
  simp only []
  rw [if_neg (by simp; omega)]
  have := rEnts_app ho hs [] P.length (Nat.le_refl _)
  simp only [List.append_nil, List.take_length, List.drop_length, List.flatMap_nil] at this
  rw [this]
  simp only []
  rw [if_pos ⟨trivial, trivial, hw⟩]
end Go.Proofs.YtondomklkapogaaDoor
