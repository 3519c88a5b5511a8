/- The walk of readCommit. -/
import Derived.Test.YtondomklkapogaaDoorJChange
namespace Go.Proofs.YtondomklkapogaaDoor
open Go.RowKit SeedP Go.Maps
abbrev RSt := List UInt8 × Bool
def rChg (s : RSt) : Option (Chg × RSt) :=
  if (rNum 1 s).1 = 0 then (if (rVal (rKey (rNum 1 s).2).2).2.2 = true then none else some (⟨(rKey (rNum 1 s).2).1, (rVal (rKey (rNum 1 s).2).2).1, false⟩, (rVal (rKey (rNum 1 s).2).2).2))
  else if (rNum 1 s).1 = 1 then (if (rKey (rNum 1 s).2).2.2 = true then none else some (⟨(rKey (rNum 1 s).2).1, [], true⟩, (rKey (rNum 1 s).2).2))
  else none
def rChgs : Nat → RSt → Option (List Chg × RSt)
  | 0, s => some ([], s)
  | n + 1, s => match rChgs n s with
    | none => none
    | some (l, s') => match rChg s' with
      | none => none
      | some (c, s'') => some (l ++ [c], s'')
def rComm (code : List UInt8) : Option (List Chg) :=
  if 65536 < code.length ∨ (rNum 1 (code, false)).1 < 1 ∨ 64 < (rNum 1 (code, false)).1 then none
  else match rChgs (rNum 1 (code, false)).1 (rNum 1 (code, false)).2 with
    | none => none
    | some (l, s) => if s.2 = false ∧ s.1 = [] ∧ validP l = 0 then some l else none
theorem rChgs_none {s : RSt} {j : Nat} : ∀ n, j ≤ n → rChgs j s = none → rChgs n s = none := by
  intro n h hj
  induction n with
  | zero => obtain rfl : j = 0 := by omega
            exact hj
  | succ n ih =>
    by_cases he : j = n + 1
    · rw [← he]; exact hj
    · rw [rChgs, ih (by omega)]
theorem rNum_lt (k : Nat) (s : RSt) : (rNum k s).1 < 256 ^ k :=
  Nat.lt_of_lt_of_le (numV_lt _) (Nat.pow_le_pow_right (by decide) (rTake_len k s))
theorem rKey_len (s : RSt) : (rKey s).1.length ≤ 255 := by
  have h1 := rTake_len (rNum 1 s).1 (if (rNum 1 s).1 < 1 ∨ 40 < (rNum 1 s).1 then ((rNum 1 s).2.1, true) else (rNum 1 s).2)
  have h2 := rNum_lt 1 s
  unfold rKey; omega
theorem rVal_len (s : RSt) : (rVal s).1.length ≤ 65535 := by
  have h1 := rTake_len (rNum 2 s).1 (if 4096 < (rNum 2 s).1 then ((rNum 2 s).2.1, true) else (rNum 2 s).2)
  have h2 := rNum_lt 2 s
  unfold rVal; omega
/-! ### a row of changes that a call makes -/
def chgCells (p : Chg × Value) : List Value := [strV p.1.key, p.2, .bool p.1.drop]
def crow (xs : List (Chg × Value)) : List Value := xs.flatMap chgCells
theorem crow_length (xs : List (Chg × Value)) : (crow xs).length = xs.length * 3 := by
  induction xs with
  | nil => rfl
  | cons x r ih => rw [crow, List.flatMap_cons, List.length_append, ← crow, ih]; simp [chgCells]; omega
theorem crow_get (xs : List (Chg × Value)) (j o : Nat) (h : j < xs.length) (ho : o < 3) : (crow xs)[j * 3 + o]? = (chgCells xs[j])[o]? := by
  induction xs generalizing j with
  | nil => simp at h
  | cons x r ih =>
    rw [crow, List.flatMap_cons, ← crow]
    have hl : (chgCells x).length = 3 := rfl
    cases j with
    | zero => rw [List.getElem?_append_left (by omega)]; simp
    | succ j =>
      rw [List.getElem?_append_right (by omega), hl]
      have e : (j + 1) * 3 + o - 3 = j * 3 + o := by omega
      rw [e, ih j (by simpa using h)]; rfl
theorem own_grown {w w' : World} {S : Nat → Prop} {B n m : Nat} {e : TypeId} {v : Value} {xs : List Value} (h : w.ownsRow B e m v n xs) (hg : Grown S w w') (hn : ∀ g, B ≤ g → g < w.heap.size → ¬ S g) : w'.ownsRow B e m v n xs := by
  obtain ⟨hl, h2⟩ := h
  rcases h2 with h2 | ⟨g, cap, cur, e, hB, h3, r⟩
  · exact ⟨hl, Or.inl h2⟩
  · have hlt := (Array.getElem?_eq_some_iff.1 h3).1
    exact ⟨hl, Or.inr ⟨g, cap, cur, e, hB, (hg.block g hlt (hn g hB hlt)).trans h3, r⟩⟩
structure ChgRow (w : World) (B : Nat) (v : Value) (xs : List (Chg × Value)) : Prop where
  row : w.ownsRow B 65 3 v xs.length (crow xs)
  val : ∀ p ∈ xs, w.ownsRow B 5 1 p.2 p.1.val.length (byts p.1.val)
theorem ChgRow.nil (w : World) (B : Nat) : ChgRow w B (.slice none 0 0) [] := ⟨World.ownsRow_nil w B _ 3, fun p hp => by cases hp⟩
theorem ChgRow.grown {w w' : World} {S : Nat → Prop} {B : Nat} {v : Value} {xs : List (Chg × Value)} (h : ChgRow w B v xs) (hg : Grown S w w') (hn : ∀ g, B ≤ g → g < w.heap.size → ¬ S g) : ChgRow w' B v xs :=
  ⟨own_grown h.row hg hn, fun p hp => own_grown (h.val p hp) hg hn⟩
theorem ChgRow.toP {w : World} {B : Nat} {v : Value} {xs : List (Chg × Value)} (h : ChgRow w B v xs) (hn : xs.length ≤ 1000000) : ChgsP w (fun g => B ≤ g) v (xs.map (·.1)) := by
  have hr := h.row
  obtain ⟨hl, h2⟩ := h.row
  rcases h2 with ⟨rfl, h0⟩ | ⟨g, cap, cur, rfl, hB, hg, hn, hc, _⟩
  · obtain rfl := List.eq_nil_of_length_eq_zero h0
    exact ⟨none, 0, by simp, Nat.le_refl _, Nat.zero_le _, Or.inl rfl⟩
  · refine ⟨_, cap, by rw [List.length_map], by rw [List.length_map]; exact hn, hc, Or.inr ⟨g, 0, rfl, hB, fun j hj => ?_⟩⟩
    have hj' : j < xs.length := by simpa using hj
    have hc3 : ∀ o u, o < 3 → (chgCells xs[j])[o]? = some u → w.cell? ⟨g, 0 + j * 3 + o, none⟩ = some u := fun o u ho hu => by
      have := hr.cells (g := g) rfl (j * 3 + o) u (by rw [crow_get xs j o hj' ho]; exact hu)
      have e : (⟨g, 0, none⟩ : Addr).add (j * 3 + o) = ⟨g, 0 + j * 3 + o, none⟩ := by unfold Addr.add; split <;> simp_all
      rw [← e]; exact this
    refine ⟨xs[j].2, ?_, ?_, ?_, ?_⟩
    · rw [List.getElem_map]; exact hc3 0 _ (by omega) rfl
    · exact hc3 1 _ (by omega) rfl
    · rw [List.getElem_map]; exact hc3 2 _ (by omega) rfl
    · rw [List.getElem_map]; exact RdP.own (h.val xs[j] (List.getElem_mem hj')) (fun g hg _ => hg)
theorem crow_snoc (xs : List (Chg × Value)) (x : Chg × Value) : crow (xs ++ [x]) = crow xs ++ chgCells x := by simp [crow]
theorem infoC : (Tryd.prog.info? 65).map (fun i => (i.zero, i.size, i.bytes)) = some (some (.agg #[.string ⟨#[]⟩, .slice none 0 0, .bool false]), 3, 48) := by kernel_rfl
/-- the cells of a new block -/
theorem news_at (w : World) (l : List Value) (e : TypeId) : ∀ j u, l[j]? = some u → (w.alloc (.cells l.toArray e)).cell? ((⟨w.heap.size, 0, none⟩ : Addr).add j) = some u := by
  intro j u hu
  have e0 : (⟨w.heap.size, 0, none⟩ : Addr).add j = ⟨w.heap.size, j, none⟩ := by unfold Addr.add; split <;> simp_all
  have hb := Blk.new w e l
  have hj := (List.getElem?_eq_some_iff.1 hu).1
  rw [e0, hb.cell j hj, List.getD_eq_getElem?_getD, hu]; rfl
theorem wpList_chg {w : World} {ops : Array Oper} {rest : List Oper} {o : Oper} {a : Act} {Q : Exit → Act → World → Prop} (hgd : o.guard = none) (s x : Operand)
    (ho : o.op = .call { callee := .builtin .append, args := #[s, x], argTypes := #[39, 39] })
    (B : Nat) (v : Value) (xs : List (Chg × Value)) (hs : a.eval s = v) (h : ChgRow w B v xs) (g c : Nat) (y : Chg × Value) (hx : a.eval x = .slice (some ⟨g, 0, none⟩) 1 c)
    (hg : Blk w g 65 (chgCells y)) (hy : w.ownsRow B 5 1 y.2 y.1.val.length (byts y.1.val)) (h1 : y.2.oneCell' = true) (hn : xs.length ≤ 1000000) (hB : B ≤ w.heap.size)
    (hK : ∀ v' w', ChgRow w' B v' (xs ++ [y]) → Below B w w' → (∀ k, k < B → w'.heap[k]? = w.heap[k]?) → wpList Tryd.prog ops Q rest (a.put o.dst v') w') : wpList Tryd.prog ops Q (o :: rest) a w := by
  have hi := infoC
  obtain ⟨i, hi, hz⟩ := Option.map_eq_some_iff.1 hi
  simp only [Prod.mk.injEq] at hz
  obtain ⟨hz1, hz2, hz3⟩ := hz
  refine wpList_append_own (P := Tryd.prog) _ hgd s x 39 ho B 65 i _ 3 48 Tryd.underlying39 hi hz1 hz2 hz3 rfl (by decide) v xs.length (crow xs) hs h.row ⟨g, 0, none⟩ 1 c (chgCells y) hx rfl ?_ ?_ ?_ ?_ hB ?_
  · intro j u hu
    have e0 : (⟨g, 0, none⟩ : Addr).add j = ⟨g, j, none⟩ := by unfold Addr.add; split <;> simp_all
    have hj := (List.getElem?_eq_some_iff.1 hu).1
    rw [e0, hg.cell j hj, List.getD_eq_getElem?_getD, hu]; rfl
  · intro u hu
    simp only [chgCells, List.mem_cons, List.not_mem_nil, or_false] at hu
    rcases hu with rfl | rfl | rfl
    · rfl
    · exact h1
    · rfl
  · unfold maxLen; omega
  · omega
  · intro v' w' hown hgr _
    have hb : Below B w w' := (Below.refl _ _).grown hgr hB (fun k e => (h.row.lt k e).1)
    refine hK v' w' ⟨?_, fun p hp => ?_⟩ hb (fun k hk => hb.block k hk)
    · rw [List.length_append, crow_snoc]; exact hown
    · have hne : ∀ q : Value, ∀ m zs, w.ownsRow B 5 1 q m zs → w'.ownsRow B 5 1 q m zs := fun q m zs hq => by
        refine hq.kept hgr ?_
        cases hq0 : q.ownBlock with
        | none => exact Or.inl rfl
        | some k =>
          refine Or.inr (fun e => ?_)
          rcases hq.2 with ⟨rfl, _⟩ | ⟨g1, c1, cur1, rfl, _, hh1, _⟩
          · simp [Value.ownBlock] at hq0
          rcases h.row.2 with ⟨rfl, _⟩ | ⟨g2, c2, cur2, rfl, _, hh2, _⟩
          · simp [Value.ownBlock] at e
          simp only [Value.ownBlock, Option.some.injEq] at hq0 e
          rw [hq0] at hh1
          rw [← e] at hh2
          rw [hh1] at hh2
          cases hh2
      rcases List.mem_append.1 hp with hp | hp
      · exact hne _ _ _ (h.val p hp)
      · obtain rfl := List.mem_singleton.1 hp
        exact hne _ _ _ hy
end Go.Proofs.YtondomklkapogaaDoor
