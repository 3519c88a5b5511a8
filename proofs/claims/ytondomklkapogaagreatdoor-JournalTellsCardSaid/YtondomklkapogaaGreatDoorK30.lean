/- The reference's state: rows of entries under way, and what it computes. -/
import Derived.Test.YtondomklkapogaaGreatDoorK29
namespace Go.Proofs.YtondomklkapogaaGreatDoor
open Go.RowKit SeedP Go.Maps
structure ReRow (w : World) (B : Nat) (v : Value) (xs : List EV) : Prop where
 row : w.ownsRow B 96 2 v xs.length (rowR xs)
 val : ∀ p ∈ xs, w.ownsRow B 5 1 p.2 p.1.2.length (byts p.1.2)
theorem ReRow.nil (w : World) (B : Nat) : ReRow w B (.slice none 0 0) [] := ⟨World.ownsRow_nil w B _ 2, fun p hp => by cases hp⟩
theorem ReRow.grown {w w' : World} {S : Nat → Prop} {B : Nat} {v : Value} {xs : List EV} (h : ReRow w B v xs) (hg : Grown S w w') (hn : ∀ g, B ≤ g → g < w.heap.size → ¬ S g) : ReRow w' B v xs :=
 ⟨own_grown h.row hg hn, fun p hp => own_grown (h.val p hp) hg hn⟩
theorem ReRow.below {w w' : World} {B : Nat} {v : Value} {xs : List EV} (h : ReRow w B v xs) (hb : Below w.heap.size w w') : ReRow w' B v xs := h.grown (Grown.of_below hb) (fun _ _ _ h => h)
theorem ReRow.toAt {w : World} {B : Nat} {v : Value} {xs : List EV} (h : ReRow w B v xs) : EntsAt w w.heap.size v (xs.map (·.1)) :=
 EntsAt.ofRow h.row (fun p hp => RdB.of_own (h.val p hp)) (Nat.le_refl _)
/-- the last key -/
theorem ReRow.last {w : World} {B : Nat} {v : Value} {xs : List EV} (h : ReRow w B v xs) (hn : 0 < xs.length) : ∃ g cap, v = .slice (some ⟨g, 0, none⟩) xs.length cap ∧ w.cell? ⟨g, 0 + (xs.length - 1) * 2, none⟩ = some (strV (xs[xs.length - 1]'(by omega)).1.1) := by
 have hr := h.row
 rcases h.row.2 with ⟨rfl, h0⟩ | ⟨g, cap, cur, rfl, hB, hg, hn2, hc, _⟩
 ·omega
 ·obtain ⟨e0, _⟩ := rowR_get xs (xs.length - 1) (by omega)
  refine ⟨g, cap, rfl, ?_⟩
  rw [Nat.zero_add, hr.cellAt _ (by rw [← rowR_length]; exact (List.getElem?_eq_some_iff.1 e0).1), e0]
theorem wpList_re {w : World} {ops : Array Oper} {rest : List Oper} {o : Oper} {a : Act} {Q : Exit → Act → World → Prop} (hgd : o.guard = none) (s x : Operand)
 (ho : o.op = .call { callee := .builtin .append, args := #[s, x], argTypes := #[50, 50] })
 (B : Nat) (v : Value) (xs : List EV) (hs : a.eval s = v) (h : ReRow w B v xs) (g c : Nat) (y : EV) (hx : a.eval x = .slice (some ⟨g, 0, none⟩) 1 c)
 (hg : Blk w g 96 [strV y.1.1, y.2]) (hy : w.ownsRow B 5 1 y.2 y.1.2.length (byts y.1.2)) (h1 : y.2.oneCell' = true) (hn : xs.length ≤ 1000000) (hB : B ≤ w.heap.size)
 (hK : ∀ v' w', ReRow w' B v' (xs ++ [y]) → Below B w w' → wpList Tryz.prog ops Q rest (a.put o.dst v') w') : wpList Tryz.prog ops Q (o :: rest) a w := by
 have hi := infoRE
 obtain ⟨i, hi, hz⟩ := Option.map_eq_some_iff.1 hi
 simp only [Prod.mk.injEq] at hz
 obtain ⟨hz1, hz2, hz3⟩ := hz
 refine wpList_append_own (P := Tryz.prog) _ hgd s x 50 ho B 96 i _ 2 40 Tryz.underlying50 hi hz1 hz2 hz3 rfl (by decide) v xs.length (rowR xs) hs h.row ⟨g, 0, none⟩ 1 c [strV y.1.1, y.2] hx rfl ?_ ?_ ?_ ?_ hB ?_
 ·intro j u hu
  have e0 : (⟨g, 0, none⟩ : Addr).add j = ⟨g, j, none⟩ := by unfold Addr.add; split <;> simp_all
  have hj := (List.getElem?_eq_some_iff.1 hu).1
  rw [e0, hg.cell j hj, List.getD_eq_getElem?_getD, hu]; rfl
 ·intro u hu
  simp only [List.mem_cons, List.not_mem_nil, or_false] at hu
  rcases hu with rfl | rfl
  ·rfl
  ·exact h1
 ·unfold maxLen; omega
 ·omega
 ·intro v' w' hown hgr _
  have hb : Below B w w' := (Below.refl _ _).grown hgr hB (fun k e => (h.row.lt k e).1)
  refine hK v' w' ⟨?_, fun p hp => ?_⟩ hb
  ·rw [List.length_append, rowR_append]; exact hown
  ·have hne : ∀ q : Value, ∀ m zs, w.ownsRow B 5 1 q m zs → w'.ownsRow B 5 1 q m zs := fun q m zs hq => by
    refine hq.kept hgr ?_
    cases hq0 : q.ownBlock with
    | none => exact Or.inl rfl
    | some k =>
      refine Or.inr (fun e => ?_)
      rcases hq.2 with ⟨rfl, _⟩ | ⟨g1, c1, cur1, rfl, _, hh1, _⟩
      ·simp [Value.ownBlock] at hq0
      rcases h.row.2 with ⟨rfl, _⟩ | ⟨g2, c2, cur2, rfl, _, hh2, _⟩
      ·simp [Value.ownBlock] at e
      simp only [Value.ownBlock, Option.some.injEq] at hq0 e
      rw [hq0] at hh1
      rw [← e] at hh2
      rw [hh1] at hh2
      cases hh2
   rcases List.mem_append.1 hp with hp | hp
   ·exact hne _ _ _ (h.val p hp)
   ·obtain rfl : p = y := by simpa using hp
    exact hne _ _ _ hy
/-- whether an entry may follow -/
def okE (P : PEnts) (e : List UInt8 × List UInt8) : Bool :=
 !(decide (e.1.length < 1)) && !(decide (40 < e.1.length)) && !(decide (4096 < e.2.length)) && match P.getLast? with
   | none => true
   | some l => Op.bytesLess l.1 e.1
/-- the entries that bytes tell, behind some -/
def rStGo : Nat → List UInt8 → PEnts → Option PEnts
 | 0, _, P => some P
 | n + 1, b, P => if b.length < 1 then some P else match rOne b with
   | none => none
   | some (e, m) => if okE P e = true then rStGo n (b.drop m) (P ++ [e]) else none
def rStEnd (g many : Nat) (P : PEnts) : Option (Nat × PEnts) := if P.length = many ∧ pWt P ≤ 131072 then some (g, P) else none
def rStateR (b : List UInt8) : Option (Nat × PEnts) :=
 if b.length < 12 ∨ numV (b.take 8) < 1 ∨ 4611686018427387904 < numV (b.take 8) then none
 else match rStGo b.length (b.drop 12) [] with
  | none => none
  | some P => rStEnd (numV (b.take 8)) (numV ((b.drop 8).take 4)) P
theorem okE_eq (xs : List EV) (e : List UInt8 × List UInt8) : okE (xs.map (·.1)) e = (!(decide (e.1.length < 1)) && !(decide (40 < e.1.length)) && !(decide (4096 < e.2.length)) && if h : 0 < xs.length then Op.bytesLess (xs[xs.length - 1]'(by omega)).1.1 e.1 else true) := by
 unfold okE
 congr 1
 by_cases h : 0 < xs.length
 ·rw [dif_pos h, List.getLast?_eq_getElem?, List.length_map, List.getElem?_eq_getElem (by rw [List.length_map]; omega), List.getElem_map]
 ·have : xs = [] := List.eq_nil_of_length_eq_zero (by omega)
  subst this
  rfl
/-- what state returns -/
def StResR (R : Option (Nat × PEnts)) (e : Ending) (w : World) : Prop :=
 match R with
 | none => e = .returned (.tuple #[.int .i64 0, .slice none 0 0])
 | some (g, P) => ∃ v, e = .returned (.tuple #[.int .i64 g, v]) ∧ EntsAt w w.heap.size v P
theorem StResR.none {R : Option (Nat × PEnts)} {w : World} (h : R = none) : StResR R (.returned (.tuple #[.int .i64 0, .slice none 0 0])) w := by subst h; rfl
/-- how far it is -/
structure StAt (b : List UInt8) (P : PEnts) (i : Nat) : Prop where
 good : ¬ (b.length < 12 ∨ numV (b.take 8) < 1 ∨ 4611686018427387904 < numV (b.take 8))
 tell : ∃ n, rStGo b.length (b.drop 12) [] = rStGo n (b.drop i) P ∧ b.length ≤ n + i
 len : P.length ≤ i
 wt : pWt P ≤ i
theorem StAt.start (b : List UInt8) (h : ¬ (b.length < 12 ∨ numV (b.take 8) < 1 ∨ 4611686018427387904 < numV (b.take 8))) : StAt b [] 12 := ⟨h, ⟨b.length, rfl, by omega⟩, by simp, by simp [pWt]⟩
theorem StAt.step {b : List UInt8} {P : PEnts} {i : Nat} (h : StAt b P i) (hi : i < b.length) :
 (rOne (b.drop i) = none → rStateR b = none) ∧ ∀ e m, rOne (b.drop i) = some (e, m) → (okE P e = false → rStateR b = none) ∧ (okE P e = true → StAt b (P ++ [e]) (i + m)) := by
 obtain ⟨hg, ⟨n, h1, h2⟩, h3, h4⟩ := h
 cases n with
 | zero => omega
 | succ n =>
   have hl : (b.drop i).length = b.length - i := by rw [List.length_drop]
   have hno : rStGo b.length (b.drop 12) [] = none → rStateR b = none := fun h => by
    unfold rStateR
    rw [if_neg hg, h]
   rw [rStGo, if_neg (by omega)] at h1
   refine ⟨fun ho => ?_, fun e m ho => ?_⟩
   ·rw [ho] at h1
    exact hno h1
   ·rw [ho] at h1
    dsimp only at h1
    refine ⟨fun hk => ?_, fun hk => ?_⟩
    ·rw [if_neg (by rw [hk]; decide)] at h1
     exact hno h1
    ·rw [if_pos hk, List.drop_drop] at h1
     have hm := rOne_some ho
     refine ⟨hg, ⟨n, h1, by omega⟩, by simp; omega, ?_⟩
     unfold pWt at h4 ⊢
     rw [List.map_append, List.sum_append]
     simp [eWt]
     omega
theorem StAt.done {b : List UInt8} {P : PEnts} {i : Nat} (h : StAt b P i) (hi : b.length ≤ i) : rStateR b = rStEnd (numV (b.take 8)) (numV ((b.drop 8).take 4)) P := by
 obtain ⟨hg, ⟨n, h2, _⟩, _, _⟩ := h
 have e : rStGo n (b.drop i) P = some P := by
  cases n with
  | zero => rfl
  | succ n => rw [rStGo, if_pos (by rw [List.length_drop]; omega)]
 rw [e] at h2
 unfold rStateR
 rw [if_neg hg, h2]
end Go.Proofs.YtondomklkapogaaGreatDoor
