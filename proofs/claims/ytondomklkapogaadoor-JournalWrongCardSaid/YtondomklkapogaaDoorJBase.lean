/- Bytes in memory, as the journal's functions build and read them. -/
import Derived.Test.YtondomklkapogaaDoorProg
import Derived.Test.YtondomklkapogaaDoorBlk
import Derived.Lib.AppendStr
import Derived.Maps.AppendAt
namespace Go.Proofs.YtondomklkapogaaDoor
open Go.RowKit SeedP
/-- bytes as cells -/
def byts (l : List UInt8) : List Value := l.map fun b => Value.int .u8 b.toNat
theorem byts_length (l : List UInt8) : (byts l).length = l.length := by simp [byts]
theorem byts_append (a b : List UInt8) : byts (a ++ b) = byts a ++ byts b := by simp [byts]
theorem byts_one (l : List UInt8) : ∀ u ∈ byts l, u.oneCell' = true := by
  intro u hu; simp only [byts, List.mem_map] at hu; obtain ⟨b, _, rfl⟩ := hu; rfl
theorem strCells_byts (s : ByteArray) : Lib.strCells s = byts s.data.toList := rfl
theorem byts_get (l : List UInt8) (j : Nat) (h : j < l.length) : (byts l)[j]? = some (.int .u8 (l.getD j 0).toNat) := by
  simp [byts, List.getElem?_eq_getElem h, List.getD_eq_getElem?_getD]
/-- A slice of bytes, nil and empty let in, that lies below block B. -/
def RdB (w : World) (B : Nat) (v : Value) (l : List UInt8) : Prop :=
  ((v = .slice none 0 0 ∨ ∃ a cap, v = .slice (some a) 0 cap) ∧ l = []) ∨
  ∃ g off cap, v = .slice (some ⟨g, off, none⟩) l.length cap ∧ l.length ≤ cap ∧ cap ≤ maxLen ∧ g < B ∧ ∀ j, j < l.length → w.cell? ⟨g, off + j, none⟩ = some (.int .u8 (l.getD j 0).toNat)
theorem RdB.below {w w' : World} {B : Nat} {v : Value} {l : List UInt8} (h : RdB w B v l) (hb : Below B w w') : RdB w' B v l := by
  rcases h with h | ⟨g, off, cap, e, h1, h2, h3, h4⟩
  · exact Or.inl h
  · exact Or.inr ⟨g, off, cap, e, h1, h2, h3, fun j hj => (hb.cell (p := ⟨g, off + j, none⟩) h3).trans (h4 j hj)⟩
theorem RdB.mono {w : World} {B B' : Nat} {v : Value} {l : List UInt8} (h : RdB w B v l) (hB : B ≤ B') : RdB w B' v l := by
  rcases h with h | ⟨g, off, cap, e, h1, h2, h3, h4⟩
  · exact Or.inl h
  · exact Or.inr ⟨g, off, cap, e, h1, h2, by omega, h4⟩
theorem RdB.drew {w : World} {B : Nat} {v : Value} {l : List UInt8} (h : RdB w B v l) : RdB w.drew B v l := h
theorem RdB.nil (w : World) (B : Nat) : RdB w B (.slice none 0 0) [] := Or.inl ⟨Or.inl rfl, rfl⟩
theorem RdB.open_ {w : World} {B : Nat} {v : Value} {l : List UInt8} (h : RdB w B v l) :
    ∃ a cap, v = .slice a l.length cap ∧ l.length ≤ maxLen ∧ (a = none → l.length = 0 ∧ cap = 0) ∧ (l = [] ∨ ∃ g off, a = some ⟨g, off, none⟩ ∧ l.length ≤ cap ∧ cap ≤ maxLen ∧ g < B ∧ ∀ j, j < l.length → w.cell? ⟨g, off + j, none⟩ = some (.int .u8 (l.getD j 0).toNat)) := by
  rcases h with ⟨hv, rfl⟩ | ⟨g, off, cap, rfl, h1, h2, h3, h4⟩
  · rcases hv with rfl | ⟨a, cap, rfl⟩
    · exact ⟨none, 0, rfl, by simp [maxLen], fun _ => ⟨rfl, rfl⟩, Or.inl rfl⟩
    · exact ⟨some a, cap, rfl, by simp [maxLen], fun h => (by cases h), Or.inl rfl⟩
  · exact ⟨_, cap, rfl, by omega, fun h => (by cases h), Or.inr ⟨g, off, rfl, h1, h2, h3, h4⟩⟩
/-- what a call has built reads as it should -/
theorem RdB.of_own {w : World} {B : Nat} {e : TypeId} {v : Value} {n : Nat} {l : List UInt8} (h : w.ownsRow B e 1 v n (byts l)) : RdB w w.heap.size v l := by
  have h' := h
  obtain ⟨hl, h2⟩ := h
  rw [Nat.mul_one, byts_length] at hl
  rcases h2 with ⟨rfl, rfl⟩ | ⟨g, cap, cur, rfl, hb, hg, hn, hc, hs, ht⟩
  · exact Or.inl ⟨Or.inl rfl, List.eq_nil_of_length_eq_zero hl⟩
  · refine Or.inr ⟨g, 0, cap, by rw [hl], by omega, hc, (Array.getElem?_eq_some_iff.1 hg).1, fun j hj => ?_⟩
    rw [Nat.zero_add, h'.cellAt j (by omega), byts_get l j hj]
theorem infoB : (Tryd.prog.info? 5).map (fun i => (i.zero, i.size, i.bytes)) = some (some (.int .u8 0), 1, 1) := by kernel_rfl
theorem below_own {w w' : World} {B : Nat} {v : Value} {n : Nat} {xs : List Value} {e : TypeId} (hown : w.ownsRow B e 1 v n xs) (hg : w.grownBy w' v.ownBlock) (hB : B ≤ w.heap.size) : Below B w w' :=
  (Below.refl _ _).grown hg hB (fun k hk => (hown.lt k hk).1)
/-- a block of another type is not the row -/
theorem own_ne {w : World} {B : Nat} {v : Value} {n : Nat} {xs : List Value} {e t : TypeId} {g : Nat} {cs : List Value} (hown : w.ownsRow B e 1 v n xs) (hg : Blk w g t cs) (hne : e ≠ t) : v.ownBlock ≠ some g := by
  rcases hown.2 with ⟨rfl, _⟩ | ⟨g', cap, cur, rfl, _, hh, _⟩
  · simp [Value.ownBlock]
  · intro he
    have : g' = g := by simpa [Value.ownBlock] using he
    subst this
    unfold Blk at hg
    rw [hh] at hg
    simp only [Option.some.injEq, Obj.cells.injEq] at hg
    exact hne hg.2.1
theorem Blk.own {w w' : World} {B : Nat} {v : Value} {n : Nat} {xs : List Value} {e t : TypeId} {g : Nat} {cs : List Value} (hg : Blk w g t cs) (hown : w.ownsRow B e 1 v n xs) (hgr : w.grownBy w' v.ownBlock) (hne : e ≠ t) : Blk w' g t cs :=
  (hgr.block g hg.lt (fun h => own_ne hown hg hne h.symm)).trans hg
/-- the old blocks that are no rows of bytes are as they were -/
def Kept (w w' : World) : Prop := ∀ k, k < w.heap.size → (∀ cur fr, w.heap[k]? ≠ some (.cells cur 5 fr)) → w'.heap[k]? = w.heap[k]?
theorem Kept.refl (w : World) : Kept w w := fun _ _ _ => rfl
theorem Kept.trans {w w' w'' : World} (h : Kept w w') (h' : Kept w' w'') : Kept w w'' := fun k hk hn => by
  have e := h k hk hn
  have hlt : k < w'.heap.size := by
    rw [Array.getElem?_eq_getElem hk] at e
    exact (Array.getElem?_eq_some_iff.1 e).1
  rw [h' k hlt (by rw [e]; exact hn), e]
theorem Kept.of_below {w w' : World} (h : Below w.heap.size w w') : Kept w w' := fun k hk _ => h.block k hk
theorem Kept.of_own {w w' : World} {B : Nat} {v : Value} {n : Nat} {xs : List Value} (hown : w.ownsRow B 5 1 v n xs) (hg : w.grownBy w' v.ownBlock) : Kept w w' := fun k hk hn =>
  hg.block k hk (fun e => by
    rcases hown.2 with ⟨rfl, _⟩ | ⟨g', cap, cur, rfl, _, hh, _⟩
    · simp [Value.ownBlock] at e
    · have : k = g' := by simpa [Value.ownBlock] using e
      subst this
      exact hn _ _ hh)
theorem Kept.alloc {w w' : World} (h : Kept w w') (_hs : w.heap.size ≤ w'.heap.size) (o : Obj) : Kept w (w'.alloc o) := h.trans (Kept.of_below ((Below.refl _ _).alloc (Nat.le_refl _) _))
theorem Blk.kept {w w' : World} {g : Nat} {t : TypeId} {cs : List Value} (h : Blk w g t cs) (hk : Kept w w') (ht : t ≠ 5) : Blk w' g t cs :=
  (hk g h.lt (fun cur fr e => by unfold Blk at h; rw [h] at e; simp only [Option.some.injEq, Obj.cells.injEq] at e; exact ht e.2.1)).trans h
theorem app_run {w : World} (ty : TypeId) (B : Nat) (v : Value) (n : Nat) (xs : List UInt8) (hown : w.ownsRow B 5 1 v n (byts xs))
    {B' : Nat} (vx : Value) (l : List UInt8) (hr : RdB w B' vx l) (hm : n + l.length ≤ 4294967296) (hB : B ≤ w.heap.size) :
    ∃ v' w', (Builtin.append_ #[26, 26] ty #[v, vx]).run Tryd.prog w = .ok v' w' ∧ w'.ownsRow B 5 1 v' (n + l.length) (byts (xs ++ l)) ∧ w.grownBy w' v.ownBlock := by
  obtain ⟨i, hi, hz, hs1, hby⟩ := info_parts infoB
  obtain ⟨ax, cap, rfl, _, hnone, hc⟩ := hr.open_
  rcases ax with _ | ax
  · obtain ⟨h0, rfl⟩ := hnone rfl
    obtain rfl : l = [] := List.eq_nil_of_length_eq_zero h0
    refine ⟨v, w, ?_, by simpa using hown, ⟨rfl, rfl, rfl, Nat.le_refl _, fun _ _ _ => rfl⟩⟩
    rcases hown.2 with ⟨rfl, rfl⟩ | ⟨g, cap, cur, rfl, _, _, hnc, _⟩
    · simp [Builtin.append_, run_underlying Tryd.underlying26, sizeOf, typeInfo, hi, Builtin.lenOf, Builtin.firstCells]
    · simp [Builtin.append_, run_underlying Tryd.underlying26, sizeOf, typeInfo, hi, Builtin.lenOf, Builtin.firstCells, hnc, storeCells]
  · have hcells : ∀ j u, (byts l)[j]? = some u → w.cell? (ax.add j) = some u := fun j u hu => by
      have hj := (List.getElem?_eq_some_iff.1 hu).1
      rw [byts_length] at hj
      rcases hc with rfl | ⟨g, off, hg, _, _, _, hcell⟩
      · simp at hj
      · cases hg
        have e : (⟨g, off, none⟩ : Addr).add j = ⟨g, off + j, none⟩ := by unfold Addr.add; split <;> simp_all
        rw [e, hcell j hj, ← hu, byts_get l j hj]
    obtain ⟨v', w', hr, h2, h3, _, h5⟩ := run_append_own_at (P := Tryd.prog) w B 26 ty 5 i (.int .u8 0) 1 1 Tryd.underlying26 hi hz hs1 hby rfl (by decide) v n (byts xs) hown ax l.length cap (byts l) (by rw [byts_length, Nat.mul_one]) hcells (byts_one l) (by unfold maxLen; omega) (by omega) hB
    exact ⟨v', w', hr, by rw [byts_append]; exact h2, h3⟩
theorem appS_run {w : World} (ty : TypeId) (B : Nat) (v : Value) (n : Nat) (xs : List UInt8) (hown : w.ownsRow B 5 1 v n (byts xs)) (k : ByteArray) (hm : n + k.size ≤ 4294967296) (hB : B ≤ w.heap.size) :
    ∃ v' w', (Builtin.append_ #[26, 9] ty #[v, .string k]).run Tryd.prog w = .ok v' w' ∧ w'.ownsRow B 5 1 v' (n + k.size) (byts (xs ++ k.data.toList)) ∧ w.grownBy w' v.ownBlock := by
  obtain ⟨i, hi, hz, hs1, hby⟩ := info_parts infoB
  obtain ⟨v', w', hr, h2, h3, _⟩ := Lib.run_append_own_string (P := Tryd.prog) w B 26 9 ty 5 i Tryd.underlying26 Tryd.underlying9 hi hz hs1 hby v n (byts xs) hown k (by unfold maxLen; omega) (by omega) hB
  exact ⟨v', w', hr, by rw [byts_append, ← strCells_byts]; exact h2, h3⟩
section
variable {w : World} {ops : Array Oper} {rest : List Oper} {o : Oper} {a : Act} {Q : Exit → Act → World → Prop} {K : Act → World → Prop} {E : Prop}
theorem wp_app (s x : Operand) (ho : o.op = .call { callee := .builtin .append, args := #[s, x], argTypes := #[26, 26] })
    (B : Nat) (v : Value) (n : Nat) (xs : List UInt8) (hs : a.eval s = v) (hown : w.ownsRow B 5 1 v n (byts xs))
    {B' : Nat} (vx : Value) (l : List UInt8) (hx : a.eval x = vx) (hr : RdB w B' vx l) (hm : n + l.length ≤ 4294967296) (hB : B ≤ w.heap.size)
    (h : ∀ v' w', w'.ownsRow B 5 1 v' (n + l.length) (byts (xs ++ l)) → w.grownBy w' v.ownBlock → K (a.put o.dst v') w') : o.wp Tryd.prog a w K Q := by
  obtain ⟨v', w', hr, h2, h3⟩ := app_run o.type B v n xs hown vx l hr hm hB
  unfold Oper.wp execOp
  simp only [ho, resolve, invoke, builtin, Sem.run_bind, Sem.run_pure, Result.andThen_ok, List.map_toArray, List.map_cons, List.map_nil, hs, hx, hr]
  exact h v' w' h2 h3
theorem wp_appS (s x : Operand) (ho : o.op = .call { callee := .builtin .append, args := #[s, x], argTypes := #[26, 9] })
    (B : Nat) (v : Value) (n : Nat) (xs : List UInt8) (hs : a.eval s = v) (hown : w.ownsRow B 5 1 v n (byts xs))
    (k : ByteArray) (hx : a.eval x = .string k) (hm : n + k.size ≤ 4294967296) (hB : B ≤ w.heap.size)
    (h : ∀ v' w', w'.ownsRow B 5 1 v' (n + k.size) (byts (xs ++ k.data.toList)) → w.grownBy w' v.ownBlock → K (a.put o.dst v') w') : o.wp Tryd.prog a w K Q := by
  obtain ⟨v', w', hr, h2, h3⟩ := appS_run o.type B v n xs hown k hm hB
  unfold Oper.wp execOp
  simp only [ho, resolve, invoke, builtin, Sem.run_bind, Sem.run_pure, Result.andThen_ok, List.map_toArray, List.map_cons, List.map_nil, hs, hx, hr]
  exact h v' w' h2 h3
/-- append of bytes, wherever they lie, nil let in, onto a row of the call's own -/
theorem wpList_app (hgd : o.guard = none) (s x : Operand) (ho : o.op = .call { callee := .builtin .append, args := #[s, x], argTypes := #[26, 26] })
    (B : Nat) (v : Value) (n : Nat) (xs : List UInt8) (hs : a.eval s = v) (hown : w.ownsRow B 5 1 v n (byts xs))
    {B' : Nat} (vx : Value) (l : List UInt8) (hx : a.eval x = vx) (hr : RdB w B' vx l) (hm : n + l.length ≤ 4294967296) (hB : B ≤ w.heap.size)
    (h : ∀ v' w', w'.ownsRow B 5 1 v' (n + l.length) (byts (xs ++ l)) → Below B w w' → wpList Tryd.prog ops Q rest (a.put o.dst v') w') :
    wpList Tryd.prog ops Q (o :: rest) a w :=
  wpList_plain hgd fun _ hK => wp_app s x ho B v n xs hs hown vx l hx hr hm hB fun v' w' h2 h3 => hK _ _ (h v' w' h2 (below_own hown h3 hB))
/-- append of a string's bytes -/
theorem wpList_appS (hgd : o.guard = none) (s x : Operand) (ho : o.op = .call { callee := .builtin .append, args := #[s, x], argTypes := #[26, 9] })
    (B : Nat) (v : Value) (n : Nat) (xs : List UInt8) (hs : a.eval s = v) (hown : w.ownsRow B 5 1 v n (byts xs))
    (k : ByteArray) (hx : a.eval x = .string k) (hm : n + k.size ≤ 4294967296) (hB : B ≤ w.heap.size)
    (h : ∀ v' w', w'.ownsRow B 5 1 v' (n + k.size) (byts (xs ++ k.data.toList)) → Below B w w' → wpList Tryd.prog ops Q rest (a.put o.dst v') w') :
    wpList Tryd.prog ops Q (o :: rest) a w :=
  wpList_plain hgd fun _ hK => wp_appS s x ho B v n xs hs hown k hx hm hB fun v' w' h2 h3 => hK _ _ (h v' w' h2 (below_own hown h3 hB))
theorem wpList_appK (hgd : o.guard = none) (s x : Operand) (ho : o.op = .call { callee := .builtin .append, args := #[s, x], argTypes := #[26, 26] })
    (B : Nat) (v : Value) (n : Nat) (xs : List UInt8) (hs : a.eval s = v) (hown : w.ownsRow B 5 1 v n (byts xs))
    {B' : Nat} (vx : Value) (l : List UInt8) (hx : a.eval x = vx) (hr : RdB w B' vx l) (hm : n + l.length ≤ 4294967296) (hB : B ≤ w.heap.size)
    (h : ∀ v' w', w'.ownsRow B 5 1 v' (n + l.length) (byts (xs ++ l)) → Below B w w' → Kept w w' → wpList Tryd.prog ops Q rest (a.put o.dst v') w') :
    wpList Tryd.prog ops Q (o :: rest) a w :=
  wpList_plain hgd fun _ hK => wp_app s x ho B v n xs hs hown vx l hx hr hm hB fun v' w' h2 h3 => hK _ _ (h v' w' h2 (below_own hown h3 hB) (Kept.of_own hown h3))
theorem wpList_appSK (hgd : o.guard = none) (s x : Operand) (ho : o.op = .call { callee := .builtin .append, args := #[s, x], argTypes := #[26, 9] })
    (B : Nat) (v : Value) (n : Nat) (xs : List UInt8) (hs : a.eval s = v) (hown : w.ownsRow B 5 1 v n (byts xs))
    (k : ByteArray) (hx : a.eval x = .string k) (hm : n + k.size ≤ 4294967296) (hB : B ≤ w.heap.size)
    (h : ∀ v' w', w'.ownsRow B 5 1 v' (n + k.size) (byts (xs ++ k.data.toList)) → Below B w w' → Kept w w' → wpList Tryd.prog ops Q rest (a.put o.dst v') w') :
    wpList Tryd.prog ops Q (o :: rest) a w :=
  wpList_plain hgd fun _ hK => wp_appS s x ho B v n xs hs hown k hx hm hB fun v' w' h2 h3 => hK _ _ (h v' w' h2 (below_own hown h3 hB) (Kept.of_own hown h3))
/-- the same in a region that draws its order -/
theorem step_app (hgd : o.guard = none) (s x : Operand) (ho : o.op = .call { callee := .builtin .append, args := #[s, x], argTypes := #[26, 26] })
    (B : Nat) (v : Value) (n : Nat) (xs : List UInt8) (hs : a.eval s = v) (hown : w.ownsRow B 5 1 v n (byts xs))
    {B' : Nat} (vx : Value) (l : List UInt8) (hx : a.eval x = vx) (hr : RdB w B' vx l) (hm : n + l.length ≤ 4294967296) (hB : B ≤ w.heap.size)
    (h : ∀ v' w', w'.ownsRow B 5 1 v' (n + l.length) (byts (xs ++ l)) → w.grownBy w' v.ownBlock → K (a.put o.dst v') w') :
    if Region.wanted o (yielded ops a.tmps) = true then Oper.wp Tryd.prog o a w K Q else E := by
  rw [if_pos (by simp [Region.wanted, hgd])]
  exact wp_app s x ho B v n xs hs hown vx l hx hr hm hB h
theorem step_appS (hgd : o.guard = none) (s x : Operand) (ho : o.op = .call { callee := .builtin .append, args := #[s, x], argTypes := #[26, 9] })
    (B : Nat) (v : Value) (n : Nat) (xs : List UInt8) (hs : a.eval s = v) (hown : w.ownsRow B 5 1 v n (byts xs))
    (k : ByteArray) (hx : a.eval x = .string k) (hm : n + k.size ≤ 4294967296) (hB : B ≤ w.heap.size)
    (h : ∀ v' w', w'.ownsRow B 5 1 v' (n + k.size) (byts (xs ++ k.data.toList)) → w.grownBy w' v.ownBlock → K (a.put o.dst v') w') :
    if Region.wanted o (yielded ops a.tmps) = true then Oper.wp Tryd.prog o a w K Q else E := by
  rw [if_pos (by simp [Region.wanted, hgd])]
  exact wp_appS s x ho B v n xs hs hown k hx hm hB h
end
/-- the bytes of a literal slice that was just laid -/
theorem rdB_lit (w : World) (l : List UInt8) (hm : l.length ≤ maxLen) (n : Nat) (hn : n = l.length) : RdB (w.alloc (.cells (byts l).toArray 5)) (w.heap.size + 1) (.slice (some ⟨w.heap.size, 0, none⟩) n n) l := by
  subst hn
  refine Or.inr ⟨w.heap.size, 0, l.length, rfl, Nat.le_refl _, hm, by omega, fun j hj => ?_⟩
  have h := (Blk.new w 5 (byts l)).cell j (by rw [byts_length]; exact hj)
  rw [Nat.zero_add, h, List.getD_eq_getElem?_getD, byts_get l j hj]; rfl
theorem own_lit (w : World) (B : Nat) (l : List UInt8) (hm : l.length ≤ maxLen) (n : Nat) (hn : n = l.length) (hB : B ≤ w.heap.size) : (w.alloc (.cells (byts l).toArray 5)).ownsRow B 5 1 (.slice (some ⟨w.heap.size, 0, none⟩) n n) n (byts l) := by
  subst hn
  have h := World.ownsRow_lit (base := B) (e := 5) (size := 1) w (byts l).toArray l.length hB hm (by simp [byts_length])
  simpa using h
end Go.Proofs.YtondomklkapogaaDoor
