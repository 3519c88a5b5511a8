/- A step's changes under way, in memory. -/
import Derived.Test.YtondomklkapogaaDoorJEnts
namespace Go.Proofs.YtondomklkapogaaDoor
open Go.RowKit SeedP Go.Maps
theorem own_keep {w w' : World} {S : Nat → Prop} {B n m : Nat} {e : TypeId} {v : Value} {xs : List Value} (h : w.ownsRow B e m v n xs) (hg : Grown S w w') (hn : ∀ g, v.ownBlock = some g → ¬ S g) : w'.ownsRow B e m v n xs := by
  obtain ⟨hl, h2⟩ := h
  rcases h2 with h2 | ⟨g, cap, cur, rfl, hB, h3, r⟩
  · exact ⟨hl, Or.inl h2⟩
  · exact ⟨hl, Or.inr ⟨g, cap, cur, rfl, hB, (hg.block g (Array.getElem?_eq_some_iff.1 h3).1 (hn g rfl)).trans h3, r⟩⟩
theorem own_apart {w : World} {B n m : Nat} {e t : TypeId} {v : Value} {xs cs : List Value} {g : Nat} (h : w.ownsRow B e m v n xs) (hg : Blk w g t cs) (hne : e ≠ t) : v.ownBlock ≠ some g := by
  rcases h.2 with ⟨rfl, _⟩ | ⟨g', cap, cur, rfl, _, hh, _⟩
  · simp [Value.ownBlock]
  · intro he
    obtain rfl : g' = g := by simpa [Value.ownBlock] using he
    unfold Blk at hg
    rw [hh] at hg
    simp only [Option.some.injEq, Obj.cells.injEq] at hg
    exact hne hg.2.1
theorem own_apart2 {w : World} {B n m B' n' m' : Nat} {e t : TypeId} {v v' : Value} {xs xs' : List Value} (h : w.ownsRow B e m v n xs) (h' : w.ownsRow B' t m' v' n' xs') (hne : e ≠ t) : ∀ g, v.ownBlock = some g → v'.ownBlock ≠ some g := by
  rcases h.2 with ⟨rfl, _⟩ | ⟨g1, cap, cur, rfl, _, hh, _⟩
  · intro g hg; simp [Value.ownBlock] at hg
  · intro g hg he
    obtain rfl : g1 = g := by simpa [Value.ownBlock] using hg
    rcases h'.2 with ⟨rfl, _⟩ | ⟨g2, cap2, cur2, rfl, _, hh2, _⟩
    · simp [Value.ownBlock] at he
    · obtain rfl : g2 = g1 := by simpa [Value.ownBlock] using he
      rw [hh] at hh2
      simp only [Option.some.injEq, Obj.cells.injEq] at hh2
      exact hne hh2.2.1
theorem own_lt {w : World} {B n m : Nat} {e : TypeId} {v : Value} {xs : List Value} (h : w.ownsRow B e m v n xs) {g : Nat} (hg : v.ownBlock = some g) : B ≤ g ∧ g < w.heap.size := by
  rcases h.2 with ⟨rfl, _⟩ | ⟨g1, cap, cur, rfl, hB, hh, _⟩
  · simp [Value.ownBlock] at hg
  · obtain rfl : g1 = g := by simpa [Value.ownBlock] using hg
    exact ⟨hB, (Array.getElem?_eq_some_iff.1 hh).1⟩
theorem row_grown {w w' : World} {v : Value} (h : w.grownBy w' v.ownBlock) : Grown (fun g => v.ownBlock = some g) w w' := Grown.of_row h (fun _ e => e)
/-- an append of one change; the row alone turns -/
theorem wpList_chgG {w : World} {ops : Array Oper} {rest : List Oper} {o : Oper} {a : Act} {Q : Exit → Act → World → Prop} (hgd : o.guard = none) (s x : Operand)
    (ho : o.op = .call { callee := .builtin .append, args := #[s, x], argTypes := #[39, 39] })
    (B : Nat) (v : Value) (xs : List (Chg × Value)) (hs : a.eval s = v) (h : ChgRow w B v xs) (g c : Nat) (y : Chg × Value) (hx : a.eval x = .slice (some ⟨g, 0, none⟩) 1 c)
    (hg : Blk w g 65 (chgCells y)) (hy : w.ownsRow B 5 1 y.2 y.1.val.length (byts y.1.val)) (h1 : y.2.oneCell' = true) (hn : xs.length ≤ 1000000) (hB : B ≤ w.heap.size)
    (hK : ∀ v' w', ChgRow w' B v' (xs ++ [y]) → Grown (fun g => v.ownBlock = some g) w w' → wpList Tryd.prog ops Q rest (a.put o.dst v') w') : wpList Tryd.prog ops Q (o :: rest) a w := by
  have hi := infoC
  obtain ⟨i, hi, hz⟩ := Option.map_eq_some_iff.1 hi
  simp only [Prod.mk.injEq] at hz
  obtain ⟨hz1, hz2, hz3⟩ := hz
  refine wpList_append_own (P := Tryd.prog) _ hgd s x 39 ho B 65 i _ 3 48 Tryd.underlying39 hi hz1 hz2 hz3 rfl (by decide) v xs.length (crow xs) hs h.row ⟨g, 0, none⟩ 1 c (chgCells y) hx rfl ?_ ?_ ?_ ?_ hB ?_
  · intro j u hu
    have e0 : (⟨g, 0, none⟩ : Addr).add j = ⟨g, j, none⟩ := by unfold Addr.add; split <;> simp_all
    have hj := (List.getElem?_eq_some_iff.1 hu).1
    rw [e0, hg.cell j hj, List.getD_eq_getElem?_getD, hu]; rfl
  · intro u hu
    simp only [chgCells, List.mem_cons, List.not_mem_nil, or_false] at hu
    rcases hu with rfl | rfl | rfl
    · rfl
    · exact h1
    · rfl
  · unfold maxLen; omega
  · omega
  · intro v' w' hown hgr _
    refine hK v' w' ⟨?_, fun p hp => ?_⟩ (row_grown hgr)
    · rw [List.length_append, crow_snoc]; exact hown
    · rcases List.mem_append.1 hp with hp | hp
      · exact own_keep (h.val p hp) (row_grown hgr) (own_apart2 (h.val p hp) h.row (by decide))
      · obtain rfl := List.mem_singleton.1 hp
        exact own_keep hy (row_grown hgr) (own_apart2 hy h.row (by decide))
/-- the rest of a slice, as Go lays it -/
theorem RdE.dropIf {w : World} {q : Nat → Prop} {g n cap m : Nat} {P : PEnts} (h : RdE w q (.slice (some ⟨g, 0, none⟩) n cap) P) (hm : m ≤ n) (hq : q g) (hlt : g < w.heap.size) : RdE w q (.slice (if cap = m then some ⟨g, 0, none⟩ else some ⟨g, m * 2, none⟩) (n - m) (cap - m)) (P.drop m) := by
  have h2 := h.drop hm hq hlt
  rw [Nat.zero_add] at h2
  split
  · rename_i e
    obtain ⟨a', cap', e1, hl, hc, _, _⟩ := h
    simp only [Value.slice.injEq] at e1
    obtain ⟨rfl, rfl, rfl⟩ := e1
    have hd : P.drop m = [] := List.drop_eq_nil_of_le (by omega)
    rw [hd]
    exact ⟨_, cap - m, by rw [show P.length - m = 0 by omega]; rfl, Nat.zero_le _, by omega, fun h => (by cases h), Or.inl rfl⟩
  · exact h2
theorem own_mono {w : World} {B B' n m : Nat} {e : TypeId} {v : Value} {xs : List Value} (h : w.ownsRow B e m v n xs) (hB : B' ≤ B) : w.ownsRow B' e m v n xs := by
  refine ⟨h.1, ?_⟩
  rcases h.2 with h2 | ⟨g, cap, cur, e, hb, r⟩
  · exact Or.inl h2
  · exact Or.inr ⟨g, cap, cur, e, Nat.le_trans hB hb, r⟩
/-- an append of entries in a region that draws its order; the row alone turns -/
theorem step_appEG {w : World} {ops : Array Oper} {o : Oper} {a : Act} {Q : Exit → Act → World → Prop} {K : Act → World → Prop} {E : Prop} (hgd : o.guard = none) (s x : Operand) (ho : o.op = .call { callee := .builtin .append, args := #[s, x], argTypes := #[34, 34] })
    (B : Nat) (v : Value) (P : PEnts) (hs : a.eval s = v) (hown : w.ownsRow B 60 2 v P.length (rowE P))
    {q : Nat → Prop} (vx : Value) (R : PEnts) (hx : a.eval x = vx) (hr : RdE w q vx R) (hm : P.length + R.length ≤ 4294967296) (hB : B ≤ w.heap.size)
    (h : ∀ v' w', w'.ownsRow B 60 2 v' (P ++ R).length (rowE (P ++ R)) → Grown (fun g => v.ownBlock = some g) w w' → Below B w w' → K (a.put o.dst v') w') :
    if Region.wanted o (yielded ops a.tmps) = true then Oper.wp Tryd.prog o a w K Q else E := by
  rw [if_pos (by simp [Region.wanted, hgd])]
  exact wp_appE s x ho B v P hs hown vx R hx hr hm hB fun v' w' h2 h3 => h v' w' h2 (row_grown h3) ((Below.refl _ _).grown h3 hB (fun k hk => (hown.lt k hk).1))
/-- one entry that was just laid -/
theorem RdE.one {w : World} {q : Nat → Prop} {g : Nat} {k v : List UInt8} (h : Blk w g 60 [strV k, strV v]) (hq : q g) : RdE w q (.slice (some ⟨g, 0, none⟩) 1 1) [(k, v)] := by
  refine ⟨_, 1, rfl, Nat.le_refl _, by unfold maxLen; omega, fun h => (by cases h), Or.inr ⟨g, 0, rfl, hq, h.lt, fun j hj => ?_⟩⟩
  obtain rfl : j = 0 := by simp at hj; omega
  exact ⟨h.cell 0 (by simp), h.cell 1 (by simp)⟩
/-- a step, as a value -/
def stepV (s : StepP) : Value := .agg #[.int .u8 s.kind, .int .u8 s.n, .int .u8 s.a, .int .u8 s.b, .int .u16 s.power]
def stepC (s : StepP) : List Value := [.int .u8 s.kind, .int .u8 s.n, .int .u8 s.a, .int .u8 s.b, .int .u16 s.power]
structure StepP.Ok (s : StepP) : Prop where
  kind : s.kind < 256
  n : s.n < 256
  a : s.a < 256
  b : s.b < 256
  power : s.power < 65536
/-- the changes and the entries between two rounds -/
structure ChgW (w wr : World) (s : StepP) (lv nv : Value) (xs : List (Chg × Value)) (Q : PEnts) : Prop where
  box : Blk wr w.heap.size 36 (stepC s)
  row : ChgRow wr (w.heap.size + 1) lv xs
  now : wr.ownsRow (w.heap.size + 1) 60 2 nv Q.length (rowE Q)
  below : Below w.heap.size w wr
/-- within a round: the change that is made lies in block cb -/
structure ChgC (w wx : World) (s : StepP) (lv nv : Value) (xs : List (Chg × Value)) (Q : PEnts) (cb : Nat) (y : Chg × Value) : Prop where
  base : ChgW w wx s lv nv xs Q
  chg : Blk wx cb 65 (chgCells y)
  val : wx.ownsRow (w.heap.size + 1) 5 1 y.2 y.1.val.length (byts y.1.val)
  apart : lv.ownBlock ≠ some cb
  low : w.heap.size + 1 ≤ cb
theorem ChgW.keep {w wr wr' : World} {s : StepP} {lv nv : Value} {xs : List (Chg × Value)} {Q : PEnts} (h : ChgW w wr s lv nv xs Q) (hb : Below wr.heap.size wr wr') : ChgW w wr' s lv nv xs Q :=
  ⟨h.box.below hb, h.row.grown (Grown.of_below hb (S := fun _ => False)) (fun _ _ _ h => h), own_grown h.now (Grown.of_below hb (S := fun _ => False)) (fun _ _ _ h => h), h.below.trans (hb.mono h.below.size)⟩
theorem ChgC.keep {w wr wr' : World} {s : StepP} {lv nv : Value} {xs : List (Chg × Value)} {Q : PEnts} {cb : Nat} {y : Chg × Value} (h : ChgC w wr s lv nv xs Q cb y) (hb : Below wr.heap.size wr wr') : ChgC w wr' s lv nv xs Q cb y :=
  ⟨h.base.keep hb, h.chg.below hb, own_grown h.val (Grown.of_below hb (S := fun _ => False)) (fun _ _ _ h => h), h.apart, h.low⟩
theorem undrew' {B : Nat} {a w : World} (h : Below B a w) : Below B a w.drew := ⟨h.os, h.tape, h.output, h.size, h.block⟩
theorem below_drew (w : World) : Below w.heap.size w w.drew := ⟨rfl, rfl, rfl, Nat.le_refl _, fun _ _ => rfl⟩
theorem below_drewN' (w : World) (n : Nat) : Below w.heap.size w (w.drewN n) := ⟨rfl, rfl, rfl, Nat.le_refl _, fun _ _ => rfl⟩
/-- the change alone turns -/
theorem ChgC.turn {w wr wr' : World} {s : StepP} {lv nv : Value} {xs : List (Chg × Value)} {Q : PEnts} {cb : Nat} {y y' : Chg × Value} (h : ChgC w wr s lv nv xs Q cb y) (hg : Grown (fun g => g = cb) wr wr') (hc : Blk wr' cb 65 (chgCells y')) (hv : wr.ownsRow (w.heap.size + 1) 5 1 y'.2 y'.1.val.length (byts y'.1.val)) : ChgC w wr' s lv nv xs Q cb y' := by
  have hlow := h.low
  refine ⟨⟨h.base.box.grown hg (by omega), ⟨own_keep h.base.row.row hg (fun g hg e => h.apart (by rw [hg, e])), fun p hp => own_keep (h.base.row.val p hp) hg (fun g hg e => own_apart (h.base.row.val p hp) h.chg (by decide) (by rw [hg, e]))⟩, own_keep h.base.now hg (fun g hg e => own_apart h.base.now h.chg (by decide) (by rw [hg, e])), h.base.below.trans (hg.below (fun k e => by omega) h.base.below.size)⟩, hc, own_keep hv hg (fun g hg e => own_apart hv h.chg (by decide) (by rw [hg, e])), h.apart, h.low⟩
/-- the entries alone turn -/
theorem ChgC.ents {w wr wr' : World} {s : StepP} {lv nv nv' : Value} {xs : List (Chg × Value)} {Q Q' : PEnts} {cb : Nat} {y : Chg × Value} (h : ChgC w wr s lv nv xs Q cb y) (hg : Grown (fun g => nv.ownBlock = some g) wr wr') (hn : wr'.ownsRow (w.heap.size + 1) 60 2 nv' Q'.length (rowE Q')) : ChgC w wr' s lv nv' xs Q' cb y := by
  refine ⟨⟨h.base.box.grown hg (own_apart h.base.now h.base.box (by decide)), ⟨own_keep h.base.row.row hg (own_apart2 h.base.row.row h.base.now (by decide)), fun p hp => own_keep (h.base.row.val p hp) hg (own_apart2 (h.base.row.val p hp) h.base.now (by decide))⟩, hn, h.base.below.trans (hg.below (fun k e => by have := own_lt h.base.now e; omega) h.base.below.size)⟩, h.chg.grown hg (own_apart h.base.now h.chg (by decide)), own_keep h.val hg (own_apart2 h.val h.base.now (by decide)), h.apart, h.low⟩
/-- the change is appended -/
theorem ChgC.done {w wr wr' : World} {s : StepP} {lv lv' nv : Value} {xs : List (Chg × Value)} {Q : PEnts} {cb : Nat} {y : Chg × Value} (h : ChgC w wr s lv nv xs Q cb y) (hg : Grown (fun g => lv.ownBlock = some g) wr wr') (hr : ChgRow wr' (w.heap.size + 1) lv' (xs ++ [y])) : ChgW w wr' s lv' nv (xs ++ [y]) Q :=
  ⟨h.base.box.grown hg (own_apart h.base.row.row h.base.box (by decide)), hr, own_keep h.base.now hg (own_apart2 h.base.now h.base.row.row (by decide)), h.base.below.trans (hg.below (fun k e => by have := own_lt h.base.row.row e; omega) h.base.below.size)⟩
/-- a new row of bytes -/
theorem own_bytes (w : World) (l : List UInt8) (B : Nat) (hB : B ≤ w.heap.size) (hl : l.length ≤ maxLen) : (w.alloc (.cells (byts l).toArray 5)).ownsRow B 5 1 (.slice (some ⟨w.heap.size, 0, none⟩) l.length l.length) l.length (byts l) := by
  exact ⟨by rw [byts_length]; omega, .inr ⟨w.heap.size, l.length, (byts l).toArray, rfl, hB, heap_alloc_new w _, Nat.le_refl _, hl, by rw [List.size_toArray, byts_length]; omega, by rw [Nat.mul_one]; show (byts l).take _ = _; rw [← byts_length l, List.take_length]⟩⟩
/-- a block that is known whole, as a row -/
theorem own_blk {w : World} {g B n : Nat} {t : TypeId} {cs : List Value} (h : Blk w g t cs) (hB : B ≤ g) (hn : cs.length = n) (hm : n ≤ maxLen) : w.ownsRow B t 1 (.slice (some ⟨g, 0, none⟩) n n) n cs :=
  ⟨by omega, .inr ⟨g, n, cs.toArray, rfl, hB, h, Nat.le_refl _, hm, by rw [List.size_toArray]; omega, by rw [Nat.mul_one]; show cs.take n = cs; rw [← hn, List.take_length]⟩⟩
section
variable {w wr : World} {s : StepP} {lv nv : Value} {xs : List (Chg × Value)} {Q : PEnts} {k : List UInt8} {b j a : Nat}
/-- the change is laid -/
def NewC (w wx : World) (s : StepP) (lv nv : Value) (xs : List (Chg × Value)) (Q : PEnts) (cb : Nat) (k : List UInt8) (b j a : Nat) : Prop :=
  ∃ (cb' : Nat) (y : Chg × Value), Value.pointer (some ⟨cb, 0, none⟩) = .pointer (some ⟨cb', 0, none⟩) ∧ y.1 = ⟨k, [UInt8.ofNat b, UInt8.ofNat j, UInt8.ofNat a], false⟩ ∧ ChgC w wx s lv nv xs Q cb' y
theorem newC {wx : World} (hC : ChgW w wr s lv nv xs Q) (hb : Below wr.heap.size wr wx) {cb fb : Nat} (h1 : wr.heap.size ≤ cb) (h2 : wr.heap.size ≤ fb) (h3 : b < 256 ∧ j < 256 ∧ a < 256)
    (hc : Blk wx cb 65 [strV k, .slice (some ⟨fb, 0, none⟩) 3 3, .bool false]) (hf : Blk wx fb 5 [.int .u8 b, .int .u8 j, .int .u8 a]) : NewC w wx s lv nv xs Q cb k b j a := by
  have hl := hC.box.lt
  have e : ∀ n : Nat, n < 256 → (Value.int .u8 (n : Int)) = .int .u8 ((UInt8.ofNat n).toNat : Int) := fun n hn => by rw [UInt8.toNat_ofNat', Nat.mod_eq_of_lt (by omega)]
  refine ⟨cb, (⟨k, [UInt8.ofNat b, UInt8.ofNat j, UInt8.ofNat a], false⟩, .slice (some ⟨fb, 0, none⟩) 3 3), rfl, rfl, hC.keep hb, hc, ?_, ?_, by omega⟩
  · have hf' : Blk wx fb 5 (byts [UInt8.ofNat b, UInt8.ofNat j, UInt8.ofNat a]) := by
      unfold byts
      simp only [List.map_cons, List.map_nil]
      rw [← e b h3.1, ← e j h3.2.1, ← e a h3.2.2]
      exact hf
    exact own_blk hf' (by omega) rfl (by decide)
  · intro e2
    have := (own_lt hC.row.row e2).2
    omega
abbrev oC (v0 v1 : Value) : Obj := .cells #[v0, v1, .bool false] 65
abbrev oF (b j a : Nat) : Obj := .cells #[.int .u8 b, .int .u8 j, .int .u8 a] 5
def set3 (w : World) (g : Nat) (v0 v1 v2 : Value) : World := ((w.setCell ⟨g, 0, none⟩ v0).setCell ⟨g, 1, none⟩ v1).setCell ⟨g, 2, none⟩ v2
theorem set3_blk {w : World} {g : Nat} {t : TypeId} {x0 x1 x2 : Value} (h : Blk w g t [x0, x1, x2]) (v0 v1 v2 : Value) : Blk (set3 w g v0 v1 v2) g t [v0, v1, v2] := ((h.set 0 v0).set 1 v1).set 2 v2
theorem set3_other {w : World} {g g' : Nat} {t : TypeId} {cs : List Value} (h : Blk w g' t cs) (hn : g' ≠ g) (v0 v1 v2 : Value) : Blk (set3 w g v0 v1 v2) g' t cs := ((h.other (a := ⟨g, 0, none⟩) hn v0).other (a := ⟨g, 1, none⟩) hn v1).other (a := ⟨g, 2, none⟩) hn v2
theorem set3_below {B : Nat} {w w' : World} (h : Below B w w') {g : Nat} (hg : B ≤ g) (v0 v1 v2 : Value) : Below B w (set3 w' g v0 v1 v2) := ((h.setCell (p := ⟨g, 0, none⟩) hg v0).setCell (p := ⟨g, 1, none⟩) hg v1).setCell (p := ⟨g, 2, none⟩) hg v2
theorem step_b {w0 w3 : World} (h : Below wr.heap.size wr w0) (hb3 : Below w0.drew.heap.size w0.drew w3) : Below wr.heap.size wr w3 := h.trans ((undrew hb3).mono h.size)
variable {w3 : World} (hC : ChgW w wr s lv nv xs Q) (h3 : b < 256 ∧ j < 256 ∧ a < 256)
include hC h3
theorem new1 (hb3 : Below wr.drew.heap.size wr.drew w3) : NewC w ((w3.alloc (oF b j a)).alloc (oC (strV k) (.slice (some ⟨w3.heap.size, 0, none⟩) 3 3))) s lv nv xs Q (w3.heap.size + 1) k b j a := by
  have hb := step_b (Below.refl _ _) hb3
  have hz := hb.size
  refine newC hC ((hb.alloc hz _).alloc (by simp; omega) _) (by omega) hz h3 (Blk.at (w3.alloc (oF b j a)) _ [strV k, .slice (some ⟨w3.heap.size, 0, none⟩) 3 3, .bool false] (by simp)) ((Blk.new w3 _ [.int .u8 b, .int .u8 j, .int .u8 a]).alloc _)
theorem new2 (hb3 : Below wr.drew.heap.size wr.drew w3) : NewC w ((w3.alloc (oC (strV k) (.slice (some ⟨w3.heap.size + 1, 0, none⟩) 3 3))).alloc (oF b j a)) s lv nv xs Q w3.heap.size k b j a := by
  have hb := step_b (Below.refl _ _) hb3
  have hz := hb.size
  refine newC hC ((hb.alloc hz _).alloc (by simp; omega) _) hz (by omega) h3 ((Blk.new w3 _ [strV k, .slice (some ⟨w3.heap.size + 1, 0, none⟩) 3 3, .bool false]).alloc _) (Blk.at (w3.alloc _) _ [.int .u8 b, .int .u8 j, .int .u8 a] (by simp))
theorem new3 (hb3 : Below (wr.alloc (oF b j a)).drew.heap.size (wr.alloc (oF b j a)).drew w3) : NewC w (w3.alloc (oC (strV k) (.slice (some ⟨wr.heap.size, 0, none⟩) 3 3))) s lv nv xs Q w3.heap.size k b j a := by
  have hb := step_b ((Below.refl _ wr).alloc (Nat.le_refl _) _) hb3
  have hz := hb.size
  have hf := (Blk.new wr 5 [.int .u8 b, .int .u8 j, .int .u8 a]).drew.below hb3
  exact newC hC (hb.alloc hz _) hz (Nat.le_refl _) h3 (Blk.new w3 _ [strV k, .slice (some ⟨wr.heap.size, 0, none⟩) 3 3, .bool false]) (hf.alloc _)
theorem new4 (hb3 : Below ((wr.alloc (oF b j a)).alloc (oC (.string ⟨#[]⟩) (.slice none 0 0))).drew.heap.size ((wr.alloc (oF b j a)).alloc (oC (.string ⟨#[]⟩) (.slice none 0 0))).drew w3) : NewC w (set3 w3 (wr.heap.size + 1) (strV k) (.slice (some ⟨wr.heap.size, 0, none⟩) 3 3) (.bool false)) s lv nv xs Q (wr.heap.size + 1) k b j a := by
  have hb := step_b (((Below.refl _ wr).alloc (Nat.le_refl _) _).alloc (by simp) _) hb3
  have hf := ((Blk.new wr 5 [.int .u8 b, .int .u8 j, .int .u8 a]).alloc (oC (.string ⟨#[]⟩) (.slice none 0 0))).drew.below hb3
  have hc := (Blk.at (wr.alloc (oF b j a)) 65 [.string ⟨#[]⟩, .slice none 0 0, .bool false] (g := wr.heap.size + 1) (by simp)).drew.below hb3
  exact newC hC (set3_below hb (by omega) _ _ _) (by omega) (Nat.le_refl _) h3 (set3_blk hc _ _ _) (set3_other hf (by omega) _ _ _)
theorem new5 (hb3 : Below (wr.alloc (oC (.string ⟨#[]⟩) (.slice none 0 0))).drew.heap.size (wr.alloc (oC (.string ⟨#[]⟩) (.slice none 0 0))).drew w3) : NewC w ((set3 w3 wr.heap.size (strV k) (.slice (some ⟨w3.heap.size, 0, none⟩) 3 3) (.bool false)).alloc (oF b j a)) s lv nv xs Q wr.heap.size k b j a := by
  have hb := step_b ((Below.refl _ wr).alloc (Nat.le_refl _) _) hb3
  have hz := hb.size
  have hc := (Blk.new wr 65 [.string ⟨#[]⟩, .slice none 0 0, .bool false]).drew.below hb3
  exact newC hC ((set3_below hb (Nat.le_refl _) _ _ _).alloc (by unfold set3; simp; omega) _) (Nat.le_refl _) hz h3 ((set3_blk hc _ _ _).alloc _) (Blk.at _ _ [.int .u8 b, .int .u8 j, .int .u8 a] (by unfold set3; simp))
theorem new6 (hb3 : Below ((wr.alloc (oC (.string ⟨#[]⟩) (.slice none 0 0))).alloc (oF b j a)).drew.heap.size ((wr.alloc (oC (.string ⟨#[]⟩) (.slice none 0 0))).alloc (oF b j a)).drew w3) : NewC w (set3 w3 wr.heap.size (strV k) (.slice (some ⟨wr.heap.size + 1, 0, none⟩) 3 3) (.bool false)) s lv nv xs Q wr.heap.size k b j a := by
  have hb := step_b (((Below.refl _ wr).alloc (Nat.le_refl _) _).alloc (by simp) _) hb3
  have hc := ((Blk.new wr 65 [.string ⟨#[]⟩, .slice none 0 0, .bool false]).alloc (oF b j a)).drew.below hb3
  have hf := (Blk.at (wr.alloc (oC (.string ⟨#[]⟩) (.slice none 0 0))) 5 [.int .u8 b, .int .u8 j, .int .u8 a] (g := wr.heap.size + 1) (by simp)).drew.below hb3
  exact newC hC (set3_below hb (Nat.le_refl _) _ _ _) (Nat.le_refl _) (by omega) h3 (set3_blk hc _ _ _) (set3_other hf (by omega) _ _ _)
end
end Go.Proofs.YtondomklkapogaaDoor
