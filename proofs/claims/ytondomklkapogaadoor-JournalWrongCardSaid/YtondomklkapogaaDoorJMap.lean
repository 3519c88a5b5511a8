/- What a call may turn; bytes and changes away from what it turns; a map of byte slices as a list of entries. -/
import Derived.Test.YtondomklkapogaaDoorJChg
import Derived.Maps.OwnSet
namespace Go.Proofs.YtondomklkapogaaDoor
open Go.RowKit SeedP Go.Maps
/-- the old blocks, but for those of S, are as they were -/
structure Grown (S : Nat → Prop) (w w' : World) : Prop where
  os : w'.os = w.os
  tape : w'.tape = w.tape
  output : w'.output = w.output
  size : w.heap.size ≤ w'.heap.size
  block : ∀ k, k < w.heap.size → ¬ S k → w'.heap[k]? = w.heap[k]?
section
variable {S S' : Nat → Prop} {w w' w'' : World}
theorem Grown.refl (S : Nat → Prop) (w : World) : Grown S w w := ⟨rfl, rfl, rfl, Nat.le_refl _, fun _ _ _ => rfl⟩
theorem Grown.trans (h : Grown S w w') (h' : Grown S w' w'') : Grown S w w'' :=
  ⟨h'.os.trans h.os, h'.tape.trans h.tape, h'.output.trans h.output, Nat.le_trans h.size h'.size, fun k hk hn => (h'.block k (Nat.lt_of_lt_of_le hk h.size) hn).trans (h.block k hk hn)⟩
theorem Grown.mono (h : Grown S w w') (hS : ∀ k, k < w.heap.size → S k → S' k) : Grown S' w w' := ⟨h.os, h.tape, h.output, h.size, fun k hk hn => h.block k hk (fun hs => hn (hS k hk hs))⟩
theorem Grown.of_below (h : Below w.heap.size w w') : Grown S w w' := ⟨h.os, h.tape, h.output, h.size, fun k hk _ => h.block k hk⟩
theorem Grown.below {B : Nat} (h : Grown S w w') (hS : ∀ k, S k → B ≤ k) (hB : B ≤ w.heap.size) : Below B w w' := ⟨h.os, h.tape, h.output, h.size, fun k hk => h.block k (Nat.lt_of_lt_of_le hk hB) (fun hs => by have := hS k hs; omega)⟩
theorem Grown.of_row {row : Option Nat} (h : w.grownBy w' row) (hS : ∀ k, row = some k → S k) : Grown S w w' := ⟨h.os, h.tape, h.output, h.size, fun k hk hn => h.block k hk (fun e => hn (hS k e.symm))⟩
theorem Grown.alloc (h : Grown S w w') (o : Obj) : Grown S w (w'.alloc o) := h.trans (Grown.of_below ((Below.refl _ _).alloc (Nat.le_refl _) _))
theorem Grown.drew (h : Grown S w w') : Grown S w w'.drew := ⟨h.os, h.tape, h.output, h.size, h.block⟩
theorem Grown.drewN (h : Grown S w w') (n : Nat) : Grown S w (w'.drewN n) := ⟨h.os, h.tape, h.output, h.size, h.block⟩
theorem Grown.setCell (h : Grown S w w') {a : Addr} (ha : S a.block) (v : Value) : Grown S w (w'.setCell a v) :=
  ⟨h.os, h.tape, h.output, by simpa using h.size, fun k hk hn => (Below.heap_setCell w' a v k (fun e => hn (by rw [e]; exact ha))).trans (h.block k hk hn)⟩
theorem Blk.grown {g : Nat} {e : TypeId} {l : List Value} (h : Blk w g e l) (hg : Grown S w w') (hn : ¬ S g) : Blk w' g e l := (hg.block g h.lt hn).trans h
end
/-- A slice of bytes, nil and empty let in, in a block of which p holds. -/
def RdP (w : World) (p : Nat → Prop) (v : Value) (l : List UInt8) : Prop :=
  ((v = .slice none 0 0 ∨ ∃ a cap, v = .slice (some a) 0 cap) ∧ l = []) ∨
  ∃ g off cap, v = .slice (some ⟨g, off, none⟩) l.length cap ∧ l.length ≤ cap ∧ cap ≤ maxLen ∧ p g ∧ ∀ j, j < l.length → w.cell? ⟨g, off + j, none⟩ = some (.int .u8 (l.getD j 0).toNat)
theorem RdP.toB {w : World} {p : Nat → Prop} {v : Value} {l : List UInt8} (h : RdP w p v l) : RdB w w.heap.size v l := by
  rcases h with h | ⟨g, off, cap, e, h1, h2, h3, h4⟩
  · exact Or.inl h
  · rcases l with _ | ⟨x, r⟩
    · exact Or.inl ⟨Or.inr ⟨_, _, e⟩, rfl⟩
    · exact Or.inr ⟨g, off, cap, e, h1, h2, World.block_lt_of_cell? w _ (h4 0 (by simp)), h4⟩
theorem RdB.toP {w : World} {B : Nat} {p : Nat → Prop} {v : Value} {l : List UInt8} (h : RdB w B v l) (hp : ∀ g, g < B → p g) : RdP w p v l := by
  rcases h with h | ⟨g, off, cap, e, h1, h2, h3, h4⟩
  · exact Or.inl h
  · exact Or.inr ⟨g, off, cap, e, h1, h2, hp g h3, h4⟩
theorem RdP.mono {w : World} {p p' : Nat → Prop} {v : Value} {l : List UInt8} (h : RdP w p v l) (hp : ∀ g, g < w.heap.size → p g → p' g) : RdP w p' v l := by
  rcases h with h | ⟨g, off, cap, e, h1, h2, h3, h4⟩
  · exact Or.inl h
  · rcases l with _ | ⟨x, r⟩
    · exact Or.inl ⟨Or.inr ⟨_, _, e⟩, rfl⟩
    · exact Or.inr ⟨g, off, cap, e, h1, h2, hp g (World.block_lt_of_cell? w _ (h4 0 (by simp))) h3, h4⟩
theorem RdP.grown {w w' : World} {p S : Nat → Prop} {v : Value} {l : List UInt8} (h : RdP w p v l) (hg : Grown S w w') (hp : ∀ g, p g → ¬ S g) : RdP w' p v l := by
  rcases h with h | ⟨g, off, cap, e, h1, h2, h3, h4⟩
  · exact Or.inl h
  · exact Or.inr ⟨g, off, cap, e, h1, h2, h3, fun j hj => (World.cell?_of_block (hg.block g (World.block_lt_of_cell? w ⟨g, off + j, none⟩ (h4 j hj)) (hp g h3))).trans (h4 j hj)⟩
theorem RdP.own {w : World} {B n : Nat} {p : Nat → Prop} {v : Value} {l : List UInt8} (h : w.ownsRow B 5 1 v n (byts l)) (hp : ∀ g, B ≤ g → g < w.heap.size → p g) : RdP w p v l := by
  have h' := h
  obtain ⟨hl, h2⟩ := h
  rw [Nat.mul_one, byts_length] at hl
  rcases h2 with ⟨rfl, rfl⟩ | ⟨g, cap, cur, rfl, hb, hg, hn, hc, hs, ht⟩
  · exact Or.inl ⟨Or.inl rfl, List.eq_nil_of_length_eq_zero hl⟩
  · refine Or.inr ⟨g, 0, cap, by rw [hl], by omega, hc, hp g hb (Array.getElem?_eq_some_iff.1 hg).1, fun j hj => ?_⟩
    rw [Nat.zero_add, h'.cellAt j (by omega), byts_get l j hj]
/-! ### entries -/
structure Ent where
  key : List UInt8
  val : Value
  bytes : List UInt8
def tokR : Value → Option (DataW Value × List MemPlace) := fun v => some (.held v, [])
theorem keyed : Keyed Tryd.prog 9 := string_keyed Tryd.underlying9
def toD (L : List Ent) : DataW Value := .map (L.map fun e => (.string e.key, .held e.val))
def eFind (L : List Ent) (k : List UInt8) : Option Ent := L.find? (fun e => e.key == k)
def eDel (L : List Ent) (k : List UInt8) : List Ent := L.filter (fun e => !(e.key == k))
def eIns (x : Ent) : List Ent → List Ent
  | [] => [x]
  | y :: r => if (Lit.string x.key).before (Lit.string y.key) then x :: y :: r else y :: eIns x r
def ePut (L : List Ent) (x : Ent) : List Ent := eIns x (eDel L x.key)
theorem sameS (a b : List UInt8) : (Lit.string a).sameKey (Lit.string b) = (a == b) := rfl
theorem toD_at (L : List Ent) (k : List UInt8) (z : DataW Value) : (toD L).atKey (.string k) z = match eFind L k with | some e => .held e.val | none => z := by
  unfold toD eFind DataW.atKey
  induction L with
  | nil => rfl
  | cons x r ih =>
    simp only [List.map_cons, List.find?_cons, sameS]
    cases x.key == k
    · exact ih
    · rfl
theorem toD_has (L : List Ent) (k : List UInt8) : Maps.has (toD L) (.string k) = (eFind L k).isSome := by
  unfold toD eFind
  rw [Maps.has_eq]
  induction L with
  | nil => rfl
  | cons x r ih =>
    simp only [List.map_cons, List.any_cons, List.find?_cons, sameS]
    cases x.key == k
    · simpa using ih
    · rfl
theorem toD_size (L : List Ent) : Maps.size (toD L) = L.length := by unfold toD; rw [Maps.size_eq, List.length_map]
theorem toD_del (L : List Ent) (k : List UInt8) : (toD L).del (.string k) = toD (eDel L k) := by
  unfold toD eDel DataW.del
  simp only [DataW.map.injEq]
  rw [List.filter_map]; rfl
theorem ins_map (x : Ent) (L : List Ent) : DataW.insert (Lit.string x.key, DataW.held x.val) (L.map fun e => (Lit.string e.key, DataW.held e.val)) = (eIns x L).map fun e => (Lit.string e.key, DataW.held e.val) := by
  induction L with
  | nil => rfl
  | cons y r ih =>
    simp only [List.map_cons, DataW.insert, eIns]
    split
    · rfl
    · rw [ih]; rfl
theorem toD_put (L : List Ent) (x : Ent) : (toD L).put (.string x.key) (.held x.val) = toD (ePut L x) := by
  have h := toD_del L x.key
  unfold toD DataW.del at h
  simp only [DataW.map.injEq] at h
  unfold toD ePut DataW.put
  simp only [DataW.map.injEq]
  rw [h, ins_map]
theorem eIns_mem (x : Ent) (L : List Ent) (e : Ent) : e ∈ eIns x L ↔ e = x ∨ e ∈ L := by
  induction L with
  | nil => simp [eIns]
  | cons y r ih =>
    simp only [eIns]
    split
    · simp
    · simp only [List.mem_cons, ih]; constructor <;> (intro h; rcases h with h | h | h <;> simp [h])
theorem eDel_mem (L : List Ent) (k : List UInt8) (e : Ent) : e ∈ eDel L k ↔ e ∈ L ∧ e.key ≠ k := by simp [eDel]
theorem ePut_mem (L : List Ent) (x e : Ent) : e ∈ ePut L x ↔ e = x ∨ (e ∈ L ∧ e.key ≠ x.key) := by rw [ePut, eIns_mem, eDel_mem]
theorem keyOf_str (k : List UInt8) (hk : k.length ≤ maxLen) : keyOf Tryd.prog 9 (strV k) = some (.string k) := by
  have h : (⟨k.toArray⟩ : ByteArray).size ≤ maxLen := by show k.toArray.size ≤ _; simpa using hk
  have := Go.WideMaps.keyOf_string_mk Tryd.underlying9 h
  simpa using this
/-- block mb is a map that holds just these entries, in increasing order of keys; their values lie where p holds -/
structure MapAt (w : World) (mb : Nat) (p : Nat → Prop) (L : List Ent) : Prop where
  own : w.ownsMap Tryd.prog 9 tokR mb L.length (toD L)
  val : ∀ e ∈ L, RdP w p e.val e.bytes
theorem own_exact {w : World} {P : Program} {k : TypeId} {R : Value → Option (DataW Value × List MemPlace)} {b n : Nat} {L : List Ent} (h : w.ownsMap P k R b n (toD L)) : w.ownsMap P k R b L.length (toD L) := by
  obtain ⟨es, clock, hb, F, hs, hD⟩ := h
  refine ⟨es, clock, hb, F, ?_, hD⟩
  have h1 := congrArg Maps.size hD
  rw [toD_size, Maps.size_eq, length_sorted] at h1
  simp at h1; omega
theorem MapAt.made (w : World) (p : Nat → Prop) : MapAt (w.alloc (.map #[] 0)) w.heap.size p [] := ⟨World.ownsMap_made w _ _ _, fun e he => by cases he⟩
theorem MapAt.lt {w : World} {mb : Nat} {p : Nat → Prop} {L : List Ent} (h : MapAt w mb p L) : mb < w.heap.size := h.own.lt
theorem MapAt.grown {w w' : World} {mb : Nat} {p S : Nat → Prop} {L : List Ent} (h : MapAt w mb p L) (hg : Grown S w w') (hm : ¬ S mb) (hp : ∀ g, p g → ¬ S g) : MapAt w' mb p L := by
  refine ⟨?_, fun e he => (h.val e he).grown hg hp⟩
  obtain ⟨es, clock, hb, r⟩ := h.own
  exact ⟨es, clock, (hg.block mb h.lt hm).trans hb, r⟩
/-- 'v, ok := m[k]' -/
theorem MapAt.look {w : World} {mb : Nat} {p : Nat → Prop} {L : List Ent} (h : MapAt w mb p L) (k : List UInt8) (hk : k.length ≤ maxLen) :
    (Instr.lookup 67 (.map (some mb)) (strV k) true).run Tryd.prog w = .ok (.tuple #[match eFind L k with | some e => e.val | none => .slice none 0 0, .bool (eFind L k).isSome]) w := by
  obtain ⟨v, ps, hr, hv⟩ := h.own.look_ok keyed Tryd.underlying67 (z := .slice none 0 0) (by kernel_rfl) (zd := .held (.slice none 0 0)) (zp := []) rfl (keyOf_str k hk)
  rw [hr, toD_has]
  rw [toD_at] at hv
  unfold tokR at hv
  simp only [Option.some.injEq, Prod.mk.injEq] at hv
  have := hv.1
  cases hf : eFind L k with
  | none => rw [hf] at this; simp only [DataW.held.injEq] at this; rw [this]
  | some e => rw [hf] at this; simp only [DataW.held.injEq] at this; rw [this]
/-- 'm[k]' -/
theorem MapAt.look1 {w : World} {mb : Nat} {p : Nat → Prop} {L : List Ent} (h : MapAt w mb p L) (k : List UInt8) (hk : k.length ≤ maxLen) :
    (Instr.lookup 67 (.map (some mb)) (strV k) false).run Tryd.prog w = .ok (match eFind L k with | some e => e.val | none => .slice none 0 0) w := by
  obtain ⟨v, ps, hr, hv⟩ := h.own.lookup keyed Tryd.underlying67 (z := .slice none 0 0) (by kernel_rfl) (zd := .held (.slice none 0 0)) (zp := []) rfl (keyOf_str k hk)
  rw [hr]
  rw [toD_at] at hv
  unfold tokR at hv
  simp only [Option.some.injEq, Prod.mk.injEq] at hv
  have := hv.1
  cases hf : eFind L k with
  | none => rw [hf] at this; simp only [DataW.held.injEq] at this; rw [this]
  | some e => rw [hf] at this; simp only [DataW.held.injEq] at this; rw [this]
theorem eFind_mem {L : List Ent} {k : List UInt8} {e : Ent} (h : eFind L k = some e) : e ∈ L ∧ e.key = k := by
  unfold eFind at h
  exact ⟨List.mem_of_find?_eq_some h, by simpa using List.find?_some h⟩
theorem turned_grown {w w' : World} {b : Nat} (h : w.mapTurned w' b) : Grown (· = b) w w' := Grown.of_row h.grown (fun k e => by cases e; rfl)
end Go.Proofs.YtondomklkapogaaDoor
