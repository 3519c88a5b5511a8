/- Rows of entries under way, as the reference has them: an append of one entry. -/
import Derived.Test.YtondomklkapogaaGreatDoorK20
import Derived.Test.YtondomklkapogaaGreatDoorK21
import Derived.Test.YtondomklkapogaaGreatDoorK19
namespace Go.Proofs.YtondomklkapogaaGreatDoor
section
open Go.RowKit SeedP Go.Maps
/-- an entry with its value -/
abbrev EV := (List UInt8 × List UInt8) × Value
def rowR (xs : List EV) : List Value := xs.flatMap fun p => [strV p.1.1, p.2]
theorem rowR_length (xs : List EV) : (rowR xs).length = xs.length * 2 := by
 induction xs with
 | nil => rfl
 | cons x r ih => rw [rowR, List.flatMap_cons, List.length_append, ← rowR, ih]; simp; omega
theorem rowR_append (a b : List EV) : rowR (a ++ b) = rowR a ++ rowR b := by simp [rowR]
theorem rowR_get : ∀ (xs : List EV) (j : Nat) (h : j < xs.length), (rowR xs)[j * 2]? = some (strV xs[j].1.1) ∧ (rowR xs)[j * 2 + 1]? = some xs[j].2
 | x :: xs, 0, _ => ⟨rfl, rfl⟩
 | x :: xs, j + 1, h => by
   have ih := rowR_get xs j (by simpa using h)
   rw [show (j + 1) * 2 = j * 2 + 1 + 1 by omega]
   exact ih
theorem infoRE : (Tryz.prog.info? 96).map (fun i => (i.zero, i.size, i.bytes)) = some (some (.agg #[.string ⟨#[]⟩, .slice none 0 0]), 2, 40) := by kernel_rfl
theorem appR_run {w : World} (ty : TypeId) (B : Nat) (v : Value) (xs : List EV) (hown : w.ownsRow B 96 2 v xs.length (rowR xs)) (q : Nat) (key val : List UInt8) (vv : Value) (h1 : vv.oneCell' = true) (c0 : w.cell? ⟨q, 0, none⟩ = some (strV key)) (c1 : w.cell? ⟨q, 1, none⟩ = some vv) (hm : xs.length + 1 ≤ 4294967296) (hB : B ≤ w.heap.size) :
 ∃ v' w', (Builtin.append_ #[50, 50] ty #[v, .slice (some ⟨q, 0, none⟩) 1 1]).run Tryz.prog w = .ok v' w' ∧ w'.ownsRow B 96 2 v' (xs ++ [((key, val), vv)]).length (rowR (xs ++ [((key, val), vv)])) ∧ w.grownBy w' v.ownBlock := by
 have hi := infoRE
 obtain ⟨i, hi, hz⟩ := Option.map_eq_some_iff.1 hi
 simp only [Prod.mk.injEq] at hz
 obtain ⟨hz, hs1, hby⟩ := hz
 have hcells : ∀ j u, (rowR [((key, val), vv)])[j]? = some u → w.cell? ((⟨q, 0, none⟩ : Addr).add j) = some u := fun j u hu => by
  have hj := (List.getElem?_eq_some_iff.1 hu).1
  rw [rowR_length] at hj
  have hj : j < 2 := by simpa using hj
  have e : (⟨q, 0, none⟩ : Addr).add j = ⟨q, 0 + j, none⟩ := by unfold Addr.add; split <;> simp_all
  rw [e]
  match j, hj with
  | 0, _ => rw [c0]; exact hu
  | 1, _ => rw [c1]; exact hu
 have hone : ∀ u ∈ rowR [((key, val), vv)], u.oneCell' = true := fun u hu => by
  simp only [rowR, List.flatMap_cons, List.flatMap_nil, List.append_nil, List.mem_cons, List.not_mem_nil, or_false] at hu
  rcases hu with rfl | rfl
  ·rfl
  ·exact h1
 obtain ⟨v', w', hr, h2, h3, _, h5⟩ := run_append_own_at (P := Tryz.prog) w B 50 ty 96 i _ 2 40 Tryz.underlying50 hi hz hs1 hby rfl (by decide) v xs.length (rowR xs) hown ⟨q, 0, none⟩ 1 1 (rowR [((key, val), vv)]) (rowR_length _) hcells hone (by unfold maxLen; omega) (by omega) hB
 exact ⟨v', w', hr, by rw [rowR_append, List.length_append]; exact h2, h3⟩
/-- what was appended, read -/
theorem EntsAt.ofRow {w : World} {B B' : Nat} {v : Value} {xs : List EV} (h : w.ownsRow B 96 2 v xs.length (rowR xs)) (hv : ∀ p ∈ xs, RdB w B' p.2 p.1.2) (hB : B' ≤ w.heap.size) : EntsAt w w.heap.size v (xs.map (·.1)) := by
 have hr := h
 obtain ⟨hl, h2⟩ := h
 rcases h2 with ⟨rfl, h0⟩ | ⟨g, cap, cur, rfl, hB0, hg, hn, hc, _⟩
 ·obtain rfl := List.eq_nil_of_length_eq_zero h0
  exact EntsAt.nil _ _
 ·refine ⟨_, cap, by rw [List.length_map], by rw [List.length_map]; exact hn, hc, Or.inr ⟨g, 0, rfl, (hr.lt g (by simp [Value.ownBlock])).2, fun j hj => ?_⟩⟩
  rw [List.length_map] at hj
  obtain ⟨e0, e1⟩ := rowR_get xs j hj
  refine ⟨xs[j].2, ?_, ?_, ?_⟩
  ·rw [Nat.zero_add, hr.cellAt _ (by rw [← rowR_length]; exact (List.getElem?_eq_some_iff.1 e0).1), e0, List.getElem_map]
  ·rw [Nat.zero_add, hr.cellAt _ (by rw [← rowR_length]; exact (List.getElem?_eq_some_iff.1 e1).1), e1]
  ·rw [List.getElem_map]
   exact (hv _ (List.getElem_mem hj)).mono hB
theorem turn_appR {Y : Nat → Option Bool} {b : Act} {w : World} {C : Value → World → Prop} (d : Option Tmp) (ty : TypeId) (pos : String) (af : Array Edge) (gd : Option (Nat × Bool)) (s x : Operand) (hw : Region.wanted ⟨d, .call { callee := .builtin .append, args := #[s, x], argTypes := #[50, 50] }, ty, pos, af, gd⟩ Y = true)
 (B : Nat) (v : Value) (xs : List EV) (hs : b.eval s = v) (hown : w.ownsRow B 96 2 v xs.length (rowR xs)) (q : Nat) (key val : List UInt8) (vv : Value) (hx : b.eval x = .slice (some ⟨q, 0, none⟩) 1 1) (h1 : vv.oneCell' = true) (c0 : w.cell? ⟨q, 0, none⟩ = some (strV key)) (c1 : w.cell? ⟨q, 1, none⟩ = some vv) (hm : xs.length + 1 ≤ 4294967296) (hB : B ≤ w.heap.size)
 (h : ∀ v' w', w'.ownsRow B 96 2 v' (xs ++ [((key, val), vv)]).length (rowR (xs ++ [((key, val), vv)])) → w.grownBy w' v.ownBlock → C v' w') : TurnOk Tryz.prog Y b w ⟨d, .call { callee := .builtin .append, args := #[s, x], argTypes := #[50, 50] }, ty, pos, af, gd⟩ C := by
 obtain ⟨v', w', hr, h2, h3⟩ := appR_run ty B v xs hown q key val vv h1 c0 c1 hm hB
 refine turn_run hw v' w' ?_ (h v' w' h2 h3)
 unfold execOp
 simp only [resolve, invoke, builtin, Sem.run_bind, Sem.run_pure, Result.andThen_ok, List.map_toArray, List.map_cons, List.map_nil, hs, hx, hr]
end
section
open Go.RowKit SeedP Go.Maps
section
variable (ρ : Operand → Value) (d : Option Tmp) (ty : TypeId) (pos : String) (af : Array Edge) (gd : Option (Nat × Bool))
theorem xr_atC (x y : Operand) (g off n c j : Nat) (w : World) (hx : ρ x = .slice (some ⟨g, off, none⟩) n c) (hy : ρ y = .int .i64 (j : Int)) (hj : j < n) :
 (execOp ρ ⟨d, .indexAddr 64 x y, ty, pos, af, gd⟩).run Tryz.prog w = .ok (.value (.pointer (some ⟨g, off + j * 3, none⟩))) w := by
 have b1 : (j : Int) < n := by omega
 simp [go_sem, hx, hy, b1]
theorem xr_str (x : Operand) (ad : Addr) (v : Value) (w : World) (hx : ρ x = .pointer (some ad)) (hc : w.cell? ad = some v) :
 (execOp ρ ⟨d, .load 9 x, ty, pos, af, gd⟩).run Tryz.prog w = .ok (.value v) w := by
 simp [go_sem, hx, hc]
theorem xr_lens (x : Operand) (s : ByteArray) (w : World) (hx : ρ x = .string s) :
 (execOp ρ ⟨d, .call { callee := .builtin .len, args := #[x], argTypes := #[9] }, 3, pos, af, gd⟩).run Tryz.prog w = .ok (.value (.int .i64 (s.size : Int))) w := by
 simp [go_sem, hx]
theorem xr_u8 (x : Operand) (n : Int) (b : Int) (w : World) (hx : ρ x = .int .i64 n) (hb : IntKind.u8.wrap n = b) :
 (execOp ρ ⟨d, .convert 3 5 x, ty, pos, af, gd⟩).run Tryz.prog w = .ok (.value (.int .u8 b)) w := by
 simp [go_sem, hx, hb]
end
end
section
open Go.RowKit SeedP Go.Maps
/-- a part of bytes -/
theorem RdB.sub {w : World} {B g off cap : Nat} {l : List UInt8} (a n c : Nat) (hn : a + n ≤ l.length) (hc : n ≤ c) (hm : c ≤ maxLen) (hg : g < B) (h4 : ∀ j, j < l.length → w.cell? ⟨g, off + j, none⟩ = some (.int .u8 (l.getD j 0).toNat)) (_ : l.length ≤ cap) :
 RdB w B (.slice (some ⟨g, off + a, none⟩) n c) ((l.drop a).take n) := by
 have hl : ((l.drop a).take n).length = n := by rw [List.length_take, List.length_drop]; omega
 refine Or.inr ⟨g, off + a, c, by rw [hl], by rw [hl]; exact hc, hm, hg, fun j hj => ?_⟩
 rw [hl] at hj
 rw [show off + a + j = off + (a + j) by omega, h4 (a + j) (by omega)]
 rw [List.getD_eq_getElem?_getD, List.getD_eq_getElem?_getD, List.getElem?_take, if_pos hj, List.getElem?_drop]
end
section
open Go.RowKit SeedP Go.Maps
section
variable (ρ : Operand → Value) (d : Option Tmp) (ty : TypeId) (pos : String) (af : Array Edge) (gd : Option (Nat × Bool))
theorem xr_add (x y : Operand) (a b : Int) (w : World) (hx : ρ x = .int .i64 a) (hy : ρ y = .int .i64 b) (hw : IntKind.i64.wrap (a + b) = a + b) :
 (execOp ρ ⟨d, .binOp .add 3 x y 3, ty, pos, af, gd⟩).run Tryz.prog w = .ok (.value (.int .i64 (a + b))) w := by
 simp [go_sem, hx, hy, hw]
theorem xr_slice (x y z : Operand) (g off m c lo hi : Nat) (w : World) (hx : ρ x = .slice (some ⟨g, off, none⟩) m c) (hy : ρ y = .int .i64 (lo : Int)) (hz : ρ z = .int .i64 (hi : Int)) (h1 : lo ≤ hi) (h2 : hi ≤ c) :
 (execOp ρ ⟨d, .slice 25 x (some y) (some z) none, ty, pos, af, gd⟩).run Tryz.prog w = .ok (.value (.slice (if c = lo then some ⟨g, off, none⟩ else some ⟨g, off + lo, none⟩) (hi - lo) (c - lo))) w := by
 have b1 : (lo : Int) ≤ (hi : Int) := by omega
 have b2 : (hi : Int) ≤ (c : Int) := by omega
 simp [go_sem, hx, hy, hz, b1, b2]
theorem xr_bstr (x : Operand) (v : Value) (B : Nat) (l : List UInt8) (w : World) (hx : ρ x = v) (hv : RdB w B v l) :
 (execOp ρ ⟨d, .convert 25 9 x, ty, pos, af, gd⟩).run Tryz.prog w = .ok (.value (strV l)) w := by
 have h := conv_c hv
 unfold execOp
 simp only [Sem.run_bind, Sem.run_pure, Result.andThen_ok, hx, h]
theorem xr_entry (x y : Operand) (s : ByteArray) (a : Option Addr) (n c : Nat) (w : World) (hx : ρ x = .string s) (hy : ρ y = .slice a n c) :
 (execOp ρ ⟨d, .build 96 #[(0, x), (1, y)], ty, pos, af, gd⟩).run Tryz.prog w = .ok (.value (.agg #[.string s, .slice a n c])) w := by
 simp [go_sem, hx, hy]
theorem xr_store2 (p x : Operand) (g : Nat) (s : ByteArray) (a : Option Addr) (n c : Nat) (v0 v1 : Value) (w : World) (hp : ρ p = .pointer (some ⟨g, 0, none⟩)) (hx : ρ x = .agg #[.string s, .slice a n c]) (h0 : w.cell? ⟨g, 0, none⟩ = some v0) (h1 : w.cell? ⟨g, 1, none⟩ = some v1) (hf : ∀ o, w.frozen? ⟨g, o, none⟩ = false) :
 (execOp ρ ⟨d, .store 96 p x, ty, pos, af, gd⟩).run Tryz.prog w = .ok .skip ((w.setCell ⟨g, 0, none⟩ (.string s)).setCell ⟨g, 1, none⟩ (.slice a n c)) := by
 simp [go_sem, hp, hx, h0, h1, hf]
end
end
end Go.Proofs.YtondomklkapogaaGreatDoor
