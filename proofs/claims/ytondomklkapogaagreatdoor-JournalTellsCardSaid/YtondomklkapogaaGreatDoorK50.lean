/- What a row's lists of acts give: acts, their changes and values lie in memory as the walks read them. -/
import Derived.Test.YtondomklkapogaaGreatDoorK49
import Derived.Test.YtondomklkapogaaGreatDoorK44
namespace Go.Proofs.YtondomklkapogaaGreatDoor
open Go.ChangeShapes Go.WideShapes Go.ChangeAt Go.RowKit Go.Deep
theorem list_of {α : Type} {R : Nat → α → Prop} : ∀ n, (∀ i, i < n → ∃ x, R i x) → ∃ L : List α, L.length = n ∧ ∀ i (h : i < L.length), R i L[i]
 | 0, _ => ⟨[], rfl, fun i h => by simp at h⟩
 | n + 1, h => by
   obtain ⟨L, hl, hL⟩ := list_of n (fun i hi => h i (by omega))
   obtain ⟨x, hx⟩ := h n (by omega)
   refine ⟨L ++ [x], by simp [hl], fun i hi => ?_⟩
   rw [List.length_append, List.length_singleton] at hi
   by_cases hlt : i < L.length
   ·rw [List.getElem_append_left hlt]; exact hL i hlt
   ·obtain rfl : i = L.length := by omega
    rw [List.getElem_append_right (Nat.le_refl _)]
    simp only [Nat.sub_self, List.getElem_cons_zero]
    rw [hl]; exact hx
/-- the rows of a slice -/
theorem rows_of {W : World} {a : Addr} {m len c : Nat} {Q : List Value → Prop} (hc0 : 0 < c) (hi : ∀ i, i < m → ∃ cs', W.cells? 0 (a.add (i * c)) c = some cs' ∧ Q cs') (hl : len ≤ m) (h0 : 0 < len) :
 ∃ g off, a = ⟨g, off, none⟩ ∧ g < W.heap.size ∧ ∀ i, i < len → ∃ cs', Q cs' ∧ cs'.length = c ∧ ∀ o, o < c → W.cell? ⟨g, off + i * c + o, none⟩ = cs'[o]? := by
 obtain ⟨g, off, spot⟩ := a
 have hone : ∀ i, i < len → ∃ cs', Q cs' ∧ cs'.length = c ∧ ∀ o, o < c → W.cell? ((⟨g, off, spot⟩ : Addr).add (i * c + o)) = cs'[o]? := by
  intro i hi'
  obtain ⟨cs', hc, hq⟩ := hi i (by omega)
  obtain ⟨_, hlen, hat⟩ := World.cells?_some hc
  refine ⟨cs', hq, hlen, fun o ho => ?_⟩
  rw [← add_add]
  exact hat o ho
 have hspot : spot = none := by
  obtain ⟨cs', _, hlen, hc⟩ := hone 0 h0
  obtain ⟨v, hv⟩ : ∃ v, cs'[0]? = some v := ⟨cs'[0]'(by omega), List.getElem?_eq_getElem (by omega)⟩
  have := World.cell?_spot ((hc 0 hc0).trans hv)
  simpa [Addr.add] using this
 subst hspot
 have hlt : g < W.heap.size := by
  obtain ⟨cs', _, hlen, hc⟩ := hone 0 h0
  obtain ⟨v, hv⟩ : ∃ v, cs'[0]? = some v := ⟨cs'[0]'(by omega), List.getElem?_eq_getElem (by omega)⟩
  have := World.block_lt_of_cell? W _ ((hc 0 hc0).trans hv)
  simpa [Addr.add] using this
 refine ⟨g, off, rfl, hlt, fun i hi' => ?_⟩
 obtain ⟨cs', hq, hlen, hc⟩ := hone i hi'
 refine ⟨cs', hq, hlen, fun o ho => ?_⟩
 have e : (⟨g, off, none⟩ : Addr).add (i * c + o) = ⟨g, off + (i * c + o), none⟩ := by unfold Addr.add; split <;> simp_all
 rw [← Nat.add_assoc] at e
 rw [← e]; exact hc o ho
section
variable {H : Type} {enc : TypeId × Value → H} {W : World} {held : Bool} {fuel : Nat}
theorem cellsB : Tryz.prog.cellsOf 5 = 1 := by kernel_rfl
theorem cellsI : Tryz.prog.cellsOf 3 = 1 := by kernel_rfl
theorem cellsStr : Tryz.prog.cellsOf 9 = 1 := by kernel_rfl
theorem cellsBo : Tryz.prog.cellsOf 4 = 1 := by kernel_rfl
theorem cellsBs : Tryz.prog.cellsOf 25 = 1 := by kernel_rfl
theorem cellsCs : Tryz.prog.cellsOf 39 = 1 := by kernel_rfl
theorem cellsC : Tryz.prog.cellsOf 60 = 3 := by kernel_rfl
theorem read_str {cs : List Value} {x : DataW H × List MemPlace} (h : DataW.trod enc Tryz.prog W 0 (fun _ => true) held fuel 9 cs = some x) : ∃ l : List UInt8, cs = [strV l] ∧ l.length ≤ maxLen := by
 obtain ⟨s, rfl, _, hs⟩ := DataW.trod_string Tryz.underlying9 h
 refine ⟨s.data.toList, by cases s; simp, ?_⟩
 have e : s.data.toList.length = s.size := by rw [Array.length_toList]; rfl
 omega
set_option maxRecDepth 100000 in
theorem read_bytes {cs : List Value} {x : DataW H × List MemPlace} (h : DataW.trod enc Tryz.prog W 0 (fun _ => true) held fuel 25 cs = some x) : ∃ v l, cs = [v] ∧ RdB W W.heap.size v l := by
 rcases open_slice Tryz.underlying25 h with ⟨rfl, _⟩ | ⟨a, len, cap, m, n, D, Pl, rfl, _, hl, hm, hmm, _, hi⟩
 ·exact ⟨_, [], rfl, Or.inl ⟨Or.inl rfl, rfl⟩⟩
 simp only [if_true] at hmm
 subst hmm
 rw [cellsB] at hi
 by_cases h0 : len = 0
 ·subst h0
  exact ⟨_, [], rfl, Or.inl ⟨Or.inr ⟨_, _, rfl⟩, rfl⟩⟩
 obtain ⟨g, off, rfl, hg, hr⟩ := rows_of (c := 1) (Q := fun cs' => ∃ b : UInt8, cs' = [.int .u8 b.toNat]) (by decide) (fun i hi' => by
  obtain ⟨cs', h1, h2⟩ := hi i hi'
  refine ⟨cs', h1, ?_⟩
  obtain ⟨k, e, _, hw⟩ := DataW.trod_int Tryz.underlying5 h2
  have hb := bounds_u8 hw
  refine ⟨UInt8.ofNat k.toNat, ?_⟩
  have h3 : ((UInt8.ofNat k.toNat).toNat : Int) = k := by rw [UInt8.toNat_ofNat']; omega
  rw [e, h3]) hl (by omega)
 obtain ⟨L, hL, hc⟩ := list_of (R := fun i (b : UInt8) => W.cell? ⟨g, off + i, none⟩ = some (.int .u8 b.toNat)) len (fun i hi' => by
  obtain ⟨cs', ⟨b, rfl⟩, _, hcc⟩ := hr i hi'
  have := hcc 0 (by omega)
  rw [Nat.mul_one, Nat.add_zero] at this
  exact ⟨b, this⟩)
 subst hL
 refine ⟨_, L, rfl, Or.inr ⟨g, off, _, rfl, hl, hm, hg, fun j hj => ?_⟩⟩
 rw [hc j hj]
 simp [List.getD_eq_getElem?_getD, hj]
set_option maxRecDepth 100000 in
theorem read_chg {cs : List Value} {x : DataW H × List MemPlace} (h : DataW.trod enc Tryz.prog W 0 (fun _ => true) held fuel 60 cs = some x) : ∃ vv, ∃ c : Chg, cs = [strV c.key, vv, .bool c.drop] ∧ RdB W W.heap.size vv c.val := by
 obtain ⟨xs, n, rfl, rfl, hlen, hxl, hf⟩ := DataW.trod_struct Tryz.underlying60 h
 rw [cellsC] at hlen
 match cs, hlen with
 | [c0, c1, c2], _ =>
   match xs, hxl with
   | [y0, y1, y2], _ =>
     have e0 := hf 0 _ rfl
     have e1 := hf 1 _ rfl
     have e2 := hf 2 _ rfl
     simp [cellsStr, cellsBs, cellsBo] at e0 e1 e2
     obtain ⟨k, ek, _⟩ := read_str e0
     obtain ⟨v, l, ev, hr⟩ := read_bytes e1
     obtain ⟨b, eb, _⟩ := DataW.trod_bool Tryz.underlying4 e2
     simp only [List.cons.injEq, and_true] at ek ev eb
     subst ek ev eb
     exact ⟨_, ⟨k, l, b⟩, rfl, hr⟩
set_option maxRecDepth 100000 in
theorem read_chgs {cs : List Value} {x : DataW H × List MemPlace} (h : DataW.trod enc Tryz.prog W 0 (fun _ => true) held fuel 39 cs = some x) : ∃ v l, cs = [v] ∧ ChgsAt W W.heap.size v l := by
 rcases open_slice Tryz.underlying39 h with ⟨rfl, _⟩ | ⟨a, len, cap, m, n, D, Pl, rfl, _, hl, hm, hmm, _, hi⟩
 ·exact ⟨_, [], rfl, none, 0, rfl, Nat.le_refl _, Nat.zero_le _, Or.inl rfl⟩
 simp only [if_true] at hmm
 subst hmm
 rw [cellsC] at hi
 by_cases h0 : len = 0
 ·subst h0
  exact ⟨_, [], rfl, _, _, rfl, Nat.zero_le _, hm, Or.inl rfl⟩
 obtain ⟨g, off, rfl, hg, hr⟩ := rows_of (c := 3) (Q := fun cs' => ∃ vv, ∃ c : Chg, cs' = [strV c.key, vv, .bool c.drop] ∧ RdB W W.heap.size vv c.val) (by decide) (fun i hi' => by
  obtain ⟨cs', h1, h2⟩ := hi i hi'
  exact ⟨cs', h1, read_chg h2⟩) hl (by omega)
 obtain ⟨L, hL, hc⟩ := list_of (R := fun i (c : Chg) => ChgIn W W.heap.size g (off + i * 3) c) len (fun i hi' => by
  obtain ⟨cs', ⟨vv, c, rfl, hrd⟩, _, hcc⟩ := hr i hi'
  exact ⟨c, vv, hcc 0 (by omega), hcc 1 (by omega), hcc 2 (by omega), hrd⟩)
 subst hL
 exact ⟨_, L, rfl, _, _, rfl, hl, hm, Or.inr ⟨g, off, rfl, hg, hc⟩⟩
end
section
variable {H : Type} {enc : TypeId × Value → H} {W : World} {held : Bool} {fuel : Nat}
theorem cellsAc : Tryz.prog.cellsOf 41 = 5 := by kernel_rfl
set_option maxRecDepth 100000 in
theorem read_act {cs : List Value} {x : DataW H × List MemPlace} (h : DataW.trod enc Tryz.prog W 0 (fun _ => true) held fuel 41 cs = some x) : ∃ vl vv, ∃ a : ActP, cs = [.int .i64 a.kind, .int .i64 a.pw, vl, strV a.key, vv] ∧ ChgsAt W W.heap.size vl a.cs ∧ RdB W W.heap.size vv a.val ∧ -9223372036854775808 ≤ a.pw ∧ a.pw ≤ 9223372036854775807 := by
 obtain ⟨xs, n, rfl, rfl, hlen, hxl, hf⟩ := DataW.trod_struct Tryz.underlying41 h
 rw [cellsAc] at hlen
 match cs, hlen with
 | [c0, c1, c2, c3, c4], _ =>
   match xs, hxl with
   | [y0, y1, y2, y3, y4], _ =>
     have e0 := hf 0 _ rfl
     have e1 := hf 1 _ rfl
     have e2 := hf 2 _ rfl
     have e3 := hf 3 _ rfl
     have e4 := hf 4 _ rfl
     simp [cellsI, cellsStr, cellsBs, cellsCs] at e0 e1 e2 e3 e4
     obtain ⟨k, ek, _, _⟩ := DataW.trod_int Tryz.underlying3 e0
     obtain ⟨pw, ep, _, hw⟩ := DataW.trod_int Tryz.underlying3 e1
     obtain ⟨vl, cs, ec, hc⟩ := read_chgs e2
     obtain ⟨key, es, _⟩ := read_str e3
     obtain ⟨vv, val, ev, hv⟩ := read_bytes e4
     have hb := bounds_i64 hw
     simp only [List.cons.injEq, and_true] at ek ep ec es ev
     subst ek ep ec es ev
     exact ⟨_, _, ⟨k, pw, cs, key, val⟩, rfl, hc, hv, hb.1, hb.2⟩
set_option maxRecDepth 100000 in
/-- a slice of acts -/
theorem open_acts {base : Nat} {v : Value} {d : DataW H} {ps : List MemPlace} (hval : Value.okWide Tryz.prog W .any base 22 v) (h : DataW.Trod enc Tryz.prog W 0 (fun _ => true) true 22 v d ps) :
 ∃ L : List ActP, ActsAt W W.heap.size v L ∧ ∀ a ∈ L, -9223372036854775808 ≤ a.pw ∧ a.pw ≤ 9223372036854775807 := by
 obtain ⟨a0, len, cap, rfl⟩ := okWide_slice Tryz.underlying22 hval
 obtain ⟨fuel, hf⟩ := h
 rcases open_slice Tryz.underlying22 hf with ⟨hcs, _⟩ | ⟨a, len', cap', m, n, D, Pl, hcs, _, hl, hm, hmm, _, hi⟩
 ·simp [Value.cells] at hcs
  obtain ⟨rfl, rfl, rfl⟩ := hcs
  exact ⟨[], ⟨none, 0, rfl, Nat.le_refl _, Nat.zero_le _, Or.inl rfl⟩, fun s hs => by cases hs⟩
 simp [Value.cells] at hcs
 obtain ⟨rfl, rfl, rfl⟩ := hcs
 simp only [if_true] at hmm
 subst hmm
 rw [cellsAc] at hi
 by_cases h0 : len = 0
 ·subst h0
  exact ⟨[], ⟨_, _, rfl, Nat.zero_le _, hm, Or.inl rfl⟩, fun s hs => by cases hs⟩
 obtain ⟨g, off, rfl, hg, hr⟩ := rows_of (c := 5) (Q := fun cs' => ∃ vl vv, ∃ a : ActP, cs' = [.int .i64 a.kind, .int .i64 a.pw, vl, strV a.key, vv] ∧ ChgsAt W W.heap.size vl a.cs ∧ RdB W W.heap.size vv a.val ∧ -9223372036854775808 ≤ a.pw ∧ a.pw ≤ 9223372036854775807) (by decide) (fun i hi' => by
  obtain ⟨cs', h1, h2⟩ := hi i hi'
  exact ⟨cs', h1, read_act h2⟩) hl (by omega)
 obtain ⟨L, hL, hc⟩ := list_of (R := fun i (a : ActP) => ActIn W W.heap.size g (off + i * 5) a ∧ -9223372036854775808 ≤ a.pw ∧ a.pw ≤ 9223372036854775807) len (fun i hi' => by
  obtain ⟨cs', ⟨vl, vv, a, rfl, h1, h2, h3, h4⟩, _, hcc⟩ := hr i hi'
  exact ⟨a, ⟨vl, vv, hcc 0 (by omega), hcc 1 (by omega), hcc 2 (by omega), hcc 3 (by omega), hcc 4 (by omega), h1, h2⟩, h3, h4⟩)
 subst hL
 refine ⟨L, ⟨_, _, rfl, hl, hm, Or.inr ⟨g, off, rfl, hg, fun j hj => (hc j hj).1⟩⟩, fun s hs => ?_⟩
 obtain ⟨i, hi', rfl⟩ := List.mem_iff_getElem.1 hs
 exact (hc i hi').2
end
end Go.Proofs.YtondomklkapogaaGreatDoor
