/- The walk of write. -/
import Derived.Test.YtondomklkapogaaDoorJDisk
import Derived.ArgAppend
import Derived.Deep.RegionLaw
namespace Go.Proofs.YtondomklkapogaaDoor
open Go.RowKit SeedP Go.Maps
theorem wpList_minJ {P : Program} (w : World) {ops : Array Oper} {rest : List Oper} {o : Oper} {a : Act} {Q : Exit → Act → World → Prop}
    (hg : o.guard = none) (s x : Operand) (t : TypeId) (hop : o.op = Op.call { callee := Callee.builtin Builtin.min, args := #[s, x], argTypes := #[t, t] })
    (m n : Int) (hs : a.eval s = .int .i64 m) (hx : a.eval x = .int .i64 n)
    (hK : ∀ r : Int, r ≤ m → r ≤ n → (r = m ∨ r = n) → wpList P ops Q rest (a.put o.dst (.int .i64 r)) w) :
    wpList P ops Q (o :: rest) a w := by
  refine wpList_plain hg fun K hK' => ?_
  unfold Oper.wp
  simp [execOp, hop, resolve, invoke, builtin, hs, hx, Builtin.min_, Builtin.min2]
  exact hK' _ _ (hK _ (by split <;> omega) (by split <;> omega) (by split <;> simp))
theorem RdP.cells {w : World} {p : Nat → Prop} {b : Addr} {n c : Nat} {l : List UInt8} (h : RdP w p (.slice (some b) n c) l) (hl : l ≠ []) : ∀ j u, (byts l)[j]? = some u → w.cell? (b.add j) = some u := by
  rcases h with ⟨_, rfl⟩ | ⟨g, off, cap, e, h1, h2, h3, h4⟩
  · exact absurd rfl hl
  · cases e
    intro j u hu
    have hj := (List.getElem?_eq_some_iff.1 hu).1
    rw [byts_length] at hj
    have e : (⟨g, off, none⟩ : Addr).add j = ⟨g, off + j, none⟩ := by unfold Addr.add; split <;> simp_all
    rw [e, h4 j hj, ← hu, byts_get l j hj]
theorem RdB.cells {w : World} {B : Nat} {b : Addr} {n c : Nat} {l : List UInt8} (h : RdB w B (.slice (some b) n c) l) (hl : l ≠ []) : ∀ j u, (byts l)[j]? = some u → w.cell? (b.add j) = some u :=
  (h.toP (p := fun _ => True) (fun _ _ => trivial)).cells hl
theorem RdP.drew {w : World} {p : Nat → Prop} {v : Value} {l : List UInt8} (h : RdP w p v l) : RdP w.drew p v l := h
/-- append to a slice without room: what comes out holds both -/
theorem clipApp_run {w : World} (ty : TypeId) (p : Nat → Prop) (a : Option Addr) (l : List UInt8) (h : RdP w p (.slice a l.length l.length) l) {B : Nat} (vx : Value) (l2 : List UInt8) (hr : RdB w B vx l2) (hm : l.length + l2.length ≤ 4294967296) :
    ∃ v' w', (Builtin.append_ #[26, 26] ty #[.slice a l.length l.length, vx]).run Tryd.prog w = .ok v' w' ∧ RdP w' (fun g => p g ∨ w.heap.size ≤ g) v' (l ++ l2) ∧ Below w.heap.size w w' := by
  obtain ⟨i, hi, hz, hs1, hby⟩ := info_parts infoB
  rcases l2 with _ | ⟨x, r⟩
  · refine ⟨.slice a l.length l.length, w, ?_, by rw [List.append_nil]; exact h.mono (fun g _ hg => Or.inl hg), Below.refl _ _⟩
    have hv : vx = .slice none 0 0 ∨ ∃ ax c, vx = .slice (some ax) 0 c := by
      rcases hr with ⟨h0, _⟩ | ⟨g, off, cap, rfl, _⟩
      · exact h0
      · exact Or.inr ⟨_, _, rfl⟩
    rcases hv with rfl | ⟨ax, c, rfl⟩
    · cases a <;> simp [Builtin.append_, run_underlying Tryd.underlying26, sizeOf, typeInfo, hi, Builtin.lenOf, Builtin.firstCells, loadCells, storeCells]
    · cases a <;> simp [Builtin.append_, run_underlying Tryd.underlying26, sizeOf, typeInfo, hi, Builtin.lenOf, Builtin.firstCells, loadCells, loadCellsFrom, storeCells]
  · rcases a with _ | b
    · have hl0 : l = [] := by
        rcases h with ⟨_, e⟩ | ⟨g, off, cap, e, _⟩
        · exact e
        · cases e
      subst hl0
      obtain ⟨v', w', hrun, h2, h3⟩ := app_run (w := w) ty w.heap.size (.slice none 0 0) 0 [] (by simpa [byts] using World.ownsRow_nil w w.heap.size 5 1) vx (x :: r) hr (by simpa using hm) (Nat.le_refl _)
      refine ⟨v', w', hrun, ?_, (Below.refl _ _).grown h3 (Nat.le_refl _) (fun k e => by cases e)⟩
      exact RdP.own (n := 0 + (x :: r).length) h2 (fun g hg _ => Or.inr hg)
    · obtain ⟨ax, cx, rfl, _, hnone, _⟩ := hr.open_
      rcases ax with _ | ax
      · have := (hnone rfl).1; simp at this
      have hold : ∀ j u, (byts l)[j]? = some u → w.cell? (b.add j) = some u := by
        by_cases hl : l = []
        · subst hl; intro j u hu; simp [byts] at hu
        · exact h.cells hl
      obtain ⟨v', w', hrun, h2, h3⟩ := run_append_arg_grows (P := Tryd.prog) w 26 ty 5 i (.int .u8 0) 1 1 Tryd.underlying26 hi hz hs1 hby rfl (by decide)
        b l.length l.length (byts l) (by rw [byts_length, Nat.mul_one]) hold ax (x :: r).length cx (byts (x :: r)) (by rw [byts_length, Nat.mul_one]) (hr.cells (by simp)) (by simp) (by unfold maxLen; omega) (by omega)
      refine ⟨v', w', hrun, ?_, (Below.refl _ _).grown h3 (Nat.le_refl _) (fun k e => by cases e)⟩
      rw [← byts_append] at h2
      exact RdP.own h2 (fun g hg _ => Or.inr hg)
/-- the same in a region that draws its order -/
theorem step_clip {w : World} {ops : Array Oper} {o : Oper} {a : Act} {Q : Exit → Act → World → Prop} {K : Act → World → Prop} {E : Prop} (hgd : o.guard = none) (s x : Operand) (ho : o.op = .call { callee := .builtin .append, args := #[s, x], argTypes := #[26, 26] })
    (p : Nat → Prop) (av : Option Addr) (l : List UInt8) (hs : a.eval s = .slice av l.length l.length) (h : RdP w p (.slice av l.length l.length) l) {B : Nat} (vx : Value) (l2 : List UInt8) (hx : a.eval x = vx) (hr : RdB w B vx l2) (hm : l.length + l2.length ≤ 4294967296)
    (hk : ∀ v' w', RdP w' (fun g => p g ∨ w.heap.size ≤ g) v' (l ++ l2) → Below w.heap.size w w' → K (a.put o.dst v') w') :
    if Region.wanted o (yielded ops a.tmps) = true then Oper.wp Tryd.prog o a w K Q else E := by
  rw [if_pos (by simp [Region.wanted, hgd])]
  obtain ⟨v', w', hrun, h2, h3⟩ := clipApp_run (w := w) o.type p av l h vx l2 hr hm
  unfold Oper.wp execOp
  simp only [ho, resolve, invoke, builtin, Sem.run_bind, Sem.run_pure, Result.andThen_ok, List.map_toArray, List.map_cons, List.map_nil, hs, hx, hrun]
  exact hk v' w' h2 h3
theorem wpList_clip {w : World} {ops : Array Oper} {rest : List Oper} {o : Oper} {a : Act} {Q : Exit → Act → World → Prop} (hgd : o.guard = none) (s x : Operand) (ho : o.op = .call { callee := .builtin .append, args := #[s, x], argTypes := #[26, 26] })
    (p : Nat → Prop) (av : Option Addr) (l : List UInt8) (hs : a.eval s = .slice av l.length l.length) (h : RdP w p (.slice av l.length l.length) l) {B : Nat} (vx : Value) (l2 : List UInt8) (hx : a.eval x = vx) (hr : RdB w B vx l2) (hm : l.length + l2.length ≤ 4294967296)
    (hk : ∀ v' w', RdP w' (fun g => p g ∨ w.heap.size ≤ g) v' (l ++ l2) → Below w.heap.size w w' → wpList Tryd.prog ops Q rest (a.put o.dst v') w') :
    wpList Tryd.prog ops Q (o :: rest) a w := by
  refine wpList_plain hgd fun _ hK => ?_
  obtain ⟨v', w', hrun, h2, h3⟩ := clipApp_run (w := w) o.type p av l h vx l2 hr hm
  unfold Oper.wp execOp
  simp only [ho, resolve, invoke, builtin, Sem.run_bind, Sem.run_pure, Result.andThen_ok, List.map_toArray, List.map_cons, List.map_nil, hs, hx, hrun]
  exact hK _ _ (hk v' w' h2 h3)
theorem write_end {w w1 w4 : World} {db : Nat} {v4 : Value} {r : List UInt8} {x0 x1 x2 : Value} {p : Nat → Prop} (S1 : Grown (fun k => k = db) w w1) (hz : w1.heap.size = w.heap.size) (hb4 : Below w1.drew.heap.size w1.drew w4) (hy4 : RdP w4 (fun g => p g ∨ w1.drew.heap.size ≤ g) v4 r) (D1 : Blk w1 db 29 [x0, x1, x2]) (hpd : ∀ g, p g → g ≠ db) (o : Nat) :
    RdP (w4.setCell ⟨db, o, none⟩ v4) (fun g => p g ∨ w.heap.size ≤ g) v4 r ∧ Grown (fun k => k = db) w (w4.setCell ⟨db, o, none⟩ v4) ∧ Blk (w4.setCell ⟨db, o, none⟩ v4) db 29 ([x0, x1, x2].set o v4) := by
  have hlt := D1.lt
  have D4 : Blk w4 db 29 [x0, x1, x2] := Blk.below (w := w1.drew) D1.drew hb4
  have G4 : Grown (fun k => k = db) w4 (w4.setCell ⟨db, o, none⟩ v4) := Grown.setCell (S := fun k => k = db) (Grown.refl _ _) (a := ⟨db, o, none⟩) rfl _
  have hz' : w1.drew.heap.size = w.heap.size := hz
  rw [hz'] at hy4
  refine ⟨hy4.grown G4 (fun g hg e => ?_), (S1.drew.trans (Grown.of_below hb4)).trans G4, D4.set o v4⟩
  rcases hg with hg | hg
  · exact hpd g hg e
  · have e : g = db := e
    omega
set_option maxRecDepth 100000 in
set_option maxHeartbeats 2000000 in
/-- write: the power does not fail -/
theorem write_full (jb db : Nat) (pw : Int) (f : Bool) (v0 v1 vb : Value) (l b : List UInt8) (p q : Nat → Prop) (w : World) (hj : w.cell? ⟨jb, 0, none⟩ = some (.pointer (some ⟨db, 0, none⟩))) (hd : Blk w db 29 [.int .i64 pw, v0, v1]) (hl : RdP w p (if f then v1 else v0) l) (hb : RdP w q vb b) (hpw : pw < 0) (hpd : ∀ g, p g → g ≠ db) (hll : l.length ≤ 1073741824) (hbl : b.length ≤ 1073741824) :
    Calls Tryd.prog 36 #[.pointer (some ⟨jb, 0, none⟩), .int .i64 (if f then 1 else 0), vb] w fun e w' => e = .returned (.tuple #[]) ∧
      ∃ v', RdP w' (fun g => p g ∨ w.heap.size ≤ g) v' (l ++ b) ∧ Grown (fun k => k = db) w w' ∧ Blk w' db 29 [.int .i64 pw, if f then v0 else v', if f then v' else v1] := by
  have hv : ∃ a cap, (if f then v1 else v0) = .slice a l.length cap := by obtain ⟨a, cap, h, _⟩ := hl.toB.open_; exact ⟨a, cap, h⟩
  obtain ⟨a, cap, hv⟩ := hv
  obtain ⟨a2, cap2, rfl, _, _, _⟩ := hb.toB.open_
  have d0 := hd.cell 0 (by simp)
  have d1 := hd.cell 1 (by simp)
  have d2 := hd.cell 2 (by simp)
  have f0 := hd.frozen 0
  simp only [List.getD_cons_zero, List.getD_cons_succ] at d0 d1 d2
  have hcap : (b.length : Int) ≤ (cap2 : Int) := by
    rcases hb with ⟨h, rfl⟩ | ⟨g, off, c, e, h1, _⟩
    · simp
    · cases e; omega
  have hb0 : (0 : Int) ≤ (b.length : Int) := by omega
  have hge : (decide (pw ≥ 0)) = false := by simp; omega
  have hlt : (decide ((b.length : Int) < (b.length : Int))) = false := by simp
  have HCP := Lib.hid (clip_c (.slice a l.length cap) l p w.drew (RdP.drew (hv ▸ hl)))
  have HB := Lib.hid (RdP.drew hb).toB
  have HD := Lib.hid (And.intro (Grown.refl (fun k => k = db) w) (And.intro hd hpd))
  clear hd hl hb hpd f0
  cases f
  · simp only [Bool.false_eq_true, if_false] at hv ⊢
    subst hv
    go_enter Tryd.func36, Tryd.ntmps36
    go_upto_region 4 with (fail)
    go_region_law (first | (refine step_clip rfl _ _ rfl p _ l rfl hy3 _ b rfl HB.out (by omega) ?_; intro v4 w4 hy4 hb4; obtain ⟨a4, c4, rfl, _, _, _⟩ := hy4.toB.open_; rw [List.length_append] at hy4; have D4 := Blk.below (w := w.drew) HD.out.2.1.drew hb4; have z1 := D4.cell 1 (by simp); have y1 := D4.frozen 1; simp only [List.getD_cons_zero, List.getD_cons_succ] at z1) | (go_simp; go_at_call 52; refine HCP.out.mono ?_; rintro e w3 ⟨⟨a3, rfl, hy3⟩, rfl⟩; dsimp only))
    all_goals
      go_wp2
      go_end0
      exact ⟨rfl, _, write_end HD.out.1 rfl hb4 hy4 HD.out.2.1 HD.out.2.2 1⟩
  · simp only [if_true] at hv ⊢
    subst hv
    go_enter Tryd.func36, Tryd.ntmps36
    go_upto_region 4 with (fail)
    go_region_law (first | (refine step_clip rfl _ _ rfl p _ l rfl hy3 _ b rfl HB.out (by omega) ?_; intro v4 w4 hy4 hb4; obtain ⟨a4, c4, rfl, _, _, _⟩ := hy4.toB.open_; rw [List.length_append] at hy4; have D4 := Blk.below (w := w.drew) HD.out.2.1.drew hb4; have z1 := D4.cell 2 (by simp); have y1 := D4.frozen 2; simp only [List.getD_cons_zero, List.getD_cons_succ] at z1) | (go_simp; go_at_call 52; refine HCP.out.mono ?_; rintro e w3 ⟨⟨a3, rfl, hy3⟩, rfl⟩; dsimp only))
    all_goals
      go_wp2
      go_end0
      exact ⟨rfl, _, write_end HD.out.1 rfl hb4 hy4 HD.out.2.1 HD.out.2.2 2⟩
set_option maxRecDepth 100000 in
set_option maxHeartbeats 2000000 in
/-- write: there is enough power -/
theorem write_fits (jb db : Nat) (pw : Int) (f : Bool) (v0 v1 vb : Value) (l b : List UInt8) (p q : Nat → Prop) (w : World) (hj : w.cell? ⟨jb, 0, none⟩ = some (.pointer (some ⟨db, 0, none⟩))) (hd : Blk w db 29 [.int .i64 pw, v0, v1]) (hl : RdP w p (if f then v1 else v0) l) (hb : RdP w q vb b) (hpw : (b.length : Int) ≤ pw) (hp1 : pw ≤ 9223372036854775807) (hpd : ∀ g, p g → g ≠ db) (hqd : ∀ g, q g → g ≠ db) (hll : l.length ≤ 1073741824) (hbl : b.length ≤ 1073741824) :
    Calls Tryd.prog 36 #[.pointer (some ⟨jb, 0, none⟩), .int .i64 (if f then 1 else 0), vb] w fun e w' => e = .returned (.tuple #[]) ∧
      ∃ v', RdP w' (fun g => p g ∨ w.heap.size ≤ g) v' (l ++ b) ∧ Grown (fun k => k = db) w w' ∧ Blk w' db 29 [.int .i64 (pw - b.length), if f then v0 else v', if f then v' else v1] := by
  have hv : ∃ a cap, (if f then v1 else v0) = .slice a l.length cap := by obtain ⟨a, cap, h, _⟩ := hl.toB.open_; exact ⟨a, cap, h⟩
  obtain ⟨a, cap, hv⟩ := hv
  obtain ⟨a2, cap2, rfl, _, _, _⟩ := hb.toB.open_
  have d0 := hd.cell 0 (by simp)
  have d1 := hd.cell 1 (by simp)
  have d2 := hd.cell 2 (by simp)
  have f0 := hd.frozen 0
  simp only [List.getD_cons_zero, List.getD_cons_succ] at d0 d1 d2
  have hcap : (b.length : Int) ≤ (cap2 : Int) := by
    rcases hb with ⟨h, rfl⟩ | ⟨g, off, c, e, h1, _⟩
    · simp
    · cases e; omega
  have hb0 : (0 : Int) ≤ (b.length : Int) := by omega
  have hge : (decide (pw ≥ 0)) = true := by simp; omega
  have hlt : (decide ((b.length : Int) < (b.length : Int))) = false := by simp
  have HH := Lib.hid (And.intro hd (And.intro (hv ▸ hl) (And.intro hb (And.intro hpd hqd))))
  clear hd hl hb hpd hqd
  cases f
  · simp only [Bool.false_eq_true, if_false] at hv ⊢
    subst hv
    go_enter Tryd.func36, Tryd.ntmps36
    go_upto_region 4 with (at_builtin; refine wpList_minJ _ rfl _ _ _ rfl (b.length : Int) pw rfl rfl ?_; intro r hr1 hr2 hr3; obtain rfl : r = (b.length : Int) := by omega)
    obtain ⟨hd, hl, hb, hpd, hqd⟩ := HH.out
    have S1 : Grown (fun k => k = db) w (w.setCell ⟨db, 0, none⟩ (.int .i64 (pw - b.length))) := Grown.setCell (S := fun k => k = db) (Grown.refl _ _) (a := ⟨db, 0, none⟩) rfl _
    have D1 := hd.set 0 (.int .i64 (pw - b.length))
    have R1 := hl.grown S1 (fun g hg e => hpd g hg e)
    have B1 := hb.grown S1 (fun g hg e => hqd g hg e)
    simp only [List.set_cons_zero] at D1
    have hz : (w.setCell ⟨db, 0, none⟩ (.int .i64 (pw - b.length))).heap.size = w.heap.size := by simp
    have HPD := Lib.hid hpd
    clear hd hl hb d0 d1 d2 f0 HH hpd hqd
    generalize w.setCell ⟨db, 0, none⟩ (.int .i64 (pw - b.length)) = w1 at *
    have q1 := D1.cell 1 (by simp)
    simp only [List.getD_cons_zero, List.getD_cons_succ] at q1
    have HCP := Lib.hid (clip_c (.slice a l.length cap) l p w1.drew (RdP.drew R1))
    have HB := Lib.hid (RdP.drew B1).toB
    have HD := Lib.hid (And.intro S1 (And.intro D1 hz))
    clear S1 R1 B1 D1 hz
    go_region_law (first | (refine step_clip rfl _ _ rfl p _ l rfl hy3 _ b rfl HB.out (by omega) ?_; intro v4 w4 hy4 hb4; obtain ⟨a4, c4, rfl, _, _, _⟩ := hy4.toB.open_; rw [List.length_append] at hy4; have D4 := Blk.below (w := w1.drew) HD.out.2.1.drew hb4; have z1 := D4.cell 1 (by simp); have y1 := D4.frozen 1; simp only [List.getD_cons_zero, List.getD_cons_succ] at z1) | (go_simp; go_at_call 52; refine HCP.out.mono ?_; rintro e w3 ⟨⟨a3, rfl, hy3⟩, rfl⟩; dsimp only))
    all_goals
      go_wp2
      go_end0
      exact ⟨rfl, _, write_end HD.out.1 HD.out.2.2 hb4 hy4 HD.out.2.1 HPD.out 1⟩
  · simp only [if_true] at hv ⊢
    subst hv
    go_enter Tryd.func36, Tryd.ntmps36
    go_upto_region 4 with (at_builtin; refine wpList_minJ _ rfl _ _ _ rfl (b.length : Int) pw rfl rfl ?_; intro r hr1 hr2 hr3; obtain rfl : r = (b.length : Int) := by omega)
    obtain ⟨hd, hl, hb, hpd, hqd⟩ := HH.out
    have S1 : Grown (fun k => k = db) w (w.setCell ⟨db, 0, none⟩ (.int .i64 (pw - b.length))) := Grown.setCell (S := fun k => k = db) (Grown.refl _ _) (a := ⟨db, 0, none⟩) rfl _
    have D1 := hd.set 0 (.int .i64 (pw - b.length))
    have R1 := hl.grown S1 (fun g hg e => hpd g hg e)
    have B1 := hb.grown S1 (fun g hg e => hqd g hg e)
    simp only [List.set_cons_zero] at D1
    have hz : (w.setCell ⟨db, 0, none⟩ (.int .i64 (pw - b.length))).heap.size = w.heap.size := by simp
    have HPD := Lib.hid hpd
    clear hd hl hb d0 d1 d2 f0 HH hpd hqd
    generalize w.setCell ⟨db, 0, none⟩ (.int .i64 (pw - b.length)) = w1 at *
    have q2 := D1.cell 2 (by simp)
    simp only [List.getD_cons_zero, List.getD_cons_succ] at q2
    have HCP := Lib.hid (clip_c (.slice a l.length cap) l p w1.drew (RdP.drew R1))
    have HB := Lib.hid (RdP.drew B1).toB
    have HD := Lib.hid (And.intro S1 (And.intro D1 hz))
    clear S1 R1 B1 D1 hz
    go_region_law (first | (refine step_clip rfl _ _ rfl p _ l rfl hy3 _ b rfl HB.out (by omega) ?_; intro v4 w4 hy4 hb4; obtain ⟨a4, c4, rfl, _, _, _⟩ := hy4.toB.open_; rw [List.length_append] at hy4; have D4 := Blk.below (w := w1.drew) HD.out.2.1.drew hb4; have z1 := D4.cell 2 (by simp); have y1 := D4.frozen 2; simp only [List.getD_cons_zero, List.getD_cons_succ] at z1) | (go_simp; go_at_call 52; refine HCP.out.mono ?_; rintro e w3 ⟨⟨a3, rfl, hy3⟩, rfl⟩; dsimp only))
    all_goals
      go_wp2
      go_end0
      exact ⟨rfl, _, write_end HD.out.1 HD.out.2.2 hb4 hy4 HD.out.2.1 HPD.out 2⟩
set_option maxRecDepth 100000 in
set_option maxHeartbeats 2000000 in
/-- write: there is too little power -/
theorem write_short (jb db : Nat) (k : Nat) (f : Bool) (v0 v1 vb : Value) (l b : List UInt8) (p q : Nat → Prop) (w : World) (hj : w.cell? ⟨jb, 0, none⟩ = some (.pointer (some ⟨db, 0, none⟩))) (hd : Blk w db 29 [.int .i64 k, v0, v1]) (hl : RdP w p (if f then v1 else v0) l) (hb : RdP w q vb b) (hpw : k < b.length) (hpd : ∀ g, p g → g ≠ db) (hqd : ∀ g, q g → g ≠ db) (hll : l.length ≤ 1073741824) (hbl : b.length ≤ 1073741824) :
    Calls Tryd.prog 36 #[.pointer (some ⟨jb, 0, none⟩), .int .i64 (if f then 1 else 0), vb] w fun e w' => e = noPower ∧
      ∃ v', RdP w' (fun g => p g ∨ w.heap.size ≤ g) v' (l ++ b.take k) ∧ Grown (fun k => k = db) w w' ∧ Blk w' db 29 [.int .i64 0, if f then v0 else v', if f then v' else v1] := by
  have hv : ∃ a cap, (if f then v1 else v0) = .slice a l.length cap := by obtain ⟨a, cap, h, _⟩ := hl.toB.open_; exact ⟨a, cap, h⟩
  obtain ⟨a, cap, hv⟩ := hv
  obtain ⟨a2, cap2, rfl, _, _, _⟩ := hb.toB.open_
  have d0 := hd.cell 0 (by simp)
  have d1 := hd.cell 1 (by simp)
  have d2 := hd.cell 2 (by simp)
  have f0 := hd.frozen 0
  simp only [List.getD_cons_zero, List.getD_cons_succ] at d0 d1 d2
  have hcap : (b.length : Int) ≤ (cap2 : Int) := by
    rcases hb with ⟨h, rfl⟩ | ⟨g, off, c, e, h1, _⟩
    · simp
    · cases e; omega
  have hb0 : (0 : Int) ≤ (b.length : Int) := by omega
  have hge : (decide ((k : Int) ≥ 0)) = true := by simp
  have hlt : (decide ((k : Int) < (b.length : Int))) = true := by simp; omega
  have hk0 : (0 : Int) ≤ (k : Int) := by omega
  have hkc : (k : Int) ≤ (cap2 : Int) := by omega
  have hbt := hb.cut (n := k) (by omega)
  have hbk : (b.take k).length = k := by rw [List.length_take]; omega
  have hkl : (b.length : Nat) ≤ 1073741824 := hbl
  generalize b.length = bn at *
  generalize b.take k = t at *
  subst hbk
  have HH := Lib.hid (And.intro hd (And.intro (hv ▸ hl) (And.intro hbt (And.intro hpd hqd))))
  clear hd hl hb hpd hqd hbt
  cases f
  · simp only [Bool.false_eq_true, if_false] at hv ⊢
    subst hv
    go_enter Tryd.func36, Tryd.ntmps36
    go_upto_region 4 with (at_builtin; refine wpList_minJ _ rfl _ _ _ rfl (bn : Int) (t.length : Int) rfl rfl ?_; intro r hr1 hr2 hr3; obtain rfl : r = (t.length : Int) := by omega)
    obtain ⟨hd, hl, hb, hpd, hqd⟩ := HH.out
    have S1 : Grown (fun k => k = db) w (w.setCell ⟨db, 0, none⟩ (.int .i64 (0))) := Grown.setCell (S := fun k => k = db) (Grown.refl _ _) (a := ⟨db, 0, none⟩) rfl _
    have D1 := hd.set 0 (.int .i64 (0))
    have R1 := hl.grown S1 (fun g hg e => hpd g hg e)
    have B1 := hb.grown S1 (fun g hg e => hqd g hg e)
    simp only [List.set_cons_zero] at D1
    have hz : (w.setCell ⟨db, 0, none⟩ (.int .i64 (0))).heap.size = w.heap.size := by simp
    have HPD := Lib.hid hpd
    clear hd hl hb d0 d1 d2 f0 HH hpd hqd
    generalize w.setCell ⟨db, 0, none⟩ (.int .i64 (0)) = w1 at *
    have q1 := D1.cell 1 (by simp)
    simp only [List.getD_cons_zero, List.getD_cons_succ] at q1
    have HCP := Lib.hid (clip_c (.slice a l.length cap) l p w1.drew (RdP.drew R1))
    have HB := Lib.hid (RdP.drew B1).toB
    have HD := Lib.hid (And.intro S1 (And.intro D1 hz))
    clear S1 R1 B1 D1 hz
    go_region_law (first | (refine step_clip rfl _ _ rfl p _ l rfl hy3 _ t rfl HB.out (by omega) ?_; intro v4 w4 hy4 hb4; obtain ⟨a4, c4, rfl, _, _, _⟩ := hy4.toB.open_; rw [List.length_append] at hy4; have D4 := Blk.below (w := w1.drew) HD.out.2.1.drew hb4; have z1 := D4.cell 1 (by simp); have y1 := D4.frozen 1; simp only [List.getD_cons_zero, List.getD_cons_succ] at z1) | (go_simp; go_at_call 52; refine HCP.out.mono ?_; rintro e w3 ⟨⟨a3, rfl, hy3⟩, rfl⟩; dsimp only))
    all_goals
      go_wp2
      exact ⟨rfl, rfl, _, write_end HD.out.1 HD.out.2.2 hb4 hy4 HD.out.2.1 HPD.out 1⟩
  · simp only [if_true] at hv ⊢
    subst hv
    go_enter Tryd.func36, Tryd.ntmps36
    go_upto_region 4 with (at_builtin; refine wpList_minJ _ rfl _ _ _ rfl (bn : Int) (t.length : Int) rfl rfl ?_; intro r hr1 hr2 hr3; obtain rfl : r = (t.length : Int) := by omega)
    obtain ⟨hd, hl, hb, hpd, hqd⟩ := HH.out
    have S1 : Grown (fun k => k = db) w (w.setCell ⟨db, 0, none⟩ (.int .i64 (0))) := Grown.setCell (S := fun k => k = db) (Grown.refl _ _) (a := ⟨db, 0, none⟩) rfl _
    have D1 := hd.set 0 (.int .i64 (0))
    have R1 := hl.grown S1 (fun g hg e => hpd g hg e)
    have B1 := hb.grown S1 (fun g hg e => hqd g hg e)
    simp only [List.set_cons_zero] at D1
    have hz : (w.setCell ⟨db, 0, none⟩ (.int .i64 (0))).heap.size = w.heap.size := by simp
    have HPD := Lib.hid hpd
    clear hd hl hb d0 d1 d2 f0 HH hpd hqd
    generalize w.setCell ⟨db, 0, none⟩ (.int .i64 (0)) = w1 at *
    have q2 := D1.cell 2 (by simp)
    simp only [List.getD_cons_zero, List.getD_cons_succ] at q2
    have HCP := Lib.hid (clip_c (.slice a l.length cap) l p w1.drew (RdP.drew R1))
    have HB := Lib.hid (RdP.drew B1).toB
    have HD := Lib.hid (And.intro S1 (And.intro D1 hz))
    clear S1 R1 B1 D1 hz
    go_region_law (first | (refine step_clip rfl _ _ rfl p _ l rfl hy3 _ t rfl HB.out (by omega) ?_; intro v4 w4 hy4 hb4; obtain ⟨a4, c4, rfl, _, _, _⟩ := hy4.toB.open_; rw [List.length_append] at hy4; have D4 := Blk.below (w := w1.drew) HD.out.2.1.drew hb4; have z1 := D4.cell 2 (by simp); have y1 := D4.frozen 2; simp only [List.getD_cons_zero, List.getD_cons_succ] at z1) | (go_simp; go_at_call 52; refine HCP.out.mono ?_; rintro e w3 ⟨⟨a3, rfl, hy3⟩, rfl⟩; dsimp only))
    all_goals
      go_wp2
      exact ⟨rfl, rfl, _, write_end HD.out.1 HD.out.2.2 hb4 hy4 HD.out.2.1 HPD.out 2⟩
end Go.Proofs.YtondomklkapogaaDoor
