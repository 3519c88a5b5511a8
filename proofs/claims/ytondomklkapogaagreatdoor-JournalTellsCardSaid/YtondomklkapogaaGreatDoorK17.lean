/- The walks of Commit (all its ends together), Set, Drop, Compact. -/
import Derived.Test.YtondomklkapogaaGreatDoorK16
namespace Go.Proofs.YtondomklkapogaaGreatDoor
section
open Go.RowKit SeedP Go.Maps
/-- Commit -/
theorem commit_c {jb db mb : Nat} {p : Nat → Prop} {s : JS} (v : Value) (cs : List Chg) (w : World) (h : JW w jb db mb p s) (hc : ChgsP w (fun g => g ≠ jb ∧ g ≠ db ∧ g ≠ mb) v cs) (hn : cs.length ≤ 1000000) (hb : ∀ c ∈ cs, c.key.length ≤ 1073741824 ∧ c.val.length ≤ 1073741824) :
 Calls Tryz.prog 13 #[.pointer (some ⟨jb, 0, none⟩), v] w fun e w' => e = .returned (.int .i64 (jCommit cs s).2) ∧ JW w' jb db mb (fun g => p g ∨ w.heap.size ≤ g) (jCommit cs s).1 ∧ Grown (fun k => k = jb ∨ k = db ∨ k = mb) w w' := by
 by_cases hx : s.down = true ∨ cs.length = 0 ∨ 64 < cs.length ∨ validP cs ≠ 0
 ·refine (commit_early v cs w h hc hn hb hx).mono ?_
  rintro e w' ⟨he, hs, hB⟩
  refine ⟨he, ?_, Grown.below3 hB⟩
  rw [hs]
  exact (h.below hB).mono (fun g hg => Or.inl hg) (h.fresh (Nat.le_refl _))
 ·have hd : s.down = false := by cases hd : s.down with | false => rfl | true => exact absurd (Or.inl hd) hx
  have h0 : ¬ cs.length = 0 := fun e => hx (Or.inr (Or.inl e))
  have h6 : ¬ 64 < cs.length := fun e => hx (Or.inr (Or.inr (Or.inl e)))
  have hv : validP cs = 0 := by
   rcases Int.lt_trichotomy (validP cs) 0 with e | e | e
   ·exact absurd (Or.inr (Or.inr (Or.inr (by omega)))) hx
   ·exact e
   ·exact absurd (Or.inr (Or.inr (Or.inr (by omega)))) hx
  exact commit_late v cs w h hc hd (by omega) (by omega) ((valid_zero cs).1 hv)
/-- a slice of one change that was just laid -/
theorem chgs_one (w : World) (q : Nat → Prop) (k val : List UInt8) (v : Value) (d : Bool) (hv : RdP w q v val) (hq : q w.heap.size) :
 ChgsP (w.alloc (.cells #[strV k, v, .bool d] 60)) q (.slice (some ⟨w.heap.size, 0, none⟩) 1 1) [⟨k, val, d⟩] := by
 have hb := Blk.new w 60 [strV k, v, .bool d]
 have hg : Grown (fun _ => False) w (w.alloc (.cells #[strV k, v, .bool d] 60)) := Grown.of_below ((Below.refl _ w).alloc (Nat.le_refl _) _)
 refine ⟨some ⟨w.heap.size, 0, none⟩, 1, rfl, Nat.le_refl _, by unfold maxLen; omega, Or.inr ⟨w.heap.size, 0, rfl, hq, fun j hj => ?_⟩⟩
 obtain rfl : j = 0 := by simp at hj; omega
 exact ⟨v, hb.cell 0 (by simp), hb.cell 1 (by simp), hb.cell 2 (by simp), hv.grown hg (fun _ _ h => h)⟩
set_option maxRecDepth 100000 in
/-- Set -/
theorem set_c {jb db mb : Nat} {p : Nat → Prop} {s : JS} (k val : List UInt8) (v : Value) (w : World) (h : JW w jb db mb p s) (hv : RdP w (fun g => g ≠ jb ∧ g ≠ db ∧ g ≠ mb) v val) (hk : k.length ≤ 1073741824) (hl : val.length ≤ 1073741824) :
 Calls Tryz.prog 25 #[.pointer (some ⟨jb, 0, none⟩), strV k, v] w fun e w' => e = .returned (.int .i64 (jCommit [⟨k, val, false⟩] s).2) ∧ JW w' jb db mb (fun g => p g ∨ w.heap.size ≤ g) (jCommit [⟨k, val, false⟩] s).1 ∧ Grown (fun k => k = jb ∨ k = db ∨ k = mb) w w' := by
 have hlt := h.lt
 have hB : Below w.heap.size w (w.alloc (.cells #[strV k, v, .bool false] 60)) := (Below.refl _ w).alloc (Nat.le_refl _) _
 have HC := Lib.hid (commit_c _ [⟨k, val, false⟩] _ (h.below hB) (chgs_one w _ k val v false hv (by omega)) (by simp) (fun c hc => by obtain rfl := List.mem_singleton.1 hc; exact ⟨hk, hl⟩))
 have HB := Lib.hid hB
 have HF := Lib.hid (h.fresh (Nat.le_refl _))
 obtain ⟨a, cap, rfl, _, _, _⟩ := hv.toB.open_
 clear hv hB h
 go_enter Tryz.func25, Tryz.ntmps25
 go_wp2_with fail
 refine HC.out.mono ?_
 rintro e w2 ⟨rfl, hJ2, hG2⟩
 go_wp2
 go_ret
 exact ⟨rfl, hJ2.mono (fun g hg => by rcases hg with hg | hg; exact Or.inl hg; exact Or.inr (Nat.le_trans HB.out.size hg)) HF.out, (Grown.below3 HB.out).trans hG2⟩
set_option maxRecDepth 100000 in
/-- Drop -/
theorem drop_c {jb db mb : Nat} {p : Nat → Prop} {s : JS} (k : List UInt8) (w : World) (h : JW w jb db mb p s) (hk : k.length ≤ 1073741824) :
 Calls Tryz.prog 26 #[.pointer (some ⟨jb, 0, none⟩), strV k] w fun e w' => e = .returned (.int .i64 (jCommit [⟨k, [], true⟩] s).2) ∧ JW w' jb db mb (fun g => p g ∨ w.heap.size ≤ g) (jCommit [⟨k, [], true⟩] s).1 ∧ Grown (fun k => k = jb ∨ k = db ∨ k = mb) w w' := by
 have hlt := h.lt
 have hB : Below w.heap.size w (w.alloc (.cells #[strV k, .slice none 0 0, .bool true] 60)) := (Below.refl _ w).alloc (Nat.le_refl _) _
 have HC := Lib.hid (commit_c _ [⟨k, [], true⟩] _ (h.below hB) (chgs_one w _ k [] (.slice none 0 0) true (Or.inl ⟨Or.inl rfl, rfl⟩) (by omega)) (by simp) (fun c hc => by obtain rfl := List.mem_singleton.1 hc; exact ⟨hk, by simp⟩))
 have HB := Lib.hid hB
 have HF := Lib.hid (h.fresh (Nat.le_refl _))
 clear hB h
 go_enter Tryz.func26, Tryz.ntmps26
 go_wp2_with fail
 refine HC.out.mono ?_
 rintro e w2 ⟨rfl, hJ2, hG2⟩
 go_wp2
 go_ret
 exact ⟨rfl, hJ2.mono (fun g hg => by rcases hg with hg | hg; exact Or.inl hg; exact Or.inr (Nat.le_trans HB.out.size hg)) HF.out, (Grown.below3 HB.out).trans hG2⟩
set_option maxRecDepth 100000 in
set_option maxHeartbeats 1000000 in
/-- Compact -/
theorem compactOp_c {jb db mb : Nat} {p : Nat → Prop} {s : JS} (w : World) (h : JW w jb db mb p s) :
 Calls Tryz.prog 12 #[.pointer (some ⟨jb, 0, none⟩)] w fun e w' => e = .returned (.int .i64 (jCompactOp s).2) ∧ JW w' jb db mb (fun g => p g ∨ w.heap.size ≤ g) (jCompactOp s).1 ∧ Grown (fun k => k = jb ∨ k = db ∨ k = mb) w w' := by
 have hmf : ∀ (fn : Fn) (first cap : Array Value) (w : World), (Instr.makeFunc fn first cap).run Tryz.prog w = .ok (.func fn first cap) w := fun _ _ _ _ => rfl
 have HR := Lib.hid (refused_c w h)
 have k3 := h.cells.2.2.2.1
 have HS := Lib.hid (h.mono (p' := fun g => p g ∨ w.heap.size ≤ g) (fun g hg => Or.inl hg) (h.fresh (Nat.le_refl _)))
 have HP := Lib.hid (fun hg => powered_compact w h hg)
 have hgl := h.ok.gen
 clear h
 cases hd : s.down with
 | true =>
   rw [hd] at HR
   simp only [if_true] at HR
   have HE : Hid (jCompactOp s = (s, 360)) := Lib.hid (by unfold jCompactOp; rw [if_pos hd])
   clear hd
   go_enter Tryz.func12, Tryz.ntmps12
   go_wp2_with fail
   refine HR.out.mono ?_
   rintro e w1 ⟨rfl, rfl⟩
   go_wp2
   go_ret
   rw [HE.out]
   exact ⟨rfl, HS.out, Grown.refl _ _⟩
 | false =>
   rw [hd] at HR
   simp only [Bool.false_eq_true, if_false] at HR
   by_cases hg : s.c.gen = 4611686018427387904
   ·have HE : Hid (jCompactOp s = (s, 4)) := Lib.hid (by unfold jCompactOp; rw [if_neg (by rw [hd]; simp), if_pos hg])
    have hgb : ((s.c.gen : Int) == 4611686018427387904) = true := by rw [hg]; rfl
    generalize (s.c.gen : Int) = gi at *
    clear hd hg
    go_enter Tryz.func12, Tryz.ntmps12
    go_wp2_with fail
    refine HR.out.mono ?_
    rintro e w1 ⟨rfl, rfl⟩
    go_wp2
    go_ret
    rw [HE.out]
    exact ⟨rfl, HS.out, Grown.refl _ _⟩
   ·have HE : Hid (jCompactOp s = jPowered (jCompact s)) := Lib.hid (by unfold jCompactOp; rw [if_neg (by rw [hd]; simp), if_neg hg])
    have hgb : ((s.c.gen : Int) == 4611686018427387904) = false := by rw [beq_eq_false_iff_ne]; omega
    have HP := Lib.hid (HP.out (by omega))
    generalize (s.c.gen : Int) = gi at *
    clear hd hg hgl
    go_enter Tryz.func12, Tryz.ntmps12
    go_wp2_with fail
    refine HR.out.mono ?_
    rintro e w1 ⟨rfl, rfl⟩
    go_wp2_with fail
    refine HP.out.mono ?_
    rintro e w2 ⟨rfl, hJ2, hG2⟩
    go_wp2
    go_ret
    rw [HE.out]
    exact ⟨rfl, hJ2, hG2⟩
end
section
open Go.RowKit SeedP Go.Maps
theorem index0 (x y : Value) (w : World) : (Instr.index 26 (.agg #[x, y]) (.int .i64 0)).run Tryz.prog w = .ok x w := by kernel_rfl
theorem index1 (x y : Value) (w : World) : (Instr.index 26 (.agg #[x, y]) (.int .i64 1)).run Tryz.prog w = .ok y w := by kernel_rfl
def openAt (d : DS) : Nat → Bool × Cont
 | 0 => (false, zeroC)
 | 1 => pickC (readF d.f0) false (false, zeroC)
 | _ => openP d
/-- the journal under way: after j files -/
structure OpenW (w wr : World) (jb db : Nat) (p : Nat → Prop) (d : DS) (j : Nat) (mb : Nat) (L : List Ent) : Prop where
 st : St wr
 blk : Blk wr jb 81 [.pointer (some ⟨db, 0, none⟩), .bool false, .int .i64 (if (openAt d j).1 then 1 else 0), .int .i64 (openAt d j).2.gen, .map (some mb), .int .i64 (openAt d j).2.wt, .int .u64 (openAt d j).2.sum, .int .i64 (openAt d j).2.ed]
 disk : DW wr db (fun g => p g ∧ g < w.heap.size) d
 map : MapAt wr mb (fun g => w.heap.size ≤ g ∧ g ≠ mb ∧ g ≠ jb) L
 ents : EB L = (openAt d j).2.ents
 below : Below w.heap.size w wr
 mlt : w.heap.size ≤ mb
 mj : mb ≠ jb
theorem OpenW.fin {w wr : World} {jb db : Nat} {p : Nat → Prop} {d : DS} {mb : Nat} {L : List Ent} (h : OpenW w wr jb db p d 2 mb L) (hw : DW w db p d) (hj : w.heap.size ≤ jb) (hok : d.Ok) (ha : ∀ g, p g → g ≠ db ∧ g ≠ 0) :
 JW wr jb db mb (fun g => (p g ∧ g < w.heap.size) ∨ (w.heap.size ≤ g ∧ g ≠ mb ∧ g ≠ jb)) (jOpen d) := by
 have hl := open_live hok
 have hlt := hw.lt
 exact ⟨h.st, h.blk, h.disk.mono (fun g hg => Or.inl hg), ⟨L, h.map.mono' (fun g hg => Or.inr hg), h.ents⟩, fun g hg => by
  have := h.mlt
  rcases hg with hg | hg
  ·have := ha g hg.1
   refine ⟨by omega, this.1, by omega, this.2⟩
  ·refine ⟨hg.2.2, by omega, hg.2.1, by omega⟩, hl.ok, hl.ord, hl.small⟩
theorem OpenW.keep {w wr w' : World} {jb db : Nat} {p : Nat → Prop} {d : DS} {j j' mb : Nat} {L : List Ent} (h : OpenW w wr jb db p d j mb L) (hb : Below wr.heap.size wr w') (he : openAt d j' = openAt d j) : OpenW w w' jb db p d j' mb L := by
 have hg : Grown (fun _ => False) wr w' := Grown.of_below hb
 refine ⟨h.st.below hb h.st.pos, ?_, h.disk.grown hg (fun h => h) (fun _ _ h => h), h.map.grown hg (fun h => h) (fun _ _ h => h), ?_, h.below.trans (hb.mono h.below.size), h.mlt, h.mj⟩
 ·rw [he]; exact h.blk.grown hg (fun h => h)
 ·rw [he]; exact h.ents
theorem OpenW.take {w W : World} {jb db : Nat} {p : Nat → Prop} {d : DS} {j j' mb mb' B : Nat} {L L' : List Ent} {f : Bool} {c : Cont} (h : OpenW w W jb db p d j mb L) (hM : MapAt W mb' (fun g => B ≤ g ∧ g ≠ mb') L') (hjB : jb < B) (hmB : B ≤ mb') (hdj : db < w.heap.size) (hj : w.heap.size ≤ jb) (hj0 : 0 < jb) (hE : EB L' = c.ents) (he : openAt d j' = (f, c)) (fi : Int) (hf : fi = if f then 1 else 0) :
 OpenW w ((((((W.setCell ⟨jb, 2, none⟩ (.int .i64 fi)).setCell ⟨jb, 3, none⟩ (.int .i64 c.gen)).setCell ⟨jb, 4, none⟩ (.map (some mb'))).setCell ⟨jb, 5, none⟩ (.int .i64 c.wt)).setCell ⟨jb, 6, none⟩ (.int .u64 c.sum)).setCell ⟨jb, 7, none⟩ (.int .i64 c.ed)) jb db p d j' mb' L' := by
 subst hf
 have hG : Grown (fun k => k = jb) W ((((((W.setCell ⟨jb, 2, none⟩ (.int .i64 (if f then 1 else 0))).setCell ⟨jb, 3, none⟩ (.int .i64 c.gen)).setCell ⟨jb, 4, none⟩ (.map (some mb'))).setCell ⟨jb, 5, none⟩ (.int .i64 c.wt)).setCell ⟨jb, 6, none⟩ (.int .u64 c.sum)).setCell ⟨jb, 7, none⟩ (.int .i64 c.ed)) :=
  Grown.setCell (S := fun k => k = jb) (Grown.setCell (S := fun k => k = jb) (Grown.setCell (S := fun k => k = jb) (Grown.setCell (S := fun k => k = jb) (Grown.setCell (S := fun k => k = jb) (Grown.setCell (S := fun k => k = jb) (Grown.refl _ _) (a := ⟨jb, 2, none⟩) rfl _) (a := ⟨jb, 3, none⟩) rfl _) (a := ⟨jb, 4, none⟩) rfl _) (a := ⟨jb, 5, none⟩) rfl _) (a := ⟨jb, 6, none⟩) rfl _) (a := ⟨jb, 7, none⟩) rfl _
 have hb := (((((h.blk.set 2 (.int .i64 (if f then 1 else 0))).set 3 (.int .i64 c.gen)).set 4 (.map (some mb'))).set 5 (.int .i64 c.wt)).set 6 (.int .u64 c.sum)).set 7 (.int .i64 c.ed)
 refine ⟨h.st.block (hG.block 0 h.st.pos (fun e => by omega)), by rw [he]; exact hb, h.disk.grown hG (fun e => by omega) (fun g hg e => by have := hg.2; omega), (hM.grown hG (fun e => by omega) (fun g hg e => by have := hg.1; omega)).mono' (fun g hg => ⟨by omega, hg.2, by omega⟩), by rw [he]; exact hE, h.below.trans (hG.below (fun k e => by omega) h.below.size), by omega, by omega⟩
set_option maxRecDepth 100000 in
set_option maxHeartbeats 4000000 in
/-- Open of a disk that may be -/
theorem open_c (db : Nat) (p : Nat → Prop) (d : DS) (w : World) (hs : St w) (hw : DW w db p d) (hok : d.Ok) (ha : ∀ g, p g → g ≠ db ∧ g ≠ 0) :
 Calls Tryz.prog 10 #[.pointer (some ⟨db, 0, none⟩)] w fun e w' => ∃ jb mb, e = .returned (.tuple #[.pointer (some ⟨jb, 0, none⟩), .int .i64 0]) ∧ w.heap.size ≤ jb ∧ w.heap.size ≤ mb ∧ JW w' jb db mb (fun g => (p g ∧ g < w.heap.size) ∨ (w.heap.size ≤ g ∧ g ≠ mb ∧ g ≠ jb)) (jOpen d) ∧ Below w.heap.size w w' := by
 have hmm := @run_makeMap Tryz.prog
 have HW := Lib.hid hw
 have hwl := hw.lt
 obtain ⟨v0, v1, q0, q1, hD, hr0, hr1, hq0, hq1⟩ := hw
 obtain ⟨a0, c0, rfl, _, _, _⟩ := hr0.toB.open_
 obtain ⟨a1, c1, rfl, _, _, _⟩ := hr1.toB.open_
 have HR0 := Lib.hid hr0.toB
 have HR1 := Lib.hid hr1.toB
 have d0 := hD.cell 0 (by simp)
 have d1 := hD.cell 1 (by simp)
 have d2 := hD.cell 2 (by simp)
 simp only [List.getD_cons_zero, List.getD_cons_succ] at d0 d1 d2
 have hpw : (decide (d.pw < -1)) = false := by have := hok.pw0; simp; omega
 have hf0 : (d.f0.length : Int) ≤ 262144 := by have := hok.f0; omega
 have hf1 : (d.f1.length : Int) ≤ 262144 := by have := hok.f1; omega
 have hdl := hD.lt
 have HH := Lib.hid (And.intro hs (And.intro hok ha))
 have hd0 : db ≠ 0 := hs.not hD (fun n e => by cases e)
 clear hD hr0 hr1 hq0 hq1 hs hok ha
 go_enter Tryz.func10, Tryz.ntmps10
 go_wp2
 have hix0 := index0
 have hix1 := index1
 go_loopw [24] (fun i wr => ∃ j : Int, (j = 0 ∨ j = 1 ∨ j = 2) ∧ i = .int .i64 j ∧ w = wr) (fun i _ => 2 - (intOf i).toNat)
 case atStart => exact ⟨0, Or.inl rfl, rfl, rfl⟩
 case round =>
  obtain ⟨j, hj, rfl, rfl⟩ := hrel
  rcases hj with rfl | rfl | rfl
  ·go_wp2
   go_roundw
   case rel => exact ⟨1, Or.inr (Or.inl rfl), by first | trivial | rfl, by first | trivial | rfl⟩
   case measure => simp [intOf]
  ·go_wp2
   go_roundw
   case rel => exact ⟨2, Or.inr (Or.inr rfl), by first | trivial | rfl, by first | trivial | rfl⟩
   case measure => simp [intOf]
  ·have hG1 : Below w.heap.size w (w.alloc (.map #[] 0)) := (Below.refl _ _).alloc (Nat.le_refl _) _
   have hG2 : Below w.heap.size w ((w.alloc (.map #[] 0)).alloc (.cells #[.pointer (some ⟨db, 0, none⟩), .bool false, .int .i64 0, .int .i64 0, .map (some w.heap.size), .int .i64 0, .int .u64 0, .int .i64 0] 81)) := hG1.alloc hG1.size _
   have hB0 := Blk.new (w.alloc (.map #[] 0)) 81 [.pointer (some ⟨db, 0, none⟩), .bool false, .int .i64 0, .int .i64 0, .map (some w.heap.size), .int .i64 0, .int .u64 0, .int .i64 0]
   have hz1 : (w.alloc (.map #[] 0)).heap.size = w.heap.size + 1 := by simp
   rw [hz1] at hB0
   have hM1 := (MapAt.made w (fun g => w.heap.size ≤ g ∧ g ≠ w.heap.size ∧ g ≠ w.heap.size + 1)).grown (S := fun _ => False) (Grown.of_below ((Below.refl _ _).alloc (Nat.le_refl _) (.cells #[.pointer (some ⟨db, 0, none⟩), .bool false, .int .i64 0, .int .i64 0, .map (some w.heap.size), .int .i64 0, .int .u64 0, .int .i64 0] 81))) (fun h => h) (fun _ _ h => h)
   have HO0 : Hid (OpenW w ((w.alloc (.map #[] 0)).alloc (.cells #[.pointer (some ⟨db, 0, none⟩), .bool false, .int .i64 0, .int .i64 0, .map (some w.heap.size), .int .i64 0, .int .u64 0, .int .i64 0] 81)) (w.heap.size + 1) db p d 0 w.heap.size []) :=
    Lib.hid ⟨HH.out.1.below hG2 HH.out.1.pos, hB0, HW.out.low.grown (Grown.of_below hG2 (S := fun _ => False)) (fun h => h) (fun _ _ h => h), hM1, rfl, hG2, Nat.le_refl _, by omega⟩
   clear hG1 hG2 hB0 hz1 hM1
   go_wp2
   clear d0 d1 d2
   generalize (w.alloc (.map #[] 0)).alloc (.cells #[.pointer (some ⟨db, 0, none⟩), .bool false, .int .i64 0, .int .i64 0, .map (some w.heap.size), .int .i64 0, .int .u64 0, .int .i64 0] 81) = w1 at *
   go_loopw [40] (fun i wr => ∃ (j : Int) (jn : Nat), (j = 0 ∧ jn = 0 ∨ j = 1 ∧ jn = 1 ∨ j = 2 ∧ jn = 2) ∧ i = .int .i64 j ∧ ∃ mb L, OpenW w wr (w.heap.size + 1) db p d jn mb L) (fun i _ => 2 - (intOf i).toNat)
   case atStart => exact ⟨0, 0, Or.inl ⟨rfl, rfl⟩, rfl, w.heap.size, [], HO0.out⟩
   case round =>
    obtain ⟨j, jn, hj, rfl, mb, L, hO⟩ := hrel
    have HO := Lib.hid hO
    rcases hj with ⟨rfl, rfl⟩ | ⟨rfl, rfl⟩ | ⟨rfl, rfl⟩
    ·have HRD := Lib.hid (read_c _ d.f0 wr.heap.size wr hO.st ((HR0.out.below hO.below).mono hO.below.size) (Nat.le_refl _) (by have := HH.out.2.1.f0; omega))
     have HJC := Lib.hid hO.blk
     clear hO
     go_wp2_with fail
     refine HRD.out.mono ?_
     rintro e w2 ⟨hres, hb2⟩
     cases hrf : readF d.f0 with
     | none =>
       rw [hrf] at hres
       obtain rfl : e = _ := hres
       have HP : Hid (openAt d 1 = openAt d 0) := Lib.hid (by show pickC (readF d.f0) false (false, zeroC) = (false, zeroC); rw [hrf]; rfl)
       clear hrf
       have HB2 := Lib.hid hb2
       clear hb2
       unfold conV
       go_upto_region 14 with (fail)
       go_quiet (fail)
       all_goals
        go_wp2
        go_roundw
        case rel =>
         refine ⟨1, 1, Or.inr (Or.inl ⟨rfl, rfl⟩), by first | trivial | rfl, mb, L, HO.out.keep ?_ HP.out⟩
         exact below_drewN (HB2.out.alloc HB2.out.size _) _
        case measure => simp [intOf]
     | some c =>
       rw [hrf] at hres
       obtain ⟨mb', rfl, hmb', L', hM', hE'⟩ := hres
       have HRF := Lib.hid hrf
       have HB3 := Lib.hid (hb2.alloc hb2.size (.cells #[.int .i64 c.gen, .map (some mb'), .int .i64 c.wt, .int .u64 c.sum, .int .i64 c.ed] 79))
       have hbk := Blk.new w2 79 [.int .i64 c.gen, .map (some mb'), .int .i64 c.wt, .int .u64 c.sum, .int .i64 c.ed]
       have hM3 := hM'.grown (S := fun _ => False) (Grown.of_below ((Below.refl _ w2).alloc (Nat.le_refl _) (.cells #[.int .i64 c.gen, .map (some mb'), .int .i64 c.wt, .int .u64 c.sum, .int .i64 c.ed] 79))) (fun h => h) (fun _ _ h => h)
       have hz2 := hb2.size
       clear hrf hM' hb2
       unfold conV
       go_upto_region 14 with (fail)
       have hbk : Blk (w2.alloc (.cells #[.int .i64 c.gen, .map (some mb'), .int .i64 c.wt, .int .u64 c.sum, .int .i64 c.ed] 79)) w2.heap.size 79 [.int .i64 c.gen, .map (some mb'), .int .i64 c.wt, .int .u64 c.sum, .int .i64 c.ed] := hbk
       generalize w2.alloc (.cells #[.int .i64 c.gen, .map (some mb'), .int .i64 c.wt, .int .u64 c.sum, .int .i64 c.ed] 79) = w3 at *
       generalize w2.heap.size = gb at *
       have hO3 := HO.out.keep (j' := 0) HB3.out rfl
       have y0 := hO3.blk.cell 3 (by simp)
       have x0 := hbk.cell 0 (by simp)
       simp only [List.getD_cons_zero, List.getD_cons_succ] at x0 y0
       by_cases hlt : (openAt d 0).2.gen < c.gen
       ·have hltb : (decide ((openAt d 0).2.gen < c.gen)) = true := by simpa using hlt
        have HP : Hid (openAt d 1 = (false, c)) := Lib.hid (by show pickC (readF d.f0) false (openAt d 0) = (false, c); rw [HRF.out]; exact pickC_lt hlt)
        have x1 := hbk.cell 1 (by simp)
        have x2 := hbk.cell 2 (by simp)
        have x3 := hbk.cell 3 (by simp)
        have x4 := hbk.cell 4 (by simp)
        have y2 := hO3.blk.cell 2 (by simp)
        have y4 := hO3.blk.cell 4 (by simp)
        have y5 := hO3.blk.cell 5 (by simp)
        have y6 := hO3.blk.cell 6 (by simp)
        have y7 := hO3.blk.cell 7 (by simp)
        have hjl := HO.out.blk.lt
        have hne1 : gb ≠ w.heap.size + 1 := by omega
        have hne2 : w.heap.size + 1 ≠ gb := by omega
        have z2 := hO3.blk.frozen 2
        have z3 := hO3.blk.frozen 3
        have z4 := hO3.blk.frozen 4
        have z5 := hO3.blk.frozen 5
        have z6 := hO3.blk.frozen 6
        have z7 := hO3.blk.frozen 7
        simp only [List.getD_cons_zero, List.getD_cons_succ] at x1 x2 x3 x4 y2 y4 y5 y6 y7
        have HO3 := Lib.hid hO3
        have HM3 := Lib.hid hM3
        clear hlt hO3 hM3 hbk
        generalize (openAt d 0).2.gen = g0 at *
        generalize (openAt d 0).2.wt = g2 at *
        generalize (openAt d 0).2.sum = g3 at *
        generalize (openAt d 0).2.ed = g4 at *
        generalize hg5 : (if (openAt d 0).1 = true then (1 : Int) else 0) = g5 at *
        clear hg5
        go_quiet (fail)
        all_goals
         go_upto_region 15 with (fail)
         go_region
         all_goals
          go_wp2
          go_roundw
          case rel => exact ⟨1, 1, Or.inr (Or.inl ⟨rfl, rfl⟩), by first | trivial | rfl, mb', L', (HO3.out.keep (j' := 0) (below_drewN (Below.refl _ _) _) rfl).take (HM3.out.grown (S := fun _ => False) (Grown.of_below (below_drewN (Below.refl _ _) _)) (fun h => h) (fun _ _ h => h)) hjl hmb' hwl (by omega) (by omega) hE' HP.out 0 rfl⟩
          case measure => simp [intOf]
       ·have hltb : (decide ((openAt d 0).2.gen < c.gen)) = false := by simpa using hlt
        have HP : Hid (openAt d 1 = openAt d 0) := Lib.hid (by show pickC (readF d.f0) false (openAt d 0) = openAt d 0; rw [HRF.out]; exact pickC_ge hlt)
        have HO3 := Lib.hid hO3
        clear hlt hO3 hM3 hbk
        generalize (openAt d 0).2.gen = g0 at *
        generalize c.gen = g1 at *
        go_quiet (fail)
        all_goals
         go_wp2
         go_roundw
         case rel =>
          refine ⟨1, 1, Or.inr (Or.inl ⟨rfl, rfl⟩), by first | trivial | rfl, mb, L, HO.out.keep ?_ HP.out⟩
          exact below_drewN HB3.out _
         case measure => simp [intOf]
    ·have HRD := Lib.hid (read_c _ d.f1 wr.heap.size wr hO.st ((HR1.out.below hO.below).mono hO.below.size) (Nat.le_refl _) (by have := HH.out.2.1.f1; omega))
     have HJC := Lib.hid hO.blk
     clear hO
     go_wp2_with fail
     refine HRD.out.mono ?_
     rintro e w2 ⟨hres, hb2⟩
     cases hrf : readF d.f1 with
     | none =>
       rw [hrf] at hres
       obtain rfl : e = _ := hres
       have HP : Hid (openAt d 2 = openAt d 1) := Lib.hid (by show pickC (readF d.f1) true (openAt d 1) = openAt d 1; rw [hrf]; rfl)
       clear hrf
       have HB2 := Lib.hid hb2
       clear hb2
       unfold conV
       go_upto_region 14 with (fail)
       go_quiet (fail)
       all_goals
        go_wp2
        go_roundw
        case rel =>
         refine ⟨2, 2, Or.inr (Or.inr ⟨rfl, rfl⟩), by first | trivial | rfl, mb, L, HO.out.keep ?_ HP.out⟩
         exact below_drewN (HB2.out.alloc HB2.out.size _) _
        case measure => simp [intOf]
     | some c =>
       rw [hrf] at hres
       obtain ⟨mb', rfl, hmb', L', hM', hE'⟩ := hres
       have HRF := Lib.hid hrf
       have HB3 := Lib.hid (hb2.alloc hb2.size (.cells #[.int .i64 c.gen, .map (some mb'), .int .i64 c.wt, .int .u64 c.sum, .int .i64 c.ed] 79))
       have hbk := Blk.new w2 79 [.int .i64 c.gen, .map (some mb'), .int .i64 c.wt, .int .u64 c.sum, .int .i64 c.ed]
       have hM3 := hM'.grown (S := fun _ => False) (Grown.of_below ((Below.refl _ w2).alloc (Nat.le_refl _) (.cells #[.int .i64 c.gen, .map (some mb'), .int .i64 c.wt, .int .u64 c.sum, .int .i64 c.ed] 79))) (fun h => h) (fun _ _ h => h)
       have hz2 := hb2.size
       clear hrf hM' hb2
       unfold conV
       go_upto_region 14 with (fail)
       have hbk : Blk (w2.alloc (.cells #[.int .i64 c.gen, .map (some mb'), .int .i64 c.wt, .int .u64 c.sum, .int .i64 c.ed] 79)) w2.heap.size 79 [.int .i64 c.gen, .map (some mb'), .int .i64 c.wt, .int .u64 c.sum, .int .i64 c.ed] := hbk
       generalize w2.alloc (.cells #[.int .i64 c.gen, .map (some mb'), .int .i64 c.wt, .int .u64 c.sum, .int .i64 c.ed] 79) = w3 at *
       generalize w2.heap.size = gb at *
       have hO3 := HO.out.keep (j' := 1) HB3.out rfl
       have y0 := hO3.blk.cell 3 (by simp)
       have x0 := hbk.cell 0 (by simp)
       simp only [List.getD_cons_zero, List.getD_cons_succ] at x0 y0
       by_cases hlt : (openAt d 1).2.gen < c.gen
       ·have hltb : (decide ((openAt d 1).2.gen < c.gen)) = true := by simpa using hlt
        have HP : Hid (openAt d 2 = (true, c)) := Lib.hid (by show pickC (readF d.f1) true (openAt d 1) = (true, c); rw [HRF.out]; exact pickC_lt hlt)
        have x1 := hbk.cell 1 (by simp)
        have x2 := hbk.cell 2 (by simp)
        have x3 := hbk.cell 3 (by simp)
        have x4 := hbk.cell 4 (by simp)
        have y2 := hO3.blk.cell 2 (by simp)
        have y4 := hO3.blk.cell 4 (by simp)
        have y5 := hO3.blk.cell 5 (by simp)
        have y6 := hO3.blk.cell 6 (by simp)
        have y7 := hO3.blk.cell 7 (by simp)
        have hjl := HO.out.blk.lt
        have hne1 : gb ≠ w.heap.size + 1 := by omega
        have hne2 : w.heap.size + 1 ≠ gb := by omega
        have z2 := hO3.blk.frozen 2
        have z3 := hO3.blk.frozen 3
        have z4 := hO3.blk.frozen 4
        have z5 := hO3.blk.frozen 5
        have z6 := hO3.blk.frozen 6
        have z7 := hO3.blk.frozen 7
        simp only [List.getD_cons_zero, List.getD_cons_succ] at x1 x2 x3 x4 y2 y4 y5 y6 y7
        have HO3 := Lib.hid hO3
        have HM3 := Lib.hid hM3
        clear hlt hO3 hM3 hbk
        generalize (openAt d 1).2.gen = g0 at *
        generalize (openAt d 1).2.wt = g2 at *
        generalize (openAt d 1).2.sum = g3 at *
        generalize (openAt d 1).2.ed = g4 at *
        generalize hg5 : (if (openAt d 1).1 = true then (1 : Int) else 0) = g5 at *
        clear hg5
        go_quiet (fail)
        all_goals
         go_upto_region 15 with (fail)
         go_region
         all_goals
          go_wp2
          go_roundw
          case rel => exact ⟨2, 2, Or.inr (Or.inr ⟨rfl, rfl⟩), by first | trivial | rfl, mb', L', (HO3.out.keep (j' := 1) (below_drewN (Below.refl _ _) _) rfl).take (HM3.out.grown (S := fun _ => False) (Grown.of_below (below_drewN (Below.refl _ _) _)) (fun h => h) (fun _ _ h => h)) hjl hmb' hwl (by omega) (by omega) hE' HP.out 1 rfl⟩
          case measure => simp [intOf]
       ·have hltb : (decide ((openAt d 1).2.gen < c.gen)) = false := by simpa using hlt
        have HP : Hid (openAt d 2 = openAt d 1) := Lib.hid (by show pickC (readF d.f1) true (openAt d 1) = openAt d 1; rw [HRF.out]; exact pickC_ge hlt)
        have HO3 := Lib.hid hO3
        clear hlt hO3 hM3 hbk
        generalize (openAt d 1).2.gen = g0 at *
        generalize c.gen = g1 at *
        go_quiet (fail)
        all_goals
         go_wp2
         go_roundw
         case rel =>
          refine ⟨2, 2, Or.inr (Or.inr ⟨rfl, rfl⟩), by first | trivial | rfl, mb, L, HO.out.keep ?_ HP.out⟩
          exact below_drewN HB3.out _
         case measure => simp [intOf]
    ·have hk := HO.out.fin HW.out (by omega) HH.out.2.1 HH.out.2.2
     have hb := HO.out.below
     have hl := HO.out.mlt
     go_wp2
     go_ret2
     exact ⟨_, _, rfl, by omega, hl, hk.mono (fun g hg => hg) hk.away, hb⟩
end
end Go.Proofs.YtondomklkapogaaGreatDoor
