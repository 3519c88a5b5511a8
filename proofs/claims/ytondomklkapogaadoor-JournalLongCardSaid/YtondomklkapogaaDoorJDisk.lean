/- The walks of Clip, cut, write. -/
import Derived.Test.YtondomklkapogaaDoorJFile
namespace Go.Proofs.YtondomklkapogaaDoor
open Go.RowKit SeedP Go.Maps
set_option maxRecDepth 100000 in
/-- slices.Clip -/
theorem clip_c (v : Value) (l : List UInt8) (p : Nat → Prop) (w : World) (hv : RdP w p v l) :
    Calls Tryd.prog 52 #[v] w fun e w' => (∃ a, e = .returned (.slice a l.length l.length) ∧ RdP w p (.slice a l.length l.length) l) ∧ w = w' := by
  rcases hv with ⟨h0, rfl⟩ | ⟨g, off, cap, rfl, h1, h2, h3, h4⟩
  · have hv : ∃ a cap, v = .slice a 0 cap := by
      rcases h0 with rfl | ⟨a, cap, rfl⟩
      · exact ⟨_, _, rfl⟩
      · exact ⟨_, _, rfl⟩
    obtain ⟨a, cap, rfl⟩ := hv
    clear h0
    go_enter Tryd.func52, Tryd.ntmps52
    go_wp2
    go_ret
    refine ⟨⟨a, rfl, Or.inl ⟨?_, rfl⟩⟩, rfl⟩
    cases a
    · exact Or.inl rfl
    · exact Or.inr ⟨_, _, rfl⟩
  · have b0 : (0 : Int) ≤ (l.length : Int) := by omega
    have b1 : (l.length : Int) ≤ (cap : Int) := by omega
    have HH := Lib.hid (And.intro h2 (And.intro h3 h4))
    clear h2 h3 h4
    go_enter Tryd.func52, Tryd.ntmps52
    go_wp2
    go_ret
    exact ⟨⟨_, rfl, Or.inr ⟨g, off, l.length, rfl, Nat.le_refl _, Nat.le_trans h1 HH.out.1, HH.out.2.1, HH.out.2.2⟩⟩, rfl⟩
/-- the power has failed -/
def noPower : Ending := .panicked [{ v := .iface 97 (.agg #[]), recovered := false }]
set_option maxRecDepth 100000 in
/-- cut: nothing to cut -/
theorem cut_same (jb db : Nat) (pw : Int) (f : Bool) (v0 v1 : Value) (l : List UInt8) (p : Nat → Prop) (w : World) (hj : w.cell? ⟨jb, 0, none⟩ = some (.pointer (some ⟨db, 0, none⟩))) (hd : Blk w db 29 [.int .i64 pw, v0, v1]) (hl : RdP w p (if f then v1 else v0) l) :
    Calls Tryd.prog 34 #[.pointer (some ⟨jb, 0, none⟩), .int .i64 (if f then 1 else 0), .int .i64 l.length] w fun e w' => e = .returned (.tuple #[]) ∧ w = w' := by
  have hv : ∃ a cap, (if f then v1 else v0) = .slice a l.length cap := by obtain ⟨a, cap, h, _⟩ := hl.toB.open_; exact ⟨a, cap, h⟩
  obtain ⟨a, cap, hv⟩ := hv
  have d1 := hd.cell 1 (by simp)
  have d2 := hd.cell 2 (by simp)
  simp only [List.getD_cons_zero, List.getD_cons_succ] at d1 d2
  clear hl hd
  cases f
  all_goals
    simp only [Bool.false_eq_true, if_false, if_true] at hv
    subst hv
    go_enter Tryd.func34, Tryd.ntmps34
    go_wp2
    (try simp only [Exit.inBlock, Exit.then])
    refine bodyPost_ret (results_none rfl _ _ _) rfl ?_
    exact ⟨rfl, rfl⟩
set_option maxRecDepth 100000 in
/-- cut: the power has failed -/
theorem cut_fail (jb db : Nat) (f : Bool) (v0 v1 : Value) (l : List UInt8) (n : Nat) (p : Nat → Prop) (w : World) (hj : w.cell? ⟨jb, 0, none⟩ = some (.pointer (some ⟨db, 0, none⟩))) (hd : Blk w db 29 [.int .i64 0, v0, v1]) (hl : RdP w p (if f then v1 else v0) l) (hn : n < l.length) :
    Calls Tryd.prog 34 #[.pointer (some ⟨jb, 0, none⟩), .int .i64 (if f then 1 else 0), .int .i64 n] w fun e w' => e = noPower ∧ w = w' := by
  have hv : ∃ a cap, (if f then v1 else v0) = .slice a l.length cap := by obtain ⟨a, cap, h, _⟩ := hl.toB.open_; exact ⟨a, cap, h⟩
  obtain ⟨a, cap, hv⟩ := hv
  have d0 := hd.cell 0 (by simp)
  have d1 := hd.cell 1 (by simp)
  have d2 := hd.cell 2 (by simp)
  simp only [List.getD_cons_zero, List.getD_cons_succ] at d0 d1 d2
  have hne : ((l.length : Int) == (n : Int)) = false := by simp; omega
  clear hl hd hn
  cases f
  all_goals
    simp only [Bool.false_eq_true, if_false, if_true] at hv
    subst hv
    go_enter Tryd.func34, Tryd.ntmps34
    go_wp2
    exact ⟨rfl, rfl, rfl⟩
theorem RdP.cut {w : World} {p : Nat → Prop} {a : Option Addr} {cap n : Nat} {l : List UInt8} (h : RdP w p (.slice a l.length cap) l) (hn : n ≤ l.length) : RdP w p (.slice a n cap) (l.take n) := by
  rcases h with ⟨h, rfl⟩ | ⟨g, off, c, e, h1, h2, h3, h4⟩
  · obtain rfl : n = 0 := by simpa using hn
    exact Or.inl ⟨h, rfl⟩
  · cases e
    refine Or.inr ⟨g, off, cap, by rw [List.length_take, Nat.min_eq_left hn], by rw [List.length_take]; omega, h2, h3, fun j hj => ?_⟩
    rw [List.length_take] at hj
    rw [h4 j (by omega)]
    have : j < n := by omega
    simp [List.getD_eq_getElem?_getD, this]
theorem cut_end {w w1 w3 : World} {db : Nat} {v3 : Value} {r : List UInt8} {x0 x1 x2 : Value} (S1 : Grown (fun k => k = db) w w1) (hb3 : Below w1.drew.heap.size w1.drew w3) (hy3 : w3.ownsRow w1.drew.heap.size 5 1 v3 r.length (byts r)) (D1 : Blk w1 db 29 [x0, x1, x2]) (o : Nat) :
    (w3.setCell ⟨db, o, none⟩ v3).ownsRow w1.heap.size 5 1 v3 r.length (byts r) ∧ Grown (fun k => k = db) w (w3.setCell ⟨db, o, none⟩ v3) ∧ Blk (w3.setCell ⟨db, o, none⟩ v3) db 29 ([x0, x1, x2].set o v3) := by
  have hlt := D1.lt
  have D3 : Blk w3 db 29 [x0, x1, x2] := Blk.below (w := w1.drew) D1.drew hb3
  have G3 : Grown (fun k => k = db) w3 (w3.setCell ⟨db, o, none⟩ v3) := Grown.setCell (S := fun k => k = db) (Grown.refl _ _) (a := ⟨db, o, none⟩) rfl _
  refine ⟨own_grown hy3 G3 (fun g hg _ e => ?_), (S1.drew.trans (Grown.of_below hb3)).trans G3, D3.set o v3⟩
  have hg : w1.heap.size ≤ g := hg
  omega
set_option maxRecDepth 100000 in
set_option maxHeartbeats 2000000 in
/-- cut: what is left of the file lies in new memory -/
theorem cut_done (jb db : Nat) (pw : Int) (f : Bool) (v0 v1 : Value) (l : List UInt8) (n : Nat) (p : Nat → Prop) (w : World) (hj : w.cell? ⟨jb, 0, none⟩ = some (.pointer (some ⟨db, 0, none⟩))) (hd : Blk w db 29 [.int .i64 pw, v0, v1]) (hl : RdP w p (if f then v1 else v0) l) (hn : n < l.length) (hpw : pw ≠ 0) (hp0 : -1 ≤ pw) (hp1 : pw ≤ 9223372036854775807) (hpd : ∀ g, p g → g ≠ db) (hll : l.length ≤ 1073741824) :
    Calls Tryd.prog 34 #[.pointer (some ⟨jb, 0, none⟩), .int .i64 (if f then 1 else 0), .int .i64 n] w fun e w' => e = .returned (.tuple #[]) ∧
      ∃ v', w'.ownsRow w.heap.size 5 1 v' (l.take n).length (byts (l.take n)) ∧ Grown (fun k => k = db) w w' ∧ Blk w' db 29 [.int .i64 (if 0 < pw then pw - 1 else pw), if f then v0 else v', if f then v' else v1] := by
  have hv : ∃ a cap, (if f then v1 else v0) = .slice a l.length cap := by obtain ⟨a, cap, h, _⟩ := hl.toB.open_; exact ⟨a, cap, h⟩
  obtain ⟨a, cap, hv⟩ := hv
  have hcut := (hv ▸ hl).cut (n := n) (by omega)
  have hcap : (n : Int) ≤ (cap : Int) := by
    rcases (hv ▸ hl) with ⟨_, rfl⟩ | ⟨g, off, c, e, h1, _⟩
    · simp at hn
    · cases e; omega
  have hn0 : (0 : Int) ≤ (n : Int) := by omega
  have d0 := hd.cell 0 (by simp)
  have d1 := hd.cell 1 (by simp)
  have d2 := hd.cell 2 (by simp)
  have f0 := hd.frozen 0
  simp only [List.getD_cons_zero, List.getD_cons_succ] at d0 d1 d2
  have hne : ((l.length : Int) == (n : Int)) = false := by simp; omega
  have hne2 : (pw == 0) = false := by simpa using hpw
  have hrl : (l.take n).length = n := by rw [List.length_take]; omega
  have hrm : (l.take n).length ≤ 1073741824 := by omega
  generalize l.take n = r at *
  subst hrl
  have HH := Lib.hid (And.intro hd (And.intro hcut (And.intro hpd hll)))
  clear hl hd hcut hpd hpw
  by_cases hp : 0 < pw
  · cases f
    all_goals
      simp only [Bool.false_eq_true, if_false, if_true] at hv ⊢
      subst hv
      go_enter Tryd.func34, Tryd.ntmps34
      go_upto_region 6 with (fail)
      obtain ⟨hd, hcut, hpd, _⟩ := HH.out
      have S1 : Grown (fun k => k = db) w (w.setCell ⟨db, 0, none⟩ (.int .i64 (pw - 1))) := Grown.setCell (S := fun k => k = db) (Grown.refl _ _) (a := ⟨db, 0, none⟩) rfl _
      have D1 := hd.set 0 (.int .i64 (pw - 1))
      have R1 := hcut.grown S1 (fun g hg e => hpd g hg e)
      simp only [List.set_cons_zero] at D1
      have hz : w.heap.size = (w.setCell ⟨db, 0, none⟩ (.int .i64 (pw - 1))).heap.size := by simp
      clear hd hcut d0 d1 d2 f0 HH
      generalize w.setCell ⟨db, 0, none⟩ (.int .i64 (pw - 1)) = w1 at *
      have q1 := D1.cell 1 (by simp)
      have q2 := D1.cell 2 (by simp)
      simp only [List.getD_cons_zero, List.getD_cons_succ] at q1 q2
      have HD := Lib.hid (And.intro S1 (And.intro D1 R1))
      clear S1 D1 R1
      have HCL := Lib.hid (clone_c (.slice a r.length cap) r w1.heap.size w1.drew HD.out.2.2.toB.drew hrm (Nat.le_refl _))
    · go_region_with
        (go_at_call 40; refine HCL.out.mono ?_; rintro e w3 ⟨⟨v3, rfl, hy3⟩, hb3⟩; obtain ⟨a3, cap3, rfl⟩ := own_slice hy3; have D3 := Blk.below (w := w1.drew) HD.out.2.1.drew hb3; have z1 := D3.cell 1 (by simp); have y1 := D3.frozen 1; simp only [List.getD_cons_zero, List.getD_cons_succ] at z1)
      all_goals
        go_wp2
        all_goals
          first
          | (exact absurd hp ‹_›)
          | (go_end0
             exact ⟨rfl, _, cut_end HD.out.1 hb3 hy3 HD.out.2.1 1⟩)
    · go_region_with
        (go_at_call 40; refine HCL.out.mono ?_; rintro e w3 ⟨⟨v3, rfl, hy3⟩, hb3⟩; obtain ⟨a3, cap3, rfl⟩ := own_slice hy3; have D3 := Blk.below (w := w1.drew) HD.out.2.1.drew hb3; have z1 := D3.cell 2 (by simp); have y1 := D3.frozen 2; simp only [List.getD_cons_zero, List.getD_cons_succ] at z1)
      all_goals
        go_wp2
        all_goals
          first
          | (exact absurd hp ‹_›)
          | (go_end0
             exact ⟨rfl, _, cut_end HD.out.1 hb3 hy3 HD.out.2.1 2⟩)
  · cases f
    all_goals
      simp only [Bool.false_eq_true, if_false, if_true, if_neg hp] at hv ⊢
      subst hv
      have HD := Lib.hid (And.intro (Grown.refl (fun k => k = db) w) (And.intro HH.out.1 HH.out.2.1))
      have HCL := Lib.hid (clone_c (.slice a r.length cap) r w.heap.size w.drew HD.out.2.2.toB.drew hrm (Nat.le_refl _))
      clear HH
      go_enter Tryd.func34, Tryd.ntmps34
      go_upto_region 6 with (fail)
    · go_region_with
        (go_at_call 40; refine HCL.out.mono ?_; rintro e w3 ⟨⟨v3, rfl, hy3⟩, hb3⟩; obtain ⟨a3, cap3, rfl⟩ := own_slice hy3; have D3 := Blk.below (w := w.drew) HD.out.2.1.drew hb3; have z1 := D3.cell 1 (by simp); have y1 := D3.frozen 1; simp only [List.getD_cons_zero, List.getD_cons_succ] at z1)
      all_goals
        go_wp2
        all_goals
          first
          | (exact absurd ‹_› hp)
          | (go_end0
             exact ⟨rfl, _, cut_end HD.out.1 hb3 hy3 HD.out.2.1 1⟩)
    · go_region_with
        (go_at_call 40; refine HCL.out.mono ?_; rintro e w3 ⟨⟨v3, rfl, hy3⟩, hb3⟩; obtain ⟨a3, cap3, rfl⟩ := own_slice hy3; have D3 := Blk.below (w := w.drew) HD.out.2.1.drew hb3; have z1 := D3.cell 2 (by simp); have y1 := D3.frozen 2; simp only [List.getD_cons_zero, List.getD_cons_succ] at z1)
      all_goals
        go_wp2
        all_goals
          first
          | (exact absurd ‹_› hp)
          | (go_end0
             exact ⟨rfl, _, cut_end HD.out.1 hb3 hy3 HD.out.2.1 2⟩)
end Go.Proofs.YtondomklkapogaaDoor
