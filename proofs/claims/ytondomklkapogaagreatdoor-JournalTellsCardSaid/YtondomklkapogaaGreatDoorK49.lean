/- The law's does, of a disk that may not be. -/
import Derived.Test.YtondomklkapogaaGreatDoorK44
import Derived.Test.YtondomklkapogaaGreatDoorK48
import Derived.BigQuiet
import Derived.Test.YtondomklkapogaaGreatDoorK19
import Derived.Test.YtondomklkapogaaGreatDoorCards
import Derived.Test.YtondomklkapogaaGreatDoorTie
import Derived.Test.YtondomklkapogaaGreatDoorK02
import Derived.ProofKit
import Derived.OpenShut
import Derived.LaidMore
import Derived.Deep.DeepHandedRow
import Derived.Lib.LaidTab
import Derived.SizedLaws
import Derived.Deep.Slices
import Derived.Deep.Fields
import Derived.ChangeSame
namespace Go.Proofs.YtondomklkapogaaGreatDoor
section
open Go.RowKit SeedP Go.Maps
set_option maxRecDepth 100000 in
/-- Open, of a disk that may not be -/
theorem ropen_badV (d : DS) (v0 v1 : Value) (w : World) (hrd : RD w v0 v1 d) (hno : d.pw < -1 ∨ 262144 < d.f0.length ∨ 262144 < d.f1.length) :
 Calls Tryz.prog 16 #[.agg #[.int .i64 d.pw, v0, v1]] w fun e w' => e = .returned (.tuple #[rjV 0 (.slice none 0 0) (.slice none 0 0) (.slice none 0 0) 0 0 0 0 false, .int .i64 2]) ∧ Below w.heap.size w w' := by
 obtain ⟨a0, c0, a1, c1, rfl, rfl⟩ := hrd.slices
 have HB := Lib.hid ((OpM.start w d.pw a0 a1 d.f0.length d.f1.length c0 c1).be)
 clear hrd
 by_cases h1 : d.pw < -1
 ·have t1 : decide (d.pw < -1) = true := decide_eq_true h1
  clear hno h1
  go_enter Tryz.func16, Tryz.ntmps16
  go_wp2
  exact bodyPost_ret (v := .tuple #[rjV 0 (.slice none 0 0) (.slice none 0 0) (.slice none 0 0) 0 0 0 0 false, .int .i64 2]) (by simp [results, Tryz.results16, go_sem]) rfl ⟨rfl, HB.out⟩
 have t1 : decide (d.pw < -1) = false := decide_eq_false h1
 by_cases h2 : 262144 < d.f0.length
 ·have t2 : decide ((262144 : Int) < (d.f0.length : Int)) = true := decide_eq_true (by omega)
  clear hno h1 h2
  go_enter Tryz.func16, Tryz.ntmps16
  go_wp2
  exact bodyPost_ret (v := .tuple #[rjV 0 (.slice none 0 0) (.slice none 0 0) (.slice none 0 0) 0 0 0 0 false, .int .i64 2]) (by simp [results, Tryz.results16, go_sem]) rfl ⟨rfl, HB.out⟩
 have t2 : decide ((262144 : Int) < (d.f0.length : Int)) = false := decide_eq_false (by omega)
 have t3 : decide ((262144 : Int) < (d.f1.length : Int)) = true := decide_eq_true (by omega)
 clear hno h1 h2
 go_enter Tryz.func16, Tryz.ntmps16
 go_wp2
 exact bodyPost_ret (v := .tuple #[rjV 0 (.slice none 0 0) (.slice none 0 0) (.slice none 0 0) 0 0 0 0 false, .int .i64 2]) (by simp [results, Tryz.results16, go_sem]) rfl ⟨rfl, HB.out⟩
set_option maxRecDepth 100000 in
/-- Open, of a disk that may not be -/
theorem open_bad {B : Nat} {p : Nat → Prop} {w : World} {db : Nat} {d : DS} (h : DZ B p w db d) (hno : d.pw < -1 ∨ 262144 < d.f0.length ∨ 262144 < d.f1.length) :
 Calls Tryz.prog 10 #[.pointer (some ⟨db, 0, none⟩)] w fun e w' => e = .returned (.tuple #[.pointer none, .int .i64 2]) ∧ w = w' := by
 obtain ⟨v0, v1, q0, q1, hb, hr0, hr1, _⟩ := h.dw
 obtain ⟨a0, c0, rfl, _⟩ := hr0.toB.open_
 obtain ⟨a1, c1, rfl, _⟩ := hr1.toB.open_
 by_cases hp : d.pw < -1
 ·exact open_weak db d.pw _ _ w hb hp
 ·exact open_long db d.pw a0 a1 _ c0 _ c1 w hb (by omega) (by omega)
set_option maxRecDepth 100000 in
set_option maxHeartbeats 8000000 in
/-- does, of a disk that may not be -/
theorem does_bad (d : DS) (v0 v1 vl : Value) (w0 : World) (hs : St w0) (hr0 : RdB w0 w0.heap.size v0 d.f0) (hr1 : RdB w0 w0.heap.size v1 d.f1) (h0 : d.f0.length ≤ 1073741824) (h1 : d.f1.length ≤ 1073741824) (hno : d.pw < -1 ∨ 262144 < d.f0.length ∨ 262144 < d.f1.length) :
 Calls Tryz.prog 7 #[.agg #[.int .i64 d.pw, v0, v1], vl] w0 fun e w' => e = .returned (.bool true) ∧ Below w0.heap.size w0 w' := by
 obtain ⟨a0, c0, rfl, -, -, -⟩ := hr0.open_
 obtain ⟨a1, c1, rfl, -, -, -⟩ := hr1.open_
 have HB1 := Lib.hid ((Below.refl w0.heap.size w0).alloc (Nat.le_refl _) (.cells #[.int .i64 d.pw, .slice a0 d.f0.length c0, .slice a1 d.f1.length c1] 28))
 have HK1 := Lib.hid (Blk.new w0 28 [.int .i64 d.pw, .slice a0 d.f0.length c0, .slice a1 d.f1.length c1])
 have HS := Lib.hid hs
 have HSZ0 : Hid (w0.heap.size < (w0.alloc (.cells #[.int .i64 d.pw, .slice a0 d.f0.length c0, .slice a1 d.f1.length c1] 28)).heap.size) := Lib.hid (by simp)
 have HR := Lib.hid (And.intro hr0 hr1)
 have HNO := Lib.hid hno
 clear hs hr0 hr1 hno
 go_enter Tryz.func7, Tryz.ntmps7
 go_upto_region 1 with (fail)
 change Code.wp _ _ _ _ (w0.alloc (.cells #[.int .i64 d.pw, .slice a0 d.f0.length c0, .slice a1 d.f1.length c1] 28))
 have HK1' : Hid (Blk (w0.alloc (.cells #[.int .i64 d.pw, .slice a0 d.f0.length c0, .slice a1 d.f1.length c1] 28)) w0.heap.size 28 [.int .i64 d.pw, .slice a0 d.f0.length c0, .slice a1 d.f1.length c1]) := HK1
 clear HK1
 generalize w0.alloc (.cells #[.int .i64 d.pw, .slice a0 d.f0.length c0, .slice a1 d.f1.length c1] 28) = w1 at *
 have x0 := HK1'.out.cell 0 (by simp)
 have x1 := HK1'.out.cell 1 (by simp)
 have x2 := HK1'.out.cell 2 (by simp)
 simp only [List.getD_cons_zero, List.getD_cons_succ] at x0 x1 x2
 have HDC := Lib.hid (disk_c d (.slice a0 d.f0.length c0) (.slice a1 d.f1.length c1) w1 (HS.out.below HB1.out HS.out.pos) ((HR.out.1.below HB1.out).mono HB1.out.size) ((HR.out.2.below HB1.out).mono HB1.out.size) (by omega) (by omega))
 go_wp2_with fail
 refine HDC.out.mono ?_
 rintro e w2 ⟨⟨db, y0, y1, rfl, ⟨p, hdz⟩, hrd⟩, hb2⟩
 obtain ⟨b0, e0, b1, e1, rfl, rfl⟩ := hrd.slices
 have HB2 := Lib.hid (HB1.out.trans (hb2.mono HB1.out.size))
 have HKS := Lib.hid (HK1'.out.below hb2)
 have HRS := Lib.hid (And.intro (HR.out.1.below (HB1.out.trans (hb2.mono HB1.out.size))) (HR.out.2.below (HB1.out.trans (hb2.mono HB1.out.size))))
 have HDZ := Lib.hid hdz
 have HRD := Lib.hid hrd
 have HBB : Hid (Blk (w2.alloc (.cells #[.int .i64 d.pw, .slice b0 d.f0.length e0, .slice b1 d.f1.length e1] 47)) w2.heap.size 47 [.int .i64 d.pw, .slice b0 d.f0.length e0, .slice b1 d.f1.length e1]) := Lib.hid (Blk.new w2 _ [.int .i64 d.pw, .slice b0 d.f0.length e0, .slice b1 d.f1.length e1])
 have hba := (Below.refl w2.heap.size w2).alloc (Nat.le_refl _) (.cells #[.int .i64 d.pw, .slice b0 d.f0.length e0, .slice b1 d.f1.length e1] 47)
 have HDZ3 := Lib.hid (HDZ.out.grown (Grown.of_below hba (S := fun _ => False)) (fun _ h => h.elim))
 have HRD3 := Lib.hid (HRD.out.below hba)
 have HB3 := Lib.hid (HB2.out.trans (hba.mono HB2.out.size))
 have HKS3 := Lib.hid (HKS.out.below hba)
 have HRS3 := Lib.hid (And.intro (HRS.out.1.below (hba.mono HB2.out.size)) (HRS.out.2.below (hba.mono HB2.out.size)))
 clear hba hdz hrd hb2 HDC x0 x1 x2 HK1' HB1 HDZ HRD HB2 HS HR HKS HRS
 go_upto_region 2 with (fail)
 change Code.wp _ _ _ _ (w2.alloc (.cells #[.int .i64 d.pw, .slice b0 d.f0.length e0, .slice b1 d.f1.length e1] 47))
 generalize w2.alloc (.cells #[.int .i64 d.pw, .slice b0 d.f0.length e0, .slice b1 d.f1.length e1] 47) = w3 at *
 have HOP := Lib.hid (open_bad HDZ3.out HNO.out)
 have x0 := HBB.out.cell 0 (by simp)
 have x1 := HBB.out.cell 1 (by simp)
 have x2 := HBB.out.cell 2 (by simp)
 simp only [List.getD_cons_zero, List.getD_cons_succ] at x0 x1 x2
 go_wp2_with fail
 refine HOP.out.mono ?_
 rintro e w4 ⟨rfl, rfl⟩
 have HRO := Lib.hid (ropen_badV d (.slice b0 d.f0.length e0) (.slice b1 d.f1.length e1) w3 HRD3.out HNO.out)
 go_wp2_with fail
 refine HRO.out.mono ?_
 rintro e w5 ⟨rfl, hb5⟩
 have hba := (Below.refl w5.heap.size w5).alloc (Nat.le_refl _) (.cells #[.int .i64 0, .slice none 0 0, .slice none 0 0, .slice none 0 0, .int .i64 0, .int .i64 0, .int .i64 0, .int .u64 0, .bool false] 52)
 have HDZ6 := Lib.hid (HDZ3.out.grown (Grown.of_below (hb5.trans (hba.mono hb5.size)) (S := fun _ => False)) (fun _ h => h.elim))
 have HKS6 := Lib.hid ((HKS3.out.below hb5).below hba)
 have HRS6 := Lib.hid (And.intro ((HRS3.out.1.below (hb5.mono HB3.out.size)).below (hba.mono (Nat.le_trans HB3.out.size hb5.size))) ((HRS3.out.2.below (hb5.mono HB3.out.size)).below (hba.mono (Nat.le_trans HB3.out.size hb5.size))))
 have HB6 := Lib.hid ((HB3.out.trans (hb5.mono HB3.out.size)).trans (hba.mono (Nat.le_trans HB3.out.size hb5.size)))
 clear hba hb5 HRO HOP HDZ3 HRD3 HB3 HKS3 HRS3 HBB x0 x1 x2
 go_upto_region 4 with (fail)
 change Code.wp _ _ _ _ (w5.alloc (.cells #[.int .i64 0, .slice none 0 0, .slice none 0 0, .slice none 0 0, .int .i64 0, .int .i64 0, .int .i64 0, .int .u64 0, .bool false] 52))
 generalize w5.alloc (.cells #[.int .i64 0, .slice none 0 0, .slice none 0 0, .slice none 0 0, .int .i64 0, .int .i64 0, .int .i64 0, .int .u64 0, .bool false] 52) = w6 at *
 obtain ⟨m0, f0, m1, f1, y0, y1, y2, hy1, hy2, -⟩ := HDZ6.out.cells
 have z1 := HKS6.out.cell 1 (by simp)
 have z2 := HKS6.out.cell 2 (by simp)
 simp only [List.getD_cons_zero, List.getD_cons_succ] at z1 z2
 have hsz := HB6.out.size
 have hcx0 : ∀ n, (convert 25 9 (.slice m0 d.f0.length f0)).run Tryz.prog (w6.drewN n) = .ok (.string ⟨(d.f0).toArray⟩) (w6.drewN n) := fun n => conv_c (w := w6.drewN n) (hy1.mono (Nat.le_refl _))
 have hcx1 : ∀ n, (convert 25 9 (.slice m1 d.f1.length f1)).run Tryz.prog (w6.drewN n) = .ok (.string ⟨(d.f1).toArray⟩) (w6.drewN n) := fun n => conv_c (w := w6.drewN n) (hy2.mono (Nat.le_refl _))
 have hca0 : ∀ n, (convert 25 9 (.slice a0 d.f0.length c0)).run Tryz.prog (w6.drewN n) = .ok (.string ⟨(d.f0).toArray⟩) (w6.drewN n) := fun n => conv_c (w := w6.drewN n) ((HRS6.out.1).mono hsz)
 have hca1 : ∀ n, (convert 25 9 (.slice a1 d.f1.length c1)).run Tryz.prog (w6.drewN n) = .ok (.string ⟨(d.f1).toArray⟩) (w6.drewN n) := fun n => conv_c (w := w6.drewN n) ((HRS6.out.2).mono hsz)
 clear hy1 hy2 hsz
 go_upto_region 5 with (fail)
 go_quiet (fail)
 have HB7 : Hid (Below w0.heap.size w0 (w6.drewN nq)) := Lib.hid (below_drewN HB6.out nq)
 clear hcx0 hcx1 hca0 hca1 y0 y1 y2 z1 z2
 generalize w6.drewN nq = w7 at *
 go_wp2
 go_ret
 exact ⟨rfl, HB7.out⟩
end
section
open Go.RowKit SeedP Go.Maps
def fineB (k n : Nat) : Bool := decide (k ≤ 60) && (decide (n ≤ 200) || decide (4096 < n) && decide (n ≤ 4106))
theorem fineB_le {k n : Nat} (h : fineB k n = true) : k ≤ 60 ∧ n ≤ 4106 := by
 unfold fineB at h
 simp only [Bool.and_eq_true, Bool.or_eq_true, decide_eq_true_eq] at h
 omega
set_option maxRecDepth 100000 in
theorem fine_c (key : List UInt8) (a : Option Addr) (n c : Nat) (w : World) : Calls Tryz.prog 20 #[strV key, .slice a n c] w fun e w' => e = .returned (.bool (fineB key.length n)) ∧ w' = w := by
 have hks : (⟨key.toArray⟩ : ByteArray).size = key.length := by show key.toArray.size = _; simp
 unfold strV
 generalize hF : fineB key.length n = f
 unfold fineB at hF
 generalize key.length = k at *
 by_cases h1 : k ≤ 60
 ·have t1 : decide ((k : Int) ≤ 60) = true := decide_eq_true (by omega)
  by_cases h2 : n ≤ 200
  ·have t2 : decide ((n : Int) ≤ 200) = true := decide_eq_true (by omega)
   obtain rfl : true = f := by rw [← hF]; simp [h1, h2]
   clear hF h1 h2
   go_enter Tryz.func20, Tryz.ntmps20
   go_wp2
   go_ret
   exact ⟨rfl, rfl⟩
  ·have t2 : decide ((n : Int) ≤ 200) = false := decide_eq_false (by omega)
   by_cases h3 : 4096 < n
   ·have t3 : decide ((4096 : Int) < (n : Int)) = true := decide_eq_true (by omega)
    by_cases h4 : n ≤ 4106
    ·have t4 : decide ((n : Int) ≤ 4106) = true := decide_eq_true (by omega)
     obtain rfl : true = f := by rw [← hF]; simp [h1, h3, h4]
     clear hF h1 h2 h3 h4
     go_enter Tryz.func20, Tryz.ntmps20
     go_wp2
     go_ret
     exact ⟨rfl, rfl⟩
    ·have t4 : decide ((n : Int) ≤ 4106) = false := decide_eq_false (by omega)
     obtain rfl : false = f := by rw [← hF]; simp [h1, h2, h3, h4]
     clear hF h1 h2 h3 h4
     go_enter Tryz.func20, Tryz.ntmps20
     go_wp2
     go_ret
     exact ⟨rfl, rfl⟩
   ·have t3 : decide ((4096 : Int) < (n : Int)) = false := decide_eq_false (by omega)
    obtain rfl : false = f := by rw [← hF]; simp [h1, h2, h3]
    clear hF h1 h2 h3
    go_enter Tryz.func20, Tryz.ntmps20
    go_wp2
    go_ret
    exact ⟨rfl, rfl⟩
 ·have t1 : decide ((k : Int) ≤ 60) = false := decide_eq_false (by omega)
  obtain rfl : false = f := by rw [← hF]; simp [h1]
  clear hF h1
  go_enter Tryz.func20, Tryz.ntmps20
  go_wp2
  go_ret
  exact ⟨rfl, rfl⟩
/-- an act that is examined -/
def SmallAct (a : ActP) : Prop := a.cs.length ≤ 70 ∧ a.key.length ≤ 60 ∧ a.val.length ≤ 4106 ∧ ∀ c ∈ a.cs, c.key.length ≤ 60 ∧ c.val.length ≤ 4106
theorem SmallAct.ok {a : ActP} (h : SmallAct a) (h0 : -9223372036854775808 ≤ a.pw) (h1 : a.pw ≤ 9223372036854775807) : a.Ok :=
 ⟨h0, h1, by have := h.1; omega, fun c hc => by have := h.2.2.2 c hc; omega, by have := h.2.1; omega, by have := h.2.2.1; omega⟩
/-- what Few hands back -/
def FewPost (L : List ActP) (e : Ending) : Prop := ∃ b, e = .returned (.bool b) ∧ (b = true → L.length ≤ 20 ∧ ∀ a ∈ L, SmallAct a)
theorem FewPost.no (L : List ActP) : FewPost L (.returned (.bool false)) := ⟨false, rfl, fun h => by cases h⟩
theorem FewPost.yes {L : List ActP} (h : L.length ≤ 20 ∧ ∀ a ∈ L, SmallAct a) : FewPost L (.returned (.bool true)) := ⟨true, rfl, fun _ => h⟩
set_option maxRecDepth 100000 in
set_option maxHeartbeats 4000000 in
/-- Few -/
theorem few_c (vl : Value) (L : List ActP) (w : World) (hL : ActsAt w w.heap.size vl L) :
 Calls Tryz.prog 6 #[vl] w fun e w' => FewPost L e ∧ Below w.heap.size w w' := by
 have HL := Lib.hid hL
 obtain ⟨al, cl, rfl, -, -, -⟩ := hL
 have W0 := Lib.hid (Below.refl w.heap.size w)
 by_cases hn : 20 < L.length
 ·have t1 : (20 : Int) < (L.length : Int) := by omega
  go_enter Tryz.func6, Tryz.ntmps6
  go_wp2
  go_ret
  exact ⟨FewPost.no _, W0.out⟩
 have t1 : ¬ (20 : Int) < (L.length : Int) := by omega
 go_enter Tryz.func6, Tryz.ntmps6
 go_wp2
 go_loopw [4] (fun iv wr => ∃ i : Nat, i ≤ L.length ∧ iv = .int .i64 i ∧ (∀ a ∈ L.take i, SmallAct a) ∧ Below w.heap.size w wr) (fun i _ => L.length - (intOf i).toNat)
 case atStart => exact ⟨0, Nat.zero_le _, rfl, (fun a ha => by cases ha), W0.out⟩
 case round =>
  obtain ⟨i, hi, rfl, hs, hb⟩ := hrel
  have HS := Lib.hid hs
  have HB := Lib.hid hb
  clear hs hb
  by_cases hlt : i < L.length
  ·have b1 : decide ((i : Int) < (L.length : Int)) = true := decide_eq_true (by omega)
   have b2 : (i : Int) < (L.length : Int) := by omega
   obtain ⟨a', cap', e', hx1, hx2, hc⟩ := HL.out
   simp only [Value.slice.injEq] at e'
   obtain ⟨rfl, _, rfl⟩ := e'
   rcases hc with hc | ⟨g, off, rfl, hg, hcell⟩
   ·rw [hc] at hlt; simp at hlt
   obtain ⟨vc, vv, -, -, q2, q3, q4, q5, q6⟩ := hcell i hlt
   obtain ⟨ac, cc, rfl, -⟩ := id q5
   obtain ⟨av, cv, rfl, -⟩ := q6.open_
   have HX : Hid (L.take (i + 1) = L.take i ++ [L[i]]) := Lib.hid (List.take_succ_eq_append_getElem hlt)
   have HC := Lib.hid q5
   have HALL : Hid (∀ wx, Below w.heap.size w wx → wx.cell? ⟨g, off + i * 5 + 2, none⟩ = some (.slice ac L[i].cs.length cc)) := Lib.hid (fun wx hbx => (hbx.cell (p := ⟨g, off + i * 5 + 2, none⟩) hg).trans q2)
   have p2 := (HB.out.cell (p := ⟨g, off + i * 5 + 2, none⟩) hg).trans q2
   have p3 := (HB.out.cell (p := ⟨g, off + i * 5 + 3, none⟩) hg).trans q3
   have p4 := (HB.out.cell (p := ⟨g, off + i * 5 + 4, none⟩) hg).trans q4
   clear hcell hx1 hx2 q2 q3 q4 q5 q6
   generalize L[i] = a at *
   obtain ⟨kind, apw, cs, key, val⟩ := a
   simp only at p2 p3 p4 HC HALL
   have HF := Lib.hid (fun w => fine_c key av val.length cv w)
   by_cases hc7 : 70 < cs.length
   ·have t7 : decide ((70 : Int) < (cs.length : Int)) = true := decide_eq_true (by omega)
    have t8 : (70 : Int) < (cs.length : Int) := by omega
    go_upto_region 7 with (fail)
    go_quiet (fail)
    have HB2 := Lib.hid (below_drewN HB.out nq)
    clear p2 p3 p4
    generalize wr.drewN nq = w2 at *
    go_wp2
    go_ret
    exact ⟨FewPost.no _, HB2.out⟩
   have t7 : decide ((70 : Int) < (cs.length : Int)) = false := decide_eq_false (by omega)
   go_upto_region 7 with (fail)
   go_quiet ((go_at_call 20; exact Calls.quiet_of_same (HF.out _)))
   have HB2 := Lib.hid (below_drewN HB.out nq)
   have hszw := HB.out.size
   clear p2 p3 p4
   generalize wr.drewN nq = w2 at *
   cases hfb : fineB key.length val.length with
   | false =>
     go_wp2
     go_ret
     exact ⟨FewPost.no _, HB2.out⟩
   | true =>
     have HFB := Lib.hid (fineB_le hfb)
     clear hfb
     go_wp2
     go_loopw [5] (fun kv wx => ∃ k : Nat, k ≤ cs.length ∧ kv = .int .i64 k ∧ (∀ c ∈ cs.take k, c.key.length ≤ 60 ∧ c.val.length ≤ 4106) ∧ Below w.heap.size w wx) (fun k _ => cs.length - (intOf k).toNat)
     case atStart => exact ⟨0, Nat.zero_le _, rfl, (fun a ha => by cases ha), HB2.out⟩
     case round =>
      obtain ⟨k, hk, rfl, hs3, hb3⟩ := hrel
      have HS3 := Lib.hid hs3
      have HB3 := Lib.hid hb3
      clear hs3 hb3
      generalize wr = w3 at *
      have p2 := HALL.out w3 HB3.out
      by_cases hkl : k < cs.length
      ·have b3 : decide ((k : Int) < (cs.length : Int)) = true := decide_eq_true (by omega)
       have b4 : (k : Int) < (cs.length : Int) := by omega
       obtain ⟨a3, c3, e3, _, _, hc3⟩ := HC.out
       simp only [Value.slice.injEq] at e3
       obtain ⟨rfl, _, rfl⟩ := e3
       rcases hc3 with hc3 | ⟨g3, off3, rfl, hg3, hcell3⟩
       ·rw [hc3] at hkl; simp at hkl
       obtain ⟨vv3, u0, u1, _, dv⟩ := hcell3 k hkl
       obtain ⟨a4, c4, rfl, -⟩ := dv.open_
       have HX3 : Hid (cs.take (k + 1) = cs.take k ++ [cs[k]]) := Lib.hid (List.take_succ_eq_append_getElem hkl)
       have s0 := (HB3.out.cell (p := ⟨g3, off3 + k * 3, none⟩) hg3).trans u0
       have s1 := (HB3.out.cell (p := ⟨g3, off3 + k * 3 + 1, none⟩) hg3).trans u1
       clear hcell3 u0 u1 dv
       generalize cs[k] = c at *
       obtain ⟨ckey, cval, cdrop⟩ := c
       simp only at s0 s1
       have HF3 := Lib.hid (fun w => fine_c ckey a4 cval.length c4 w)
       go_upto_region 12 with (fail)
       go_quiet ((go_at_call 20; exact Calls.quiet_of_same (HF3.out _)))
       have HB4 := Lib.hid (below_drewN HB3.out nq)
       clear s0 s1
       generalize w3.drewN nq = w4 at *
       cases hfb : fineB ckey.length cval.length with
       | false =>
         go_wp2
         go_ret
         exact ⟨FewPost.no _, HB4.out⟩
       | true =>
         have HFB3 := Lib.hid (fineB_le hfb)
         clear hfb
         go_wp2
         go_roundw
         case rel =>
          refine ⟨k + 1, by omega, by go_num, fun c hc => ?_, HB4.out⟩
          rw [HX3.out] at hc
          rcases List.mem_append.1 hc with hc | hc
          ·exact HS3.out c hc
          ·obtain rfl := List.mem_singleton.1 hc
           exact HFB3.out
         case measure => simp [intOf]; omega
      ·obtain rfl : k = cs.length := by omega
       have b3 : decide ((cs.length : Int) < (cs.length : Int)) = false := by simp
       go_wp2
       go_roundw
       case rel =>
        refine ⟨i + 1, by omega, by go_num, fun a ha => ?_, HB3.out⟩
        rw [HX.out] at ha
        rcases List.mem_append.1 ha with ha | ha
        ·exact HS.out a ha
        ·obtain rfl := List.mem_singleton.1 ha
         refine ⟨by show cs.length ≤ 70; omega, HFB.out.1, HFB.out.2, fun c hc => HS3.out c ?_⟩
         rw [List.take_length]; exact hc
       case measure => simp [intOf]; omega
  ·obtain rfl : i = L.length := by omega
   have b1 : decide ((L.length : Int) < (L.length : Int)) = false := by simp
   go_wp2
   go_ret
   refine ⟨FewPost.yes ⟨by omega, fun a ha => HS.out a ?_⟩, HB.out⟩
   rw [List.take_length]; exact ha
end
section
open Go.RowKit SeedP Go.Maps
theorem sA_find : pFind sA.ents [97] = some [7, 8] := by decide
theorem sX_keys : (keysOf sX.ents).filter (isPref []) = [] := rfl
theorem lit78 (w : World) (q : Nat → Prop) (hq : q w.heap.size) : RdP (w.alloc (.cells #[.int .u8 7, .int .u8 8] 5)) q (.slice (some ⟨w.heap.size, 0, none⟩) 2 2) [7, 8] := by
 have h := rdB_lit w [7, 8] (by decide) 2 rfl
 rcases h with h | ⟨g, off, cap, e, h1, h2, h3, h4⟩
 ·cases h.2
 ·cases e
  exact Or.inr ⟨_, 0, 2, rfl, h1, h2, hq, h4⟩
set_option maxRecDepth 100000 in
set_option maxHeartbeats 4000000 in
/-- awake -/
theorem awake_c (w : World) (hs : St w) : Calls Tryz.prog 8 #[] w fun e w' => e = .returned (.bool true) ∧ Below w.heap.size w w' := by
 go_enter Tryz.func8, Tryz.ntmps8
 go_wp2_with fail
 refine (empty_c _ hs).mono ?_
 rintro e w1 ⟨rfl, hD1, hb1⟩
 clear hs
 go_wp2_with fail
 refine (open_l hD1 (empty_ok (-1) (by decide) (by decide))).mono ?_
 rintro e w2 ⟨jb, rfl, hJ2, hb2⟩
 go_wp2_with fail
 refine (set_l (hJ2.below ((Below.refl _ _).alloc (Nat.le_refl _) _)) [97] [7, 8] _ (fun mb hm hJ => by
  exact lit78 w2 _ (hJ.other (Blk.new w2 5 [.int .u8 7, .int .u8 8]) (by decide) (by decide))) (by decide) (by decide)).mono ?_
 rintro e w3 ⟨rfl, hJ3, hb3⟩
 have hb3 := ((Below.refl _ w2).alloc (by have := hJ2.size; omega) (.cells #[.int .u8 7, .int .u8 8] 5)).trans hb3
 have hB3 := (hb1.trans (hb2.mono hb1.size)).trans hb3
 have hcs := awake_set
 unfold csA at hcs
 rw [hcs] at hJ3
 rw [hcs]
 clear hcs hb3 hb2 hb1 hJ2 hD1
 obtain ⟨a0, c0, a1, c1, _, k1, k2, r0, r1, _⟩ := hJ3.dl.cells
 have hl0 := awake_len
 have hd0 := awake_drop
 have hl1 : sA.d.f1.length = 0 := rfl
 obtain ⟨f0, hf0⟩ : ∃ f0, sA.d.f0 = f0 := ⟨_, rfl⟩
 rw [hf0] at k1 r0 hl0 hd0
 rw [hl0] at k1 r0
 rw [hl1] at k2 r1
 rcases r0 with ⟨_, e⟩ | ⟨g0, o0, c0', e0, hc1, hc2, hc3, hc4⟩
 ·rw [e] at hl0; cases hl0
 simp only [Value.slice.injEq] at e0
 obtain ⟨rfl, hq0, rfl⟩ := e0
 have hr0 : RdB w3 w3.heap.size (.slice (some ⟨g0, o0 + 36, none⟩) 8 (c0 - 36)) [1, 0, 1, 97, 0, 2, 7, 8] := by
  have h := RdB.drop (n := 36) (by omega) hc1 hc2 hc3 hc4
  rw [hd0, hl0] at h
  exact h
 have hcv := conv_c hr0
 have hcz : ¬ c0 = 36 := by omega
 clear r1 hc4 hd0 hr0 hq0 hl0 hl1 hc1 hc2 hc3 hb3 hf0
 go_wp2_with fail
 refine (open_l hJ3.dl hJ3.ok.d).mono ?_
 rw [awake_open]
 rintro e w4 ⟨jk, rfl, hJ4, hb4⟩
 have hB4 := hB3.trans (hJ3.cut hb4)
 clear hcv hcz k1 k2 hJ3 hB3 hb4
 go_wp2_with fail
 refine (get_l hJ4 [97] (by decide)).mono ?_
 rw [sA_find]
 rintro e w5 ⟨⟨a5, c5, rfl, hr5⟩, hb5⟩
 have hJ5 := hJ4.below hb5
 have hB5 := hB4.trans (hJ4.cut hb5)
 have hcv : (convert 25 9 (.slice a5 2 c5)).run Tryz.prog w5 = .ok (.string ⟨#[7, 8]⟩) w5 := conv_c hr5
 clear hb5 hJ4 hB4 hr5
 go_wp2_with fail
 have hW : Calls Tryz.prog 32 #[.pointer (some ⟨jk, 0, none⟩)] w5 fun e w' => e = .returned (.int .i64 6) ∧ w5 = w' := weight_l hJ5
 refine hW.mono ?_
 rintro e w6 ⟨rfl, rfl⟩
 clear hcv hW
 go_wp2_with fail
 have hG : Calls Tryz.prog 33 #[.pointer (some ⟨jk, 0, none⟩)] w5 fun e w' => e = .returned (.int .i64 1) ∧ w5 = w' := generation_l hJ5
 refine hG.mono ?_
 rintro e w6 ⟨rfl, rfl⟩
 clear hG
 go_wp2_with fail
 refine (drop_l hJ5 [98] (by decide)).mono ?_
 rw [awake_none]
 rintro e w6 ⟨rfl, hJ6, hb6⟩
 have hB6 := hB5.trans hb6
 clear hb6 hB5 hJ5
 go_wp2_with fail
 refine (compact_l hJ6).mono ?_
 obtain ⟨sB, hc1, hc2, hc3, hc4⟩ := awake_compact
 rw [hc1]
 rintro e w7 ⟨rfl, hJ7, hb7⟩
 have hB7 := hB6.trans hb7
 obtain ⟨a0, c0, a1, c1, _, k1, k2, r0, r1, _⟩ := hJ7.dl.cells
 have hG : Calls Tryz.prog 33 #[.pointer (some ⟨jk, 0, none⟩)] w7 fun e w' => e = .returned (.int .i64 2) ∧ w7 = w' := by
  have h := generation_l hJ7
  rw [hc2, hc4] at h
  exact h
 rw [hc3] at k2
 have HG := Lib.hid hG
 have HB7 := Lib.hid hB7
 have HS7 := Lib.hid hJ7.st
 clear r0 r1 hG hc1 hc2 hc3 hc4 k1 hb7 hB6 hJ6 hB7 hJ7
 go_wp2_with fail
 refine HG.out.mono ?_
 rintro e w8 ⟨rfl, rfl⟩
 have hS := HS7.out
 have hB := HB7.out
 have HZ := Lib.hid hB.size
 clear HG HB7 HS7 k2
 go_wp2_with fail
 have hD := DL.new w7 hS 43
 have hbn := (Below.refl _ w7).alloc (Nat.le_refl _) (.cells #[.int .i64 43, .slice none 0 0, .slice none 0 0] 28)
 refine (open_l hD (empty_ok 43 (by decide) (by decide))).mono ?_
 rintro e w8 ⟨jw, rfl, hJ8, hb8⟩
 have hb8 := hbn.trans (hD.cut hb8)
 clear hbn hD hS
 go_wp2_with fail
 refine (set_l (hJ8.below ((Below.refl _ _).alloc (Nat.le_refl _) _)) [97] [7, 8] _ (fun mb hm hJ => by
  exact lit78 w8 _ (hJ.other (Blk.new w8 5 [.int .u8 7, .int .u8 8]) (by decide) (by decide))) (by decide) (by decide)).mono ?_
 rintro e w9 ⟨rfl, hJ9, hb9⟩
 have hb9 := (((Below.refl _ w8).alloc (by have := hJ8.size; omega) (.cells #[.int .u8 7, .int .u8 8] 5)).trans hb9)
 have hB9 := hB.trans ((hb8.trans hb9).mono hB.size)
 have hcs := weak_set
 unfold csA at hcs
 rw [hcs] at hJ9
 rw [hcs]
 clear hcs hb9 hb8 hB hJ8
 go_wp2_with fail
 have hG : Calls Tryz.prog 33 #[.pointer (some ⟨jw, 0, none⟩)] w9 fun e w' => e = .returned (.int .i64 0) ∧ w9 = w' := generation_l hJ9
 refine hG.mono ?_
 rintro e w10 ⟨rfl, rfl⟩
 obtain ⟨a0, c0, a1, c1, k0, k1, k2, r0, r1, z⟩ := hJ9.dl.cells
 rw [weak_len] at k1
 have HD := Lib.hid hJ9.dl
 have HB := Lib.hid hB9
 have HO := Lib.hid hJ9.ok.d
 have z0 := z 0
 clear r0 r1 hG hJ9 hB9 k2 z
 go_wp2_with fail
 refine (open_l (HD.out.power (-1)) (empty_ok (-1) (by decide) (by decide) |> fun _ => ⟨by decide, by decide, HO.out.f0, HO.out.f1⟩)).mono ?_
 have hB10 := HB.out.trans ((HD.out.power_below (.int .i64 (-1))).mono HZ.out)
 rw [show jOpen ⟨-1, sW.d.f0, sW.d.f1⟩ = sX from weak_open]
 rintro e w10 ⟨jx, rfl, hJ10, hb10⟩
 have hB10 := hB10.trans (hb10.mono (by have h := HD.out.size; have h2 := HZ.out; simp; omega))
 clear hb10 HB HD HO k0 k1 z0
 go_wp2_with fail
 have hG : Calls Tryz.prog 33 #[.pointer (some ⟨jx, 0, none⟩)] w10 fun e w' => e = .returned (.int .i64 1) ∧ w10 = w' := generation_l hJ10
 refine hG.mono ?_
 rintro e w11 ⟨rfl, rfl⟩
 clear hG
 go_wp2_with fail
 refine (keys_l hJ10 [] (by decide)).mono ?_
 rw [sX_keys]
 rintro e w11 ⟨v, rfl, hv, hb11⟩
 obtain ⟨va, vc, rfl⟩ : ∃ va vc, v = .slice va 0 vc := by
  rcases hv.2 with ⟨rfl, _⟩ | ⟨g, cap, cur, rfl, _⟩
  ·exact ⟨none, 0, rfl⟩
  ·exact ⟨_, cap, rfl⟩
 have hJ11 := hJ10.below hb11
 have hB11 := hB10.trans ((hJ10.cut hb11).mono HZ.out)
 clear hv hb11 hB10 hJ10
 go_wp2_with fail
 obtain ⟨sY, hy1, hy2⟩ := weak_again
 refine (set_l hJ11 [98] [] (.slice none 0 0) (fun mb hm hJ => Or.inl ⟨Or.inl rfl, rfl⟩) (by decide) (by decide)).mono ?_
 rw [hy1]
 rintro e w12 ⟨rfl, hJ12, hb12⟩
 have hB12 := Lib.hid (hB11.trans (hb12.mono HZ.out))
 obtain ⟨a0, c0, a1, c1, k0, k1, k2, r0, r1, z⟩ := hJ12.dl.cells
 rw [hy2] at k1
 clear r0 r1 k0 k2 z hJ12 hb12 hB11 hJ11 hy1 hy2
 go_wp2
 go_ret
 exact ⟨rfl, hB12.out⟩
end
section
open Go.RowKit SeedP Go.Maps
set_option maxRecDepth 100000 in
/-- does, of any disk -/
theorem does_c (d : DS) (v0 v1 vl : Value) (L : List ActP) (w0 : World) (hs : St w0) (hr0 : RdB w0 w0.heap.size v0 d.f0) (hr1 : RdB w0 w0.heap.size v1 d.f1) (h0 : d.f0.length ≤ 1073741824) (h1 : d.f1.length ≤ 1073741824) (hp : d.pw ≤ 9223372036854775807) (hL : ActsAt w0 w0.heap.size vl L) (hok : ∀ a ∈ L, a.Ok) (hn : L.length ≤ 1000000) :
 Calls Tryz.prog 7 #[.agg #[.int .i64 d.pw, v0, v1], vl] w0 fun e w' => e = .returned (.bool true) ∧ Below w0.heap.size w0 w' := by
 by_cases hno : d.pw < -1 ∨ 262144 < d.f0.length ∨ 262144 < d.f1.length
 ·exact does_bad d v0 v1 vl w0 hs hr0 hr1 h0 h1 hno
 ·exact does_ok d v0 v1 vl L w0 hs hr0 hr1 ⟨by omega, hp, by omega, by omega⟩ hL hok hn
set_option maxRecDepth 100000 in
set_option maxHeartbeats 4000000 in
/-- the walk -/
theorem journalTells_walk (a0 : Int) (v1 : Value) (L : List ActP) (W : World) (hs : St W) (b0 : -9223372036854775808 ≤ a0 ∧ a0 ≤ 9223372036854775807) (b1 : ActsAt W W.heap.size v1 L ∧ ∀ a ∈ L, -9223372036854775808 ≤ a.pw ∧ a.pw ≤ 9223372036854775807) :
 Calls Tryz.prog 3 #[.int .i64 a0, v1] W fun e w' => e = .returned (.bool true) ∧ Below W.heap.size W w' := by
 obtain ⟨b1, b2⟩ := b1
 have HF := Lib.hid (few_c v1 L W b1)
 obtain ⟨al, cl, rfl, -⟩ := id b1
 have HL := Lib.hid b1
 have HP := Lib.hid b2
 have HS := Lib.hid hs
 have HB0 := Lib.hid b0
 clear hs b0 b1 b2
 go_enter Tryz.func3, Tryz.ntmps3
 go_wp2_with fail
 refine HF.out.mono ?_
 rintro e w1 ⟨⟨b, rfl, hb⟩, hb1⟩
 have HB1 := Lib.hid hb1
 have HS1 := Lib.hid (HS.out.below hb1 HS.out.pos)
 cases b with
 | false =>
   clear hb hb1 HF
   go_wp2_with fail
   refine (awake_c _ HS1.out).mono ?_
   rintro e w2 ⟨rfl, hb2⟩
   have HB2 := Lib.hid (HB1.out.trans (hb2.mono HB1.out.size))
   clear hb2
   go_wp2
   go_ret
   exact ⟨rfl, HB2.out⟩
 | true =>
   obtain ⟨hn, hsm⟩ := hb rfl
   have HD := Lib.hid (does_c ⟨a0, [], []⟩ (.slice none 0 0) (.slice none 0 0) (.slice al L.length cl) L w1 HS1.out (RdB.nil _ _) (RdB.nil _ _) (by simp) (by simp) HB0.out.2 ((HL.out.below hb1).raise hb1.size) (fun a ha => (hsm a ha).ok (HP.out a ha).1 (HP.out a ha).2) (by omega))
   simp only at HD
   clear hb hb1 HF hn hsm
   go_wp2_with fail
   refine HD.out.mono ?_
   rintro e w2 ⟨rfl, hb2⟩
   have HB2 := Lib.hid (HB1.out.trans (hb2.mono HB1.out.size))
   have HS2 := Lib.hid (HS1.out.below hb2 HS1.out.pos)
   clear hb2
   go_wp2_with fail
   refine (awake_c _ HS2.out).mono ?_
   rintro e w3 ⟨rfl, hb3⟩
   have HB3 := Lib.hid (HB2.out.trans (hb3.mono HB2.out.size))
   clear hb3
   go_wp2
   go_ret
   exact ⟨rfl, HB3.out⟩
end
section
section
open Go.ChangeShapes Go.WideShapes Go.ChangeAt Go.RowKit
theorem own : ownKnob Tryz.prog.godebug = none := by kernel_rfl
theorem laidOut : laidOutB Tryz.prog = true := by kernel_rfl
theorem gS : Tryz.prog.globalNamed "lyceum/seed.steps" = some 0 := by kernel_rfl
theorem tS : (Tryz.prog.globals[0]?).map (·.type) = some 146 := by kernel_rfl
theorem cellsA : Tryz.prog.cellsOf 146 = 6 := by kernel_rfl
theorem cellsS : Tryz.prog.cellsOf 145 = 2 := by kernel_rfl
theorem cellsU : Tryz.prog.cellsOf 131 = 1 := by kernel_rfl
theorem cellsW : Tryz.prog.cellsOf 46 = 1 := by kernel_rfl
/-- one step of mixing, read -/
theorem step_read {W : World} {H : Type} {enc : TypeId × Value → H} {base : Nat} {sp : Nat → Bool} {held : Bool} {fuel : Nat} {a b : Value} {x y : Int} {q : List MemPlace}
 (h : DataW.trod enc Tryz.prog W base sp held fuel 145 [a, b] = some (.agg [.lit (.int .u64 x), .lit (.int .u64 y)], q)) : a = .int .u64 x ∧ b = .int .u64 y := by
 obtain ⟨y0, y1, n, hx, _, h0, h1⟩ := trod_struct2 Tryz.underlying145 h
 simp only [cellsU, cellsW, List.drop_zero, List.take_succ_cons, List.take_zero, List.drop_succ_cons] at h0 h1
 obtain ⟨k0, e0, r0, _⟩ := DataW.trod_int Tryz.underlying131 h0
 obtain ⟨k1, e1, r1, _⟩ := DataW.trod_int Tryz.underlying46 h1
 subst r0 r1
 simp only [Prod.mk.injEq, DataW.agg.injEq, List.cons.injEq, DataW.lit.injEq, Lit.int.injEq, true_and, and_true] at hx
 obtain ⟨⟨rfl, rfl⟩, _⟩ := hx
 simp only [List.cons.injEq, and_true] at e0 e1
 exact ⟨e0, e1⟩
set_option maxRecDepth 100000 in
theorem steps_of_laid {W : World} (h : laidMetH Tryz.prog [("lyceum/seed.steps", Rows.laid_lyceum_seed_steps)] W) : St W := by
 rw [MakeChecks.laidMetH_plain _ _ _ (by kernel_rfl)] at h
 obtain ⟨ps, ⟨g0, t0, cs0, f0, p0, q0, hg0, ht0, hv0, hd0, _, _⟩, _, _⟩ := h
 obtain rfl := Option.some.inj (gS.symm.trans hg0)
 obtain rfl := Option.some.inj (tS.symm.trans ht0)
 obtain ⟨xs, m, rfl, hx, hlen, hn3, hel⟩ := DataW.trod_array Tryz.underlying146 hd0
 rw [cellsA] at hlen
 have hc : ∀ i, W.cell? ⟨0, i, none⟩ = cs0[i]? := fun i => World.var?_cell gS hv0 i
 obtain ⟨l⟩ := cs0
 match l, hlen with
 | [a0, a1, a2, a3, a4, a5], _ =>
   match xs, hn3 with
   | [x0, x1, x2], _ =>
     have e0 := hel 0 (by decide)
     have e1 := hel 1 (by decide)
     have e2 := hel 2 (by decide)
     simp [cellsS] at e0 e1 e2
     unfold Rows.laid_lyceum_seed_steps at hx
     simp only [Prod.mk.injEq, DataW.agg.injEq, List.map_cons, List.map_nil, List.cons.injEq, and_true] at hx
     obtain ⟨⟨r0, r1, r2⟩, _⟩ := hx
     obtain ⟨d0, q0⟩ := x0
     obtain ⟨d1, q1⟩ := x1
     obtain ⟨d2, q2⟩ := x2
     simp only at r0 r1 r2
     subst r0 r1 r2
     obtain ⟨rfl, rfl⟩ := step_read e0
     obtain ⟨rfl, rfl⟩ := step_read e1
     obtain ⟨rfl, rfl⟩ := step_read e2
     exact ⟨hc 0, hc 1, hc 2, hc 3, hc 4, hc 5⟩
/-- A WORLD FOR THE WITNESS: the settled one, the steps (block 0) holding what their initialiser lays. -/
noncomputable def laidWorld (os : Os) : World :=
 { World.holding Tryz.prog os ⟨#[], #[], []⟩ with heap := (World.holding Tryz.prog os ⟨#[], #[], []⟩).heap.modify 0 fun
  | .cells _ t frozen => .cells #[.int .u64 30, .int .u64 13787848793156543929, .int .u64 27, .int .u64 10723151780598845931, .int .u64 31, .int .u64 1] t frozen
  | o => o }
theorem laid_met (os : Os) (args : Array Value) : laidMet Tryz.prog [("lyceum/seed.steps", Rows.laid_lyceum_seed_steps)] ((laidWorld os).forCall (fun _ _ => 0) ⟨#[], args, []⟩).memory :=
 laidMet_of_run' 8 (by kernel_rfl) (by kernel_rfl)
end
end
end Go.Proofs.YtondomklkapogaaGreatDoor
