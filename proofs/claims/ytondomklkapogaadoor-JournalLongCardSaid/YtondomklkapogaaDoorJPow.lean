/- The walk of powered: a failure of the power is caught. -/
import Derived.Test.YtondomklkapogaaDoorJDo
import Derived.Recover
import Derived.Defers
namespace Go.Proofs.YtondomklkapogaaDoor
open Go.RowKit SeedP Go.Maps
theorem as_failure (v : Value) (w : World) : (Instr.typeAssert (.iface 97 v) 20 97 true).run Tryd.prog w = .ok (.tuple #[v, .bool true]) w := by kernel_rfl
set_option maxRecDepth 100000 in
set_option maxHeartbeats 2000000 in
theorem catch_idle (bx be : Nat) (w : World) :
    CallsD Tryd.prog 47 #[.pointer (some ⟨bx, 0, none⟩), .pointer (some ⟨be, 0, none⟩)] .returning w fun e u' w' => e = .returned (.tuple #[]) ∧ u' = .returning ∧ w' = w := by
  refine callsD_of_wpS Tryd.func47 rfl fun c₀ cs hu => ?_
  apply wpS_seq
  apply wpS_region
  simp [wpOpsS, go_sem, recoverD, hu, Tryd.ntmps47, Exit.thenS]
  refine wpS_of_wp ?_
  simp only [Array.replicate_succ, Array.replicate_zero, List.push_toArray, List.append_toArray, List.nil_append, List.cons_append, List.setIfInBounds_toArray, List.set_cons_zero, List.set_cons_succ]
  go_wp2
  cases c₀
  simp_all [bodyPostS, results, Tryd.results47]
set_option maxRecDepth 100000 in
set_option maxHeartbeats 2000000 in
theorem catch_panicking (jb bx be : Nat) (d : Bool) (x : Int) (w : World) (hx : w.cell? ⟨bx, 0, none⟩ = some (.pointer (some ⟨jb, 0, none⟩))) (h1 : w.cell? ⟨jb, 1, none⟩ = some (.bool d)) (f1 : w.frozen? ⟨jb, 1, none⟩ = false) (h2 : w.cell? ⟨be, 0, none⟩ = some (.int .i64 x)) (f2 : w.frozen? ⟨be, 0, none⟩ = false) :
    CallsD Tryd.prog 47 #[.pointer (some ⟨bx, 0, none⟩), .pointer (some ⟨be, 0, none⟩)] (.panicking [{ v := .iface 97 (.agg #[]), recovered := false }]) w fun e u' w' =>
      e = .returned (.tuple #[]) ∧ u' = .panicking [{ v := .iface 97 (.agg #[]), recovered := true }] ∧ w' = ((w.setCell ⟨jb, 1, none⟩ (.bool true)).setCell ⟨be, 0, none⟩ (.int .i64 360)).alloc (.cells #[] 97) := by
  refine callsD_of_wpS Tryd.func47 rfl fun c₀ cs hu => ?_
  apply wpS_seq
  apply wpS_region
  simp [wpOpsS, go_sem, recoverD, hu, Tryd.ntmps47, Exit.thenS]
  refine wpS_of_wp ?_
  simp only [Array.replicate_succ, Array.replicate_zero, List.push_toArray, List.append_toArray, List.nil_append, List.cons_append, List.setIfInBounds_toArray, List.set_cons_zero, List.set_cons_succ]
  have hta := as_failure
  have hB : Below w.heap.size w (w.alloc (.cells #[] 97)) := (Below.refl _ _).alloc (Nat.le_refl _) _
  have l1 := World.block_lt_of_cell? w _ h1
  have l2 := World.block_lt_of_cell? w _ h2
  have hx' := keep_cell hB hx
  have h1' := keep_cell hB h1
  have h2' := keep_cell hB h2
  have f1' : (w.alloc (.cells #[] 97)).frozen? ⟨jb, 1, none⟩ = false := keep_frozen hB l1 f1
  have f2' : (w.alloc (.cells #[] 97)).frozen? ⟨be, 0, none⟩ = false := keep_frozen hB l2 f2
  have HB := Lib.hid hB
  clear hB
  go_wp2
  clear hx h1 f1 h2 f2 hta hx' h1' h2' f1' f2' HB
  cases c₀
  simp_all [bodyPostS, results, Tryd.results47]
theorem DW.low {w : World} {db : Nat} {p : Nat → Prop} {d : DS} (h : DW w db p d) : DW w db (fun g => p g ∧ g < w.heap.size) d := by
  obtain ⟨v0, v1, q0, q1, h1, h2, h3, h4, h5⟩ := h
  exact ⟨v0, v1, fun g => q0 g ∧ g < w.heap.size, fun g => q1 g ∧ g < w.heap.size, h1, h2.mono (fun g hl hq => ⟨hq, hl⟩), h3.mono (fun g hl hq => ⟨hq, hl⟩), fun g hg => ⟨⟨(h4 g hg.1).1, hg.2⟩, fun h => (h4 g hg.1).2 h.1⟩, fun g hg => ⟨h5 g hg.1, hg.2⟩⟩
theorem JW.low {w : World} {jb db mb : Nat} {p : Nat → Prop} {s : JS} (h : JW w jb db mb p s) : JW w jb db mb (fun g => p g ∧ g < w.heap.size) s := by
  obtain ⟨L, hM, hE⟩ := h.map
  exact ⟨h.st, h.blk, h.disk.low, ⟨L, ⟨hM.own, fun e he => (hM.val e he).mono (fun g hl hg => ⟨hg, hl⟩)⟩, hE⟩, fun g hg => h.away g hg.1, h.ok, h.ord, h.small⟩
theorem JW.down {w : World} {jb db mb : Nat} {p : Nat → Prop} {s : JS} (h : JW w jb db mb p s) : JW (w.setCell ⟨jb, 1, none⟩ (.bool true)) jb db mb p ⟨s.d, true, s.file, s.c⟩ := by
  have hG : Grown (fun k => k = jb) w (w.setCell ⟨jb, 1, none⟩ (.bool true)) := Grown.setCell (S := fun k => k = jb) (Grown.refl _ _) (a := ⟨jb, 1, none⟩) rfl _
  obtain ⟨L, hM, hE⟩ := h.map
  have ok := h.ok
  exact ⟨h.st.block (hG.block 0 h.st.pos (fun e => h.zero.1 e.symm)), h.blk.set 1 _, h.disk.grown hG (fun e => h.jd e.symm) (fun g hg e => (h.away g hg).1 e), ⟨L, hM.grown hG (fun e => h.jm e.symm) (fun g hg e => (h.away g hg).1 e), hE⟩, h.away,
    ⟨ok.pw0, ok.pw1, ok.f0, ok.f1, ok.apart, ok.wt, ok.max, ok.gen, ok.ed, ok.sum0, ok.sum1⟩, h.ord, h.small⟩
/-- a block that is newer than w may be turned -/
theorem Grown.skip {S : Nat → Prop} {w w2 w4 : World} (h : Grown S w w2) {be : Nat} (hbe : w.heap.size ≤ be) (h4 : Grown (fun k => S k ∨ k = be) w2 w4) : Grown S w w4 :=
  ⟨h4.os.trans h.os, h4.tape.trans h.tape, h4.output.trans h.output, Nat.le_trans h.size h4.size, fun k hk hn => (h4.block k (Nat.lt_of_lt_of_le hk h.size) (fun hs => by rcases hs with hs | hs; exact hn hs; omega)).trans (h.block k hk hn)⟩
set_option maxRecDepth 100000 in
set_option maxHeartbeats 2000000 in
/-- powered, over what Commit does -/
theorem powered_do {jb db mb b0 b1 b2 : Nat} {p : Nat → Prop} {s : JS} (vc v : Value) (cs : List Chg) (w : World) (h : JW w jb db mb p s) (hE : Env w jb db mb b0 b1 b2 vc v cs) (hv : Valid cs) (hn2 : cs.length ≤ 64) (hw : pWAfter s.c.ents s.c.wt cs ≤ 131072) (hm : s.c.gen = 4611686018427387904 → overfullP s (codeOf cs).length = false) :
    Calls Tryd.prog 27 #[.pointer (some ⟨jb, 0, none⟩), .func (.func 33) #[] #[.pointer (some ⟨b0, 0, none⟩), .pointer (some ⟨b1, 0, none⟩), .pointer (some ⟨b2, 0, none⟩)]] w fun e w' => e = .returned (.int .i64 (jPowered (jDo cs s)).2) ∧ JW w' jb db mb (fun g => p g ∨ w.heap.size ≤ g) (jPowered (jDo cs s)).1 ∧ Grown (fun k => k = jb ∨ k = db ∨ k = mb) w w' := by
  have hmf : ∀ (fn : Fn) (first cap : Array Value) (w : World), (Instr.makeFunc fn first cap).run Tryd.prog w = .ok (.func fn first cap) w := fun _ _ _ _ => rfl
  have hlt := h.lt
  have hB1 : Below w.heap.size w (w.alloc (.cells #[.pointer (some ⟨jb, 0, none⟩)] 30)) := (Below.refl _ _).alloc (Nat.le_refl _) _
  have hB2 : Below w.heap.size w ((w.alloc (.cells #[.pointer (some ⟨jb, 0, none⟩)] 30)).alloc (.cells #[.int .i64 0] 31)) := hB1.alloc (by simp) _
  have HDO := Lib.hid (do_c vc v cs _ (h.low.below hB2) (hE.grown (Grown.below3 hB2)) hv hn2 hw hm)
  go_enter_defers Tryd.func27, Tryd.ntmps27
  go_wp2_with fail
  refine HDO.out.mono ?_
  rintro e w3 ⟨he, hJ3, hG3⟩
  have X2 : Blk ((w.alloc (.cells #[.pointer (some ⟨jb, 0, none⟩)] 30)).alloc (.cells #[.int .i64 0] 31)) w.heap.size 30 [.pointer (some ⟨jb, 0, none⟩)] := (Blk.new w 30 [.pointer (some ⟨jb, 0, none⟩)]).alloc _
  have E2 : Blk ((w.alloc (.cells #[.pointer (some ⟨jb, 0, none⟩)] 30)).alloc (.cells #[.int .i64 0] 31)) (w.heap.size + 1) 31 [.int .i64 0] := by
    have := Blk.new (w.alloc (.cells #[.pointer (some ⟨jb, 0, none⟩)] 30)) 31 [.int .i64 0]
    simpa using this
  have hz2 : ((w.alloc (.cells #[.pointer (some ⟨jb, 0, none⟩)] 30)).alloc (.cells #[.int .i64 0] 31)).heap.size = w.heap.size + 2 := by simp
  have hG2 : Grown (fun k => k = jb ∨ k = db ∨ k = mb) w ((w.alloc (.cells #[.pointer (some ⟨jb, 0, none⟩)] 30)).alloc (.cells #[.int .i64 0] 31)) := Grown.below3 hB2
  clear HDO hB1 hB2 h hE hm hw hv
  generalize (w.alloc (.cells #[.pointer (some ⟨jb, 0, none⟩)] 30)).alloc (.cells #[.int .i64 0] 31) = w2 at *
  have hnx : ¬ (w.heap.size = jb ∨ w.heap.size = db ∨ w.heap.size = mb) := by omega
  have hne : ¬ (w.heap.size + 1 = jb ∨ w.heap.size + 1 = db ∨ w.heap.size + 1 = mb) := by omega
  have X3 := X2.grown hG3 hnx
  have E3 := E2.grown hG3 hne
  have x0 := X3.cell 0 (by simp)
  have e0 := E3.cell 0 (by simp)
  have ef := E3.frozen 0
  simp only [List.getD_cons_zero] at x0 e0
  generalize hbe : w.heap.size + 1 = be at *
  have hp3 : ∀ g, ((p g ∧ g < w.heap.size) ∨ w2.heap.size ≤ g) → g ≠ be := by intro g hg; omega
  have hfin : ∀ (W : World) (s' : JS), JW W jb db mb (fun g => (p g ∧ g < w.heap.size) ∨ w2.heap.size ≤ g) s' → JW W jb db mb (fun g => p g ∨ w.heap.size ≤ g) s' := fun _ _ hJ => hJ.mono (fun g hg => by rcases hg with hg | hg; exact Or.inl hg.1; exact Or.inr (by omega)) (fun g hg => by
    have hz := hJ.zero
    have hj := hJ.away g
    rcases hg with hg | hg
    · by_cases hl : g < w.heap.size
      · exact hj (Or.inl ⟨hg, hl⟩)
      · omega
    · omega)
  have HF := Lib.hid hfin
  have HP3 := Lib.hid (And.intro hp3 (And.intro hG2 hz2))
  clear hfin hp3 X2 E2 X3 hG2 hz2
  unfold endOf at he
  split at he <;> rename_i hk
  · subst he
    have hJ := hJ3.zero
    go_wp2
    refine leaves_cons (f := 47) (args := #[.pointer (some ⟨w.heap.size, 0, none⟩), .pointer (some ⟨be, 0, none⟩)]) (by simp) (by simp [go_sem]) ?_
    refine (catch_idle _ _ _).mono ?_
    rintro e u' w'' ⟨rfl, rfl, rfl⟩
    have hG4 : Grown (fun k => k = be) w3 (w3.setCell ⟨be, 0, none⟩ (.int .i64 0)) := Grown.setCell (S := fun k => k = be) (Grown.refl _ _) (a := ⟨be, 0, none⟩) rfl _
    have e4 := (E3.set 0 (.int .i64 0)).cell 0 (by simp)
    simp only [List.set_cons_zero, List.getD_cons_zero] at e4
    have hJ4 := HF.out _ _ (hJ3.grown hG4 (by omega) (by omega) (by omega) (by omega) HP3.out.1)
    have hP : jPowered (jDo cs s) = ((jDo cs s).1, 0) := by unfold jPowered; rw [if_pos hk]
    have hGa := HP3.out.2.1.skip (be := be) (by omega) ((hG3.mono (fun _ _ h => Or.inl h)).trans (hG4.mono (fun _ _ h => Or.inr h)))
    rw [hP]
    dsimp only
    clear hP hJ3 hG3 E3 hG4 HF HP3 e0 x0 hk
    generalize (jDo cs s).1 = sf at *
    generalize w3.setCell ⟨be, 0, none⟩ (.int .i64 0) = w4 at *
    simp [Leaves, settle, results, Tryd.results27, go_sem, e4]
    exact ⟨hJ4, hGa⟩
  · subst he
    unfold noPower
    go_wp2
    have k1 := hJ3.cells.2.1
    have f1 := hJ3.frozen 1
    have hJz := hJ3.zero
    have hG4 : Grown (fun k => k = be ∨ k = jb) w3 (((w3.setCell ⟨jb, 1, none⟩ (.bool true)).setCell ⟨be, 0, none⟩ (.int .i64 360)).alloc (.cells #[] 97)) :=
      (Grown.setCell (S := fun k => k = be ∨ k = jb) (Grown.setCell (S := fun k => k = be ∨ k = jb) (Grown.refl _ _) (a := ⟨jb, 1, none⟩) (Or.inr rfl) _) (a := ⟨be, 0, none⟩) (Or.inl rfl) _).alloc _
    have hG5 : Grown (fun k => k = be) (w3.setCell ⟨jb, 1, none⟩ (.bool true)) (((w3.setCell ⟨jb, 1, none⟩ (.bool true)).setCell ⟨be, 0, none⟩ (.int .i64 360)).alloc (.cells #[] 97)) :=
      (Grown.setCell (S := fun k => k = be) (Grown.refl _ _) (a := ⟨be, 0, none⟩) rfl _).alloc _
    have hJ4 := HF.out _ _ (hJ3.down.grown hG5 (by omega) (by omega) (by omega) (by omega) HP3.out.1)
    have E4 : Blk (w3.setCell ⟨jb, 1, none⟩ (.bool true)) be 31 [.int .i64 0] := E3.grown (Grown.setCell (S := fun k => k = jb) (Grown.refl _ _) (a := ⟨jb, 1, none⟩) rfl _) (by omega)
    have e5 := ((E4.set 0 (.int .i64 360)).alloc (.cells #[] 97)).cell 0 (by simp)
    simp only [List.set_cons_zero, List.getD_cons_zero] at e5
    have hP : jPowered (jDo cs s) = (⟨(jDo cs s).1.d, true, (jDo cs s).1.file, (jDo cs s).1.c⟩, 360) := by unfold jPowered; rw [if_neg hk]
    have hGa : Grown (fun k => k = jb ∨ k = db ∨ k = mb) w _ := HP3.out.2.1.skip (be := be) (by omega) ((hG3.mono (fun _ _ h => Or.inl h)).trans (hG4.mono (fun _ _ h => by rcases h with h | h; exact Or.inr h; exact Or.inl (Or.inl h))))
    rw [hP]
    dsimp only
    clear hP hG3 E3 E4 hG4 hG5 HF HP3 hk
    generalize (jDo cs s).1 = sf at *
    refine leaves_cons (f := 47) (args := #[.pointer (some ⟨w.heap.size, 0, none⟩), .pointer (some ⟨be, 0, none⟩)]) (by simp) (by simp [go_sem]) ?_
    refine (catch_panicking jb _ _ _ 0 _ x0 k1 f1 e0 ef).mono ?_
    rintro e u' w'' ⟨rfl, rfl, rfl⟩
    clear x0 k1 f1 e0 ef hJ3
    generalize ((w3.setCell ⟨jb, 1, none⟩ (.bool true)).setCell ⟨be, 0, none⟩ (.int .i64 360)).alloc (.cells #[] 97) = w5 at *
    simp [Leaves, settle, results, Tryd.results27, go_sem, e5]
    exact ⟨hJ4, hGa⟩
set_option maxRecDepth 100000 in
set_option maxHeartbeats 2000000 in
/-- powered, over compact -/
theorem powered_compact {jb db mb : Nat} {p : Nat → Prop} {s : JS} (w : World) (h : JW w jb db mb p s) (hg : s.c.gen < 4611686018427387904) :
    Calls Tryd.prog 27 #[.pointer (some ⟨jb, 0, none⟩), .func (.func 28) #[.pointer (some ⟨jb, 0, none⟩)] #[]] w fun e w' => e = .returned (.int .i64 (jPowered (jCompact s)).2) ∧ JW w' jb db mb (fun g => p g ∨ w.heap.size ≤ g) (jPowered (jCompact s)).1 ∧ Grown (fun k => k = jb ∨ k = db ∨ k = mb) w w' := by
  have hmf : ∀ (fn : Fn) (first cap : Array Value) (w : World), (Instr.makeFunc fn first cap).run Tryd.prog w = .ok (.func fn first cap) w := fun _ _ _ _ => rfl
  have hlt := h.lt
  have hB1 : Below w.heap.size w (w.alloc (.cells #[.pointer (some ⟨jb, 0, none⟩)] 30)) := (Below.refl _ _).alloc (Nat.le_refl _) _
  have hB2 : Below w.heap.size w ((w.alloc (.cells #[.pointer (some ⟨jb, 0, none⟩)] 30)).alloc (.cells #[.int .i64 0] 31)) := hB1.alloc (by simp) _
  have HDO := Lib.hid (compact_c _ (h.low.below hB2) hg)
  go_enter_defers Tryd.func27, Tryd.ntmps27
  go_wp2_with fail
  refine HDO.out.mono ?_
  rintro e w3 ⟨he, hJ3, hG3⟩
  have hG3 := hG3.three (mb := mb)
  have X2 : Blk ((w.alloc (.cells #[.pointer (some ⟨jb, 0, none⟩)] 30)).alloc (.cells #[.int .i64 0] 31)) w.heap.size 30 [.pointer (some ⟨jb, 0, none⟩)] := (Blk.new w 30 [.pointer (some ⟨jb, 0, none⟩)]).alloc _
  have E2 : Blk ((w.alloc (.cells #[.pointer (some ⟨jb, 0, none⟩)] 30)).alloc (.cells #[.int .i64 0] 31)) (w.heap.size + 1) 31 [.int .i64 0] := by
    have := Blk.new (w.alloc (.cells #[.pointer (some ⟨jb, 0, none⟩)] 30)) 31 [.int .i64 0]
    simpa using this
  have hz2 : ((w.alloc (.cells #[.pointer (some ⟨jb, 0, none⟩)] 30)).alloc (.cells #[.int .i64 0] 31)).heap.size = w.heap.size + 2 := by simp
  have hG2 : Grown (fun k => k = jb ∨ k = db ∨ k = mb) w ((w.alloc (.cells #[.pointer (some ⟨jb, 0, none⟩)] 30)).alloc (.cells #[.int .i64 0] 31)) := Grown.below3 hB2
  clear HDO hB1 hB2 h
  generalize (w.alloc (.cells #[.pointer (some ⟨jb, 0, none⟩)] 30)).alloc (.cells #[.int .i64 0] 31) = w2 at *
  have hnx : ¬ (w.heap.size = jb ∨ w.heap.size = db ∨ w.heap.size = mb) := by omega
  have hne : ¬ (w.heap.size + 1 = jb ∨ w.heap.size + 1 = db ∨ w.heap.size + 1 = mb) := by omega
  have X3 := X2.grown hG3 hnx
  have E3 := E2.grown hG3 hne
  have x0 := X3.cell 0 (by simp)
  have e0 := E3.cell 0 (by simp)
  have ef := E3.frozen 0
  simp only [List.getD_cons_zero] at x0 e0
  generalize hbe : w.heap.size + 1 = be at *
  have hp3 : ∀ g, ((p g ∧ g < w.heap.size) ∨ w2.heap.size ≤ g) → g ≠ be := by intro g hg; omega
  have hfin : ∀ (W : World) (s' : JS), JW W jb db mb (fun g => (p g ∧ g < w.heap.size) ∨ w2.heap.size ≤ g) s' → JW W jb db mb (fun g => p g ∨ w.heap.size ≤ g) s' := fun _ _ hJ => hJ.mono (fun g hg => by rcases hg with hg | hg; exact Or.inl hg.1; exact Or.inr (by omega)) (fun g hg => by
    have hz := hJ.zero
    have hj := hJ.away g
    rcases hg with hg | hg
    · by_cases hl : g < w.heap.size
      · exact hj (Or.inl ⟨hg, hl⟩)
      · omega
    · omega)
  have HF := Lib.hid hfin
  have HP3 := Lib.hid (And.intro hp3 (And.intro hG2 hz2))
  clear hfin hp3 X2 E2 X3 hG2 hz2
  unfold endOf at he
  split at he <;> rename_i hk
  · subst he
    have hJ := hJ3.zero
    go_wp2
    refine leaves_cons (f := 47) (args := #[.pointer (some ⟨w.heap.size, 0, none⟩), .pointer (some ⟨be, 0, none⟩)]) (by simp) (by simp [go_sem]) ?_
    refine (catch_idle _ _ _).mono ?_
    rintro e u' w'' ⟨rfl, rfl, rfl⟩
    have hG4 : Grown (fun k => k = be) w3 (w3.setCell ⟨be, 0, none⟩ (.int .i64 0)) := Grown.setCell (S := fun k => k = be) (Grown.refl _ _) (a := ⟨be, 0, none⟩) rfl _
    have e4 := (E3.set 0 (.int .i64 0)).cell 0 (by simp)
    simp only [List.set_cons_zero, List.getD_cons_zero] at e4
    have hJ4 := HF.out _ _ (hJ3.grown hG4 (by omega) (by omega) (by omega) (by omega) HP3.out.1)
    have hP : jPowered (jCompact s) = ((jCompact s).1, 0) := by unfold jPowered; rw [if_pos hk]
    have hGa := HP3.out.2.1.skip (be := be) (by omega) ((hG3.mono (fun _ _ h => Or.inl h)).trans (hG4.mono (fun _ _ h => Or.inr h)))
    rw [hP]
    dsimp only
    clear hP hJ3 hG3 E3 hG4 HF HP3 e0 x0 hk
    generalize (jCompact s).1 = sf at *
    generalize w3.setCell ⟨be, 0, none⟩ (.int .i64 0) = w4 at *
    simp [Leaves, settle, results, Tryd.results27, go_sem, e4]
    exact ⟨hJ4, hGa⟩
  · subst he
    unfold noPower
    go_wp2
    have k1 := hJ3.cells.2.1
    have f1 := hJ3.frozen 1
    have hJz := hJ3.zero
    have hG4 : Grown (fun k => k = be ∨ k = jb) w3 (((w3.setCell ⟨jb, 1, none⟩ (.bool true)).setCell ⟨be, 0, none⟩ (.int .i64 360)).alloc (.cells #[] 97)) :=
      (Grown.setCell (S := fun k => k = be ∨ k = jb) (Grown.setCell (S := fun k => k = be ∨ k = jb) (Grown.refl _ _) (a := ⟨jb, 1, none⟩) (Or.inr rfl) _) (a := ⟨be, 0, none⟩) (Or.inl rfl) _).alloc _
    have hG5 : Grown (fun k => k = be) (w3.setCell ⟨jb, 1, none⟩ (.bool true)) (((w3.setCell ⟨jb, 1, none⟩ (.bool true)).setCell ⟨be, 0, none⟩ (.int .i64 360)).alloc (.cells #[] 97)) :=
      (Grown.setCell (S := fun k => k = be) (Grown.refl _ _) (a := ⟨be, 0, none⟩) rfl _).alloc _
    have hJ4 := HF.out _ _ (hJ3.down.grown hG5 (by omega) (by omega) (by omega) (by omega) HP3.out.1)
    have E4 : Blk (w3.setCell ⟨jb, 1, none⟩ (.bool true)) be 31 [.int .i64 0] := E3.grown (Grown.setCell (S := fun k => k = jb) (Grown.refl _ _) (a := ⟨jb, 1, none⟩) rfl _) (by omega)
    have e5 := ((E4.set 0 (.int .i64 360)).alloc (.cells #[] 97)).cell 0 (by simp)
    simp only [List.set_cons_zero, List.getD_cons_zero] at e5
    have hP : jPowered (jCompact s) = (⟨(jCompact s).1.d, true, (jCompact s).1.file, (jCompact s).1.c⟩, 360) := by unfold jPowered; rw [if_neg hk]
    have hGa : Grown (fun k => k = jb ∨ k = db ∨ k = mb) w _ := HP3.out.2.1.skip (be := be) (by omega) ((hG3.mono (fun _ _ h => Or.inl h)).trans (hG4.mono (fun _ _ h => by rcases h with h | h; exact Or.inr h; exact Or.inl (Or.inl h))))
    rw [hP]
    dsimp only
    clear hP hG3 E3 E4 hG4 hG5 HF HP3 hk
    generalize (jCompact s).1 = sf at *
    refine leaves_cons (f := 47) (args := #[.pointer (some ⟨w.heap.size, 0, none⟩), .pointer (some ⟨be, 0, none⟩)]) (by simp) (by simp [go_sem]) ?_
    refine (catch_panicking jb _ _ _ 0 _ x0 k1 f1 e0 ef).mono ?_
    rintro e u' w'' ⟨rfl, rfl, rfl⟩
    clear x0 k1 f1 e0 ef hJ3
    generalize ((w3.setCell ⟨jb, 1, none⟩ (.bool true)).setCell ⟨be, 0, none⟩ (.int .i64 360)).alloc (.cells #[] 97) = w5 at *
    simp [Leaves, settle, results, Tryd.results27, go_sem, e5]
    exact ⟨hJ4, hGa⟩
end Go.Proofs.YtondomklkapogaaDoor
