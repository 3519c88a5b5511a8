/- JournalCompacts: the walk of the law. -/
import Derived.Test.YtondomklkapogaaDoorJCompP
import Derived.Test.YtondomklkapogaaDoorJKit
import Derived.Test.YtondomklkapogaaDoorJLibZ
import Derived.Test.YtondomklkapogaaDoorJLibX
import Derived.Test.YtondomklkapogaaDoorJAwake
import Derived.Test.YtondomklkapogaaDoorJChanges
import Derived.Deep.CutBlock
import Derived.StillTailTactics
namespace Go.Proofs.YtondomklkapogaaDoor
open Go.RowKit SeedP Go.Maps
/-- a step among the arguments, at the place where it is read -/
theorem RdS.cell {W wr : World} {a : Option Addr} {n c : Nat} {L : List StepP} (h : RdS W (.slice a n c) L) (hb : Below W.heap.size W wr) {k : Nat} (hk : k < L.length) : ∃ g o, a = some ⟨g, o, none⟩ ∧ g < W.heap.size ∧ L[k].Ok ∧
    wr.cell? ⟨g, o + k * 5, none⟩ = some (.int .u8 L[k].kind) ∧ wr.cell? ⟨g, o + k * 5 + 1, none⟩ = some (.int .u8 L[k].n) ∧ wr.cell? ⟨g, o + k * 5 + 2, none⟩ = some (.int .u8 L[k].a) ∧ wr.cell? ⟨g, o + k * 5 + 3, none⟩ = some (.int .u8 L[k].b) ∧ wr.cell? ⟨g, o + k * 5 + 4, none⟩ = some (.int .u16 L[k].power) := by
  obtain ⟨⟨a', c', e, _, _, h3⟩, h4⟩ := h
  simp only [Value.slice.injEq] at e
  obtain ⟨rfl, _, rfl⟩ := e
  rcases h3 with h3 | ⟨g, o, rfl, hg, hc⟩
  · rw [h3] at hk; simp at hk
  · have hq : ∀ o x, W.cell? ⟨g, o, none⟩ = some x → wr.cell? ⟨g, o, none⟩ = some x := fun o x hc => (hb.cell (p := ⟨g, o, none⟩) hg).trans hc
    obtain ⟨c0, c1, c2, c3, c4⟩ := hc k hk
    exact ⟨g, o, rfl, hg, h4 _ (List.getElem_mem hk), hq _ _ c0, hq _ _ c1, hq _ _ c2, hq _ _ c3, hq _ _ c4⟩
/-- what the loop over the commits keeps -/
structure CmpL (s : JS) (P : PEnts) (k : Nat) : Prop where
  he : HE s P
  few : Few P
  gen : s.c.gen ≤ 2 * k
  pos : P ≠ [] → 1 ≤ s.c.gen
theorem CmpL.start : CmpL (jOpen ⟨-1, [], []⟩) [] 0 := ⟨HE.start, Few.nil, by rw [jOpen_empty]; exact Nat.le_refl _, fun h => absurd rfl h⟩
theorem CmpL.commit {s : JS} {P : PEnts} {k : Nat} (h : CmpL s P k) (hk : k ≤ 1000) (st : StepP) : (jCommit (chAll st P) s).2 = 0 ∧ CmpL (jCommit (chAll st P) s).1 (pChgs P (chAll st P)) (k + 1) := by
  have hm := may_step h.he.live h.he.ents h.few st
  have hg := h.gen
  obtain ⟨h1, h2, h3, h4⟩ := h.he.commit hm (by omega)
  exact ⟨h1, h2, h.few.all st, by omega, fun _ => h3⟩
set_option maxRecDepth 100000 in
set_option maxHeartbeats 8000000 in
/-- the law -/
theorem journalCompacts_walk (v0 : Value) (L : List StepP) (v1 : Value) (M : List StepP) (W : World) (hs : St W) (h0 : RdS W v0 L ∧ L.length ≤ 140737488351232) (h1 : RdS W v1 M ∧ M.length ≤ 140737488351232) :
    Calls Tryd.prog 7 #[v0, v1] W fun e w' => e = .returned (.bool true) ∧ Below W.heap.size W w' := by
  obtain ⟨h0, hl0⟩ := h0
  obtain ⟨h1, hl1⟩ := h1
  have HL := Lib.hid h0
  have HM := Lib.hid h1
  obtain ⟨⟨al, cl, rfl, _⟩, _⟩ := h0
  obtain ⟨⟨am, cm, rfl, _⟩, _⟩ := h1
  go_enter Tryd.func7, Tryd.ntmps7
  go_wp2_with fail
  refine (awake_c _ hs).mono ?_
  rintro e w1 ⟨rfl, hb1⟩
  have hs1 := hs.below hb1 hs.pos
  go_wp2_with fail
  refine (empty_c w1 hs1).mono ?_
  rintro e w2 ⟨rfl, hD, hb2⟩
  have hB2 := hb1.trans (hb2.mono hb1.size)
  have hzz := hb1.size
  clear hb1 hb2 hs1 hs
  generalize hdb : w1.heap.size = db at *
  clear hdb w1
  go_wp2_with fail
  refine (open_x hD (empty_ok (-1) (by decide) (by decide))).mono ?_
  rintro e w3 ⟨jb, mb, rfl, hX3, hb3⟩
  have HX := Lib.hid hX3
  have HB3 := Lib.hid (hB2.trans (hb3.mono hB2.size))
  clear hX3 hB2 hb3 hD
  go_upto_block 0 with (fail)
  go_cut [8, 9, 10, 11, 12] from 30 to 68 (fun nv iv tv cv xv wx => ∃ (k : Nat) (s : JS) (P : PEnts), iv = iv ∧ tv = tv ∧ cv = cv ∧ xv = xv ∧ k ≤ 24 ∧ CmpL s P k ∧ RdT wx nv P ∧ JX db wx db jb mb s ∧ Below W.heap.size W wx)
  case first =>
    go_wp2
    go_loopw [8, 9] (fun nv iv wr => ∃ (k : Nat) (s : JS) (P : PEnts), k ≤ L.length + M.length ∧ k ≤ 24 ∧ iv = .int .i64 k ∧ CmpL s P k ∧ RdT wr nv P ∧ JX db wr db jb mb s ∧ Below W.heap.size W wr) (fun _ i _ => 24 - (intOf i).toNat)
    case atStart => exact ⟨0, _, [], Nat.zero_le _, Nat.zero_le _, rfl, CmpL.start, RdT.nil _, HX.out, HB3.out⟩
    case round =>
      obtain ⟨k, s, P, hkL, hk24, rfl, hC, hnv, hX, hB⟩ := hrel
      clear HX HB3
      have HX := Lib.hid hX
      have HC := Lib.hid hC
      have HNV := Lib.hid hnv
      have HB := Lib.hid hB
      clear hX hC hnv hB
      by_cases hlt : k < L.length + M.length ∧ k < 24
      · obtain ⟨hlt1, hlt2⟩ := hlt
        have b1 : (decide ((k : Int) < (L.length : Int) + (M.length : Int))) = true := decide_eq_true (by omega)
        have b2 : (decide ((k : Int) < 24)) = true := decide_eq_true (by omega)
        have hkl' : (decide ((k : Int) < (L.length : Int))) = decide (k < L.length) := by rw [decide_eq_decide]; omega
        go_upto_if 46 with (fail)
        have HAB := Lib.hid (Blk.new wr 36 [.int .u8 0, .int .u8 0, .int .u8 0, .int .u8 0, .int .u16 0])
        have HAL := Lib.hid ((Below.refl wr.heap.size wr).alloc (Nat.le_refl _) (.cells #[.int .u8 0, .int .u8 0, .int .u8 0, .int .u8 0, .int .u16 0] 36))
        generalize wr.alloc (.cells #[.int .u8 0, .int .u8 0, .int .u8 0, .int .u8 0, .int .u16 0] 36) = w5 at *
        have HB5 := Lib.hid (HB.out.trans (HAL.out.mono HB.out.size))
        go_cut [10] from 43 to 57 (fun ap wx => ap = .pointer (some ⟨wr.heap.size, 0, none⟩) ∧ ∃ st : StepP, st.Ok ∧ Blk wx wr.heap.size 36 (stepC st) ∧ Below wr.heap.size wr wx)
        case first =>
          by_cases hkl : k < L.length
          · have b3 : (decide ((k : Int) < (L.length : Int))) = true := by rw [hkl']; exact decide_eq_true hkl
            skip
            obtain ⟨gl, ol, rfl, hgl, hok, q0, q1, q2, q3, q4⟩ := HL.out.cell HB5.out hkl
            have HOK := Lib.hid hok
            generalize L[k] = st at *
            have f0 := HAB.out.frozen 0
            have f1 := HAB.out.frozen 1
            have f2 := HAB.out.frozen 2
            have f3 := HAB.out.frozen 3
            have f4 := HAB.out.frozen 4
            have z0 := HAB.out.cell 0 (by show 0 < 5; omega)
            have z1 := HAB.out.cell 1 (by show 1 < 5; omega)
            have z2 := HAB.out.cell 2 (by show 2 < 5; omega)
            have z3 := HAB.out.cell 3 (by show 3 < 5; omega)
            have z4 := HAB.out.cell 4 (by show 4 < 5; omega)
            simp only [List.getD_cons_zero, List.getD_cons_succ] at z0 z1 z2 z3 z4
            have HR := Lib.hid (And.intro (HAB.out.set5 (.int .u8 st.kind) (.int .u8 st.n) (.int .u8 st.a) (.int .u8 st.b) (.int .u16 st.power)) (((((HAL.out.setCell (p := ⟨wr.heap.size, 0, none⟩) (Nat.le_refl _) (.int .u8 st.kind)).setCell (p := ⟨wr.heap.size, 1, none⟩) (Nat.le_refl _) (.int .u8 st.n)).setCell (p := ⟨wr.heap.size, 2, none⟩) (Nat.le_refl _) (.int .u8 st.a)).setCell (p := ⟨wr.heap.size, 3, none⟩) (Nat.le_refl _) (.int .u8 st.b)).setCell (p := ⟨wr.heap.size, 4, none⟩) (Nat.le_refl _) (.int .u16 st.power)))
            go_wp2_with fail
            go_meet
            exact ⟨rfl, st, HOK.out, HR.out⟩
          · have b3 : (decide ((k : Int) < (L.length : Int))) = false := by rw [hkl']; exact decide_eq_false hkl
            have hkm : k - L.length < M.length := by omega
            have hsu : IntKind.i64.wrap ((k : Int) - (L.length : Int)) = ((k - L.length : Nat) : Int) := by rw [IntWalk.i64_in _ (by omega)]; omega
            obtain ⟨gl, ol, rfl, hgl, hok, q0, q1, q2, q3, q4⟩ := HM.out.cell HB5.out hkm
            have HOK := Lib.hid hok
            generalize M[k - L.length] = st at *
            have f0 := HAB.out.frozen 0
            have f1 := HAB.out.frozen 1
            have f2 := HAB.out.frozen 2
            have f3 := HAB.out.frozen 3
            have f4 := HAB.out.frozen 4
            have z0 := HAB.out.cell 0 (by show 0 < 5; omega)
            have z1 := HAB.out.cell 1 (by show 1 < 5; omega)
            have z2 := HAB.out.cell 2 (by show 2 < 5; omega)
            have z3 := HAB.out.cell 3 (by show 3 < 5; omega)
            have z4 := HAB.out.cell 4 (by show 4 < 5; omega)
            simp only [List.getD_cons_zero, List.getD_cons_succ] at z0 z1 z2 z3 z4
            have HR := Lib.hid (And.intro (HAB.out.set5 (.int .u8 st.kind) (.int .u8 st.n) (.int .u8 st.a) (.int .u8 st.b) (.int .u16 st.power)) (((((HAL.out.setCell (p := ⟨wr.heap.size, 0, none⟩) (Nat.le_refl _) (.int .u8 st.kind)).setCell (p := ⟨wr.heap.size, 1, none⟩) (Nat.le_refl _) (.int .u8 st.n)).setCell (p := ⟨wr.heap.size, 2, none⟩) (Nat.le_refl _) (.int .u8 st.a)).setCell (p := ⟨wr.heap.size, 3, none⟩) (Nat.le_refl _) (.int .u8 st.b)).setCell (p := ⟨wr.heap.size, 4, none⟩) (Nat.le_refl _) (.int .u16 st.power)))
            go_wp2_with fail
            go_meet
            exact ⟨rfl, st, HOK.out, HR.out⟩
        case rest =>
          obtain ⟨rfl, st, hok, hst, hbs⟩ := hcut
          generalize wc = w6 at *
          obtain ⟨q0, q1, q2, q3, q4⟩ := step_cells hst
          have hX6 := HX.out.below hbs
          have HX6 := Lib.hid hX6
          have HN6 := Lib.hid (HNV.out.below hbs)
          have HB6 := Lib.hid (HB.out.trans (hbs.mono HB.out.size))
          have HOK := Lib.hid hok
          clear hX6 hbs hst hok HAB HAL HB5 HX HNV
          go_wp2_with fail
          refine (changes_c st HOK.out u8 P w6 HN6.out.rd HC.out.few.ord (by have := HC.out.few.len; omega)).mono ?_
          rintro e w7 ⟨lv, nv2, xs, rfl, hxs, hrow, hnow, hb7⟩
          have hX7 := HX6.out.below hb7
          have hch : ChgsP w7 (fun g => g ≠ jb ∧ g ≠ db ∧ g ≠ mb) lv (chAll st P) := by
            rw [← hxs]
            exact HX6.out.chgs hrow (Nat.le_refl _) (by have := congrArg List.length hxs; rw [List.length_map] at this; have := (chAll_valid st P).2; omega)
          have hcm := HC.out.commit (by omega) st
          have HC7 := Lib.hid (commit_x hX7 lv (chAll st P) hch (by have := (chAll_valid st P).2; omega) (fun c hc => by have := (chAll_valid st P).1.key c hc; have := (chAll_valid st P).1.val c hc; omega))
          rw [hcm.1] at HC7
          have HN7 := Lib.hid (And.intro (RdT.own hnow) (And.intro hX7 (And.intro (HB6.out.trans (hb7.mono HB6.out.size)) hcm.2)))
          clear hxs hrow hnow hb7 hX7 hch hcm q0 q1 q2 q3 q4
          go_wp2_with fail
          refine HC7.out.mono ?_
          rintro e w8 ⟨rfl, hX8, hG8⟩
          have HR8 := Lib.hid (And.intro (HN7.out.1.act HN7.out.2.1 hG8) (And.intro hX8 (HN7.out.2.2.1.trans ((HN7.out.2.1.cut hG8).mono hzz))))
          clear hX8 hG8
          go_wp2
          go_roundw
          case rel => exact ⟨k + 1, _, pChgs P (chAll st P), by omega, by omega, by go_num, HN7.out.2.2.2, HR8.out.1, HR8.out.2.1, HR8.out.2.2⟩
          case measure => simp [intOf]; omega
      · have HFIN := Lib.hid (And.intro HC.out (And.intro HNV.out (And.intro HX.out HB.out)))
        by_cases hl1 : k < L.length + M.length
        · have hl2 : ¬ k < 24 := fun h => hlt ⟨hl1, h⟩
          have b1 : (decide ((k : Int) < (L.length : Int) + (M.length : Int))) = true := decide_eq_true (by omega)
          have b2 : (decide ((k : Int) < 24)) = false := decide_eq_false (by omega)
          have b3 : ¬ ((k : Int) < 24) := by omega
          clear hlt
          go_wp2_with fail
          go_meet
          exact ⟨k, s, P, trivial, trivial, trivial, trivial, hk24, HFIN.out⟩
        · have b1 : (decide ((k : Int) < (L.length : Int) + (M.length : Int))) = false := decide_eq_false (by omega)
          have b3 : ¬ ((k : Int) < (L.length : Int) + (M.length : Int)) := by omega
          clear hlt
          go_wp2_with fail
          go_meet
          exact ⟨k, s, P, trivial, trivial, trivial, trivial, hk24, HFIN.out⟩
  case rest =>
    obtain ⟨k, s, P, _, _, _, _, hk24, hC, hnv, hX, hB⟩ := hcut
    clear HX HB3
    generalize wc = w4 at *
    have HP := Lib.hid hC
    have HNV := Lib.hid hnv
    have HX := Lib.hid hX
    have HB := Lib.hid hB
    have hgn := hC.gen
    obtain ⟨g, hg⟩ : ∃ g, s.c.gen = g := ⟨_, rfl⟩
    have hg48 : g ≤ 48 := by omega
    have HG := Lib.hid hg
    have hdn := hC.he.live.up
    have hgl := generation_l hX.jl
    rw [hdn, hg] at hgl
    simp only [Bool.false_eq_true, if_false] at hgl
    have HGL := Lib.hid hgl
    clear hC hnv hX hB hgn hg hdn hgl
    go_wp2_with fail
    refine HGL.out.mono ?_
    rintro e w5 ⟨rfl, rfl⟩
    clear HGL
    obtain ⟨cm1, cm2, cm3, cm4⟩ := HP.out.he.compact (by rw [HG.out]; omega)
    rw [HG.out] at cm3 cm4
    have HC5 := Lib.hid (compact_x HX.out)
    rw [cm1] at HC5
    have HH := Lib.hid cm2
    have HFIL := Lib.hid cm4
    have HG2 := Lib.hid cm3
    clear cm1 cm2 cm3 cm4
    go_wp2_with fail
    refine HC5.out.mono ?_
    rintro e w5 ⟨rfl, hX5, hG5⟩
    have HN5 := Lib.hid (HNV.out.act HX.out hG5)
    have HB5 := Lib.hid (HB.out.trans ((HX.out.cut hG5).mono hzz))
    have HX5 := Lib.hid hX5
    clear hX5 hG5 HC5 HNV HB HX
    generalize (jCompactOp s).1 = s2 at *
    go_wp2_with fail
    refine (has_y u8 P HX5.out HN5.out HP.out.few true (decide_eq_true (by rw [ents_up HH.out.live, HH.out.ents]))).mono ?_
    rintro e w6 ⟨rfl, hb6⟩
    have HX6 := Lib.hid (HX5.out.below hb6)
    have HN6 := Lib.hid (HN5.out.below hb6)
    have HB6 := Lib.hid (HB5.out.trans (hb6.mono HB5.out.size))
    clear hb6 HX5 HN5 HB5
    have hdn := HH.out.live.up
    have hgl := generation_l HX6.out.jl
    rw [hdn, HG2.out] at hgl
    simp only [Bool.false_eq_true, if_false] at hgl
    have HGL := Lib.hid hgl
    clear hdn hgl
    go_wp2_with fail
    refine HGL.out.mono ?_
    rintro e w7 ⟨rfl, rfl⟩
    clear HGL
    obtain ⟨p, hzp, hlow⟩ : ∃ p : Nat → Prop, JZ db p w6 db jb mb s2 ∧ ∀ q, p q → q < w6.heap.size := ⟨_, HX6.out.z, fun q h => h.2⟩
    have HZ := Lib.hid hzp
    have HLOW := Lib.hid hlow
    clear hzp hlow
    have hs6 := HX6.out.jl.st
    have hz6 := HX6.out.size
    have HLT := Lib.hid HX6.out.jw.lt
    have hzb := HB6.out.size
    go_wp2_with fail
    refine (empty_c w6 hs6).mono ?_
    rintro e w7 ⟨rfl, hD, hb7⟩
    have hN7 := HN6.out.below hb7
    have hB7 := HB6.out.trans (hb7.mono HB6.out.size)
    have hZ7 := HZ.out.below hb7
    clear hb7 hs6 HZ HX6 HN6 HB6
    generalize hdb2 : w6.heap.size = db2 at *
    go_wp2_with fail
    refine (open_x hD (empty_ok (-1) (by decide) (by decide))).mono ?_
    rintro e w8 ⟨jb2, mb2, rfl, hX8, hb8⟩
    have HX8 := Lib.hid hX8
    have HN8 := Lib.hid (hN7.below hb8)
    have HZ8 := Lib.hid (hZ7.below hb8)
    have HB8 := Lib.hid (hB7.trans (hb8.mono hB7.size))
    have HKEEP : Hid (∀ (w w' : World) (s3 : JS), JX db2 w db2 jb2 mb2 s3 → Grown (Sj db2 jb2 mb2) w w' → JZ db p w db jb mb s2 → JZ db p w' db jb mb s2) := Lib.hid (fun w w' s3 hx hg hz => hz.grown hg (fun q hq => by
      have h1 := hx.jle; have h2 := hx.mle; have h3 := HLT.out; have h4 := hx.pos
      unfold Sj at hq ⊢
      refine ⟨fun hp => ?_, ?_, ?_⟩
      · have := HLOW.out q hp; omega
      · omega
      · omega))
    clear hX8 hb8 hN7 hZ7 hB7 hD HLOW HLT
    obtain ⟨na, nc, rfl⟩ : ∃ na nc, u8 = .slice na P.length nc := own_slice HN8.out
    have hP9 : P.length ≤ 9 := HP.out.few.len
    have hsu : IntKind.i64.wrap ((P.length : Int) - 1) = (P.length : Int) - 1 := IntWalk.i64_in _ (by omega)
    go_wp2_with fail
    go_loopw [16] (fun iv wr => ∃ (t : Nat) (s3 : JS), t ≤ P.length ∧ iv = .int .i64 ((t : Int) - 1) ∧ CK P t s3 ∧ RdT wr (.slice na P.length nc) P ∧ JX db2 wr db2 jb2 mb2 s3 ∧ JZ db p wr db jb mb s2 ∧ Below W.heap.size W wr) (fun i _ => (intOf i + 1).toNat)
    case atStart => exact ⟨P.length, _, Nat.le_refl _, rfl, CK.start P, HN8.out, HX8.out, HZ8.out, HB8.out⟩
    case round =>
      obtain ⟨t, s3, htP, rfl, hck, hnv, hX, hZ, hB⟩ := hrel
      clear HX8 HN8 HZ8 HB8
      have HX := Lib.hid hX
      have HN := Lib.hid hnv
      have HZ := Lib.hid hZ
      have HB := Lib.hid hB
      have HCK := Lib.hid hck
      clear hX hnv hZ hB hck
      cases t with
      | succ t =>
        have ht : t < P.length := by omega
        have hti : ((t + 1 : Nat) : Int) - 1 = (t : Int) := by omega
        rw [hti]
        clear hti
        have b1 : (decide ((0 : Int) ≤ (t : Int))) = true := decide_eq_true (by omega)
        obtain ⟨a', cap', e, _, _, _, hc⟩ := HN.out.rd
        simp only [Value.slice.injEq] at e
        obtain ⟨rfl, _, rfl⟩ := e
        rcases hc with hc | ⟨ge, oe, rfl, _, hge, hcell⟩
        · rw [hc] at ht; simp at ht
        obtain ⟨r0, r1⟩ := hcell t ht
        have hnx := HCK.out.next HP.out.few ht
        have hval := HP.out.few.val P[t] (List.getElem_mem ht)
        obtain ⟨kn, hkn⟩ := HP.out.few.key P[t] (List.getElem_mem ht)
        have hkl : P[t].1.length = 2 := by rw [hkn]; rfl
        have HNX := Lib.hid hnx
        generalize P[t] = en at *
        clear hcell hnx hkn
        obtain ⟨cc, wc, hcv, hrd, hbc⟩ := conv_sb wr.drew en.2 (by unfold maxLen; omega)
        have hbd : Below wr.heap.size wr wc := undrew hbc
        have HXc := Lib.hid (HX.out.below hbd)
        have HNc := Lib.hid (HN.out.below hbd)
        have HZc := Lib.hid (HZ.out.below hbd)
        have HBc := Lib.hid (HB.out.trans (hbd.mono HB.out.size))
        have HS := Lib.hid (set_x HXc.out en.1 en.2 (.slice (some ⟨wr.drew.heap.size, 0, none⟩) en.2.length cc) (hrd.mono (fun g _ e => by have h1 := HX.out.jw.lt; have h2 : g = wr.heap.size := e; omega)) (by omega) (by omega))
        rw [HNX.out.1] at HS
        have s0 := keep_cell hbd r0
        have s1 := keep_cell hbd r1
        have hgeS : ¬ Sj db2 jb2 mb2 ge := HX.out.apart HN.out (by decide) (by decide) ge rfl
        have hgec : ge < wc.heap.size := Nat.lt_of_lt_of_le hge hbd.size
        clear hrd hbd hbc HX HN HZ HB
        go_upto_region 29 with (fail)
        go_region_held (fun w' => w'.cell? ⟨ge, oe + t * 2, none⟩ = some (strV en.1) ∧ w'.cell? ⟨ge, oe + t * 2 + 1, none⟩ = some (strV en.2))
          (first | exact ⟨r0, r1⟩ | exact ⟨s0, s1⟩ | exact ⟨x0, x1⟩)
          (first | (go_at_call 23; go_must (refine HS.out.mono ?_); rintro e w9 ⟨rfl, hX9, hG9⟩
                    have x0 := (World.cell?_of_block (a := ⟨ge, oe + t * 2, none⟩) (hG9.block ge hgec hgeS)).trans s0
                    have x1 := (World.cell?_of_block (a := ⟨ge, oe + t * 2 + 1, none⟩) (hG9.block ge hgec hgeS)).trans s1))
        have HR9 := Lib.hid (And.intro (HNc.out.act HXc.out hG9) (And.intro hX9 (And.intro (HKEEP.out _ _ _ HXc.out hG9 HZc.out) (HBc.out.trans ((HXc.out.cut hG9).mono hzb)))))
        clear hX9 hG9 hcv
        go_wp2
        go_roundw
        case rel => exact ⟨t, _, by omega, rfl, HNX.out.2, HR9.out.1, HR9.out.2.1, HR9.out.2.2.1, HR9.out.2.2.2⟩
        case measure => simp [intOf]
      | zero =>
        rw [show ((0 : Nat) : Int) - 1 = -1 from rfl]
        have hs3 : HE s3 P := by have := HCK.out.he; rwa [List.drop_zero] at this
        have hg3 : s3.c.gen ≤ g ∨ (s3.c.gen = 0) := by
          by_cases hPn : P = []
          · right
            have := HCK.out.first (by rw [hPn]; rfl)
            rw [this, jOpen_empty]; rfl
          · left
            have h1 := HP.out.pos hPn
            rw [HG.out] at h1
            have := (HCK.out.rest (List.length_pos_iff.2 hPn)).1
            omega
        have hg4 : s3.c.gen ≤ g := by omega
        have HS3 := Lib.hid (And.intro hs3 hg4)
        clear hs3 hg3 hg4 htP
        go_wp2_with fail
        go_loopw [116] (fun _ wx => ∃ s4 : JS, HE s4 P ∧ s4.c.gen ≤ g + 1 ∧ Hid (s4.c.gen = g + 1 → s4.d.get (decide (g % 2 = 1)) = blockB (subI 0 (stateB (g + 1) P)) (stateB (g + 1) P)) ∧ RdT wx (.slice na P.length nc) P ∧ JX db2 wx db2 jb2 mb2 s4 ∧ JZ db p wx db jb mb s2 ∧ Below W.heap.size W wx) (fun _ wx => g + 1 - cellN wx ⟨jb2, 3, none⟩)
        case atStart => exact ⟨s3, HS3.out.1, by have := HS3.out.2; omega, Lib.hid (fun h => by have := HS3.out.2; omega), HN.out, HX.out, HZ.out, HB.out⟩
        case round =>
          obtain ⟨s4, hs4, hg4, HF4, hnv, hX, hZ, hB⟩ := hrel
          clear HX HN HZ HB HS3 HCK
          have HX := Lib.hid hX
          have HN := Lib.hid hnv
          have HZ := Lib.hid hZ
          have HB := Lib.hid hB
          have HS := Lib.hid hs4
          have hdn := hs4.live.up
          have hgl := generation_l hX.jl
          rw [hdn] at hgl
          simp only [Bool.false_eq_true, if_false] at hgl
          have HGL := Lib.hid hgl
          clear hX hnv hZ hB hs4 hdn hgl
          obtain ⟨n4, hn4⟩ : ∃ n4, s4.c.gen = n4 := ⟨_, rfl⟩
          have HN4 := Lib.hid hn4
          rw [hn4] at HGL hg4 HF4
          clear hn4
          by_cases hlt : n4 < g + 1
          · have b1 : (decide ((n4 : Int) < (g : Int) + 1)) = true := decide_eq_true (by omega)
            obtain ⟨c1, c2, c3, c4⟩ := HS.out.compact (by rw [HN4.out]; omega)
            rw [HN4.out] at c3 c4
            have HC := Lib.hid (compact_x HX.out)
            rw [c1] at HC
            have HCC := Lib.hid (And.intro c2 (And.intro c3 c4))
            clear c1 c2 c3 c4
            have hwr : cellN wr ⟨jb2, 3, none⟩ = n4 := by
              have := HX.out.jw.cells.2.2.2.1
              unfold cellN
              rw [this, HN4.out]; rfl
            have HWR := Lib.hid hwr
            clear hwr
            go_wp2_with fail
            refine HGL.out.mono ?_
            rintro e w5 ⟨rfl, rfl⟩
            go_wp2_with fail
            refine HC.out.mono ?_
            rintro e w9 ⟨rfl, hX9, hG9⟩
            have HR9 := Lib.hid (And.intro (HN.out.act HX.out hG9) (And.intro hX9 (And.intro (HKEEP.out _ _ _ HX.out hG9 HZ.out) (HB.out.trans ((HX.out.cut hG9).mono hzb)))))
            have hw9 : cellN w9 ⟨jb2, 3, none⟩ = n4 + 1 := by
              have := hX9.jw.cells.2.2.2.1
              unfold cellN
              rw [this, HCC.out.2.1]; rfl
            have HW9 := Lib.hid hw9
            clear hX9 hG9 hw9
            go_wp2
            go_roundw
            case rel => exact ⟨_, HCC.out.1, by rw [HCC.out.2.1]; omega, Lib.hid (fun h => by
              have h2 : n4 = g := by have := HCC.out.2.1; omega
              have h3 := HCC.out.2.2
              rw [h2] at h3; exact h3), HR9.out.1, HR9.out.2.1, HR9.out.2.2.1, HR9.out.2.2.2⟩
            case measure => rw [HW9.out, HWR.out]; omega
          · obtain rfl : n4 = g + 1 := by omega
            have b1 : (decide (((g + 1 : Nat) : Int) < (g : Int) + 1)) = false := decide_eq_false (by omega)
            have b1' : ¬ (((g + 1 : Nat) : Int) < (g : Int) + 1) := by omega
            have HFL := Lib.hid (HF4.out rfl)
            have HFW := Lib.hid HP.out.few
            obtain ⟨a', cap', e, _, _, _, hc⟩ := HN.out.rd
            simp only [Value.slice.injEq] at e
            obtain ⟨rfl, _, rfl⟩ := e
            have HCE := Lib.hid hc
            clear hc
            have HLEN := Lib.hid (show ((blockB (subI 0 (stateB (g + 1) P)) (stateB (g + 1) P)).length : Int) = 24 + pWt P by rw [blockB_len]; have := stateB_len (g + 1) P; omega)
            generalize blockB (subI 0 (stateB (g + 1) P)) (stateB (g + 1) P) = F at *
            clear HF4 HN4 HS HG HP HG2 HH
            generalize wr = wq at *
            go_wp2_with fail
            refine HGL.out.mono ?_
            rintro e w5 ⟨rfl, rfl⟩
            clear HGL
            go_wp2_with fail
            go_loopw [17, 18] (fun zv iv wx => ∃ j : Nat, j ≤ P.length ∧ iv = .int .i64 j ∧ zv = .int .i64 (24 + pWt (P.take j)) ∧ Below wq.heap.size wq wx) (fun _ i _ => P.length - (intOf i).toNat)
            case atStart => exact ⟨0, Nat.zero_le _, rfl, rfl, Below.refl _ _⟩
            case round =>
              obtain ⟨j, hjP, rfl, rfl, hb⟩ := hrel
              have HBX := Lib.hid hb
              clear hb
              by_cases hlt : j < P.length
              · have b2 : (decide ((j : Int) < (P.length : Int))) = true := decide_eq_true (by omega)
                rcases HCE.out with hc | ⟨ge, oe, rfl, _, hge, hcell⟩
                · rw [hc] at hlt; simp at hlt
                have r0 := keep_cell HBX.out (hcell j hlt).1
                have r1 := keep_cell HBX.out (hcell j hlt).2
                have hval := HFW.out.val P[j] (List.getElem_mem hlt)
                have hkl : P[j].1.length = 2 := by
                  obtain ⟨kn, hkn⟩ := HFW.out.key P[j] (List.getElem_mem hlt)
                  rw [hkn]; rfl
                have hwt := pWt_take P j hlt
                have hw0 := pWt_nonneg (P.take j)
                have hw1 : pWt (P.take j) ≤ 72 := (show Few (P.take j) from ⟨List.Pairwise.sublist (List.take_sublist _ _) HFW.out.ord, (fun e he => HFW.out.key e (List.mem_of_mem_take he)), (fun e he => HFW.out.val e (List.mem_of_mem_take he))⟩).wt
                generalize P[j] = en at *
                generalize pWt (P.take j) = z at *
                have HWT := Lib.hid hwt
                clear hwt hcell
                go_upto_region 38 with (fail)
                go_quiet (fail)
                all_goals
                  go_wp2
                  go_roundw
                  case rel => exact ⟨j + 1, by omega, by go_num, congrArg (Value.int .i64) (by have := HWT.out; omega), below_drewN HBX.out _⟩
                  case measure => simp [intOf]; omega
              · obtain rfl : j = P.length := by omega
                have hX := HX.out.below HBX.out
                have hZ := HZ.out.below HBX.out
                obtain ⟨a0, c0, a1, c1, _, d1, d2, r1, r2, _⟩ := hZ.x.jl.dl.cells
                obtain ⟨a3, c3, a4, c4, _, e1, e2, q1, q2, _⟩ := hX.jl.dl.cells
                have HBF := Lib.hid (HB.out.trans (HBX.out.mono HB.out.size))
                have hlen := HLEN.out
                have hw0 := pWt_nonneg P
                have hw1 := HFW.out.wt
                have hf1 := HFIL.out
                have hf2 := HFL.out
                rw [List.take_length]
                clear hX hZ hlt HCE
                rcases Nat.mod_two_eq_zero_or_one g with hg2 | hg2
                · rw [decide_eq_false (by omega)] at hf1 hf2
                  have hf1 : s2.d.f0 = F := hf1
                  have hf2 : s4.d.f0 = F := hf2
                  rw [hf1] at d1 r1
                  rw [hf2] at e1 q1
                  have ht : (g : Int) % 2 = 0 := by omega
                  have HS := Lib.hid (sameBytes_c _ _ F F wr.drew r1 q1)
                  rw [decide_eq_true rfl] at HS
                  have hlz : ((F.length : Int) == 24 + pWt P) = true := by rw [hlen]; simp
                  generalize 24 + pWt P = zz at *
                  clear hf1 hf2 d2 r2 e2 q2 r1 q1 HFIL HFL HLEN hlen
                  go_upto_region 40 with (fail)
                  go_still_tail 22, (by kernel_rfl)
                  change wpList _ _ _ _ _ wr.drew
                  go_wp2_with fail
                  refine HS.out.mono ?_
                  rintro e w9 ⟨rfl, hb9⟩
                  have HF9 := Lib.hid (HBF.out.trans ((undrew hb9).mono HBF.out.size))
                  clear hb9
                  go_wp2
                  go_ret
                  exact ⟨rfl, HF9.out⟩
                · rw [decide_eq_true (by omega)] at hf1 hf2
                  have hf1 : s2.d.f1 = F := hf1
                  have hf2 : s4.d.f1 = F := hf2
                  rw [hf1] at d2 r2
                  rw [hf2] at e2 q2
                  have ht : (g : Int) % 2 = 1 := by omega
                  have HS := Lib.hid (sameBytes_c _ _ F F wr.drew r2 q2)
                  rw [decide_eq_true rfl] at HS
                  have hlz : ((F.length : Int) == 24 + pWt P) = true := by rw [hlen]; simp
                  generalize 24 + pWt P = zz at *
                  clear hf1 hf2 d1 r1 e1 q1 r2 q2 HFIL HFL HLEN hlen
                  go_upto_region 40 with (fail)
                  go_still_tail 22, (by kernel_rfl)
                  change wpList _ _ _ _ _ wr.drew
                  go_wp2_with fail
                  refine HS.out.mono ?_
                  rintro e w9 ⟨rfl, hb9⟩
                  have HF9 := Lib.hid (HBF.out.trans ((undrew hb9).mono HBF.out.size))
                  clear hb9
                  go_wp2
                  go_ret
                  exact ⟨rfl, HF9.out⟩
end Go.Proofs.YtondomklkapogaaDoor
