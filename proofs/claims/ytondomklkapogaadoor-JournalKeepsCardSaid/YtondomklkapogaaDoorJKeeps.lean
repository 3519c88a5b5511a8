/- JournalKeeps: the walk of the law. -/
import Derived.Test.YtondomklkapogaaDoorJLibX
import Derived.Test.YtondomklkapogaaDoorJAwake
import Derived.Test.YtondomklkapogaaDoorJChanges
namespace Go.Proofs.YtondomklkapogaaDoor
open Go.RowKit SeedP Go.Maps
theorem tmod8 (n : Nat) : ((n : Int)).tmod 8 = ((n % 8 : Nat) : Int) := by rw [Int.tmod_eq_emod_of_nonneg (by omega)]; omega
theorem Few.rd {P : PEnts} (h : Few P) : P.length ≤ 1000000 := by have := h.len; omega
/-- has, told what it finds -/
theorem has_x {B : Nat} {w : World} {db jb mb : Nat} {s : JS} (v : Value) (P : PEnts) (h : JX B w db jb mb s) (hv : RdT w v P) (hf : Few P) (b : Bool) (hb : decide (s.ents = P) = b) :
    Calls Tryd.prog 12 #[.pointer (some ⟨jb, 0, none⟩), v] w fun e w' => e = .returned (.bool b) ∧ Below w.heap.size w w' := by
  rw [← hb]; exact has_c v P h.jl hv.rd hf.rd hf.small
set_option maxRecDepth 100000 in
set_option maxHeartbeats 8000000 in
/-- the law -/
theorem journalKeeps_walk (a0 : Int) (v1 : Value) (L : List StepP) (W : World) (hs : St W) (h0 : 0 ≤ a0 ∧ a0 ≤ 65535) (h1 : RdS W v1 L) :
    Calls Tryd.prog 3 #[.int .u16 a0, v1] W fun e w' => e = .returned (.bool true) ∧ Below W.heap.size W w' := by
  have HL := Lib.hid h1
  obtain ⟨⟨al, cl, rfl, hcl, hcm, _⟩, _⟩ := h1
  obtain ⟨h00, h01⟩ := h0
  have hwp : IntKind.i64.wrap a0 = a0 := IntWalk.i64_in _ (by omega)
  have HP := Lib.hid hs.pos
  go_enter Tryd.func3, Tryd.ntmps3
  go_wp2_with fail
  refine (awake_c W hs).mono ?_
  rintro e w1 ⟨rfl, hb1⟩
  have hs1 := hs.below hb1 hs.pos
  have hD := DL.new w1 hs1 a0
  have hbn := (Below.refl w1.heap.size w1).alloc (Nat.le_refl _) (.cells #[.int .i64 a0, .slice none 0 0, .slice none 0 0] 29)
  go_wp2_with fail
  refine (open_x hD (empty_ok a0 (by omega) (by omega))).mono ?_
  rintro e w2 ⟨jb0, mb0, rfl, hX2, hb2⟩
  have HX := Lib.hid hX2
  have HB2 := Lib.hid (hb1.trans ((hbn.trans (hD.cut hb2)).mono hb1.size))
  have HK := Lib.hid (KS.start (pw := a0) (by omega) (by omega))
  have hzz := hb1.size
  clear hX2 hb1 hbn hb2 hD hs hs1
  generalize hdb : w1.heap.size = db at *
  clear hdb w1
  go_wp2_with fail
  go_loopw [6, 8, 9, 10, 11] (fun jv nv mv dv iv wr => ∃ (k jb mb : Nat) (s : JS) (dn : Bool) (P M : PEnts), k ≤ L.length ∧ k ≤ 60 ∧ jv = .pointer (some ⟨jb, 0, none⟩) ∧ dv = .bool dn ∧ iv = .int .i64 k ∧ RdT wr nv P ∧ RdT wr mv M ∧ KS s dn P M (2 * k) ∧ JX db wr db jb mb s ∧ Below W.heap.size W wr) (fun _ _ _ _ i _ => 60 - (intOf i).toNat)
  case atStart => exact ⟨0, jb0, mb0, _, false, [], [], Nat.zero_le _, Nat.zero_le _, rfl, rfl, rfl, RdT.nil _, RdT.nil _, HK.out, HX.out, HB2.out⟩
  case round =>
    obtain ⟨k, jb, mb, s, dn, P, M, hkL, hk6, rfl, rfl, rfl, hnv, hmv, hK, hX, hB⟩ := hrel
    have HX := Lib.hid hX
    have HK := Lib.hid hK
    have HNV := Lib.hid hnv
    have HMV := Lib.hid hmv
    have HB := Lib.hid hB
    clear hX hK hnv hmv hB HB2
    by_cases hlt : k < L.length ∧ k < 60
    · obtain ⟨hlt1, hlt2⟩ := hlt
      have b1 : (decide ((k : Int) < (L.length : Nat))) = true := decide_eq_true (by omega)
      have b2 : (decide ((k : Int) < 60)) = true := decide_eq_true (by omega)
      have hLr := HL.out.below rfl HB.out
      obtain ⟨⟨a', cap', e, _, _, hc⟩, hLok⟩ := hLr
      simp only [Value.slice.injEq] at e
      obtain ⟨rfl, _, rfl⟩ := e
      rcases hc with hc | ⟨gl, ol, rfl, hgl, hcell⟩
      · rw [hc] at hlt1; simp at hlt1
      have hok := hLok L[k] (List.getElem_mem hlt1)
      have HOK := Lib.hid hok
      obtain ⟨q0, q1, q2, q3, q4⟩ := hcell k hlt1
      generalize hst : L[k] = st at *
      have HST := Lib.hid hst
      have hkd := hok.kind
      have hpw := hok.power
      have ht8 := tmod8 st.kind
      clear hLok hcell hok hst
      generalize hb7 : ((st.kind : Int) % 8 == 7) = b7 at *
      go_upto_region 12 with (fail)
      go_cut [10, 48] from 29 to 144 (fun c0 c wx => c0 = .bool dn ∧ c = .bool (dn || b7) ∧ wr = wx)
      case first =>
        cases dn with
        | true =>
          go_wp2_with fail
          go_meet
          exact ⟨rfl, rfl, rfl⟩
        | false =>
          go_wp2_with fail
          go_meet
          exact ⟨rfl, rfl, rfl⟩
      case rest =>
        obtain ⟨rfl, rfl, rfl⟩ := hcut
        have HFP := Lib.hid HK.out.few
        go_upto_if 48 with (fail)
        go_cut [6, 7, 8, 10] from 29 to 144 (fun jv ev nv dv wx => ∃ jb mb s, jv = .pointer (some ⟨jb, 0, none⟩) ∧ ev = ev ∧ dv = .bool dn ∧ RdT wx nv P ∧ Live s ∧ s.c.ents = P ∧ s.c.gen ≤ 2 * k ∧ JX db wx db jb mb s ∧ Below W.heap.size W wx)
        case first =>
          cases hr : (dn || b7) with
          | true =>
            obtain ⟨fa0, fc0, fa1, fc1, d0, _, _, _, _, hfz⟩ := HX.out.jl.dl.cells
            have z0 := hfz 0
            have hpw2 : IntKind.i64.wrap (st.power : Int) = (st.power : Int) := IntWalk.i64_in _ (by omega)
            have HD := Lib.hid (HX.out.jl.dl.power (st.power : Int))
            have HR := Lib.hid (HK.out.reopen (pw := (st.power : Int)) (by omega) (by omega))
            have hG : Grown (Sj db jb mb) wr (wr.setCell ⟨db, 0, none⟩ (.int .i64 (st.power : Int))) := Grown.setCell (S := Sj db jb mb) (Grown.refl _ _) (a := ⟨db, 0, none⟩) (Or.inr (Or.inl rfl)) _
            have HN := Lib.hid (And.intro (HNV.out.act HX.out hG) (HMV.out.act HX.out hG))
            have HB3 := Lib.hid (HB.out.trans ((HX.out.cut hG).mono hzz))
            clear hfz hG
            go_wp2_with fail
            refine (open_x HD.out HR.out.1).mono ?_
            rintro e w2 ⟨jb2, mb2, rfl, hX2, hb2⟩
            have hN2 := And.intro (HN.out.1.below hb2) (HN.out.2.below hb2)
            have hB4 := HB3.out.trans (hb2.mono HB3.out.size)
            have hz2 := hB4.size
            have HX2 := Lib.hid hX2
            have HN2 := Lib.hid hN2
            have HB4 := Lib.hid hB4
            have hen : (jOpen ⟨(st.power : Int), s.d.f0, s.d.f1⟩).ents = P := by rw [ents_up HR.out.2.1]; exact HR.out.2.2.1
            have HEN := Lib.hid hen
            clear hX2 hb2 hN2 hB4 hen d0 z0 HD HN HB3
            generalize jOpen ⟨(st.power : Int), s.d.f0, s.d.f1⟩ = s2 at *
            cases dn with
            | false =>
              go_wp2_with fail
              refine (has_x _ P HX2.out HN2.out.1 HK.out.few true (decide_eq_true HEN.out)).mono ?_
              rintro e w3 ⟨rfl, hb3⟩
              go_wp2_with fail
              go_meet
              exact ⟨jb2, mb2, s2, rfl, trivial, rfl, HN2.out.1.below hb3, HR.out.2.1, HR.out.2.2.1, HR.out.2.2.2, HX2.out.below hb3, HB4.out.trans (hb3.mono hz2)⟩
            | true =>
              go_wp2_with fail
              refine (has_x _ M HX2.out HN2.out.2 HK.out.fewM (decide (s2.ents = M)) rfl).mono ?_
              rintro e w3 ⟨rfl, hb3⟩
              have HX3 := Lib.hid (HX2.out.below hb3)
              have HN3 := Lib.hid (And.intro (HN2.out.1.below hb3) (HN2.out.2.below hb3))
              have HB5 := Lib.hid (HB4.out.trans (hb3.mono hz2))
              have hz3 := HB5.out.size
              clear hb3 HX2 HN2 HB4
              cases hm : decide (s2.ents = M) with
              | true =>
                have hm2 := of_decide_eq_true hm
                have hPM : P = M := by rw [← HEN.out, hm2]
                have HPM := Lib.hid hPM
                clear hm2 hPM
                go_wp2_with fail
                refine (has_x _ M HX3.out HN3.out.2 HK.out.fewM true hm).mono ?_
                rintro e w4 ⟨rfl, hb4⟩
                go_wp2_with fail
                go_meet
                exact ⟨jb2, mb2, s2, rfl, trivial, rfl, by rw [HPM.out]; exact HN3.out.2.below hb4, HR.out.2.1, HR.out.2.2.1, HR.out.2.2.2, HX3.out.below hb4, HB5.out.trans (hb4.mono hz3)⟩
              | false =>
                go_wp2_with fail
                refine (has_x _ P HX3.out HN3.out.1 HK.out.few true (decide_eq_true HEN.out)).mono ?_
                rintro e w4 ⟨rfl, hb4⟩
                go_wp2_with fail
                go_meet
                exact ⟨jb2, mb2, s2, rfl, trivial, rfl, HN3.out.1.below hb4, HR.out.2.1, HR.out.2.2.1, HR.out.2.2.2, HX3.out.below hb4, HB5.out.trans (hb4.mono hz3)⟩
          | false =>
            have hdn : dn = false := by cases dn; rfl; cases hr
            subst hdn
            obtain ⟨l1, l2, l3⟩ := HK.out.up rfl
            go_wp2_with fail
            go_meet
            exact ⟨jb, mb, s, rfl, trivial, rfl, HNV.out, l1, l2, l3, HX.out, HB.out⟩
        case rest =>
          clear HX HK HNV HMV HB q0 q1 q2 q3 q4
          obtain ⟨jb, mb, s, rfl, _, rfl, hnv, hl, hP, hg, hX, hB⟩ := hcut
          generalize wc = w4 at *
          have hLr := HL.out.below rfl hB
          obtain ⟨⟨a', cap', e, _, _, hc⟩, _⟩ := hLr
          simp only [Value.slice.injEq] at e
          obtain ⟨rfl, _, rfl⟩ := e
          rcases hc with hc | ⟨gl', ol', e, hgl', hcell⟩
          · rw [hc] at hlt1; simp at hlt1
          simp only [Option.some.injEq, Addr.mk.injEq, and_true] at e
          obtain ⟨rfl, rfl⟩ := e
          obtain ⟨q0, q1, q2, q3, q4⟩ := hcell k hlt1
          rw [HST.out] at q0 q1 q2 q3 q4
          have HX := Lib.hid hX
          have HNV := Lib.hid hnv
          have HB := Lib.hid hB
          have HLP := Lib.hid (And.intro hl (And.intro hP hg))
          clear hcell hX hnv hB hl hP hg
          go_upto_if 83 with (fail)
          go_cut [12, 13, 14] from 29 to 144 (fun bv xv cv wx => ∃ (r : Int) (s2 : JS) (N : PEnts), bv = .int .i64 r ∧ cv = cv ∧ After s2 P N (2 * k + 2) r ∧ Few N ∧ RdT wx xv N ∧ RdT wx u8 P ∧ JX db wx db jb mb s2 ∧ Below W.heap.size W wx)
          case first =>
            cases hb6 : ((st.kind : Int) % 8 == 6) with
            | true =>
              go_wp2_with fail
              refine (compact_x HX.out).mono ?_
              rintro e w5 ⟨rfl, hX5, hG5⟩
              have HF := Lib.hid (And.intro (HNV.out.act HX.out hG5) (And.intro hX5 (HB.out.trans ((HX.out.cut hG5).mono hzz))))
              clear hX5 hG5
              go_wp2_with fail
              go_meet
              exact ⟨_, _, P, rfl, trivial, after_compact HLP.out.1 HLP.out.2.1 HLP.out.2.2 (by omega), HFP.out, HF.out.1, HF.out.1, HF.out.2.1, HF.out.2.2⟩
            | false =>
              cases hl6 : (decide ((st.kind : Int) % 8 < 6)) with
              | true =>
                go_wp2_with fail
                refine (changes_c st HOK.out u8 P w4 HNV.out.rd HFP.out.ord HFP.out.rd).mono ?_
                rintro e w5 ⟨lv, nv2, xs, rfl, hxs, hrow, hnow, hb5⟩
                have hX5 := HX.out.below hb5
                have hch : ChgsP w5 (fun g => g ≠ jb ∧ g ≠ db ∧ g ≠ mb) lv (chAll st P) := by
                  rw [← hxs]
                  exact HX.out.chgs hrow (Nat.le_refl _) (by have := congrArg List.length hxs; rw [List.length_map] at this; have := (chAll_valid st P).2; omega)
                have HC5 := Lib.hid (commit_x hX5 lv (chAll st P) hch (by have := (chAll_valid st P).2; omega) (fun c hc => by have := (chAll_valid st P).1.key c hc; have := (chAll_valid st P).1.val c hc; omega))
                have hB5 := HB.out.trans (hb5.mono HB.out.size)
                have HN5 := Lib.hid (And.intro (RdT.own hnow) (And.intro (HNV.out.below hb5) (And.intro hX5 hB5)))
                clear hxs hrow hnow hb5 hX5 hch hB5
                go_wp2_with fail
                refine HC5.out.mono ?_
                rintro e w6 ⟨rfl, hX6, hG6⟩
                have HF := Lib.hid (And.intro (HN5.out.1.act HN5.out.2.2.1 hG6) (And.intro (HN5.out.2.1.act HN5.out.2.2.1 hG6) (And.intro hX6 (HN5.out.2.2.2.trans ((HN5.out.2.2.1.cut hG6).mono hzz)))))
                clear hX6 hG6
                go_wp2_with fail
                go_meet
                exact ⟨_, _, pChgs P (chAll st P), rfl, trivial, after_commit HLP.out.1 HLP.out.2.1 HLP.out.2.2 (by omega) HFP.out st, HFP.out.all st, HF.out.1, HF.out.2.1, HF.out.2.2.1, HF.out.2.2.2⟩
              | false =>
                go_wp2_with fail
                go_meet
                exact ⟨0, s, P, rfl, trivial, Or.inl ⟨rfl, HLP.out.1, HLP.out.2.1, by have := HLP.out.2.2; omega⟩, HFP.out, HNV.out, HNV.out, HX.out, HB.out⟩
          case rest =>
            obtain ⟨r, s2, N, rfl, _, ha, hfN, hxv, hnv, hX, hB⟩ := hcut
            clear HX HNV HB HLP q0 q1 q2 q3 q4
            generalize wc = w5 at *
            have HFN := Lib.hid hfN
            have HR5 := Lib.hid (And.intro hxv (And.intro hnv (And.intro hX hB)))
            have HS := Lib.hid (ha.next HFP.out hfN)
            have hz5 := hB.size
            clear ha hfN hxv hnv hX hB
            have hfl := HR5.out.2.2.1.jl.ok.d
            have hf0 : (s2.d.f0.length : Int) ≤ 262144 := by have := hfl.f0; omega
            have hf1 : (s2.d.f1.length : Int) ≤ 262144 := by have := hfl.f1; omega
            clear hfl
            rcases HS.out with ⟨rfl, hK, hen⟩ | ⟨rfl, hK⟩
            · have HK := Lib.hid hK
              have HEN := Lib.hid hen
              clear hK hen HS
              go_wp2_with fail
              refine (has_x _ N HR5.out.2.2.1 HR5.out.1 HFN.out true (decide_eq_true HEN.out)).mono ?_
              rintro e w6 ⟨rfl, hb6⟩
              have hX6 := HR5.out.2.2.1.below hb6
              obtain ⟨fa0, fc0, fa1, fc1, _, d1, d2, _, _, _⟩ := hX6.jl.dl.cells
              have HF := Lib.hid (And.intro (HR5.out.1.below hb6) (And.intro hX6 (HR5.out.2.2.2.trans (hb6.mono hz5))))
              clear hX6 hb6
              go_wp2
              go_roundw
              case rel => exact ⟨k + 1, jb, mb, s2, false, N, N, by omega, by omega, rfl, rfl, by go_num, HF.out.1, HF.out.1, HK.out, HF.out.2.1, HF.out.2.2⟩
              case measure => simp [intOf]; omega
            · have HK := Lib.hid hK
              obtain ⟨fa0, fc0, fa1, fc1, _, d1, d2, _, _, _⟩ := HR5.out.2.2.1.jl.dl.cells
              clear hK HS
              go_wp2
              go_roundw
              case rel => exact ⟨k + 1, jb, mb, s2, true, P, N, by omega, by omega, rfl, rfl, by go_num, HR5.out.2.1, HR5.out.1, HK.out, HR5.out.2.2.1, HR5.out.2.2.2⟩
              case measure => simp [intOf]; omega
    · obtain ⟨fa0, fc0, fa1, fc1, d0, _, _, _, _, hfz⟩ := HX.out.jl.dl.cells
      have z0 := hfz 0
      have HD := Lib.hid (HX.out.jl.dl.power (-1))
      have HR := Lib.hid (HK.out.reopen (pw := -1) (by omega) (by omega))
      have hG : Grown (Sj db jb mb) wr (wr.setCell ⟨db, 0, none⟩ (.int .i64 (-1))) := Grown.setCell (S := Sj db jb mb) (Grown.refl _ _) (a := ⟨db, 0, none⟩) (Or.inr (Or.inl rfl)) _
      have HN := Lib.hid (HNV.out.act HX.out hG)
      have HB3 := Lib.hid (HB.out.trans ((HX.out.cut hG).mono hzz))
      have hen : (jOpen ⟨-1, s.d.f0, s.d.f1⟩).ents = P := by rw [ents_up HR.out.2.1]; exact HR.out.2.2.1
      have HEN := Lib.hid hen
      clear hfz hG hen
      by_cases hl1 : k < L.length
      · have hl2 : ¬ k < 60 := fun h => hlt ⟨hl1, h⟩
        have b1 : (decide ((k : Int) < (L.length : Nat))) = true := decide_eq_true (by omega)
        have b2 : (decide ((k : Int) < 60)) = false := decide_eq_false (by omega)
        have b3 : ¬ ((k : Int) < 60) := by omega
        clear hlt
        go_wp2_with fail
        refine (open_x HD.out HR.out.1).mono ?_
        rintro e w2 ⟨jb2, mb2, rfl, hX2, hb2⟩
        have hN2 := HN.out.below hb2
        have hB4 := HB3.out.trans (hb2.mono HB3.out.size)
        go_wp2_with fail
        refine (has_x _ P hX2 hN2 HK.out.few true (decide_eq_true HEN.out)).mono ?_
        rintro e w3 ⟨rfl, hb3⟩
        have HF := Lib.hid (hB4.trans (hb3.mono hB4.size))
        clear hX2 hN2 hB4 hb2 hb3
        go_wp2
        go_ret
        exact ⟨rfl, HF.out⟩
      · have b1 : (decide ((k : Int) < (L.length : Nat))) = false := decide_eq_false (by omega)
        have b3 : ¬ ((k : Int) < (L.length : Nat)) := by omega
        clear hlt
        go_wp2_with fail
        refine (open_x HD.out HR.out.1).mono ?_
        rintro e w2 ⟨jb2, mb2, rfl, hX2, hb2⟩
        have hN2 := HN.out.below hb2
        have hB4 := HB3.out.trans (hb2.mono HB3.out.size)
        go_wp2_with fail
        refine (has_x _ P hX2 hN2 HK.out.few true (decide_eq_true HEN.out)).mono ?_
        rintro e w3 ⟨rfl, hb3⟩
        have HF := Lib.hid (hB4.trans (hb3.mono hB4.size))
        clear hX2 hN2 hB4 hb2 hb3
        go_wp2
        go_ret
        exact ⟨rfl, HF.out⟩
end Go.Proofs.YtondomklkapogaaDoor
