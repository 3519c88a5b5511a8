/- JournalTorn: the walk of the law. -/
import Derived.Test.YtondomklkapogaaDoorJFull
import Derived.Test.YtondomklkapogaaDoorJAwake
import Derived.Test.YtondomklkapogaaDoorJChanges
import Derived.Deep.CutBlock
namespace Go.Proofs.YtondomklkapogaaDoor
open Go.RowKit SeedP Go.Maps
theorem has_y {B : Nat} {w : World} {db jb mb : Nat} {s : JS} (v : Value) (P : PEnts) (h : JX B w db jb mb s) (hv : RdT w v P) (hf : Few P) (b : Bool) (hb : decide (s.ents = P) = b) :
    Calls Tryd.prog 12 #[.pointer (some ⟨jb, 0, none⟩), v] w fun e w' => e = .returned (.bool b) ∧ Below w.heap.size w w' := by
  rw [← hb]; exact has_c v P h.jl hv.rd (by have := hf.len; omega) hf.small
theorem step_cells {w : World} {g : Nat} {st : StepP} (h : Blk w g 36 (stepC st)) : w.cell? ⟨g, 0, none⟩ = some (.int .u8 st.kind) ∧ w.cell? ⟨g, 1, none⟩ = some (.int .u8 st.n) ∧ w.cell? ⟨g, 2, none⟩ = some (.int .u8 st.a) ∧ w.cell? ⟨g, 3, none⟩ = some (.int .u8 st.b) ∧ w.cell? ⟨g, 4, none⟩ = some (.int .u16 st.power) :=
  ⟨h.cell 0 (by show 0 < 5; omega), h.cell 1 (by show 1 < 5; omega), h.cell 2 (by show 2 < 5; omega), h.cell 3 (by show 3 < 5; omega), h.cell 4 (by show 4 < 5; omega)⟩
theorem tmod200 (n : Int) (h : 0 ≤ n) : n.tmod 200 = n % 200 := Int.tmod_eq_emod_of_nonneg h
set_option maxRecDepth 100000 in
set_option maxHeartbeats 8000000 in
/-- the law -/
theorem journalTorn_walk (v0 : Value) (L : List StepP) (last : StepP) (short : Bool) (a3 : Int) (W : World) (hs : St W) (h0 : RdS W v0 L) (h1 : last.Ok) (h3 : 0 ≤ a3 ∧ a3 ≤ 65535) :
    Calls Tryd.prog 4 #[v0, stepV last, .bool short, .int .u16 a3] W fun e w' => e = .returned (.bool true) ∧ Below W.heap.size W w' := by
  have HL := Lib.hid h0
  obtain ⟨⟨al, cl, rfl, hcl, hcm, _⟩, _⟩ := h0
  obtain ⟨h30, h31⟩ := h3
  have hwp : IntKind.i64.wrap a3 = a3 := IntWalk.i64_in _ (by omega)
  have htm := tmod200 a3 h30
  have HO1 := Lib.hid h1
  have hbx : Below W.heap.size W (W.alloc (.cells (stepC last).toArray 36)) := (Below.refl _ W).alloc (Nat.le_refl _) _
  have HBK := Lib.hid (Blk.new W 36 (stepC last))
  have hs0 : St (W.alloc (.cells (stepC last).toArray 36)) := hs.below hbx hs.pos
  have HBX := Lib.hid hbx
  clear hbx hs h1
  obtain ⟨kind, n, a, b, power⟩ := last
  unfold stepV
  unfold stepC at HBX HBK hs0
  simp only at HBX HBK hs0 ⊢
  go_enter Tryd.func4, Tryd.ntmps4
  go_wp2_with fail
  refine (awake_c _ hs0).mono ?_
  rintro e w1 ⟨rfl, hb1⟩
  have hs1 := hs0.below hb1 hs0.pos
  have hB1 := HBX.out.trans (hb1.mono HBX.out.size)
  have hK1 := HBK.out.below hb1
  clear HBX HBK hs0 hb1
  go_wp2_with fail
  refine (empty_c w1 hs1).mono ?_
  rintro e w2 ⟨rfl, hD, hb2⟩
  have hB2 := hB1.trans (hb2.mono hB1.size)
  have hK2 := hK1.below hb2
  have hzz := hB1.size
  clear hB1 hK1 hb2 hs1
  generalize hdb : w1.heap.size = db at *
  clear hdb w1
  go_wp2_with fail
  refine (open_x hD (empty_ok (-1) (by decide) (by decide))).mono ?_
  rintro e w3 ⟨jb, mb, rfl, hX3, hb3⟩
  have HX := Lib.hid hX3
  have HB3 := Lib.hid (hB2.trans (hb3.mono hB2.size))
  have HK3 := Lib.hid (hK2.below hb3)
  clear hX3 hB2 hK2 hb3 hD
  go_upto_block 0 with (fail)
  go_cut [12, 13, 14, 15] from 32 to 55 (fun nv iv cv xv wx => ∃ (s : JS) (P : PEnts), iv = iv ∧ cv = cv ∧ xv = xv ∧ RdT wx nv P ∧ FS s P 16 ∧ JX db wx db jb mb s ∧ Blk wx W.heap.size 36 [.int .u8 kind, .int .u8 n, .int .u8 a, .int .u8 b, .int .u16 power] ∧ Below W.heap.size W wx)
  case first =>
    go_wp2
    go_loopw [12, 13] (fun nv iv wr => ∃ (k : Nat) (s : JS) (P : PEnts), k ≤ L.length ∧ k ≤ 8 ∧ iv = .int .i64 k ∧ RdT wr nv P ∧ FS s P (2 * k) ∧ JX db wr db jb mb s ∧ Blk wr W.heap.size 36 [.int .u8 kind, .int .u8 n, .int .u8 a, .int .u8 b, .int .u16 power] ∧ Below W.heap.size W wr) (fun _ i _ => 8 - (intOf i).toNat)
    case atStart => exact ⟨0, _, [], Nat.zero_le _, Nat.zero_le _, rfl, RdT.nil _, FS.start, HX.out, HK3.out, HB3.out⟩
    case round =>
      obtain ⟨k, s, P, hkL, hk8, rfl, hnv, hF, hX, hK, hB⟩ := hrel
      clear HX HB3 HK3
      have HX := Lib.hid hX
      have HF := Lib.hid hF
      have HNV := Lib.hid hnv
      have HB := Lib.hid hB
      have HK := Lib.hid hK
      clear hX hF hnv hB hK
      by_cases hlt : k < L.length ∧ k < 8
      · obtain ⟨hlt1, hlt2⟩ := hlt
        have b1 : (decide ((k : Int) < (L.length : Nat))) = true := decide_eq_true (by omega)
        have b2 : (decide ((k : Int) < 8)) = true := decide_eq_true (by omega)
        have hLr := HL.out.below rfl HB.out
        obtain ⟨⟨a', cap', e, _, _, hc⟩, hLok⟩ := hLr
        simp only [Value.slice.injEq] at e
        obtain ⟨rfl, _, rfl⟩ := e
        rcases hc with hc | ⟨gl, ol, rfl, hgl, hcell⟩
        · rw [hc] at hlt1; simp at hlt1
        have HOK := Lib.hid (hLok L[k] (List.getElem_mem hlt1))
        obtain ⟨q0, q1, q2, q3, q4⟩ := hcell k hlt1
        generalize L[k] = st at *
        clear hLok hcell
        go_wp2_with fail
        refine (changes_c st HOK.out u12 P wr HNV.out.rd HF.out.few.ord (by have := HF.out.few.len; omega)).mono ?_
        rintro e w5 ⟨lv, nv2, xs, rfl, hxs, hrow, hnow, hb5⟩
        have hX5 := HX.out.below hb5
        have hch : ChgsP w5 (fun g => g ≠ jb ∧ g ≠ db ∧ g ≠ mb) lv (chAll st P) := by
          rw [← hxs]
          exact HX.out.chgs hrow (Nat.le_refl _) (by have := congrArg List.length hxs; rw [List.length_map] at this; have := (chAll_valid st P).2; omega)
        have hcm := HF.out.commit (by omega) st
        have HC5 := Lib.hid (commit_x hX5 lv (chAll st P) hch (by have := (chAll_valid st P).2; omega) (fun c hc => by have := (chAll_valid st P).1.key c hc; have := (chAll_valid st P).1.val c hc; omega))
        rw [hcm.1] at HC5
        have HN5 := Lib.hid (And.intro (RdT.own hnow) (And.intro hX5 (And.intro (HK.out.below hb5) (And.intro (HB.out.trans (hb5.mono HB.out.size)) hcm.2))))
        clear hxs hrow hnow hb5 hX5 hch hcm q0 q1 q2 q3 q4
        go_wp2_with fail
        refine HC5.out.mono ?_
        rintro e w6 ⟨rfl, hX6, hG6⟩
        have HR6 := Lib.hid (And.intro (HN5.out.1.act HN5.out.2.1 hG6) (And.intro hX6 (And.intro (HN5.out.2.2.1.act HN5.out.2.1 hG6 (by decide) (by decide)) (HN5.out.2.2.2.1.trans ((HN5.out.2.1.cut hG6).mono hzz)))))
        clear hX6 hG6
        go_wp2
        go_roundw
        case rel => exact ⟨k + 1, _, pChgs P (chAll st P), by omega, by omega, by go_num, HR6.out.1, HN5.out.2.2.2.2, HR6.out.2.1, HR6.out.2.2.1, HR6.out.2.2.2⟩
        case measure => simp [intOf]; omega
      · have HFIN := Lib.hid (And.intro HNV.out (And.intro (show FS s P 16 from ⟨HF.out.live, HF.out.pw, HF.out.ents, Nat.le_trans HF.out.gen (by omega), HF.out.few⟩) (And.intro HX.out (And.intro HK.out HB.out))))
        by_cases hl1 : k < L.length
        · have hl2 : ¬ k < 8 := fun h => hlt ⟨hl1, h⟩
          have b1 : (decide ((k : Int) < (L.length : Nat))) = true := decide_eq_true (by omega)
          have b2 : (decide ((k : Int) < 8)) = false := decide_eq_false (by omega)
          have b3 : ¬ ((k : Int) < 8) := by omega
          clear hlt
          go_wp2_with fail
          go_meet
          exact ⟨s, P, trivial, trivial, trivial, HFIN.out⟩
        · have b1 : (decide ((k : Int) < (L.length : Nat))) = false := decide_eq_false (by omega)
          have b3 : ¬ ((k : Int) < (L.length : Nat)) := by omega
          clear hlt
          go_wp2_with fail
          go_meet
          exact ⟨s, P, trivial, trivial, trivial, HFIN.out⟩
  case rest =>
    obtain ⟨s, P, _, _, _, hnv, hF, hX, hK, hB⟩ := hcut
    clear HX HB3 HK3
    generalize wc = w4 at *
    have HX := Lib.hid hX
    have HF := Lib.hid hF
    have HNV := Lib.hid hnv
    have HB := Lib.hid hB
    have HK := Lib.hid hK
    have hz4 := hB.size
    clear hX hF hnv hB hK
    go_upto_region 15 with (fail)
    go_cut [2, 61] from 22 to 61 (fun c2 c wx => c2 = c2 ∧ c = .bool false ∧ ∃ s, RdT wx u12 P ∧ FS s P 18 ∧ JX db wx db jb mb s ∧ Blk wx W.heap.size 36 [.int .u8 kind, .int .u8 n, .int .u8 a, .int .u8 b, .int .u16 power] ∧ Below W.heap.size W wx)
    case first =>
      cases short with
      | true =>
        have hcm := HF.out.compact (by omega)
        have HC4 := Lib.hid (compact_x HX.out)
        rw [hcm.1] at HC4
        have HF5 := Lib.hid hcm.2
        clear hcm
        go_wp2_with fail
        refine HC4.out.mono ?_
        rintro e w5 ⟨rfl, hX5, hG5⟩
        have HR := Lib.hid (And.intro (HNV.out.act HX.out hG5) (And.intro HF5.out (And.intro hX5 (And.intro (HK.out.act HX.out hG5 (by decide) (by decide)) (HB.out.trans ((HX.out.cut hG5).mono hzz))))))
        clear hX5 hG5
        go_wp2_with fail
        go_meet
        exact ⟨trivial, rfl, _, HR.out⟩
      | false =>
        have HR := Lib.hid (And.intro HNV.out (And.intro (show FS s P 18 from ⟨HF.out.live, HF.out.pw, HF.out.ents, Nat.le_trans HF.out.gen (by omega), HF.out.few⟩) (And.intro HX.out (And.intro HK.out HB.out))))
        go_wp2_with fail
        go_meet
        exact ⟨trivial, rfl, _, HR.out⟩
    case rest =>
      clear HX HF HNV HB HK hz4
      obtain ⟨_, rfl, s, hnv, hF, hX, hK, hB⟩ := hcut
      generalize wc = w5 at *
      have HX := Lib.hid hX
      have HF := Lib.hid hF
      have HNV := Lib.hid hnv
      have HB := Lib.hid hB
      have HK := Lib.hid hK
      obtain ⟨q0, q1, q2, q3, q4⟩ := step_cells (st := ⟨kind, n, a, b, power⟩) hK
      simp only at q0 q1 q2 q3 q4
      clear hX hF hnv hB hK
      go_wp2_with fail
      refine (changes_c ⟨kind, n, a, b, power⟩ HO1.out u12 P w5 HNV.out.rd HF.out.few.ord (by have := HF.out.few.len; omega)).mono ?_
      generalize hst : (⟨kind, n, a, b, power⟩ : StepP) = st at *
      rintro e w6 ⟨lv, nv2, xs, rfl, hxs, hrow, hnow, hb6⟩
      have hX6 := HX.out.below hb6
      have hch : ChgsP w6 (fun g => g ≠ jb ∧ g ≠ db ∧ g ≠ mb) lv (chAll st P) := by
        rw [← hxs]
        exact HX.out.chgs hrow (Nat.le_refl _) (by have := congrArg List.length hxs; rw [List.length_map] at this; have := (chAll_valid st P).2; omega)
      obtain ⟨hXp, hGp⟩ := hX6.power (pw := a3 % 200) (by omega) (by omega)
      obtain ⟨fa0, fc0, fa1, fc1, d0, _, _, _, _, hfz⟩ := hX6.jl.dl.cells
      have z0 := hfz 0
      have hcs : (chAll st P).length ≤ 1000000 ∧ ∀ c ∈ chAll st P, c.key.length ≤ 1073741824 ∧ c.val.length ≤ 1073741824 := ⟨by have := (chAll_valid st P).2; omega, fun c hc => by have := (chAll_valid st P).1.key c hc; have := (chAll_valid st P).1.val c hc; omega⟩
      have HCS := Lib.hid hcs
      have hchp := Chgs.act (B := db) hch hGp hX6.pos
      have HXP := Lib.hid hXp
      have HCP := Lib.hid hchp
      have HNP := Lib.hid (And.intro ((HNV.out.below hb6).act hX6 hGp) ((RdT.own hnow).act hX6 hGp))
      have HBP := Lib.hid ((HB.out.trans (hb6.mono HB.out.size)).trans ((hX6.cut hGp).mono hzz))
      have HLP := Lib.hid (HF.out.live.power (z := a3 % 200) (by omega) (by omega))
      have HFN := Lib.hid (HF.out.few.all st)
      have hpw0 : (0 : Int) ≤ a3 % 200 := by omega
      clear hxs hrow hnow hb6 hX6 hch hXp hGp hfz hcs hchp q0 q1 q2 q3 q4
      have HEN := Lib.hid HF.out.ents
      have HGN := Lib.hid HF.out.gen
      have HFP := Lib.hid HF.out.few
      clear HX HNV HB HK HF
      go_wp2_with fail
      generalize w6.setCell ⟨db, 0, none⟩ (.int .i64 (a3 % 200)) = w7 at *
      generalize hsp : (⟨⟨a3 % 200, s.d.f0, s.d.f1⟩, s.down, s.file, s.c⟩ : JS) = sp at *
      have hce : sp.c = s.c := by rw [← hsp]
      rw [← hce] at HEN HGN
      clear hsp hce
      have hA := after_commit HLP.out HEN.out HGN.out (by omega) HFP.out st
      have hdead := (commit_live (cs := chAll st P) HLP.out).2.2.1
      refine (commit_x HXP.out lv (chAll st P) HCP.out HCS.out.1 HCS.out.2).mono ?_
      rintro e w8 ⟨rfl, hX8, hG8⟩
      have HC8 := Lib.hid (Chgs.act (B := db) HCP.out hG8 HXP.out.pos)
      have HN8 := Lib.hid (And.intro (HNP.out.1.act HXP.out hG8) (HNP.out.2.act HXP.out hG8))
      have HB8 := Lib.hid (HBP.out.trans ((HXP.out.cut hG8).mono hzz))
      clear hG8 HXP HCP HNP HBP d0 z0
      rcases hA with ⟨er, l2, en, hg2⟩ | ⟨er, hh, hdn⟩
      · rw [er]
        clear er hdead
        generalize (jCommit (chAll st P) sp).1 = s8 at *
        have HX8 := Lib.hid hX8
        have HK8 : Hid (KS s8 false (pChgs P (chAll st P)) (pChgs P (chAll st P)) 20) := Lib.hid ⟨HFN.out, HFN.out, fun _ => ⟨l2, en, hg2⟩, fun h => by cases h⟩
        have HE8 : Hid (s8.ents = pChgs P (chAll st P)) := Lib.hid (by rw [ents_up l2, en])
        clear hX8 l2 en hg2
        go_wp2_with fail
        refine (has_y nv2 _ HX8.out HN8.out.2 HFN.out true (decide_eq_true HE8.out)).mono ?_
        rintro e w9 ⟨rfl, hb9⟩
        have hX9 := HX8.out.below hb9
        obtain ⟨fa0, fc0, fa1, fc1, d0, _, _, _, _, hfz⟩ := hX9.jl.dl.cells
        have z0 := hfz 0
        have HD := Lib.hid (hX9.jl.dl.power (-1))
        have HR := Lib.hid (HK8.out.reopen (pw := -1) (by omega) (by omega))
        obtain ⟨_, hGp⟩ := hX9.power (pw := -1) (by omega) (by omega)
        have HN9 := Lib.hid ((HN8.out.2.below hb9).act hX9 hGp)
        have HB9 := Lib.hid ((HB8.out.trans (hb9.mono HB8.out.size)).trans ((hX9.cut hGp).mono hzz))
        have hen : (jOpen ⟨-1, s8.d.f0, s8.d.f1⟩).ents = pChgs P (chAll st P) := by rw [ents_up HR.out.2.1]; exact HR.out.2.2.1
        have HEO := Lib.hid hen
        clear hX9 hb9 hfz hGp hen HX8
        go_wp2_with fail
        refine (open_x HD.out HR.out.1).mono ?_
        rintro e w10 ⟨jb2, mb2, rfl, hX10, hb10⟩
        have hN10 := HN9.out.below hb10
        have hB10 := HB9.out.trans (hb10.mono HB9.out.size)
        go_wp2_with fail
        refine (has_y nv2 _ hX10 hN10 HFN.out true (decide_eq_true HEO.out)).mono ?_
        rintro e w11 ⟨rfl, hb11⟩
        have HF := Lib.hid (hB10.trans (hb11.mono hB10.size))
        clear hX10 hN10 hB10 hb10 hb11
        go_wp2
        go_ret
        exact ⟨rfl, HF.out⟩
      · have hpw := (hdead er).2.2.2
        rw [er]
        clear er hdead
        generalize (jCommit (chAll st P) sp).1 = s8 at *
        have HX8 := Lib.hid hX8
        have HH := Lib.hid hh
        have HDN := Lib.hid hdn
        have HPW := Lib.hid hpw
        clear hX8 hh hdn hpw
        go_wp2_with fail
        refine (name_c 0 w8 (by omega)).mono ?_
        rintro e w9 ⟨rfl, hb9⟩
        go_wp2_with fail
        refine (get_l (HX8.out.below hb9).jl (nameP 0) (by decide)).mono ?_
        rw [ents_down HDN.out]
        rintro e w10 ⟨⟨ga, gc, rfl, hgr⟩, hb10⟩
        have hX10 := (HX8.out.below hb9).below hb10
        have hb910 := hb9.trans (hb10.mono hb9.size)
        obtain ⟨fa0, fc0, fa1, fc1, d0, _, _, _, _, hfz⟩ := hX10.jl.dl.cells
        rw [HPW.out] at d0
        have HX10 := Lib.hid hX10
        have HB10 := Lib.hid hb910
        clear hgr hfz hX10 hb9 hb10 hb910
        go_wp2_with fail
        refine (keys_l HX10.out.jl [] (by decide)).mono ?_
        rw [ents_down HDN.out]
        rintro e w11 ⟨kv, rfl, hkv, hb11⟩
        obtain ⟨ka, kc, hkk, _⟩ := key_at (ks := []) hkv
        have hkk : kv = .slice ka 0 kc := hkk
        subst hkk
        have HX11 := Lib.hid (HX10.out.below hb11)
        have HB11 := Lib.hid (HB10.out.trans (hb11.mono HB10.out.size))
        clear hkv hb11 d0
        go_wp2_with fail
        have hW := weight_l HX11.out.jl
        rw [HDN.out] at hW
        simp only [if_true] at hW
        refine hW.mono ?_
        rintro e w12 ⟨rfl, rfl⟩
        clear hW
        go_wp2_with fail
        have hW := generation_l HX11.out.jl
        rw [HDN.out] at hW
        simp only [if_true] at hW
        refine hW.mono ?_
        rintro e w12 ⟨rfl, rfl⟩
        clear hW
        go_wp2_with fail
        refine (commit_x HX11.out lv (chAll st P) (Chgs.below HC8.out HB11.out) HCS.out.1 HCS.out.2).mono ?_
        rw [jCommit_down HDN.out]
        rintro e w12 ⟨rfl, hX12, hG12⟩
        have HX12 := Lib.hid hX12
        have HN12 := Lib.hid (And.intro ((HN8.out.1.below HB11.out).act HX11.out hG12) ((HN8.out.2.below HB11.out).act HX11.out hG12))
        have HB12 := Lib.hid ((HB8.out.trans (HB11.out.mono HB8.out.size)).trans ((HX11.out.cut hG12).mono hzz))
        clear hX12 hG12 HX11 HB11 HN8 HC8 HB8 HX10 HB10
        go_wp2_with fail
        refine (name_c 0 w12 (by omega)).mono ?_
        rintro e w13 ⟨rfl, hb13⟩
        have HX13 := Lib.hid (HX12.out.below hb13)
        have HN13 := Lib.hid (And.intro (HN12.out.1.below hb13) (HN12.out.2.below hb13))
        have HB13 := Lib.hid (HB12.out.trans (hb13.mono HB12.out.size))
        clear hb13 HX12 HN12 HB12
        go_wp2_with fail
        refine (drop_x HX13.out (nameP 0) (by decide)).mono ?_
        rw [jCommit_down HDN.out]
        rintro e w14 ⟨rfl, hX14, hG14⟩
        have HX14 := Lib.hid hX14
        have HN14 := Lib.hid (And.intro (HN13.out.1.act HX13.out hG14) (HN13.out.2.act HX13.out hG14))
        have HB14 := Lib.hid (HB13.out.trans ((HX13.out.cut hG14).mono hzz))
        clear hX14 hG14 HX13 HN13 HB13
        go_wp2_with fail
        refine (compact_x HX14.out).mono ?_
        rw [jCompact_down HDN.out]
        rintro e w15 ⟨rfl, hX15, hG15⟩
        have hN15 := HN14.out.1.act HX14.out hG15
        have hB15 := HB14.out.trans ((HX14.out.cut hG15).mono hzz)
        obtain ⟨fa0, fc0, fa1, fc1, d0, _, _, _, _, hfz⟩ := hX15.jl.dl.cells
        have z0 := hfz 0
        have HK8 : KS s8 true P (pChgs P (chAll st P)) 20 := ⟨HFP.out, HFN.out, (fun h => by cases h), fun _ => HH.out.mono (by omega)⟩
        have HD := Lib.hid (hX15.jl.dl.power (-1))
        have HR := Lib.hid (HK8.reopen (pw := -1) (by omega) (by omega))
        obtain ⟨_, hGp⟩ := hX15.power (pw := -1) (by omega) (by omega)
        have HN16 := Lib.hid (hN15.act hX15 hGp)
        have HB16 := Lib.hid (hB15.trans ((hX15.cut hGp).mono hzz))
        clear hX15 hG15 hfz hGp hN15 hB15 HX14 HN14 HB14
        go_wp2_with fail
        refine (open_x HD.out HR.out.1).mono ?_
        rintro e w17 ⟨jb2, mb2, rfl, hX17, hb17⟩
        have hN17 := HN16.out.below hb17
        have hB17 := HB16.out.trans (hb17.mono HB16.out.size)
        have HFO := Lib.hid (show FS (jOpen ⟨-1, s8.d.f0, s8.d.f1⟩) P 20 from ⟨HR.out.2.1, rfl, HR.out.2.2.1, HR.out.2.2.2, HFP.out⟩)
        clear HD HN16 HB16 hb17 d0 z0
        generalize jOpen ⟨-1, s8.d.f0, s8.d.f1⟩ = so at *
        go_wp2_with fail
        refine (has_y u12 _ hX17 hN17 HFP.out true (decide_eq_true HFO.out.ents')).mono ?_
        rintro e w18 ⟨rfl, hb18⟩
        have hX18 := hX17.below hb18
        have hB18 := hB17.trans (hb18.mono hB17.size)
        have hos := other_set HFO.out (by omega)
        have HC18 := Lib.hid (set_x hX18 otherK [] (.slice none 0 0) (Or.inl ⟨Or.inl rfl, rfl⟩) (by decide) (by decide))
        rw [hos.1] at HC18
        have HOS := Lib.hid hos.2
        have HX18 := Lib.hid hX18
        have HB18 := Lib.hid hB18
        clear hX17 hN17 hB17 hb18 hX18 hB18 hos
        go_wp2_with fail
        refine HC18.out.mono ?_
        rintro e w19 ⟨rfl, hX19, hG19⟩
        have hB19 := HB18.out.trans ((HX18.out.cut hG19).mono hzz)
        clear hG19 HC18
        go_wp2_with fail
        refine (keys_l hX19.jl otherK (by decide)).mono ?_
        rintro e w20 ⟨kv, rfl, hkv, hb20⟩
        obtain ⟨ka, kc, rfl, _⟩ := key_at hkv
        rw [HOS.out]
        have HF := Lib.hid (hB19.trans (hb20.mono hB19.size))
        clear hX19 hB19 hkv hb20
        go_wp2
        go_ret
        exact ⟨rfl, HF.out⟩
end Go.Proofs.YtondomklkapogaaDoor
