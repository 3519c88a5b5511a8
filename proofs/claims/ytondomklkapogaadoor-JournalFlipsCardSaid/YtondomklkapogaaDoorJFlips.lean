/- JournalFlips: the walk of the law. -/
import Derived.Test.YtondomklkapogaaDoorJFlipP
import Derived.Test.YtondomklkapogaaDoorJOwn
import Derived.Test.YtondomklkapogaaDoorJLibX
import Derived.Test.YtondomklkapogaaDoorJAwake
import Derived.Test.YtondomklkapogaaDoorJChanges
import Derived.Deep.CutBlock
import Derived.StillTailTactics
namespace Go.Proofs.YtondomklkapogaaDoor
open Go.RowKit SeedP Go.Maps
theorem infoEs : (Tryd.prog.info? 34).map (fun i => (i.zero, i.size, i.bytes)) = some (some (.slice none 0 0), 1, 24) := by kernel_rfl
/-- the states a law keeps, beside its journal -/
structure FlipM (W wr : World) (db jb mb : Nat) (sv : Value) (vs : List Value) (Ps : List PEnts) (p : Nat → Prop) (s : JS) : Prop where
  row : wr.ownsRow db 34 1 sv vs.length vs
  vals : RdV wr vs Ps
  out : ∀ g, sv.ownBlock = some g → ¬ p g
  outv : ∀ v ∈ vs, ∀ g, v.ownBlock = some g → ¬ p g
  jz : JZ db p wr db jb mb s
  below : Below W.heap.size W wr
  low : W.heap.size ≤ db
theorem FlipM.keep {W wr wr' : World} {db jb mb : Nat} {sv : Value} {vs : List Value} {Ps : List PEnts} {p : Nat → Prop} {s : JS} (h : FlipM W wr db jb mb sv vs Ps p s) (hb : Below wr.heap.size wr wr') : FlipM W wr' db jb mb sv vs Ps p s :=
  ⟨own_keep h.row (Grown.of_below hb (S := fun _ => False)) (fun _ _ h => h), h.vals.keep (fun _ _ hv => hv.below hb), h.out, h.outv, h.jz.below hb, h.below.trans (hb.mono h.below.size), h.low⟩
theorem FlipM.at {W wr : World} {db jb mb : Nat} {sv : Value} {vs : List Value} {Ps : List PEnts} {p : Nat → Prop} {s : JS} (h : FlipM W wr db jb mb sv vs Ps p s) (h0 : vs ≠ []) : ∃ sb cap, sv = .slice (some ⟨sb, 0, none⟩) vs.length cap ∧ ∀ i, i < vs.length → wr.cell? ⟨sb, i, none⟩ = some (vs.getD i undef) := by
  have hr := h.row
  obtain ⟨hl, h2⟩ := h.row
  rcases h2 with ⟨_, e⟩ | ⟨g, cap, cur, rfl, hB, hg, hn, hc, _⟩
  · exact absurd (List.eq_nil_of_length_eq_zero e) h0
  · exact ⟨g, cap, rfl, fun i hi => by rw [hr.cellAt i (by omega), List.getD_eq_getElem?_getD, List.getElem?_eq_getElem hi]; rfl⟩
theorem FlipM.act {W w w' : World} {db jb mb : Nat} {sv : Value} {vs : List Value} {Ps : List PEnts} {p : Nat → Prop} {s s' : JS} (h : FlipM W w db jb mb sv vs Ps p s) (hJ : JZ db (pNext p w w') w' db jb mb s') (hg : Grown (Sj db jb mb) w w') : FlipM W w' db jb mb sv vs Ps (pNext p w w') s' :=
  ⟨own_keep h.row hg (h.jz.x.apart h.row (by decide) (by decide)), h.vals.keep (fun _ _ hv => hv.act h.jz.x hg), fun g hg => pNext.not (h.out g hg) (own_lt h.row hg).2, fun v hv g hg => by
    obtain ⟨i, hi, rfl⟩ := List.getElem_of_mem hv
    have hr := h.vals.row i (by rw [← h.vals.len]; exact hi)
    rw [List.getD_eq_getElem?_getD, List.getElem?_eq_getElem hi] at hr
    exact pNext.not (h.outv _ hv g hg) (own_lt hr hg).2, hJ, h.below.trans ((h.jz.x.cut hg).mono h.low), h.low⟩
theorem FlipM.push {W w w' : World} {db jb mb : Nat} {sv sv' y : Value} {vs : List Value} {Ps : List PEnts} {P : PEnts} {p : Nat → Prop} {s : JS} (h : FlipM W w db jb mb sv vs Ps p s) (hy : RdT w y P) (hyp : ∀ g, y.ownBlock = some g → ¬ p g)
    (hr : w'.ownsRow db 34 1 sv' (vs.length + 1) (vs ++ [y])) (hg : Grown (fun g => sv.ownBlock = some g) w w') (hid : sv'.ownBlock = sv.ownBlock ∨ ∃ g, sv'.ownBlock = some g ∧ w.heap.size ≤ g) : FlipM W w' db jb mb sv' (vs ++ [y]) (Ps ++ [P]) p s := by
  have hk : ∀ v Q, RdT w v Q → RdT w' v Q := fun v Q hv => own_keep hv hg (own_apart2 hv h.row (by decide))
  refine ⟨by rw [List.length_append]; exact hr, (h.vals.keep hk).snoc (hk _ _ hy), ?_, ?_, h.jz.grown hg (fun g e => ⟨h.out g e, h.jz.x.apart h.row (by decide) (by decide) g e, fun e0 => ?_⟩), h.below.trans (hg.below (fun k e => by have := (own_lt h.row e).1; have := h.low; omega) h.below.size), h.low⟩
  · intro g hgv
    rcases hid with e | ⟨g', e, hle⟩
    · rw [e] at hgv; exact h.out g hgv
    · rw [e] at hgv
      obtain rfl : g' = g := by injection hgv
      exact fun hp => by have := (h.jz.lie _ hp).2; omega
  · intro v hv
    rcases List.mem_append.1 hv with hv | hv
    · exact h.outv v hv
    · obtain rfl := List.mem_singleton.1 hv; exact hyp
  · have := (own_lt h.row e).1
    have := h.jz.pos; omega
/-- what the states are -/
structure FlipL (s : JS) (Ps : List PEnts) (k : Nat) : Prop where
  hist : Hist Ps s
  gen : s.c.gen ≤ 3 * k
  few : ∀ P ∈ Ps, Few P
  len : Ps.length = k + 1
  last : s.c.ents = Ps.getD k []
theorem FlipL.lastFew {s : JS} {Ps : List PEnts} {k : Nat} (h : FlipL s Ps k) : Few (Ps.getD k []) := by
  have hk : k < Ps.length := by rw [h.len]; omega
  rw [List.getD_eq_getElem?_getD, List.getElem?_eq_getElem hk]
  exact h.few _ (List.getElem_mem hk)
theorem FlipL.start : FlipL (jOpen ⟨-1, [], []⟩) [[]] 0 := ⟨Hist.start, by rw [jOpen_empty]; exact Nat.le_refl _, fun P hP => by obtain rfl := List.mem_singleton.1 hP; exact Few.nil, rfl, by rw [jOpen_empty]; rfl⟩
theorem FlipL.commit {s : JS} {Ps : List PEnts} {k : Nat} (h : FlipL s Ps k) (hk : k ≤ 12) (st : StepP) : (jCommit (chAll st (Ps.getD k [])) s).2 = 0 ∧ FlipL (jCommit (chAll st (Ps.getD k [])) s).1 (Ps ++ [pChgs (Ps.getD k []) (chAll st (Ps.getD k []))]) (k + 1) ∧ (jCommit (chAll st (Ps.getD k [])) s).1.c.gen ≤ 3 * k + 2 := by
  have hf := h.lastFew
  have hl := h.last
  have hm := may_step h.hist.live hl hf st
  have hg := h.gen
  obtain ⟨h1, h2, h3, h4⟩ := h.hist.commit (S' := Ps ++ [pChgs (Ps.getD k []) (chAll st (Ps.getD k []))]) hm (by omega) (fun P hP => List.mem_append_left _ hP) (by rw [hl]; exact List.mem_append_right _ (List.mem_singleton.2 rfl))
  refine ⟨h1, ⟨h2, by omega, ?_, by rw [List.length_append, h.len]; rfl, ?_⟩, by omega⟩
  · intro P hP
    rcases List.mem_append.1 hP with hP | hP
    · exact h.few P hP
    · obtain rfl := List.mem_singleton.1 hP; exact hf.all st
  · rw [h3, hl, List.getD_eq_getElem?_getD (l := Ps ++ _), List.getElem?_append_right (by rw [h.len]; exact Nat.le_refl _), h.len, Nat.sub_self]; rfl
theorem FlipL.compact {s : JS} {Ps : List PEnts} {k : Nat} (h : FlipL s Ps (k + 1)) (hg : s.c.gen ≤ 3 * k + 2) (hk : k ≤ 12) : (jCompactOp s).2 = 0 ∧ FlipL (jCompactOp s).1 Ps (k + 1) := by
  obtain ⟨h1, h2, h3, h4⟩ := h.hist.compactOp (by omega)
  exact ⟨h1, h2, by omega, h.few, h.len, by rw [h3, h.last]⟩
theorem pos_next {p q x0 x1 x2 x3 : Nat} (h : q = p + 12 + (x0 * 16777216 + x1 * 65536 + x2 * 256 + x3)) : (p : Int) + (12 + (x0 : Int) * 16777216 + (x1 : Int) * 65536 + (x2 : Int) * 256 + (x3 : Int)) = (q : Int) := by omega
theorem pos_less {n p q x0 x1 x2 x3 : Nat} (h : q = p + 12 + (x0 * 16777216 + x1 * 65536 + x2 * 256 + x3)) (hq : q ≤ n) : n - (intOf (.int .i64 ((p : Int) + (12 + (x0 : Int) * 16777216 + (x1 : Int) * 65536 + (x2 : Int) * 256 + (x3 : Int))))).toNat < n - (intOf (.int .i64 (p : Int))).toNat := by
  rw [pos_next h]
  show n - ((q : Nat) : Int).toNat < n - ((p : Nat) : Int).toNat
  omega
set_option maxRecDepth 100000 in
set_option maxHeartbeats 8000000 in
/-- the law -/
theorem journalFlips_walk (v0 : Value) (L : List StepP) (a1 a2 a3 a4 : Int) (W : World) (hs : St W) (h0 : RdS W v0 L) (h1 : 0 ≤ a1 ∧ a1 ≤ 65535) (h2 : 0 ≤ a2 ∧ a2 ≤ 255) (h3 : 0 ≤ a3 ∧ a3 ≤ 65535) (h4 : 0 ≤ a4 ∧ a4 ≤ 255) :
    Calls Tryd.prog 5 #[v0, .int .u16 a1, .int .u8 a2, .int .u16 a3, .int .u8 a4] W fun e w' => e = .returned (.bool true) ∧ Below W.heap.size W w' := by
  have HL := Lib.hid h0
  obtain ⟨⟨al, cl, rfl, hcl, hcm, _⟩, _⟩ := h0
  obtain ⟨h10, h11⟩ := h1
  obtain ⟨h20, h21⟩ := h2
  obtain ⟨h30, h31⟩ := h3
  obtain ⟨h40, h41⟩ := h4
  go_enter Tryd.func5, Tryd.ntmps5
  go_wp2_with fail
  refine (awake_c _ hs).mono ?_
  rintro e w1 ⟨rfl, hb1⟩
  have hs1 := hs.below hb1 hs.pos
  go_wp2_with fail
  refine (empty_c w1 hs1).mono ?_
  rintro e w2 ⟨rfl, hD, hb2⟩
  have hB2 := hb1.trans (hb2.mono hb1.size)
  have hzz := hb1.size
  clear hb1 hb2 hs1 hs
  generalize hdb : w1.heap.size = db at *
  clear hdb w1
  go_wp2_with fail
  refine (open_x hD (empty_ok (-1) (by decide) (by decide))).mono ?_
  rintro e w3 ⟨jb, mb, rfl, hX3, hb3⟩
  have hbV := (Below.refl w3.heap.size w3).alloc (Nat.le_refl _) (.cells #[.slice none 0 0] 34)
  have hM0 : FlipM W (w3.alloc (.cells #[.slice none 0 0] 34)) db jb mb (.slice (some ⟨w3.heap.size, 0, none⟩) 1 1) [.slice none 0 0] [[]] _ (jOpen ⟨-1, [], []⟩) :=
    ⟨own_blk (Blk.new w3 34 [.slice none 0 0]) (Nat.le_of_lt hX3.size) rfl (by decide), ⟨rfl, fun i hi => (by
        obtain rfl : i = 0 := Nat.lt_one_iff.1 hi
        exact RdT.nil _)⟩,
      fun g hg hp => by
        obtain rfl : w3.heap.size = g := by simpa [Value.ownBlock] using hg
        exact Nat.lt_irrefl _ hp.2, fun v hv g hg => by obtain rfl := List.mem_singleton.1 hv; simp [Value.ownBlock] at hg, hX3.z.below hbV, (hB2.trans (hb3.mono hB2.size)).trans (hbV.mono (Nat.le_trans hB2.size hb3.size)), hzz⟩
  have HM0 := Lib.hid hM0
  clear hX3 hB2 hb3 hD hbV hM0
  go_upto_block 0 with (fail)
  go_cut [14, 15, 16, 17] from 34 to 77 (fun sv iv cv xv wx => ∃ (k : Nat) (jb2 mb2 : Nat) (vs : List Value) (Ps : List PEnts) (p : Nat → Prop) (s : JS), jb2 = jb ∧ mb2 = mb ∧ iv = iv ∧ cv = cv ∧ xv = xv ∧ k ≤ 12 ∧ FlipL s Ps k ∧ FlipM W wx db jb2 mb2 sv vs Ps p s)
  case first =>
    go_wp2
    go_loopw [14, 15] (fun sv iv wr => ∃ (k : Nat) (vs : List Value) (Ps : List PEnts) (p : Nat → Prop) (s : JS), k ≤ L.length ∧ k ≤ 12 ∧ iv = .int .i64 k ∧ FlipL s Ps k ∧ FlipM W wr db jb mb sv vs Ps p s) (fun _ i _ => 12 - (intOf i).toNat)
    case atStart => exact ⟨0, _, _, _, _, Nat.zero_le _, Nat.zero_le _, rfl, FlipL.start, HM0.out⟩
    case round =>
      obtain ⟨k, vs, Ps, p, s, hkL, hk12, rfl, hL, hM⟩ := hrel
      clear HM0
      have HM := Lib.hid hM
      have HF := Lib.hid hL
      clear hM hL
      by_cases hlt : k < L.length ∧ k < 12
      · obtain ⟨hlt1, hlt2⟩ := hlt
        have b1 : (decide ((k : Int) < (L.length : Nat))) = true := decide_eq_true (by omega)
        have b2 : (decide ((k : Int) < 12)) = true := decide_eq_true (by omega)
        have hLr := HL.out.below rfl HM.out.below
        obtain ⟨⟨a', cap', e, _, _, hc⟩, hLok⟩ := hLr
        simp only [Value.slice.injEq] at e
        obtain ⟨rfl, _, rfl⟩ := e
        rcases hc with hc | ⟨gl, ol, rfl, hgl, hcell⟩
        · rw [hc] at hlt1; simp at hlt1
        have HOK := Lib.hid (hLok L[k] (List.getElem_mem hlt1))
        obtain ⟨q0, q1, q2, q3, q4⟩ := hcell k hlt1
        generalize L[k] = st at *
        clear hLok hcell
        have hvl : vs.length = k + 1 := by rw [HM.out.vals.len, HF.out.len]
        obtain ⟨sb, sc, rfl, hsc⟩ := HM.out.at (fun e => by rw [e] at hvl; cases hvl)
        have hkn : k < vs.length := by omega
        have r0 := hsc k hkn
        have hrv := HM.out.vals.row k (by rw [HF.out.len]; omega)
        generalize hpv : vs.getD k undef = pv at *
        have HPV := Lib.hid hrv
        have hw1 : IntKind.i64.wrap ((vs.length : Int) - 1) = (k : Int) := by rw [IntWalk.i64_in _ (by omega)]; omega
        have HVL := Lib.hid hvl
        have hvb : vs.length ≤ 20 := by omega
        clear hsc hrv hpv hvl
        go_upto_region 11 with (fail)
        have HMd := Lib.hid (HM.out.keep (below_drew wr))
        have HPd := Lib.hid (HPV.out.below (below_drew wr))
        have hcc := Lib.hid (changes_c st HOK.out pv (Ps.getD k []) wr.drew HPd.out.rd HF.out.lastFew.ord (by have := HF.out.lastFew.len; omega))
        go_region_held3 (fun w' => w'.cell? ⟨gl, ol + k * 5, none⟩ = some (.int .u8 st.kind) ∧ w'.cell? ⟨gl, ol + k * 5 + 1, none⟩ = some (.int .u8 st.n) ∧ w'.cell? ⟨gl, ol + k * 5 + 2, none⟩ = some (.int .u8 st.a) ∧ w'.cell? ⟨gl, ol + k * 5 + 3, none⟩ = some (.int .u8 st.b) ∧ w'.cell? ⟨gl, ol + k * 5 + 4, none⟩ = some (.int .u16 st.power) ∧ w'.cell? ⟨sb, k, none⟩ = some pv)
          (first | exact ⟨q0, q1, q2, q3, q4, r0⟩ | exact ⟨keep_cell hb5 q0, keep_cell hb5 q1, keep_cell hb5 q2, keep_cell hb5 q3, keep_cell hb5 q4, keep_cell hb5 r0⟩)
          (first | (go_at_call 14; go_must (refine hcc.out.mono ?_); rintro e w5 ⟨lv, nv2, xs, rfl, hxs, hrow, hnow, hb5⟩
                    have hb5 : Below wr.heap.size wr w5 := undrew hb5))
        clear hcc HM HPV r0 q0 q1 q2 q3 q4 hw1 hgl
        have hb5 : Below wr.drew.heap.size wr.drew w5 := ⟨hb5.os, hb5.tape, hb5.output, hb5.size, hb5.block⟩
        generalize wr.drew = wd at *
        have hM5 := HMd.out.keep hb5
        have hch : ChgsP w5 (fun g => g ≠ jb ∧ g ≠ db ∧ g ≠ mb) lv (chAll st (Ps.getD k [])) := by
          rw [← hxs]
          exact HMd.out.jz.x.chgs hrow (Nat.le_refl _) (by have := congrArg List.length hxs; rw [List.length_map] at this; have := (chAll_valid st (Ps.getD k [])).2; omega)
        have hcm := HF.out.commit hk12 st
        have hnp : ∀ g, nv2.ownBlock = some g → ¬ p g := fun g hg hp => by have := (own_lt hnow hg).1; have := (HMd.out.jz.lie g hp).2; omega
        generalize hcs : chAll st (Ps.getD k []) = cs at *
        have HC5 := Lib.hid (commit_z hM5.jz lv cs hch (by rw [← hcs]; have := (chAll_valid st (Ps.getD k [])).2; omega) (fun c hc => by rw [← hcs] at hc; have := (chAll_valid st (Ps.getD k [])).1.key c hc; have := (chAll_valid st (Ps.getD k [])).1.val c hc; omega))
        rw [hcm.1] at HC5
        have HN5 := Lib.hid (And.intro (RdT.own hnow) (And.intro hnp (And.intro hM5 hcm.2)))
        clear hxs hrow hnow hb5 hM5 hch hcm hnp HMd HPd HF
        generalize pChgs (Ps.getD k []) cs = P2 at *
        go_wp2_with fail
        refine HC5.out.mono ?_
        rintro e w6 ⟨rfl, hX6, hG6⟩
        have hy6 : RdT w6 nv2 P2 := HN5.out.1.act HN5.out.2.2.1.jz.x hG6
        have hyp6 : ∀ g, nv2.ownBlock = some g → ¬ pNext p w5 w6 g := fun g hg => pNext.not (HN5.out.2.1 g hg) (own_lt HN5.out.1 hg).2
        have HR6 := Lib.hid (And.intro hy6 (And.intro hyp6 (And.intro (HN5.out.2.2.1.act hX6 hG6) HN5.out.2.2.2)))
        clear hy6 hyp6 hX6 hG6 HC5 HN5 hcs
        generalize (jCommit cs s).1 = s6 at *
        generalize pNext p w5 w6 = p6 at *
        obtain ⟨an, cn, rfl⟩ : ∃ an cn, nv2 = .slice an P2.length cn := own_slice HR6.out.1
        by_cases hq : bits BinOp.and IntKind.u16 (a1 / 2 ^ k) 1 = 1
        · have hcp := HR6.out.2.2.2.1.compact HR6.out.2.2.2.2 (by omega)
          have HC6 := Lib.hid (compact_z HR6.out.2.2.1.jz)
          rw [hcp.1] at HC6
          have HL6 := Lib.hid hcp.2
          clear hcp
          go_wp2_with fail
          refine HC6.out.mono ?_
          rintro e w7 ⟨rfl, hX7, hG7⟩
          have hM7 := HR6.out.2.2.1.act hX7 hG7
          have hy7 : RdT w7 (.slice an P2.length cn) P2 := HR6.out.1.act HR6.out.2.2.1.jz.x hG7
          have hyp7 : ∀ g, (Value.slice an P2.length cn).ownBlock = some g → ¬ pNext p6 w6 w7 g := fun g hg => pNext.not (HR6.out.2.1 g hg) (own_lt HR6.out.1 hg).2
          have hb8 := (Below.refl w7.heap.size w7).alloc (Nat.le_refl _) (.cells #[.slice an P2.length cn] 34)
          have HN8 := Lib.hid (And.intro (hM7.keep hb8) (And.intro (hy7.below hb8) hyp7))
          have hblk := Blk.new w7 34 [.slice an P2.length cn]
          have hrow := HN8.out.1.row
          have hz8 := HN8.out.1.jz.x.size
          clear hX7 hG7 hM7 hy7 hyp7 hb8 HC6 HR6
          generalize (jCompactOp s6).1 = s7 at *
          generalize pNext p6 w6 w7 = p7 at *
          go_wp2_with (at_builtin; go_must (refine wpList_appG 54 34 _ 1 24 infoEs Tryd.underlying54 rfl (by decide) rfl _ _ rfl db _ vs.length vs rfl hrow w7.heap.size 1 [.slice an P2.length cn] rfl rfl hblk (by simp [Value.oneCell']) (by unfold maxLen; omega) (by omega) (by omega) ?_); intro v' w9 hrow9 hg9 hid9)
          have HM9 := Lib.hid (HN8.out.1.push HN8.out.2.1 HN8.out.2.2 hrow9 hg9 hid9)
          clear hrow9 hg9 hid9 hblk hrow
          go_wp2
          go_roundw
          case rel => exact ⟨k + 1, _, _, _, _, by omega, by omega, by go_num, HL6.out, HM9.out⟩
          case measure => simp [intOf]; omega
        · have hM6 := HR6.out.2.2.1
          have hb8 := (Below.refl w6.heap.size w6).alloc (Nat.le_refl _) (.cells #[.slice an P2.length cn] 34)
          have HN8 := Lib.hid (And.intro (hM6.keep hb8) (And.intro (HR6.out.1.below hb8) HR6.out.2.1))
          have hblk := Blk.new w6 34 [.slice an P2.length cn]
          have hrow := HN8.out.1.row
          have hz8 := HN8.out.1.jz.x.size
          have HL6 := Lib.hid HR6.out.2.2.2.1
          clear hM6 hb8 HR6
          go_wp2_with (at_builtin; go_must (refine wpList_appG 54 34 _ 1 24 infoEs Tryd.underlying54 rfl (by decide) rfl _ _ rfl db _ vs.length vs rfl hrow w6.heap.size 1 [.slice an P2.length cn] rfl rfl hblk (by simp [Value.oneCell']) (by unfold maxLen; omega) (by omega) (by omega) ?_); intro v' w9 hrow9 hg9 hid9)
          have HM9 := Lib.hid (HN8.out.1.push HN8.out.2.1 HN8.out.2.2 hrow9 hg9 hid9)
          clear hrow9 hg9 hid9 hblk hrow
          go_wp2
          go_roundw
          case rel => exact ⟨k + 1, _, _, _, _, by omega, by omega, by go_num, HL6.out, HM9.out⟩
          case measure => simp [intOf]; omega
      · have HFIN := Lib.hid (And.intro HF.out HM.out)
        by_cases hl1 : k < L.length
        · have hl2 : ¬ k < 12 := fun h => hlt ⟨hl1, h⟩
          have b1 : (decide ((k : Int) < (L.length : Nat))) = true := decide_eq_true (by omega)
          have b2 : (decide ((k : Int) < 12)) = false := decide_eq_false (by omega)
          have b3 : ¬ ((k : Int) < 12) := by omega
          clear hlt
          go_wp2_with fail
          go_meet
          exact ⟨k, jb, mb, vs, Ps, p, s, rfl, rfl, trivial, trivial, trivial, by omega, HFIN.out.1, HFIN.out.2⟩
        · have b1 : (decide ((k : Int) < (L.length : Nat))) = false := decide_eq_false (by omega)
          have b3 : ¬ ((k : Int) < (L.length : Nat)) := by omega
          clear hlt
          go_wp2_with fail
          go_meet
          exact ⟨k, jb, mb, vs, Ps, p, s, rfl, rfl, trivial, trivial, trivial, by omega, HFIN.out.1, HFIN.out.2⟩
  case rest =>
    obtain ⟨k, jb2, mb2, vs, Ps, p, s, rfl, rfl, _, _, _, hk12, hL, hM⟩ := hcut
    clear HM0
    generalize wc = w4 at *
    have HF := Lib.hid hL
    have HM := Lib.hid hM
    have hz4 := hM.below.size
    clear hL hM
    have ht2 : a2.tmod 2 = a2 % 2 := Int.tmod_eq_emod_of_nonneg h20
    obtain ⟨f, hf⟩ : ∃ f : Bool, a2 % 2 = if f then 1 else 0 := by
      rcases Int.emod_two_eq a2 with h | h
      · exact ⟨false, h⟩
      · exact ⟨true, h⟩
    obtain ⟨fv, hfc, hfl⟩ : ∃ fv, w4.cell? ⟨db, if f then 2 else 1, none⟩ = some fv ∧ ∃ a c, fv = .slice a (s.d.get f).length c := by
      obtain ⟨a0, c0, a1, c1, _, d1, d2, _⟩ := HM.out.jz.x.jl.dl.cells
      cases f
      · exact ⟨_, d1, _, _, rfl⟩
      · exact ⟨_, d2, _, _, rfl⟩
    obtain ⟨fa, fc, rfl⟩ := hfl
    go_upto_region 15 with (fail)
    go_cut [18] from 78 to 84 (fun bv wx => bv = .slice fa (s.d.get f).length fc ∧ w4 = wx)
    case first =>
      cases f <;> simp only [Bool.false_eq_true, if_false, if_true] at hf hfc
      · go_wp2_with fail
        go_meet
        exact ⟨rfl, rfl⟩
      · go_wp2_with fail
        go_meet
        exact ⟨rfl, rfl⟩
    case rest =>
      obtain ⟨rfl, rfl⟩ := hcut
      by_cases hne : s.d.get f = []
      · have hl0 : (s.d.get f).length = 0 := by rw [hne]; rfl
        rw [hl0]
        clear hl0 hne hfc
        have HB := Lib.hid HM.out.below
        go_wp2_with fail
        go_ret
        exact ⟨rfl, HB.out⟩
      · obtain ⟨g, off, cap, hgc, hcap, hcm2, hgp, hgl, hgf, hcell, hpoke⟩ := HM.out.jz.poke f hne
        rw [hfc] at hgc
        simp only [Option.some.injEq, Value.slice.injEq, true_and] at hgc
        obtain ⟨rfl, rfl⟩ := hgc
        have hpos : 0 < (s.d.get f).length := List.length_pos_iff.2 hne
        have hle : (s.d.get f).length ≤ 262144 := HF.out.hist.live.ok.d.get f
        have HFH := Lib.hid (HF.out.hist.files f)
        have HCELL := Lib.hid hcell
        have HPOKE := Lib.hid hpoke
        have HGF := Lib.hid hgf
        have HFOUND := Lib.hid (fun (k : Nat) (hk : k < (s.d.get f).length) (b : UInt8) => HF.out.hist.found f hk b)
        have hgd : ∀ v ∈ u14 :: vs, ∀ q, v.ownBlock = some q → q ≠ g := by
          intro v hv q hq e
          subst e
          rcases List.mem_cons.1 hv with rfl | hv
          · exact HM.out.out _ hq hgp
          · exact HM.out.outv v hv _ hq hgp
        have HGD := Lib.hid hgd
        clear hcell hpoke hgf hne hfc hgd
        generalize hfile : s.d.get f = file at *
        have HFILE := Lib.hid hfile
        clear hfile
        have hwp : IntKind.i64.wrap a3 = a3 := IntWalk.i64_in _ (by omega)
        obtain ⟨kn, hkn, hkl⟩ : ∃ kn : Nat, a3.tmod (file.length : Int) = (kn : Int) ∧ kn < file.length := by
          refine ⟨(a3 % (file.length : Int)).toNat, ?_, ?_⟩
          · rw [Int.tmod_eq_emod_of_nonneg h30, Int.toNat_of_nonneg (Int.emod_nonneg _ (by omega))]
          · have := Int.emod_lt_of_pos a3 (show (0 : Int) < file.length by omega); have := Int.emod_nonneg a3 (show (file.length : Int) ≠ 0 by omega); omega
        go_wp2_with fail
        go_loopw [20] (fun bv wr => ∃ i : Nat, bv = .int .i64 (posB file i) ∧ Hid (∀ i', i' < i → ¬ (posB file i' ≤ kn ∧ kn < posB file i' + 4)) ∧ Below w4.heap.size w4 wr) (fun b _ => file.length - (intOf b).toNat)
        case atStart => exact ⟨0, rfl, Lib.hid (fun i' h => absurd h (Nat.not_lt_zero _)), Below.refl _ _⟩
        case round =>
          obtain ⟨i, rfl, HI, hb⟩ := hrel
          have HB := Lib.hid hb
          clear hb
          by_cases hlt : posB file i < file.length
          · have hps := HFH.out.pos i hlt
            have hbl := bLen_four file (posB file i) (by omega)
            have hc0 := keep_cell HB.out (HCELL.out (posB file i) (by omega))
            have hc1 := keep_cell HB.out (HCELL.out (posB file i + 1) (by omega))
            have hc2 := keep_cell HB.out (HCELL.out (posB file i + 2) (by omega))
            have hc3 := keep_cell HB.out (HCELL.out (posB file i + 3) (by omega))
            have hnx : posB file (i + 1) = posB file i + 12 + bLen (file.drop (posB file i)) := rfl
            have hx0 := (file.getD (posB file i) 0).toNat_lt
            have hx1 := (file.getD (posB file i + 1) 0).toNat_lt
            have hx2 := (file.getD (posB file i + 2) 0).toNat_lt
            have hx3 := (file.getD (posB file i + 3) 0).toNat_lt
            generalize (file.getD (posB file i) 0).toNat = x0 at *
            generalize (file.getD (posB file i + 1) 0).toNat = x1 at *
            generalize (file.getD (posB file i + 2) 0).toNat = x2 at *
            generalize (file.getD (posB file i + 3) 0).toNat = x3 at *
            by_cases hin : posB file i ≤ kn ∧ kn < posB file i + 4
            · have hin0 : (decide ((posB file i : Int) ≤ (kn : Int))) = true := decide_eq_true (by omega)
              have hin1 : (decide ((kn : Int) < (posB file i : Int) + 4)) = true := decide_eq_true (by omega)
              have HF4 := Lib.hid (HM.out.below.trans (HB.out.mono hz4))
              clear hbl hnx hc0 hc1 hc2 hc3
              generalize posB file i = pi at *
              go_wp2_with fail
              go_ret
              exact ⟨rfl, HF4.out⟩
            · have HNI := Lib.hid (show ∀ i', i' < i + 1 → ¬ (posB file i' ≤ kn ∧ kn < posB file i' + 4) from fun i' h => by
                rcases Nat.lt_succ_iff_lt_or_eq.1 h with h | rfl
                · exact HI.out i' h
                · exact hin)
              generalize hpp : posB file i = pi at *
              have HQ : Hid (posB file (i + 1) = pi + 12 + (x0 * 16777216 + x1 * 65536 + x2 * 256 + x3)) := Lib.hid (by omega)
              have HPL : posB file (i + 1) ≤ file.length := by omega
              clear hbl hnx hpp HI
              by_cases hk1 : pi ≤ kn
              · have hk2 : (decide ((pi : Int) ≤ (kn : Int))) = true := decide_eq_true (by omega)
                have hk3 : (decide ((kn : Int) < (pi : Int) + 4)) = false := decide_eq_false (by omega)
                clear hin
                go_upto_region 23 with (fail)
                go_quiet (fail)
                all_goals
                  go_wp2
                  go_roundw
                  case rel => exact ⟨i + 1, congrArg (Value.int .i64) (pos_next HQ.out), HNI, below_drewN HB.out _⟩
                  case measure => exact pos_less HQ.out HPL
              · have hk2 : (decide ((pi : Int) ≤ (kn : Int))) = false := decide_eq_false (by omega)
                have hk3 : ¬ ((pi : Int) ≤ (kn : Int)) := by omega
                clear hin hk1
                go_upto_region 23 with (fail)
                go_quiet (fail)
                all_goals
                  go_wp2
                  go_roundw
                  case rel => exact ⟨i + 1, congrArg (Value.int .i64) (pos_next HQ.out), HNI, below_drewN HB.out _⟩
                  case measure => exact pos_less HQ.out HPL
          · have hall : ∀ i', posB file i' < file.length → ¬ (posB file i' ≤ kn ∧ kn < posB file i' + 4) := fun i' h => by
              refine HI.out i' (Nat.lt_of_not_le (fun h2 => ?_))
              have := posB_mono file h2; omega
            obtain ⟨b4, rfl⟩ : ∃ b4 : UInt8, a4 = (b4.toNat : Int) := ⟨UInt8.ofNat a4.toNat, by rw [UInt8.toNat_ofNat']; omega⟩
            have hck := keep_cell HB.out (HCELL.out kn hkl)
            have hfk := HGF.out (off + kn)
            have hfk : wr.frozen? ⟨g, off + kn, none⟩ = false := keep_frozen HB.out hgl hfk
            have HFD := Lib.hid (HFOUND.out kn hkl ((file.getD kn 0) ^^^ b4) hall)
            have HDL := Lib.hid (HPOKE.out wr HB.out kn hkl ((file.getD kn 0) ^^^ b4))
            generalize file.getD kn 0 = x at *
            have hx8 := x8 x b4
            have hgr : Grown (fun q => q = g) wr (wr.setCell ⟨g, off + kn, none⟩ (.int .u8 (x ^^^ b4).toNat)) := Grown.setCell (S := fun q => q = g) (Grown.refl _ wr) (a := ⟨g, off + kn, none⟩) rfl _
            obtain ⟨sb, sc, hsv, hsc⟩ := HM.out.at (fun e => by have := HM.out.vals.len; rw [HF.out.len, e] at this; cases this)
            have hvl : vs.length = k + 1 := by rw [HM.out.vals.len, HF.out.len]
            have hsbg : sb ≠ g := HGD.out _ (List.mem_cons_self ..) sb (by rw [hsv]; rfl)
            have hsbl : sb < w4.heap.size := (own_lt HM.out.row (g := sb) (by rw [hsv]; rfl)).2
            have HST : Hid (∀ i, i < vs.length → (wr.setCell ⟨g, off + kn, none⟩ (.int .u8 (x ^^^ b4).toNat)).cell? ⟨sb, i, none⟩ = some (vs.getD i undef)) := Lib.hid (fun i hi => (World.cell?_of_block (hgr.block sb (Nat.lt_of_lt_of_le hsbl HB.out.size) hsbg)).trans (keep_cell HB.out (hsc i hi)))
            have HRV : Hid (∀ i, i < Ps.length → RdT (wr.setCell ⟨g, off + kn, none⟩ (.int .u8 (x ^^^ b4).toNat)) (vs.getD i undef) (Ps.getD i [])) := Lib.hid (fun i hi => own_keep ((HM.out.vals.row i hi).below HB.out) hgr (fun q hq e => by
              have hi2 : i < vs.length := by rw [HM.out.vals.len]; exact hi
              refine HGD.out (vs.getD i undef) (List.mem_cons_of_mem _ ?_) q hq e
              rw [List.getD_eq_getElem?_getD, List.getElem?_eq_getElem hi2]; exact List.getElem_mem hi2))
            have HBB := Lib.hid ((HM.out.below.trans (HB.out.mono hz4)).setCell (p := ⟨g, off + kn, none⟩) (by have := HM.out.low; have := (HM.out.jz.lie g hgp).1; show W.heap.size ≤ g; omega) (.int .u8 (x ^^^ b4).toNat))
            have HFEW := Lib.hid HF.out.few
            have HVL := Lib.hid hvl
            have HVS := Lib.hid (show vs.length = Ps.length from HM.out.vals.len)
            have hvb : vs.length ≤ 20 := by omega
            rw [hsv]
            clear hall hgr hsc hvl hsbg hsbl HI HFOUND HPOKE HGD HCELL HGF HFH HM HF HFILE hgp hsv
            go_wp2_with fail
            change Calls _ _ _ (wr.setCell ⟨g, off + kn, none⟩ (.int .u8 (x ^^^ b4).toNat)) _
            generalize wr.setCell ⟨g, off + kn, none⟩ (.int .u8 (x ^^^ b4).toNat) = w5 at *
            refine (open_x HDL.out HFD.out.1).mono ?_
            rintro e w6 ⟨jb3, mb3, rfl, hX6, hb6⟩
            have HX6 := Lib.hid hX6
            obtain ⟨m, hm, hme⟩ := mem_getD HFD.out.2.2
            have HEN := Lib.hid (show (jOpen (s.d.put f (file.set kn (x ^^^ b4)))).ents = Ps.getD m [] by rw [ents_up HFD.out.2.1, hme])
            have HB6 := Lib.hid (And.intro hb6 (HBB.out.trans (hb6.mono HBB.out.size)))
            clear hX6 hb6 hme HFD HDL HBB hck hfk
            generalize jOpen (s.d.put f (file.set kn (x ^^^ b4))) = so at *
            clear hkn hx8 hwp ht2 hf hpos hle hkl hlt hcap hcm2 hgl
            go_wp2_with fail
            go_loopw [22] (fun iv wx => ∃ i : Nat, iv = .int .i64 i ∧ i ≤ m ∧ Below w6.heap.size w6 wx) (fun i _ => m + 1 - (intOf i).toNat)
            case atStart => exact ⟨0, rfl, Nat.zero_le _, Below.refl _ _⟩
            case round =>
              obtain ⟨i, rfl, him, hb⟩ := hrel
              have HB := Lib.hid hb
              clear hb
              have hil : i < vs.length := by have := HVS.out; omega
              have hilp : i < Ps.length := by have := HVS.out; omega
              have b1 : (decide ((i : Int) < (vs.length : Nat))) = true := decide_eq_true (by omega)
              have c0 := keep_cell HB.out (keep_cell HB6.out.1 (HST.out i hil))
              have HRI := Lib.hid (((HRV.out i hilp).below HB6.out.1).below HB.out)
              have HFI := Lib.hid (HFEW.out (Ps.getD i []) (by rw [List.getD_eq_getElem?_getD, List.getElem?_eq_getElem hilp]; exact List.getElem_mem _))
              generalize vs.getD i undef = pv at *
              have HHY := fun b hb => Lib.hid (has_y pv (Ps.getD i []) (HX6.out.below HB.out) HRI.out HFI.out b hb)
              by_cases he : so.ents = Ps.getD i []
              · have HH := HHY true (decide_eq_true he)
                clear HHY he
                go_wp2_with fail
                refine HH.out.mono ?_
                rintro e w7 ⟨rfl, hb7⟩
                have HF := Lib.hid (HB6.out.2.trans ((HB.out.trans (hb7.mono HB.out.size)).mono HB6.out.2.size))
                clear hb7
                go_wp2
                go_ret
                exact ⟨rfl, HF.out⟩
              · have HH := HHY false (decide_eq_false he)
                have hnm : i < m := by
                  rcases Nat.lt_or_eq_of_le him with h | h
                  · exact h
                  · exact absurd (by rw [HEN.out, h]) he
                clear HHY he
                go_wp2_with fail
                refine HH.out.mono ?_
                rintro e w7 ⟨rfl, hb7⟩
                have HF := Lib.hid (HB.out.trans (hb7.mono HB.out.size))
                clear hb7
                go_wp2
                go_roundw
                case rel => exact ⟨i + 1, by go_num, by omega, HF.out⟩
                case measure => simp [intOf]; omega
end Go.Proofs.YtondomklkapogaaDoor
