/- JournalBatch: the walk of the law. -/
import Derived.Test.YtondomklkapogaaDoorJBat
import Derived.Test.YtondomklkapogaaDoorJLibX
import Derived.Test.YtondomklkapogaaDoorJAwake
import Derived.Test.YtondomklkapogaaDoorJChanges
import Derived.Deep.CutBlock
import Derived.Deep.RegionWith
import Derived.Test.YtondomklkapogaaDoorJTab
import Derived.Test.YtondomklkapogaaDoorJXo
namespace Go.Proofs.YtondomklkapogaaDoor
open Go.RowKit SeedP Go.Maps
/-- the law's array of journals: the first n are there -/
def arr3 (n : Nat) (R : Nat → JR) : List Value := [if 0 < n then .pointer (some ⟨(R 0).jb, 0, none⟩) else .pointer none, if 1 < n then .pointer (some ⟨(R 1).jb, 0, none⟩) else .pointer none, if 2 < n then .pointer (some ⟨(R 2).jb, 0, none⟩) else .pointer none]
/-- what the law keeps -/
structure BatM (W wr : World) (st : StepP) (ab n : Nat) (R : Nat → JR) (S : Nat → JS) : Prop where
  j : J3 (ab + 1) n wr R S
  arr : Blk wr ab 63 (arr3 n R)
  box : Blk wr W.heap.size 36 (stepC st)
  below : Below W.heap.size W wr
  low : W.heap.size < ab
theorem BatM.keep {W wr wr' : World} {st : StepP} {ab n : Nat} {R : Nat → JR} {S : Nat → JS} (h : BatM W wr st ab n R S) (hb : Below wr.heap.size wr wr') : BatM W wr' st ab n R S :=
  ⟨h.j.below hb, h.arr.below hb, h.box.below hb, h.below.trans (hb.mono h.below.size), h.low⟩
theorem BatM.act {W w w' : World} {st : StepP} {ab n : Nat} {R : Nat → JR} {S : Nat → JS} (h : BatM W w st ab n R S) {i : Nat} (hi : i < n) {s' : JS} (hJ : JZ (ab + 1) (pNext (R i).p w w') w' (R i).db (R i).jb (R i).mb s') (hg : Grown (Sj (R i).db (R i).jb (R i).mb) w w') :
    ∃ R', (∀ k, (R' k).jb = (R k).jb ∧ (R' k).db = (R k).db ∧ (R' k).mb = (R k).mb) ∧ BatM W w' st ab n R' (upd S i s') := by
  have hz := h.j.jz i hi
  have hlow := h.low
  have hS : ∀ g, Sj (R i).db (R i).jb (R i).mb g → ab < g := fun g hs => (hz.memLt (r := R i) (Or.inl hs)).1
  refine ⟨upd R i ⟨(R i).db, (R i).jb, (R i).mb, pNext (R i).p w w'⟩, fun k => ?_, h.j.act hi hJ hg, ?_, h.box.grown hg (fun e => by have := hS _ e; omega), h.below.trans (hg.below (fun k e => by have := hS _ e; omega) h.below.size), h.low⟩
  · by_cases e : k = i
    · subst e; rw [upd_same]; exact ⟨rfl, rfl, rfl⟩
    · rw [upd_other _ _ e]; exact ⟨rfl, rfl, rfl⟩
  · have e : ∀ k, (upd R i (⟨(R i).db, (R i).jb, (R i).mb, pNext (R i).p w w'⟩ : JR) k).jb = (R k).jb := fun k => by
      by_cases e : k = i
      · subst e; rw [upd_same]
      · rw [upd_other _ _ e]
    unfold arr3
    rw [e, e, e]
    exact h.arr.grown hg (fun e => by have := hS _ e; omega)
/-- the places are the same -/
def SameR (R' R : Nat → JR) : Prop := ∀ k, (R' k).jb = (R k).jb ∧ (R' k).db = (R k).db ∧ (R' k).mb = (R k).mb
theorem SameR.refl (R : Nat → JR) : SameR R R := fun _ => ⟨rfl, rfl, rfl⟩
theorem SameR.trans {A B C : Nat → JR} (h : SameR A B) (h' : SameR B C) : SameR A C := fun k => ⟨(h k).1.trans (h' k).1, (h k).2.1.trans (h' k).2.1, (h k).2.2.trans (h' k).2.2⟩
/-- their blocks lie below C -/
def LowR (R : Nat → JR) (C : Nat) : Prop := ∀ k, k < 3 → (R k).jb < C ∧ (R k).db < C ∧ (R k).mb < C
theorem BatM.lowR {W w : World} {st : StepP} {ab : Nat} {R : Nat → JR} {S : Nat → JS} (h : BatM W w st ab 3 R S) : LowR R w.heap.size := fun k hk => (h.j.jz k hk).jw.lt
/-- what an act of the i-th leaves: the changes and the entries beside it -/
def AftR (W w w' : World) (st : StepP) (ab : Nat) (R : Nat → JR) (S' : Nat → JS) (C : Nat) : Prop :=
  ∃ R', SameR R' R ∧ BatM W w' st ab 3 R' S' ∧ (∀ B lv xs, C ≤ B → ChgRow w B lv xs → ChgRow w' B lv xs) ∧ (∀ v P, RdT w v P → RdT w' v P)
theorem BatM.aft {W w w' : World} {st : StepP} {ab : Nat} {R R' : Nat → JR} {S : Nat → JS} {C : Nat} (h : BatM W w st ab 3 R' S) (hs : SameR R' R) (hC : LowR R C) {i : Nat} (hi : i < 3) {s' : JS} (hJ : JZ (ab + 1) (pNext (R' i).p w w') w' (R' i).db (R' i).jb (R' i).mb s') (hg : Grown (Sj (R' i).db (R' i).jb (R' i).mb) w w') :
    AftR W w w' st ab R (upd S i s') C := by
  obtain ⟨R2, h2, hM⟩ := h.act hi hJ hg
  refine ⟨R2, SameR.trans h2 hs, hM, fun B lv xs hB hr => hr.grown hg (fun g hg2 _ hS => ?_), fun v P hv => hv.act (h.j.jz i hi).x hg⟩
  have h1 := hC i hi
  have h3 := hs i
  unfold Sj at hS
  omega
theorem BatM.commit {W w : World} {st : StepP} {ab : Nat} {R R' : Nat → JR} {S : Nat → JS} {C B : Nat} {lv : Value} {xs : List (Chg × Value)} (h : BatM W w st ab 3 R' S) (hs : SameR R' R) (hC : LowR R C) {i : Nat} (hi : i < 3) (hr : ChgRow w B lv xs) (hB : C ≤ B) {cs : List Chg} (hx : xs.map (·.1) = cs) (hn : cs.length ≤ 1000) (hb : ∀ c ∈ cs, c.key.length ≤ 1073741824 ∧ c.val.length ≤ 1073741824) :
    Calls Tryd.prog 15 #[.pointer (some ⟨(R i).jb, 0, none⟩), lv] w fun e w' => e = .returned (.int .i64 (jCommit cs (S i)).2) ∧ AftR W w w' st ab R (upd S i (jCommit cs (S i)).1) C := by
  have h1 := hC i hi
  have h3 := hs i
  have hxl : xs.length ≤ 1000000 := by have := congrArg List.length hx; rw [List.length_map] at this; omega
  have hch : ChgsP w (fun g => g ≠ (R' i).jb ∧ g ≠ (R' i).db ∧ g ≠ (R' i).mb) lv cs := by rw [← hx]; exact (hr.toP hxl).mono' (fun g hg => by omega)
  rw [← h3.1]
  refine (commit_z (h.j.jz i hi) lv cs hch (by omega) hb).mono ?_
  rintro e w' ⟨rfl, hJ, hg⟩
  exact ⟨rfl, h.aft hs hC hi hJ hg⟩
theorem BatM.set {W w : World} {st : StepP} {ab : Nat} {R R' : Nat → JR} {S : Nat → JS} {C B : Nat} {v : Value} (h : BatM W w st ab 3 R' S) (hs : SameR R' R) (hC : LowR R C) {i : Nat} (hi : i < 3) (k val : List UInt8) (hv : w.ownsRow B 5 1 v val.length (byts val)) (hB : C ≤ B) (hk : k.length ≤ 1073741824) (hl : val.length ≤ 1073741824) :
    Calls Tryd.prog 23 #[.pointer (some ⟨(R i).jb, 0, none⟩), strV k, v] w fun e w' => e = .returned (.int .i64 (jCommit [⟨k, val, false⟩] (S i)).2) ∧ AftR W w w' st ab R (upd S i (jCommit [⟨k, val, false⟩] (S i)).1) C := by
  have h1 := hC i hi
  have h3 := hs i
  rw [← h3.1]
  refine (set_z (h.j.jz i hi) k val v (RdP.own hv (fun g hg _ => by omega)) hk hl).mono ?_
  rintro e w' ⟨rfl, hJ, hg⟩
  exact ⟨rfl, h.aft hs hC hi hJ hg⟩
theorem BatM.drop {W w : World} {st : StepP} {ab : Nat} {R R' : Nat → JR} {S : Nat → JS} {C : Nat} (h : BatM W w st ab 3 R' S) (hs : SameR R' R) (hC : LowR R C) {i : Nat} (hi : i < 3) (k : List UInt8) (hk : k.length ≤ 1073741824) :
    Calls Tryd.prog 22 #[.pointer (some ⟨(R i).jb, 0, none⟩), strV k] w fun e w' => e = .returned (.int .i64 (jCommit [⟨k, [], true⟩] (S i)).2) ∧ AftR W w w' st ab R (upd S i (jCommit [⟨k, [], true⟩] (S i)).1) C := by
  have h1 := hC i hi
  have h3 := hs i
  rw [← h3.1]
  refine (drop_c k w (h.j.jz i hi).jw hk).mono ?_
  rintro e w' ⟨rfl, hJ', hg⟩
  exact ⟨rfl, h.aft hs hC hi ((h.j.jz i hi).act hJ') hg⟩
theorem BatM.cong {W wr : World} {st : StepP} {ab n : Nat} {R : Nat → JR} {S S' : Nat → JS} (h : BatM W wr st ab n R S) (hS : ∀ i, i < n → S i = S' i) : BatM W wr st ab n R S' :=
  ⟨⟨fun i hi => by rw [← hS i hi]; exact h.j.jz i hi, h.j.apart⟩, h.arr, h.box, h.below, h.low⟩
theorem arr3_len (n : Nat) (R : Nat → JR) : (arr3 n R).length = 3 := rfl
theorem arr3_set {n : Nat} (hn : n < 3) (R : Nat → JR) (r : JR) : (arr3 n R).set n (.pointer (some ⟨r.jb, 0, none⟩)) = arr3 (n + 1) (upd R n r) := by
  match n, hn with
  | 0, _ => rfl
  | 1, _ => rfl
  | 2, _ => rfl
/-- one more journal is opened, and laid into the array -/
theorem BatM.more {W wr w2 : World} {st : StepP} {ab n : Nat} {R : Nat → JR} {S : Nat → JS} (h : BatM W wr st ab n R S) (hn : n < 3) (hb : Below wr.heap.size wr w2) {db jb mb : Nat} {s : JS} (hX : JX wr.heap.size w2 db jb mb s) :
    ∃ R', BatM W (w2.setCell ⟨ab, n, none⟩ (.pointer (some ⟨jb, 0, none⟩))) st ab (n + 1) R' (upd S n s) := by
  have hab := h.arr.lt
  have hlow := h.low
  obtain ⟨p, hj⟩ := h.j.snoc hb (by omega) (by omega) hX
  have hg : Grown (fun g => g = ab) w2 (w2.setCell ⟨ab, n, none⟩ (.pointer (some ⟨jb, 0, none⟩))) := Grown.setCell (S := fun g => g = ab) (Grown.refl _ w2) (a := ⟨ab, n, none⟩) rfl _
  refine ⟨_, hj.grown hg (fun g e => ⟨by omega, fun i hi hm => by have := ((hj.jz i hi).memLt hm).1; omega⟩), ?_, (h.box.below hb).grown hg (fun e => by have e : W.heap.size = ab := e; omega), ?_, hlow⟩
  · rw [← arr3_set hn]; exact (h.arr.below hb).set n _
  · exact (h.below.trans (hb.mono h.below.size)).setCell (p := ⟨ab, n, none⟩) (by show W.heap.size ≤ ab; omega) _
/-- the changes' cells -/
theorem ChgRow.at {w : World} {B : Nat} {v : Value} {xs : List (Chg × Value)} (h : ChgRow w B v xs) (hne : xs ≠ []) : ∃ g c, v = .slice (some ⟨g, 0, none⟩) xs.length c ∧ ∀ i (hi : i < xs.length), w.cell? ⟨g, i * 3, none⟩ = some (strV xs[i].1.key) ∧ w.cell? ⟨g, i * 3 + 1, none⟩ = some xs[i].2 ∧ w.cell? ⟨g, i * 3 + 2, none⟩ = some (.bool xs[i].1.drop) := by
  have hr := h.row
  obtain ⟨hl, h2⟩ := h.row
  rcases h2 with ⟨_, e⟩ | ⟨g, cap, cur, rfl, hB, hg, hn, hc, _⟩
  · exact absurd (List.eq_nil_of_length_eq_zero e) hne
  · refine ⟨g, cap, rfl, fun i hi => ⟨?_, ?_, ?_⟩⟩
    · rw [hr.cellAt _ (by omega), show i * 3 = i * 3 + 0 from rfl, crow_get xs i 0 hi (by omega)]; rfl
    · rw [hr.cellAt _ (by omega), crow_get xs i 1 hi (by omega)]; rfl
    · rw [hr.cellAt _ (by omega), crow_get xs i 2 hi (by omega)]; rfl
theorem ix3_0 (x y z : Value) (w : World) : (Instr.index 63 (.agg #[x, y, z]) (.int .i64 0)).run Tryd.prog w = .ok x w := by kernel_rfl
theorem ix3_1 (x y z : Value) (w : World) : (Instr.index 63 (.agg #[x, y, z]) (.int .i64 1)).run Tryd.prog w = .ok y w := by kernel_rfl
theorem ix3_2 (x y z : Value) (w : World) : (Instr.index 63 (.agg #[x, y, z]) (.int .i64 2)).run Tryd.prog w = .ok z w := by kernel_rfl
set_option maxRecDepth 100000 in
set_option maxHeartbeats 8000000 in
/-- the law -/
theorem journalBatch_walk (v0 : Value) (L : List StepP) (last : StepP) (a2 : Int) (W : World) (hs : St W) (h0 : RdS W v0 L) (h1 : last.Ok) (h2 : 0 ≤ a2 ∧ a2 ≤ 255) :
    Calls Tryd.prog 8 #[v0, stepV last, .int .u8 a2] W fun e w' => e = .returned (.bool true) ∧ Below W.heap.size W w' := by
  have HL := Lib.hid h0
  obtain ⟨⟨al, cl, rfl, hcl, hcm, _⟩, _⟩ := h0
  obtain ⟨h20, h21⟩ := h2
  have HO1 := Lib.hid h1
  have hbx : Below W.heap.size W (W.alloc (.cells (stepC last).toArray 36)) := (Below.refl _ W).alloc (Nat.le_refl _) _
  have HBK := Lib.hid (Blk.new W 36 (stepC last))
  have hs0 : St (W.alloc (.cells (stepC last).toArray 36)) := hs.below hbx hs.pos
  have HBX := Lib.hid hbx
  have HWP := Lib.hid hs.pos
  clear hbx hs h1
  obtain ⟨kind, n, a, b, power⟩ := last
  unfold stepV
  unfold stepC at HBX HBK hs0
  simp only at HBX HBK hs0 ⊢
  go_enter Tryd.func8, Tryd.ntmps8
  go_wp2_with fail
  refine (awake_c _ hs0).mono ?_
  rintro e w1 ⟨rfl, hb1⟩
  have hs1 := hs0.below hb1 hs0.pos
  have hB1 := HBX.out.trans (hb1.mono HBX.out.size)
  have hK1 := HBK.out.below hb1
  have hlt1 := hK1.lt
  have hba := (Below.refl w1.heap.size w1).alloc (Nat.le_refl _) (.cells #[.pointer none, .pointer none, .pointer none] 63)
  have hM0 : BatM W (w1.alloc (.cells #[.pointer none, .pointer none, .pointer none] 63)) ⟨kind, n, a, b, power⟩ w1.heap.size 0 (fun _ => ⟨0, 0, 0, fun _ => False⟩) (fun _ => jOpen ⟨-1, [], []⟩) :=
    ⟨J3.none _ _ _ _, Blk.new w1 _ [.pointer none, .pointer none, .pointer none], hK1.below hba, hB1.trans (hba.mono hB1.size), hlt1⟩
  have HM0 := Lib.hid hM0
  have HS0 := Lib.hid (hs1.below hba hs1.pos)
  clear HBX HBK hs0 hb1 hB1 hK1 hba hM0 hs1
  go_upto_region 5 with (fail)
  change Code.wp _ _ _ _ (w1.alloc (.cells #[.pointer none, .pointer none, .pointer none] 63))
  generalize w1.alloc (.cells #[.pointer none, .pointer none, .pointer none] 63) = w2 at *
  generalize w1.heap.size = ab at *
  generalize hst : (⟨kind, n, a, b, power⟩ : StepP) = st at *
  have HST := Lib.hid hst
  clear hst w1
  go_wp2_with fail
  go_loopw [24] (fun iv wr => ∃ (m : Nat) (R : Nat → JR) (S : Nat → JS), m ≤ 3 ∧ iv = .int .i64 m ∧ BatM W wr st ab m R S ∧ Hid (∀ k, S k = jOpen ⟨-1, [], []⟩) ∧ St wr) (fun i _ => 3 - (intOf i).toNat)
  case atStart => exact ⟨0, _, _, by omega, rfl, HM0.out, Lib.hid (fun _ => rfl), HS0.out⟩
  case round =>
    obtain ⟨m, R, S, hm3, rfl, hM, HE, hst⟩ := hrel
    clear HM0 HS0
    have HM := Lib.hid hM
    clear hM
    by_cases hlt : m < 3
    · have b1 : (decide ((m : Int) < 3)) = true := decide_eq_true (by omega)
      go_wp2_with fail
      refine (empty_c wr hst).mono ?_
      rintro e w3 ⟨rfl, hD, hb3⟩
      go_wp2_with fail
      refine (open_x hD (empty_ok (-1) (by decide) (by decide))).mono ?_
      rintro e w4 ⟨jb, mb, rfl, hX4, hb4⟩
      have hb34 := hb3.trans (hb4.mono hb3.size)
      obtain ⟨R', hM4⟩ := HM.out.more hlt hb34 hX4
      have HM4 := Lib.hid hM4
      have hc := (HM.out.arr.below hb34).cell m (by rw [arr3_len]; exact hlt)
      have hf := (HM.out.arr.below hb34).frozen m
      have HST4 := Lib.hid ((hst.below hb34 hst.pos).block ((Grown.setCell (S := fun g => g = ab) (Grown.refl _ w4) (a := ⟨ab, m, none⟩) rfl (.pointer (some ⟨jb, 0, none⟩))).block 0 (Nat.lt_of_lt_of_le hst.pos hb34.size) (fun e => by have h1 : 0 = ab := e; have := HM.out.low; omega)))
      clear hM4 hX4 hb3 hb4 hb34 hD hst
      generalize (arr3 m R).getD m undef = oldv at *
      go_wp2
      go_roundw
      case rel => exact ⟨m + 1, R', _, by omega, by go_num, HM4.out, Lib.hid (fun k => by
        by_cases e : k = m
        · subst e; rw [upd_same]
        · rw [upd_other _ _ e]; exact HE.out k), HST4.out⟩
      case measure => simp [intOf]; omega
    · obtain rfl : m = 3 := by omega
      have b1 : (decide (((3 : Nat) : Int) < 3)) = false := by decide
      clear hlt hst
      generalize wr = w5 at *
      have HM5 : Hid (BatM W w5 st ab 3 R (fun _ => jOpen ⟨-1, [], []⟩)) := Lib.hid (HM.out.cong (fun i _ => HE.out i))
      clear HM HE
      go_upto_block 2 with (fail)
      go_cut [11, 12, 13, 14, 16] from 38 to 66 (fun nv iv cv xv jv wx => ∃ (k : Nat) (R : Nat → JR) (s : JS) (P : PEnts), iv = iv ∧ cv = cv ∧ xv = xv ∧ jv = jv ∧ k ≤ 8 ∧ FS s P 16 ∧ RdT wx nv P ∧ BatM W wx st ab 3 R (fun _ => s))
      case first =>
        go_wp2
        go_loopw [11, 12] (fun nv iv wr => ∃ (k : Nat) (R : Nat → JR) (s : JS) (P : PEnts), k ≤ L.length ∧ k ≤ 8 ∧ iv = .int .i64 k ∧ FS s P (2 * k) ∧ RdT wr nv P ∧ BatM W wr st ab 3 R (fun _ => s)) (fun _ i _ => 8 - (intOf i).toNat)
        case atStart => exact ⟨0, R, _, [], Nat.zero_le _, Nat.zero_le _, rfl, FS.start, RdT.nil _, HM5.out⟩
        case round =>
          obtain ⟨k, R, s, P, hkL, hk8, rfl, hF, hnv, hM⟩ := hrel
          clear HM5
          have HM := Lib.hid hM
          have HF := Lib.hid hF
          have HNV := Lib.hid hnv
          clear hM hF hnv
          by_cases hlt : k < L.length ∧ k < 8
          · obtain ⟨hlt1, hlt2⟩ := hlt
            have b1 : (decide ((k : Int) < (L.length : Nat))) = true := decide_eq_true (by omega)
            have b2 : (decide ((k : Int) < 8)) = true := decide_eq_true (by omega)
            have hLr := HL.out.below rfl HM.out.below
            obtain ⟨⟨a', cap', e, _, _, hc⟩, hLok⟩ := hLr
            simp only [Value.slice.injEq] at e
            obtain ⟨rfl, _, rfl⟩ := e
            rcases hc with hc | ⟨gl, ol, rfl, hgl, hcell⟩
            · rw [hc] at hlt1; simp at hlt1
            have HOK := Lib.hid (hLok L[k] (List.getElem_mem hlt1))
            obtain ⟨q0, q1, q2, q3, q4⟩ := hcell k hlt1
            generalize L[k] = sk at *
            clear hLok hcell
            go_wp2_with fail
            refine (changes_c sk HOK.out u11 P wr HNV.out.rd HF.out.few.ord (by have := HF.out.few.len; omega)).mono ?_
            rintro e w6 ⟨lv, nv2, xs, rfl, hxs, hrow, hnow, hb6⟩
            have hM6 := HM.out.keep hb6
            have hlr := HM.out.lowR
            have hcm := HF.out.commit (by omega) sk
            have hcs : (chAll sk P).length ≤ 1000 ∧ ∀ c ∈ chAll sk P, c.key.length ≤ 1073741824 ∧ c.val.length ≤ 1073741824 := ⟨by have := (chAll_valid sk P).2; omega, fun c hc => by have := (chAll_valid sk P).1.key c hc; have := (chAll_valid sk P).1.val c hc; omega⟩
            have HCS := Lib.hid (And.intro hxs (And.intro hcs (And.intro hcm hlr)))
            have HM6 := Lib.hid hM6
            have HROW := Lib.hid hrow
            have HNOW := Lib.hid (RdT.own hnow)
            have hp0 : w6.cell? ⟨ab, 0, none⟩ = some (.pointer (some ⟨(R 0).jb, 0, none⟩)) := hM6.arr.cell 0 (by show 0 < 3; omega)
            have hp1 : w6.cell? ⟨ab, 1, none⟩ = some (.pointer (some ⟨(R 1).jb, 0, none⟩)) := hM6.arr.cell 1 (by show 1 < 3; omega)
            have hp2 : w6.cell? ⟨ab, 2, none⟩ = some (.pointer (some ⟨(R 2).jb, 0, none⟩)) := hM6.arr.cell 2 (by show 2 < 3; omega)
            obtain ⟨C, hC⟩ : ∃ C, wr.heap.size = C := ⟨_, rfl⟩
            rw [hC] at HROW HCS
            clear hxs hrow hnow hM6 hb6 hlr hcm hcs q0 q1 q2 q3 q4 HM HNV hC
            generalize chAll sk P = cs at *
            go_wp2_with fail
            go_loopw [58] (fun iv wx => ∃ (m : Nat) (R' : Nat → JR) (S : Nat → JS), ((m = 0 ∧ iv = .int .i64 0) ∨ (m = 1 ∧ iv = .int .i64 1) ∨ (m = 2 ∧ iv = .int .i64 2) ∨ (m = 3 ∧ iv = .int .i64 3)) ∧ Hid (∀ i, i < 3 → S i = if i < m then (jCommit cs s).1 else s) ∧ SameR R' R ∧ BatM W wx st ab 3 R' S ∧ ChgRow wx C lv xs ∧ RdT wx nv2 (pChgs P cs)) (fun i _ => 3 - (intOf i).toNat)
            case atStart => exact ⟨0, R, _, by simp, Lib.hid (fun i _ => by simp), SameR.refl R, HM6.out, HROW.out, HNOW.out⟩
            case round =>
              obtain ⟨m, R', S, hmi, HE, hs, hM, hrow, hnow⟩ := hrel
              clear HM6 HROW HNOW
              have HM := Lib.hid hM
              have HROW := Lib.hid hrow
              have HNOW := Lib.hid hnow
              have HS := Lib.hid hs
              clear hM hrow hnow hs
              rcases hmi with ⟨rfl, rfl⟩ | ⟨rfl, rfl⟩ | ⟨rfl, rfl⟩ | ⟨rfl, rfl⟩
              · have hS := HE.out 0 (by omega)
                rw [if_neg (by omega)] at hS
                have hc := HM.out.commit HS.out HCS.out.2.2.2 (i := 0) (by omega) HROW.out (Nat.le_refl _) HCS.out.1 HCS.out.2.1.1 HCS.out.2.1.2
                rw [hS, HCS.out.2.2.1.1] at hc
                have HC := Lib.hid hc
                have hix := ix3_0 (.pointer (some ⟨(R 0).jb, 0, none⟩)) (.pointer (some ⟨(R 1).jb, 0, none⟩)) (.pointer (some ⟨(R 2).jb, 0, none⟩))
                clear hc hS
                go_wp2_with fail
                refine HC.out.mono ?_
                rintro e w8 ⟨rfl, R2, hR2, hM8, hrow8, hrdt8⟩
                have HN8 := Lib.hid (And.intro hR2 (And.intro hM8 (And.intro (hrow8 _ _ _ (Nat.le_refl _) HROW.out) (hrdt8 _ _ HNOW.out))))
                clear hR2 hM8 hrow8 hrdt8 HC
                go_wp2
                go_roundw
                case rel => exact ⟨1, R2, _, by simp, Lib.hid (fun i hi => by
                  by_cases e : i = 0
                  · subst e; rw [upd_same, if_pos (by omega)]
                  · rw [upd_other _ _ e, HE.out i hi]
                    by_cases e2 : i < 0
                    · rw [if_pos e2, if_pos (by omega)]
                    · rw [if_neg e2, if_neg (by omega)]), HN8.out.1, HN8.out.2.1, HN8.out.2.2.1, HN8.out.2.2.2⟩
                case measure => simp [intOf]
              · have hS := HE.out 1 (by omega)
                rw [if_neg (by omega)] at hS
                have hc := HM.out.commit HS.out HCS.out.2.2.2 (i := 1) (by omega) HROW.out (Nat.le_refl _) HCS.out.1 HCS.out.2.1.1 HCS.out.2.1.2
                rw [hS, HCS.out.2.2.1.1] at hc
                have HC := Lib.hid hc
                have hix := ix3_1 (.pointer (some ⟨(R 0).jb, 0, none⟩)) (.pointer (some ⟨(R 1).jb, 0, none⟩)) (.pointer (some ⟨(R 2).jb, 0, none⟩))
                clear hc hS
                go_wp2_with fail
                refine HC.out.mono ?_
                rintro e w8 ⟨rfl, R2, hR2, hM8, hrow8, hrdt8⟩
                have HN8 := Lib.hid (And.intro hR2 (And.intro hM8 (And.intro (hrow8 _ _ _ (Nat.le_refl _) HROW.out) (hrdt8 _ _ HNOW.out))))
                clear hR2 hM8 hrow8 hrdt8 HC
                go_wp2
                go_roundw
                case rel => exact ⟨2, R2, _, by simp, Lib.hid (fun i hi => by
                  by_cases e : i = 1
                  · subst e; rw [upd_same, if_pos (by omega)]
                  · rw [upd_other _ _ e, HE.out i hi]
                    by_cases e2 : i < 1
                    · rw [if_pos e2, if_pos (by omega)]
                    · rw [if_neg e2, if_neg (by omega)]), HN8.out.1, HN8.out.2.1, HN8.out.2.2.1, HN8.out.2.2.2⟩
                case measure => simp [intOf]
              · have hS := HE.out 2 (by omega)
                rw [if_neg (by omega)] at hS
                have hc := HM.out.commit HS.out HCS.out.2.2.2 (i := 2) (by omega) HROW.out (Nat.le_refl _) HCS.out.1 HCS.out.2.1.1 HCS.out.2.1.2
                rw [hS, HCS.out.2.2.1.1] at hc
                have HC := Lib.hid hc
                have hix := ix3_2 (.pointer (some ⟨(R 0).jb, 0, none⟩)) (.pointer (some ⟨(R 1).jb, 0, none⟩)) (.pointer (some ⟨(R 2).jb, 0, none⟩))
                clear hc hS
                go_wp2_with fail
                refine HC.out.mono ?_
                rintro e w8 ⟨rfl, R2, hR2, hM8, hrow8, hrdt8⟩
                have HN8 := Lib.hid (And.intro hR2 (And.intro hM8 (And.intro (hrow8 _ _ _ (Nat.le_refl _) HROW.out) (hrdt8 _ _ HNOW.out))))
                clear hR2 hM8 hrow8 hrdt8 HC
                go_wp2
                go_roundw
                case rel => exact ⟨3, R2, _, by simp, Lib.hid (fun i hi => by
                  by_cases e : i = 2
                  · subst e; rw [upd_same, if_pos (by omega)]
                  · rw [upd_other _ _ e, HE.out i hi]
                    by_cases e2 : i < 2
                    · rw [if_pos e2, if_pos (by omega)]
                    · rw [if_neg e2, if_neg (by omega)]), HN8.out.1, HN8.out.2.1, HN8.out.2.2.1, HN8.out.2.2.2⟩
                case measure => simp [intOf]
              · have HF2 := Lib.hid HCS.out.2.2.1.2
                have HM2 : Hid (BatM W wr st ab 3 R' (fun _ => (jCommit cs s).1)) := Lib.hid (HM.out.cong (fun i hi => by rw [HE.out i hi, if_pos hi]))
                go_wp2
                go_roundw
                case rel => exact ⟨k + 1, R', _, _, by omega, by omega, by go_num, HF2.out, HNOW.out, HM2.out⟩
                case measure => simp [intOf]; omega
          · have HFIN := Lib.hid (And.intro (show FS s P 16 from ⟨HF.out.live, HF.out.pw, HF.out.ents, Nat.le_trans HF.out.gen (by omega), HF.out.few⟩) (And.intro HNV.out HM.out))
            by_cases hl1 : k < L.length
            · have hl2 : ¬ k < 8 := fun h => hlt ⟨hl1, h⟩
              have b1 : (decide ((k : Int) < (L.length : Nat))) = true := decide_eq_true (by omega)
              have b2 : (decide ((k : Int) < 8)) = false := decide_eq_false (by omega)
              have b3 : ¬ ((k : Int) < 8) := by omega
              clear hlt
              go_wp2_with fail
              go_meet
              exact ⟨k, R, s, P, trivial, trivial, trivial, trivial, hk8, HFIN.out⟩
            · have b1 : (decide ((k : Int) < (L.length : Nat))) = false := decide_eq_false (by omega)
              have b3 : ¬ ((k : Int) < (L.length : Nat)) := by omega
              clear hlt
              go_wp2_with fail
              go_meet
              exact ⟨k, R, s, P, trivial, trivial, trivial, trivial, hk8, HFIN.out⟩
      case rest =>
        obtain ⟨k, R, s, P, _, _, _, _, hk8, hF, hnv, hM⟩ := hcut
        clear HM5
        generalize wc = w6 at *
        have HM := Lib.hid hM
        have HF := Lib.hid hF
        have HNV := Lib.hid hnv
        obtain ⟨q0, q1, q2, q3, q4⟩ := step_cells hM.box
        clear hM hF hnv
        go_wp2_with fail
        refine (changes_c st HO1.out u11 P w6 HNV.out.rd HF.out.few.ord (by have := HF.out.few.len; omega)).mono ?_
        rintro e w7 ⟨lv, nv2, xs, rfl, hxs, hrow, hnow, hb7⟩
        have hlr := HM.out.lowR
        obtain ⟨C, hC⟩ : ∃ C, w6.heap.size = C := ⟨_, rfl⟩
        rw [hC] at hrow hlr
        have hxl : xs.length = (chAll st P).length := by rw [← hxs, List.length_map]
        have hxb := (chAll_valid st P).2
        obtain ⟨g, cap, rfl, hcap, hcmx, hsrc⟩ := hrow.src (fun e => by rw [e] at hxl; simp at hxl; omega)
        have HM7 := Lib.hid (HM.out.keep hb7)
        have HROW := Lib.hid hrow
        have HNOW := Lib.hid (RdT.own hnow)
        have HLR := Lib.hid hlr
        have hC7 : C ≤ w7.heap.size := by rw [← hC]; exact hb7.size
        have HXS := Lib.hid hxs
        obtain ⟨kk, hkk, hkl⟩ : ∃ kk : Nat, a2.tmod (xs.length : Int) = (kk : Int) ∧ kk < xs.length := by
          refine ⟨(a2 % (xs.length : Int)).toNat, ?_, ?_⟩
          · rw [Int.tmod_eq_emod_of_nonneg h20, Int.toNat_of_nonneg (Int.emod_nonneg _ (by omega))]
          · have := Int.emod_lt_of_pos a2 (show (0 : Int) < xs.length by omega); have := Int.emod_nonneg a2 (show (xs.length : Int) ≠ 0 by omega); omega
        have hwp : IntKind.i64.wrap a2 = a2 := IntWalk.i64_in _ (by omega)
        have hx0 : 0 < xs.length := by omega
        have hx4 : xs.length ≤ 4 := by omega
        have HS1 := Lib.hid (hsrc kk (by omega)).1
        have HS2 := Lib.hid ((hsrc kk (by omega)).2 hkl)
        clear hxs hrow hnow hlr hsrc hb7 HM HNV q0 q1 q2 q3 q4 hC hxl hxb
        have hck : ¬ cap = kk := by omega
        have hkc : kk ≤ cap := by omega
        have hp7 : (kk : Int) ≤ (xs.length : Int) := by omega
        have hp8 : kk ≤ xs.length := by omega
        have hX : Below w7.heap.size w7 (w7.alloc (.cells #[] 65)) := (Below.refl _ w7).alloc (Nat.le_refl _) _
        have hOa : (w7.alloc (.cells #[] 65)).ownsRow w7.heap.size 65 3 (.slice (some ⟨w7.heap.size, 0, none⟩) 0 0) ([] : List (Chg × Value)).length (crow []) := World.ownsRow_made w7 #[] 0 (Nat.le_refl _) (by unfold maxLen; omega) rfl
        have hOa := hOa.drew
        have hBa : Below w7.heap.size w7 (w7.alloc (.cells #[] 65)).drew := undrew' hX
        have HONE := Lib.hid (show (∀ p ∈ xs.drop kk, p.2.oneCell' = true) ∧ (∀ p ∈ xs.take kk, p.2.oneCell' = true) from ⟨fun p hp => own_oneCell (HROW.out.val p (List.mem_of_mem_drop hp)), fun p hp => own_oneCell (HROW.out.val p (List.mem_of_mem_take hp))⟩)
        have HT1 : Hid (∀ W, Below w7.heap.size w7 W → CSrc W (.slice (some ⟨g, kk * 3, none⟩) (xs.length - kk) (cap - kk)) (xs.drop kk)) := Lib.hid (fun W hb => HS2.out.below hb)
        have HT2 : Hid (∀ W, Below w7.heap.size w7 W → CSrc W (.slice (some ⟨g, 0, none⟩) kk cap) (xs.take kk)) := Lib.hid (fun W hb => HS1.out.below hb)
        clear hX
        go_upto_region 26 with (fail)
        go_region_held3 (fun _ => True) (trivial)
          (first
            | (have _t := HT1; clear _t; go_must (refine step_appC rfl _ _ rfl w7.heap.size (.slice (some ⟨w7.heap.size, 0, none⟩) 0 0) [] rfl hOa (.slice (some ⟨g, kk * 3, none⟩) (xs.length - kk) (cap - kk)) (xs.drop kk) rfl (HT1.out _ hBa) HONE.out.1 (by simp; omega) hBa.size ?_); intro v8 w8 hn8 hb8
               have hn8 : w8.ownsRow w7.heap.size 65 3 v8 (xs.drop kk).length (crow (xs.drop kk)) := hn8
               have hB8 : Below w7.heap.size w7 w8 := hBa.trans hb8
               clear HT1)
            | (go_must (refine step_appC rfl _ _ rfl w7.heap.size v8 (xs.drop kk) rfl hn8 (.slice (some ⟨g, 0, none⟩) kk cap) (xs.take kk) rfl (HT2.out _ hB8) HONE.out.2 (by simp; omega) hB8.size ?_); intro v9 w9 hn9 hb9
               have hB9 : Below w7.heap.size w7 w9 := hB8.trans hb9))
        have HROW9 := Lib.hid (HROW.out.grown (Grown.of_below hB9 (S := fun _ => False)) (fun _ _ _ h => h))
        have HTR : Hid (ChgRow w9 C v9 (xs.drop kk ++ xs.take kk)) := Lib.hid ⟨own_mono hn9 hC7, fun p hp => HROW9.out.val p (by rcases List.mem_append.1 hp with hp | hp; exact List.mem_of_mem_drop hp; exact List.mem_of_mem_take hp)⟩
        have hpm : (xs.drop kk ++ xs.take kk).Perm xs := by
          have h := List.perm_append_comm (l₁ := xs.drop kk) (l₂ := xs.take kk)
          rwa [List.take_append_drop] at h
        have HNOW9 := Lib.hid (HNOW.out.below hB9)
        have HM9 := Lib.hid (HM7.out.keep hB9)
        clear hn8 hb8 hB8 hn9 hb9 hB9 HROW HNOW HM7 HT2 HONE HS1 HS2 hOa hBa
        generalize hys : xs.drop kk ++ xs.take kk = ys at *
        have hyl : ys.length = xs.length := hpm.length_eq
        obtain ⟨tg, tc, rfl, htc⟩ := HTR.out.at (fun e => by rw [e] at hyl; have : 0 = xs.length := hyl; omega)
        clear htc
        have HPM : Hid ((chAll st P).Perm (ys.map (·.1))) := Lib.hid (by rw [← HXS.out]; exact (hpm.map _).symm)
        have hcm := HF.out.commit (by omega) st
        have hpc := HF.out.perm (by omega) st HPM.out
        have HCM := Lib.hid (And.intro hcm hpc)
        have hcs : (chAll st P).length ≤ 1000 ∧ ∀ c ∈ chAll st P, c.key.length ≤ 1073741824 ∧ c.val.length ≤ 1073741824 := ⟨by have := (chAll_valid st P).2; omega, fun c hc => by have := (chAll_valid st P).1.key c hc; have := (chAll_valid st P).1.val c hc; omega⟩
        have HCS := Lib.hid hcs
        have hc0 := HM9.out.commit (SameR.refl R) HLR.out (i := 0) (by omega) HROW9.out (Nat.le_refl _) HXS.out hcs.1 hcs.2
        rw [hcm.1] at hc0
        have HC0 := Lib.hid hc0
        have p0 : w9.cell? ⟨ab, 0, none⟩ = some (.pointer (some ⟨(R 0).jb, 0, none⟩)) := HM9.out.arr.cell 0 (by show 0 < 3; omega)
        have HYL := Lib.hid hyl
        have HPM2 := Lib.hid hpm
        clear hcm hpc hcs hc0 hyl hpm hkk hwp hck hkc hp7 hp8 hkl hC7 hcap hcmx hys
        go_wp2_with fail
        refine HC0.out.mono ?_
        rintro e w10 ⟨rfl, R1, hR1, hM10, hrow10, hrdt10⟩
        have hc1 := hM10.commit hR1 HLR.out (i := 1) (by omega) (hrow10 _ _ _ (Nat.le_refl _) HTR.out) (Nat.le_refl _) rfl (by rw [← HPM.out.length_eq]; exact HCS.out.1) (fun c hc => HCS.out.2 c (HPM.out.mem_iff.2 hc))
        rw [upd_other _ _ (by omega), HCM.out.2.1] at hc1
        have HC1 := Lib.hid hc1
        have p1 : w10.cell? ⟨ab, 1, none⟩ = some (.pointer (some ⟨(R 1).jb, 0, none⟩)) := by rw [← (hR1 1).1]; exact hM10.arr.cell 1 (by show 1 < 3; omega)
        have HN10 := Lib.hid (And.intro (hrow10 _ _ _ (Nat.le_refl _) HTR.out) (hrdt10 _ _ HNOW9.out))
        clear hR1 hM10 hrow10 hrdt10 hc1 HC0 HROW9 HTR HNOW9 HM9 p0
        go_wp2_with fail
        refine HC1.out.mono ?_
        rintro e w11 ⟨rfl, R2, hR2, hM11, hrow11, hrdt11⟩
        have HN11 := Lib.hid (And.intro hR2 (And.intro hM11 (And.intro (hrow11 _ _ _ (Nat.le_refl _) HN10.out.1) (hrdt11 _ _ HN10.out.2))))
        clear hR2 hM11 hrow11 hrdt11 HC1 HN10 p1
        have HFACT : Hid (∀ (i : Nat) (S2 : JS) (hi : i < ys.length), TS P (ys.map (·.1)) S2 i 16 → (jCommit [ys[i].1] S2).2 = 0 ∧ TS P (ys.map (·.1)) (jCommit [ys[i].1] S2).1 (i + 1) 16) := Lib.hid (by
          intro i S2 hi hts
          have hl : i < (ys.map (·.1)).length := by rw [List.length_map]; exact hi
          have h4 : i ≤ 4 := by have := HYL.out; omega
          have hms := may_step HF.out.live HF.out.ents HF.out.few st
          have h := hts.next hl HF.out.few (fun c hc => chList_few c (HPM.out.mem_iff.2 hc)) ((chAll_valid st P).1.perm HPM.out) (fun c hc hd => by have := hms.there c (HPM.out.mem_iff.2 hc) hd; rwa [HF.out.ents] at this) (by omega)
          rwa [List.getElem_map] at h)
        have HVD : Hid (∀ (i : Nat) (hi : i < ys.length), ys[i].1.key.length ≤ 40 ∧ ys[i].1.val.length ≤ 4096 ∧ (ys[i].1.drop = true → ys[i].1.val = [])) := Lib.hid (fun i hi => by
          have hv := (chAll_valid st P).1.perm HPM.out
          have hm : ys[i].1 ∈ ys.map (·.1) := List.mem_map.2 ⟨_, List.getElem_mem hi, rfl⟩
          exact ⟨(hv.key _ hm).2, hv.val _ hm, hv.drop _ hm⟩)
        have HTS0 : Hid (TS P (ys.map (·.1)) s 0 16) := Lib.hid ⟨HF.out.live, HF.out.pw, HF.out.ents, HF.out.gen⟩
        have hy4 : ys.length ≤ 4 := by rw [HYL.out]; exact hx4
        have HP2 := Lib.hid (HF.out.few.all st)
        go_wp2_with fail
        go_loopw [21] (fun iv wx => ∃ (i : Nat) (R' : Nat → JR) (S : Nat → JS), i ≤ ys.length ∧ iv = .int .i64 i ∧ SameR R' R ∧ BatM W wx st ab 3 R' S ∧ Hid (S 0 = (jCommit (chAll st P) s).1 ∧ S 1 = (jCommit (ys.map (·.1)) s).1) ∧ TS P (ys.map (·.1)) (S 2) i 16 ∧ ChgRow wx C (.slice (some ⟨tg, 0, none⟩) ys.length tc) ys ∧ RdT wx nv2 (pChgs P (chAll st P))) (fun i _ => ys.length - (intOf i).toNat)
        case atStart => exact ⟨0, R2, _, Nat.zero_le _, rfl, HN11.out.1, HN11.out.2.1, Lib.hid ⟨by rw [upd_other _ _ (by omega), upd_same], by rw [upd_same]⟩, by rw [upd_other _ _ (by omega), upd_other _ _ (by omega)]; exact HTS0.out, HN11.out.2.2.1, HN11.out.2.2.2⟩
        case round =>
          obtain ⟨i, R', S, hiL, rfl, hs, hM, HSS, hts, hrow, hnow⟩ := hrel
          clear HN11 HTS0
          have HM := Lib.hid hM
          have HSR := Lib.hid hs
          have HTS := Lib.hid hts
          have HROW := Lib.hid hrow
          have HNOW := Lib.hid hnow
          clear hM hs hts hrow hnow
          by_cases hlt : i < ys.length
          · have b1 : (decide ((i : Int) < (ys.length : Int))) = true := decide_eq_true (by omega)
            have p2 : wr.cell? ⟨ab, 2, none⟩ = some (.pointer (some ⟨(R 2).jb, 0, none⟩)) := by rw [← (HSR.out 2).1]; exact HM.out.arr.cell 2 (by show 2 < 3; omega)
            have HCELLS : Hid (∀ w : World, ChgRow w C (.slice (some ⟨tg, 0, none⟩) ys.length tc) ys → w.cell? ⟨tg, i * 3, none⟩ = some (strV ys[i].1.key) ∧ w.cell? ⟨tg, i * 3 + 1, none⟩ = some ys[i].2 ∧ w.cell? ⟨tg, i * 3 + 2, none⟩ = some (.bool ys[i].1.drop)) := Lib.hid (fun w h => by
              obtain ⟨g', c', e, hc⟩ := h.at (fun e => by rw [e] at hlt; simp at hlt)
              simp only [Value.slice.injEq, Option.some.injEq, Addr.mk.injEq, and_true, true_and] at e
              obtain ⟨rfl, _⟩ := e
              exact hc i hlt)
            obtain ⟨r0, r1, r2⟩ := HCELLS.out wr HROW.out
            have hnx := HFACT.out i (S 2) hlt HTS.out
            obtain ⟨v1, v2, v3⟩ := HVD.out i hlt
            have HRD := Lib.hid (And.intro (show ChgRow wr.drew C (.slice (some ⟨tg, 0, none⟩) ys.length tc) ys from HROW.out.grown (Grown.of_below (below_drew wr) (S := fun _ => False)) (fun _ _ _ h => h)) (HNOW.out.below (below_drew wr)))
            have hMd := HM.out.keep (below_drew wr)
            have hyv := HRD.out.1.val ys[i] (List.getElem_mem hlt)
            generalize ys[i] = y at *
            obtain ⟨⟨key, val, drop⟩, yv⟩ := y
            simp only at r0 r1 r2 hnx v1 v2 v3 hyv HCELLS
            cases drop with
            | true =>
              obtain rfl : val = [] := v3 rfl
              have hc := hMd.drop HSR.out HLR.out (i := 2) (by omega) key (by omega)
              rw [hnx.1] at hc
              have HC := Lib.hid hc
              have HNX := Lib.hid hnx.2
              clear hc hnx hMd hyv v1 v2 v3
              have HAFT : Hid (∀ (w12 : World) (R3 : Nat → JR) (S3 : Nat → JS), SameR R3 R → BatM W w12 st ab 3 R3 S3 → (∀ B lv xs, C ≤ B → ChgRow wr.drew B lv xs → ChgRow w12 B lv xs) → ChgRow w12 C (.slice (some ⟨tg, 0, none⟩) ys.length tc) ys ∧ (w12.cell? ⟨tg, i * 3, none⟩ = some (strV key) ∧ w12.cell? ⟨tg, i * 3 + 1, none⟩ = some yv ∧ w12.cell? ⟨tg, i * 3 + 2, none⟩ = some (.bool true)) ∧ w12.cell? ⟨ab, 2, none⟩ = some (.pointer (some ⟨(R 2).jb, 0, none⟩))) := Lib.hid (fun w12 R3 S3 hR3 hM12 hrow12 =>
                have hrw := hrow12 _ _ _ (Nat.le_refl _) HRD.out.1
                ⟨hrw, HCELLS.out w12 hrw, by rw [← (hR3 2).1]; exact hM12.arr.cell 2 (by show 2 < 3; omega)⟩)
              go_upto_region 32 with (fail)
              refine wp_region_call' (by kernel_rfl) 13 105 145 [.slice (some ⟨tg, 0, none⟩) ys.length tc, .int .i64 (i : Int), .pointer (some ⟨tg, i * 3, none⟩), .pointer (some ⟨tg, i * 3 + 2, none⟩), .bool true, .bool true, .pointer (some ⟨ab, 2, none⟩), .pointer (some ⟨(R 2).jb, 0, none⟩), .slice (some ⟨tg, 0, none⟩) ys.length tc, .int .i64 (i : Int), .pointer (some ⟨tg, i * 3, none⟩), .pointer (some ⟨tg, i * 3, none⟩), strV key, .int .i64 0, .bool false, .bool false, .bool false, .slice (some ⟨tg, 0, none⟩) ys.length tc, .int .i64 (i : Int), .pointer (some ⟨tg, i * 3, none⟩), .pointer (some ⟨tg, i * 3 + 2, none⟩), .bool true, .bool false, .bool false, undef, undef, undef, undef, undef, undef, undef, undef, undef, undef, undef, undef, undef, undef, .bool false, .bool false] (fun w' => AftR W wr.drew w' st ab R (upd S 2 (jCommit [⟨key, [], true⟩] (S 2)).1) C) (by kernel_rfl) (by kernel_rfl) rfl (by kernel_rfl) rfl rfl (Nat.le_of_ble_eq_true (by kernel_rfl)) ?_ (by kernel_rfl) 22 #[.pointer (some ⟨(R 2).jb, 0, none⟩), strV key] (by kernel_rfl) HC.out ?_
              · intro w' hw'
                have hcel : (w'.cell? ⟨tg, i * 3, none⟩ = some (strV key) ∧ w'.cell? ⟨tg, i * 3 + 1, none⟩ = some yv ∧ w'.cell? ⟨tg, i * 3 + 2, none⟩ = some (.bool true)) ∧ w'.cell? ⟨ab, 2, none⟩ = some (.pointer (some ⟨(R 2).jb, 0, none⟩)) := by
                  rcases hw' with rfl | ⟨R3, hR3, hM12, hrow12, _⟩
                  · exact ⟨⟨r0, r1, r2⟩, p2⟩
                  · exact (HAFT.out w' R3 _ hR3 hM12 hrow12).2
                obtain ⟨⟨x0, x1, x2⟩, x3⟩ := hcel
                constructor
                · refine GvAll.run (by kernel_rfl) (by kernel_rfl) ?_
                  refine GvAll.run (by kernel_rfl) (by kernel_rfl) ?_
                  refine GvAll.run (by kernel_rfl) (xo_at _ _ _ _ _ _ _ _ tg ys.length tc i _ (by kernel_rfl) (by kernel_rfl) hlt) ?_
                  refine GvAll.run (by kernel_rfl) (by kernel_rfl) ?_
                  refine GvAll.run (by kernel_rfl) (xo_bool _ _ _ _ _ _ _ _ _ _ (by kernel_rfl) x2) ?_
                  refine GvAll.run (by kernel_rfl) (by kernel_rfl) ?_
                  refine GvAll.run (by kernel_rfl) (by kernel_rfl) ?_
                  refine GvAll.run (by kernel_rfl) (xo_jptr _ _ _ _ _ _ _ _ _ _ (by kernel_rfl) x3) ?_
                  refine GvAll.run (by kernel_rfl) (by kernel_rfl) ?_
                  refine GvAll.run (by kernel_rfl) (by kernel_rfl) ?_
                  refine GvAll.run (by kernel_rfl) (xo_at _ _ _ _ _ _ _ _ tg ys.length tc i _ (by kernel_rfl) (by kernel_rfl) hlt) ?_
                  refine GvAll.run (by kernel_rfl) (by kernel_rfl) ?_
                  refine GvAll.run (by kernel_rfl) (xo_str _ _ _ _ _ _ _ _ _ _ (by kernel_rfl) x0) ?_
                  exact GvAll.nil
                · refine GvAll.run (by kernel_rfl) (by kernel_rfl) ?_
                  refine GvAll.run (by kernel_rfl) (by kernel_rfl) ?_
                  refine GvAll.run (by kernel_rfl) (by kernel_rfl) ?_
                  refine GvAll.run (by kernel_rfl) (by kernel_rfl) ?_
                  refine GvAll.run (by kernel_rfl) (by kernel_rfl) ?_
                  refine GvAll.run (by kernel_rfl) (xo_at _ _ _ _ _ _ _ _ tg ys.length tc i _ (by kernel_rfl) (by kernel_rfl) hlt) ?_
                  refine GvAll.run (by kernel_rfl) (by kernel_rfl) ?_
                  refine GvAll.run (by kernel_rfl) (xo_bool _ _ _ _ _ _ _ _ _ _ (by kernel_rfl) x2) ?_
                  refine GvAll.run (by kernel_rfl) (by kernel_rfl) ?_
                  refine GvAll.run (by kernel_rfl) (by kernel_rfl) ?_
                  refine GvAll.skip (by kernel_rfl) (by kernel_rfl) ?_
                  refine GvAll.skip (by kernel_rfl) (by kernel_rfl) ?_
                  refine GvAll.skip (by kernel_rfl) (by kernel_rfl) ?_
                  refine GvAll.skip (by kernel_rfl) (by kernel_rfl) ?_
                  refine GvAll.skip (by kernel_rfl) (by kernel_rfl) ?_
                  refine GvAll.skip (by kernel_rfl) (by kernel_rfl) ?_
                  refine GvAll.skip (by kernel_rfl) (by kernel_rfl) ?_
                  refine GvAll.skip (by kernel_rfl) (by kernel_rfl) ?_
                  refine GvAll.skip (by kernel_rfl) (by kernel_rfl) ?_
                  refine GvAll.skip (by kernel_rfl) (by kernel_rfl) ?_
                  refine GvAll.skip (by kernel_rfl) (by kernel_rfl) ?_
                  refine GvAll.skip (by kernel_rfl) (by kernel_rfl) ?_
                  refine GvAll.skip (by kernel_rfl) (by kernel_rfl) ?_
                  refine GvAll.skip (by kernel_rfl) (by kernel_rfl) ?_
                  refine GvAll.run (by kernel_rfl) (by kernel_rfl) ?_
                  refine GvAll.run (by kernel_rfl) (by kernel_rfl) ?_
                  exact GvAll.nil
              · intro L' hL' w12 hR
                obtain ⟨R3, hR3, hM12, hrow12, hrdt12⟩ := hR
                have hrw := hrow12 _ _ _ (Nat.le_refl _) HRD.out.1
                have HR := Lib.hid (And.intro hR3 (And.intro hM12 (And.intro hrw (hrdt12 _ _ HRD.out.2))))
                clear hR3 hM12 hrow12 hrdt12 hrw r0 r1 r2 p2 HC
                simp only [List.take_succ_cons, List.take_zero, List.drop_succ_cons, List.drop_zero, List.cons_append, List.nil_append] at hL'
                subst hL'
                go_wp2
                go_roundw
                case rel => exact ⟨i + 1, R3, _, by omega, by go_num, HR.out.1, HR.out.2.1, Lib.hid (by rw [upd_other _ _ (by omega), upd_other _ _ (by omega)]; exact HSS.out), by rw [upd_same]; exact HNX.out, HR.out.2.2.1, HR.out.2.2.2⟩
                case measure => simp [intOf]; omega
            | false =>
              have hc := hMd.set HSR.out HLR.out (i := 2) (by omega) key val hyv (Nat.le_refl _) (by omega) (by omega)
              rw [hnx.1] at hc
              have HC := Lib.hid hc
              have HNX := Lib.hid hnx.2
              clear hc hnx hMd hyv v1 v2 v3
              have HAFT : Hid (∀ (w12 : World) (R3 : Nat → JR) (S3 : Nat → JS), SameR R3 R → BatM W w12 st ab 3 R3 S3 → (∀ B lv xs, C ≤ B → ChgRow wr.drew B lv xs → ChgRow w12 B lv xs) → ChgRow w12 C (.slice (some ⟨tg, 0, none⟩) ys.length tc) ys ∧ (w12.cell? ⟨tg, i * 3, none⟩ = some (strV key) ∧ w12.cell? ⟨tg, i * 3 + 1, none⟩ = some yv ∧ w12.cell? ⟨tg, i * 3 + 2, none⟩ = some (.bool false)) ∧ w12.cell? ⟨ab, 2, none⟩ = some (.pointer (some ⟨(R 2).jb, 0, none⟩))) := Lib.hid (fun w12 R3 S3 hR3 hM12 hrow12 =>
                have hrw := hrow12 _ _ _ (Nat.le_refl _) HRD.out.1
                ⟨hrw, HCELLS.out w12 hrw, by rw [← (hR3 2).1]; exact hM12.arr.cell 2 (by show 2 < 3; omega)⟩)
              go_upto_region 32 with (fail)
              refine wp_region_call' (by kernel_rfl) 36 105 145 [.slice (some ⟨tg, 0, none⟩) ys.length tc, .int .i64 (i : Int), .pointer (some ⟨tg, i * 3, none⟩), .pointer (some ⟨tg, i * 3 + 2, none⟩), .bool false, .bool false, undef, undef, undef, undef, undef, undef, undef, undef, undef, .bool false, .bool false, .slice (some ⟨tg, 0, none⟩) ys.length tc, .int .i64 (i : Int), .pointer (some ⟨tg, i * 3, none⟩), .pointer (some ⟨tg, i * 3 + 2, none⟩), .bool false, .bool true, .bool true, .pointer (some ⟨ab, 2, none⟩), .pointer (some ⟨(R 2).jb, 0, none⟩), .slice (some ⟨tg, 0, none⟩) ys.length tc, .int .i64 (i : Int), .pointer (some ⟨tg, i * 3, none⟩), .pointer (some ⟨tg, i * 3, none⟩), strV key, .slice (some ⟨tg, 0, none⟩) ys.length tc, .int .i64 (i : Int), .pointer (some ⟨tg, i * 3, none⟩), .pointer (some ⟨tg, i * 3 + 1, none⟩), yv, .int .i64 0, .bool false, .bool false, .bool false] (fun w' => AftR W wr.drew w' st ab R (upd S 2 (jCommit [⟨key, val, false⟩] (S 2)).1) C) (by kernel_rfl) (by kernel_rfl) rfl (by kernel_rfl) rfl rfl (Nat.le_of_ble_eq_true (by kernel_rfl)) ?_ (by kernel_rfl) 23 #[.pointer (some ⟨(R 2).jb, 0, none⟩), strV key, yv] (by kernel_rfl) HC.out ?_
              · intro w' hw'
                have hcel : (w'.cell? ⟨tg, i * 3, none⟩ = some (strV key) ∧ w'.cell? ⟨tg, i * 3 + 1, none⟩ = some yv ∧ w'.cell? ⟨tg, i * 3 + 2, none⟩ = some (.bool false)) ∧ w'.cell? ⟨ab, 2, none⟩ = some (.pointer (some ⟨(R 2).jb, 0, none⟩)) := by
                  rcases hw' with rfl | ⟨R3, hR3, hM12, hrow12, _⟩
                  · exact ⟨⟨r0, r1, r2⟩, p2⟩
                  · exact (HAFT.out w' R3 _ hR3 hM12 hrow12).2
                obtain ⟨⟨x0, x1, x2⟩, x3⟩ := hcel
                constructor
                · refine GvAll.run (by kernel_rfl) (by kernel_rfl) ?_
                  refine GvAll.run (by kernel_rfl) (by kernel_rfl) ?_
                  refine GvAll.run (by kernel_rfl) (xo_at _ _ _ _ _ _ _ _ tg ys.length tc i _ (by kernel_rfl) (by kernel_rfl) hlt) ?_
                  refine GvAll.run (by kernel_rfl) (by kernel_rfl) ?_
                  refine GvAll.run (by kernel_rfl) (xo_bool _ _ _ _ _ _ _ _ _ _ (by kernel_rfl) x2) ?_
                  refine GvAll.run (by kernel_rfl) (by kernel_rfl) ?_
                  refine GvAll.skip (by kernel_rfl) (by kernel_rfl) ?_
                  refine GvAll.skip (by kernel_rfl) (by kernel_rfl) ?_
                  refine GvAll.skip (by kernel_rfl) (by kernel_rfl) ?_
                  refine GvAll.skip (by kernel_rfl) (by kernel_rfl) ?_
                  refine GvAll.skip (by kernel_rfl) (by kernel_rfl) ?_
                  refine GvAll.skip (by kernel_rfl) (by kernel_rfl) ?_
                  refine GvAll.skip (by kernel_rfl) (by kernel_rfl) ?_
                  refine GvAll.skip (by kernel_rfl) (by kernel_rfl) ?_
                  refine GvAll.skip (by kernel_rfl) (by kernel_rfl) ?_
                  refine GvAll.run (by kernel_rfl) (by kernel_rfl) ?_
                  refine GvAll.run (by kernel_rfl) (by kernel_rfl) ?_
                  refine GvAll.run (by kernel_rfl) (by kernel_rfl) ?_
                  refine GvAll.run (by kernel_rfl) (by kernel_rfl) ?_
                  refine GvAll.run (by kernel_rfl) (xo_at _ _ _ _ _ _ _ _ tg ys.length tc i _ (by kernel_rfl) (by kernel_rfl) hlt) ?_
                  refine GvAll.run (by kernel_rfl) (by kernel_rfl) ?_
                  refine GvAll.run (by kernel_rfl) (xo_bool _ _ _ _ _ _ _ _ _ _ (by kernel_rfl) x2) ?_
                  refine GvAll.run (by kernel_rfl) (by kernel_rfl) ?_
                  refine GvAll.run (by kernel_rfl) (by kernel_rfl) ?_
                  refine GvAll.run (by kernel_rfl) (by kernel_rfl) ?_
                  refine GvAll.run (by kernel_rfl) (xo_jptr _ _ _ _ _ _ _ _ _ _ (by kernel_rfl) x3) ?_
                  refine GvAll.run (by kernel_rfl) (by kernel_rfl) ?_
                  refine GvAll.run (by kernel_rfl) (by kernel_rfl) ?_
                  refine GvAll.run (by kernel_rfl) (xo_at _ _ _ _ _ _ _ _ tg ys.length tc i _ (by kernel_rfl) (by kernel_rfl) hlt) ?_
                  refine GvAll.run (by kernel_rfl) (by kernel_rfl) ?_
                  refine GvAll.run (by kernel_rfl) (xo_str _ _ _ _ _ _ _ _ _ _ (by kernel_rfl) x0) ?_
                  refine GvAll.run (by kernel_rfl) (by kernel_rfl) ?_
                  refine GvAll.run (by kernel_rfl) (by kernel_rfl) ?_
                  refine GvAll.run (by kernel_rfl) (xo_at _ _ _ _ _ _ _ _ tg ys.length tc i _ (by kernel_rfl) (by kernel_rfl) hlt) ?_
                  refine GvAll.run (by kernel_rfl) (by kernel_rfl) ?_
                  refine GvAll.run (by kernel_rfl) (xo_bytes _ _ _ _ _ _ _ _ _ _ (by kernel_rfl) x1) ?_
                  exact GvAll.nil
                · refine GvAll.run (by kernel_rfl) (by kernel_rfl) ?_
                  refine GvAll.run (by kernel_rfl) (by kernel_rfl) ?_
                  refine GvAll.run (by kernel_rfl) (by kernel_rfl) ?_
                  exact GvAll.nil
              · intro L' hL' w12 hR
                obtain ⟨R3, hR3, hM12, hrow12, hrdt12⟩ := hR
                have hrw := hrow12 _ _ _ (Nat.le_refl _) HRD.out.1
                have HR := Lib.hid (And.intro hR3 (And.intro hM12 (And.intro hrw (hrdt12 _ _ HRD.out.2))))
                clear hR3 hM12 hrow12 hrdt12 hrw r0 r1 r2 p2 HC
                simp only [List.take_succ_cons, List.take_zero, List.drop_succ_cons, List.drop_zero, List.cons_append, List.nil_append] at hL'
                subst hL'
                go_wp2
                go_roundw
                case rel => exact ⟨i + 1, R3, _, by omega, by go_num, HR.out.1, HR.out.2.1, Lib.hid (by rw [upd_other _ _ (by omega), upd_other _ _ (by omega)]; exact HSS.out), by rw [upd_same]; exact HNX.out, HR.out.2.2.1, HR.out.2.2.2⟩
                case measure => simp [intOf]; omega
          · obtain rfl : i = ys.length := by omega
            have b1 : (decide ((ys.length : Int) < (ys.length : Int))) = false := by simp
            have HE : Hid (∀ k, k < 3 → (S k).ents = pChgs P (chAll st P)) := Lib.hid (by
              intro k hk
              match k, hk with
              | 0, _ => rw [HSS.out.1]; exact (HF.out.commit (by omega) st).2.ents'
              | 1, _ => rw [HSS.out.2]; exact (HF.out.perm (by omega) st HPM.out).2
              | 2, _ =>
                rw [ents_up HTS.out.live, HTS.out.ents, show ys.length = (ys.map (·.1)).length by rw [List.length_map], List.take_length]
                exact (pChgs_perm HF.out.few.ord HPM.out (chAll_valid st P).1.apart).symm)
            have HASK : Hid (∀ (w : World) (k : Nat), k < 3 → BatM W w st ab 3 R' S → RdT w nv2 (pChgs P (chAll st P)) → Calls Tryd.prog 12 #[.pointer (some ⟨(R k).jb, 0, none⟩), nv2] w fun e w' => e = .returned (.bool true) ∧ Below w.heap.size w w') := Lib.hid (by
              intro w k hk hM hv
              rw [← (HSR.out k).1]
              exact has_y nv2 _ (hM.j.jz k hk).x hv HP2.out true (decide_eq_true (HE.out k hk)))
            have HPT : Hid (∀ (w : World), BatM W w st ab 3 R' S → w.cell? ⟨ab, 0, none⟩ = some (.pointer (some ⟨(R 0).jb, 0, none⟩)) ∧ w.cell? ⟨ab, 1, none⟩ = some (.pointer (some ⟨(R 1).jb, 0, none⟩)) ∧ w.cell? ⟨ab, 2, none⟩ = some (.pointer (some ⟨(R 2).jb, 0, none⟩))) := Lib.hid (fun w hM =>
              ⟨by rw [← (HSR.out 0).1]; exact hM.arr.cell 0 (by show 0 < 3; omega), by rw [← (HSR.out 1).1]; exact hM.arr.cell 1 (by show 1 < 3; omega), by rw [← (HSR.out 2).1]; exact hM.arr.cell 2 (by show 2 < 3; omega)⟩)
            obtain ⟨p0, p1, p2⟩ := HPT.out wr HM.out
            clear hlt HSS HTS HE HFACT HVD
            go_wp2_with fail
            refine (HASK.out _ 0 (by omega) HM.out HNOW.out).mono ?_
            rintro e w13 ⟨rfl, hb13⟩
            have HM13 := Lib.hid (HM.out.keep hb13)
            have HN13 := Lib.hid (HNOW.out.below hb13)
            obtain ⟨q0, q1, q2⟩ := HPT.out w13 HM13.out
            clear hb13 p0 p1 p2 HM HNOW HROW
            go_wp2_with fail
            refine (HASK.out _ 1 (by omega) HM13.out HN13.out).mono ?_
            rintro e w14 ⟨rfl, hb14⟩
            have HM14 := Lib.hid (HM13.out.keep hb14)
            have HN14 := Lib.hid (HN13.out.below hb14)
            obtain ⟨p0, p1, p2⟩ := HPT.out w14 HM14.out
            clear hb14 q0 q1 q2 HM13 HN13
            go_wp2_with fail
            refine (HASK.out _ 2 (by omega) HM14.out HN14.out).mono ?_
            rintro e w15 ⟨rfl, hb15⟩
            have HM15 := Lib.hid (HM14.out.keep hb15)
            clear hb15 p0 p1 p2 HM14 HN14
            go_wp2
            go_ret
            exact ⟨rfl, HM15.out.below⟩
end Go.Proofs.YtondomklkapogaaDoor
