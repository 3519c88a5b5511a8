/- The walks of name and changes. -/
import Derived.Test.YtondomklkapogaaDoorJChgC
import Derived.BigQuiet
import Derived.BigRegion
import Derived.Deep.RegionHeld3
import Derived.Deep.CutBlock
import Derived.Deep.CutRange
namespace Go.Proofs.YtondomklkapogaaDoor
open Go.RowKit SeedP Go.Maps
theorem nat_tmod9 (n : Nat) : ((n : Int)).tmod 9 = ((n % 9 : Nat) : Int) := by rw [Int.tmod_eq_emod_of_nonneg (by omega)]; omega
set_option maxRecDepth 100000 in
/-- name -/
theorem name_c (n : Nat) (w : World) (_hn : n ≤ 1000) : Calls Tryd.prog 18 #[.int .i64 n] w fun e w' => e = .returned (strV (nameP n)) ∧ Below w.heap.size w w' := by
  have hb := (Below.refl _ w).alloc (Nat.le_refl _) (.cells #[.int .u8 107, .int .u8 (97 + ((n % 9 : Nat) : Int))] 5)
  have hbn : (UInt8.ofNat (97 + n % 9)).toNat = 97 + n % 9 := by rw [UInt8.toNat_ofNat']; omega
  have hr := rdB_lit w (nameP n) (by show 2 ≤ maxLen; decide) 2 rfl
  have hcv : (convert 26 9 (.slice (some ⟨w.heap.size, 0, none⟩) 2 2)).run Tryd.prog (w.alloc (.cells #[.int .u8 107, .int .u8 (97 + ((n % 9 : Nat) : Int))] 5)) = .ok (strV (nameP n)) (w.alloc (.cells #[.int .u8 107, .int .u8 (97 + ((n % 9 : Nat) : Int))] 5)) := by
    have h := conv_c hr
    have e : (byts (nameP n)).toArray = #[.int .u8 107, .int .u8 (97 + ((n % 9 : Nat) : Int))] := by
      unfold byts nameP
      simp only [List.map_cons, List.map_nil, hbn, Int.natCast_add]
      rfl
    rw [e] at h
    exact h
  have ht := nat_tmod9 n
  have hl : n % 9 < 9 := Nat.mod_lt _ (by omega)
  generalize n % 9 = m at *
  go_enter Tryd.func18, Tryd.ntmps18
  go_wp2
  go_ret
  exact ⟨rfl, hb⟩
theorem and_one : ∀ x : Nat, x < 256 → (bits BinOp.and IntKind.i64 (x : Int) 1 == 1) = decide (x % 2 = 1) := by decide +kernel
theorem bit_at (b j : Nat) (hb : b < 256) : (bits BinOp.and IntKind.i64 ((b : Int) / 2 ^ j) 1 == 1) = decide (b / 2 ^ j % 2 = 1) := by
  have e : ((b : Int) / 2 ^ j) = ((b / 2 ^ j : Nat) : Int) := by rw [Int.natCast_ediv, Int.natCast_pow]; rfl
  rw [e]
  exact and_one _ (Nat.lt_of_le_of_lt (Nat.div_le_self _ _) hb)
theorem rowE_set (Q : PEnts) (t : Nat) (ht : t < Q.length) (v : List UInt8) : (rowE Q).set (t * 2 + 1) (strV v) = rowE (Q.take t ++ (Q[t].1, v) :: Q.drop (t + 1)) := by
  have e : rowE Q = rowE (Q.take t) ++ ([strV Q[t].1, strV Q[t].2] ++ rowE (Q.drop (t + 1))) := by
    conv => lhs; rw [← List.take_append_drop t Q, List.drop_eq_getElem_cons ht]
    rw [rowE_append]; rfl
  have hl : (rowE (Q.take t)).length = t * 2 := by rw [rowE_length, List.length_take]; omega
  rw [e, rowE_append, List.set_append_right _ _ (by omega), hl]
  have : t * 2 + 1 - t * 2 = 1 := by omega
  rw [this]
  rfl
theorem box3 {w : World} {g bs : Nat} {t : TypeId} {k n a b p v0 v1 v2 : Value} (h : Blk w g t [k, n, a, b, p]) (hne : ¬ g = bs) :
    (((w.setCell ⟨bs, 0, none⟩ v0).setCell ⟨bs, 1, none⟩ v1).setCell ⟨bs, 2, none⟩ v2).cell? ⟨g, 2, none⟩ = some a ∧ (((w.setCell ⟨bs, 0, none⟩ v0).setCell ⟨bs, 1, none⟩ v1).setCell ⟨bs, 2, none⟩ v2).cell? ⟨g, 3, none⟩ = some b := by
  have h3 := ((h.other (a := ⟨bs, 0, none⟩) hne v0).other (a := ⟨bs, 1, none⟩) hne v1).other (a := ⟨bs, 2, none⟩) hne v2
  exact ⟨h3.cell 2 (by simp), h3.cell 3 (by simp)⟩
theorem box3a {w : World} {g bs : Nat} {t : TypeId} {k n a b p v0 v1 v2 : Value} (h : Blk w g t [k, n, a, b, p]) (hne : ¬ g = bs) (o : Obj) :
    ((((w.setCell ⟨bs, 0, none⟩ v0).setCell ⟨bs, 1, none⟩ v1).setCell ⟨bs, 2, none⟩ v2).alloc o).cell? ⟨g, 2, none⟩ = some a ∧ ((((w.setCell ⟨bs, 0, none⟩ v0).setCell ⟨bs, 1, none⟩ v1).setCell ⟨bs, 2, none⟩ v2).alloc o).cell? ⟨g, 3, none⟩ = some b := by
  have h3 := (((h.other (a := ⟨bs, 0, none⟩) hne v0).other (a := ⟨bs, 1, none⟩) hne v1).other (a := ⟨bs, 2, none⟩) hne v2).alloc o
  exact ⟨h3.cell 2 (by simp), h3.cell 3 (by simp)⟩
set_option maxRecDepth 100000 in
set_option maxHeartbeats 8000000 in
/-- changes -/
theorem changes_c (s : StepP) (hs : s.Ok) (v : Value) (P : PEnts) (w : World) (hv : RdE w (fun g => g < w.heap.size) v P) (ho : Ordered P) (hn : P.length ≤ 1000000) :
    Calls Tryd.prog 14 #[stepV s, v] w fun e w' => ∃ lv nv xs, e = .returned (.tuple #[lv, nv]) ∧ xs.map (·.1) = chAll s P ∧ ChgRow w' w.heap.size lv xs ∧ w'.ownsRow w.heap.size 60 2 nv (pChgs P (chAll s P)).length (rowE (pChgs P (chAll s P))) ∧ Below w.heap.size w w' := by
  have HV := Lib.hid hv
  obtain ⟨av, cv, rfl, hx1, hx2, hx3, hx4⟩ := hv
  clear hx1 hx2 hx3 hx4
  have hB1 : Below w.heap.size w (w.alloc (.cells (stepC s).toArray 36)) := (Below.refl _ _).alloc (Nat.le_refl _) _
  have hbox := Blk.new w 36 (stepC s)
  have hz1 : (w.alloc (.cells (stepC s).toArray 36)).heap.size = w.heap.size + 1 := by simp
  have HB1 := Lib.hid hB1
  have HBX := Lib.hid hbox
  have HO := Lib.hid ho
  have HS := Lib.hid hs
  clear hB1 hbox ho
  obtain ⟨kind, n, a, b, power⟩ := s
  obtain ⟨h1, h2, h3, h4, h5⟩ := hs
  unfold stepV
  unfold stepC at HB1 HBX hz1
  simp only at h1 h2 h3 h4 h5 HB1 HBX hz1 ⊢
  go_enter Tryd.func14, Tryd.ntmps14
  go_upto_region 2 with (fail)
  generalize w.alloc (.cells #[.int .u8 kind, .int .u8 n, .int .u8 a, .int .u8 b, .int .u16 power] 36) = w1 at *
  have hW0 : w1.ownsRow (w.heap.size + 1) 60 2 (.slice none 0 0) 0 (rowE []) := World.ownsRow_nil _ _ _ _
  have hW1 : (w1.alloc (.cells #[] 60)).ownsRow (w.heap.size + 1) 60 2 (.slice (some ⟨w1.heap.size, 0, none⟩) 0 0) ([] : PEnts).length (rowE []) := World.ownsRow_made w1 #[] 0 (by omega) (by unfold maxLen; omega) rfl
  rw [hz1] at hW1
  have hV1 := (HV.out.below HB1.out).below ((Below.refl _ w1).alloc (by omega) (.cells #[] 60))
  have HG1 := Lib.hid (HB1.out.alloc HB1.out.size (.cells #[] 60))
  go_wp2_with (at_builtin; go_must (refine wpList_appE rfl _ _ rfl (w.heap.size + 1) _ [] rfl hW1 _ P rfl hV1 (by simp; omega) (by simp; omega) ?_); intro nv w2 hn2 hb2)
  have hn2 : w2.ownsRow (w.heap.size + 1) 60 2 nv P.length (rowE P) := hn2
  have HC0 : Hid (ChgW w w2 ⟨kind, n, a, b, power⟩ (.slice none 0 0) nv [] P) := Lib.hid
    ⟨HBX.out.block ((hb2.block _ (by omega)).trans ((Below.refl w1.heap.size w1).alloc (Nat.le_refl _) (.cells #[] 60) |>.block _ (by omega))), ChgRow.nil _ _, hn2, HG1.out.trans (hb2.mono (by omega))⟩
  clear hn2 hb2 hW0 hW1 hV1 HB1 HBX HG1 HV hz1
  go_wp2
  go_loopw [6, 7, 8] (fun lv nv i wr => ∃ j : Nat, ∃ (xs : List (Chg × Value)) (Q : PEnts), j ≤ n % 4 + 1 ∧ i = .int .i64 j ∧ ChgW w wr ⟨kind, n, a, b, power⟩ lv nv xs Q ∧ xs.map (·.1) = chList ⟨kind, n, a, b, power⟩ P j ∧ Q = pChgs P (chList ⟨kind, n, a, b, power⟩ P j)) (fun _ _ i _ => n % 4 + 1 - (intOf i).toNat)
  case atStart => exact ⟨0, [], P, Nat.zero_le _, rfl, HC0.out, rfl, rfl⟩
  case round =>
    obtain ⟨j, xs, Q, hj, rfl, hC, hxs, hQ⟩ := hrel
    clear HC0
    have ht4 : ((n : Int)).tmod 4 = ((n % 4 : Nat) : Int) := by rw [Int.tmod_eq_emod_of_nonneg (by omega)]; omega
    have x1 := hC.box.cell 1 (by show 1 < 5; omega)
    have x2 := hC.box.cell 2 (by show 2 < 5; omega)
    have x3 := hC.box.cell 3 (by show 3 < 5; omega)
    simp only [stepC, List.getD_cons_zero, List.getD_cons_succ] at x1 x2 x3
    have hz := hC.below.size
    have hl := hC.box.lt
    have hql : Q.length ≤ P.length + j := by
      have h : ∀ (cs : List Chg) (R : PEnts), (pChgs R cs).length ≤ R.length + cs.length := by
        intro cs
        induction cs with
        | nil => intro R; exact Nat.le_refl _
        | cons c r ih => intro R; have := ih (pChg R c); have := pChg_length R c; show (pChgs (pChg R c) r).length ≤ _; rw [List.length_cons]; omega
      have := h (chList ⟨kind, n, a, b, power⟩ P j) P
      rw [chList_len] at this; rw [hQ]; exact this
    have hqo : Ordered Q := by rw [hQ]; exact pChgs_ord HO.out _
    have hxl : xs.length = j := by have := congrArg List.length hxs; rwa [List.length_map, chList_len] at this
    by_cases hlt : j < n % 4 + 1
    · have t1 : (decide ((j : Int) ≤ ((n % 4 : Nat) : Int))) = true := decide_eq_true (by omega)
      have hjs : j ≤ 3 := by omega
      have HC := Lib.hid hC
      have HXS := Lib.hid (And.intro hxs (And.intro hQ (And.intro hql (And.intro hqo hxl))))
      have hb1 := hC.box
      clear hC hxs hQ hql hqo hxl
      have HN : Hid (∀ W, Calls Tryd.prog 18 #[.int .i64 (IntKind.i64.wrap (IntKind.i64.wrap (a : Int) + (j : Int)))] W fun e w' => e = .returned (strV (nameP (a + j))) ∧ Below W.heap.size W w') := Lib.hid (fun W => by
        have e : IntKind.i64.wrap (IntKind.i64.wrap (a : Int) + (j : Int)) = ((a + j : Nat) : Int) := by rw [IntWalk.i64_in (a : Int) (by omega), IntWalk.i64_in _ (by omega)]; omega
        rw [e]; exact name_c (a + j) W (by omega))
      unfold stepC at hb1
      simp only at hb1
      have x2b : wr.cell? ⟨w.heap.size, 2, none⟩ = some (.int .u8 a) := x2
      have x3b : wr.cell? ⟨w.heap.size, 3, none⟩ = some (.int .u8 b) := x3
      go_upto_region 6 with (fail)
      go_cut [9] from 15 to 117 (fun c wx => ∃ (cb : Nat) (y : Chg × Value), c = .pointer (some ⟨cb, 0, none⟩) ∧ y.1 = ⟨nameP (a + j), [UInt8.ofNat b, UInt8.ofNat j, UInt8.ofNat a], false⟩ ∧ ChgC w wx ⟨kind, n, a, b, power⟩ u6 u7 xs Q cb y)
      case first =>
        have hwj : IntKind.u8.wrap (j : Int) = (j : Int) := by rw [IntKind.wrap_u8]; omega
        have hne : ¬ w.heap.size = wr.heap.size := by omega
        have hne1 : ¬ w.heap.size = wr.heap.size + 1 := by omega
        go_region_held (fun w' => w'.cell? ⟨w.heap.size, 2, none⟩ = some (.int .u8 a) ∧ w'.cell? ⟨w.heap.size, 3, none⟩ = some (.int .u8 b)) (first | go_keep | (with_reducible exact box3 hb4 hne) | (with_reducible exact box3 hb4 hne1) | (with_reducible exact box3a hb4 hne _) | (with_reducible exact box3a hb4 hne1 _))
          (first
            | (go_at_call 18; go_must (refine (HN.out _).mono ?_); rintro e w3 ⟨rfl, hb3⟩
               have hb4 : Blk w3 w.heap.size 36 [.int .u8 kind, .int .u8 n, .int .u8 a, .int .u8 b, .int .u16 power] := by with_reducible (first | exact hb1.drew.below hb3 | exact (hb1.alloc _).drew.below hb3 | exact ((hb1.alloc _).alloc _).drew.below hb3 | exact hb1.below hb3 | exact (hb1.alloc _).below hb3 | exact ((hb1.alloc _).alloc _).below hb3 | exact (hb1.drew.alloc _).below hb3 | exact ((hb1.drew.alloc _).alloc _).below hb3)
               have x2b := hb4.cell 2 (by simp)
               have x3b := hb4.cell 3 (by simp)
               simp only [List.getD_cons_zero, List.getD_cons_succ] at x2b x3b
               try (have hcb : Blk w3 wr.heap.size 65 [.string ⟨#[]⟩, .slice none 0 0, .bool false] := (by with_reducible (first | exact (Blk.new wr _ [.string ⟨#[]⟩, .slice none 0 0, .bool false]).drew.below hb3 | exact ((Blk.new wr _ [.string ⟨#[]⟩, .slice none 0 0, .bool false]).alloc _).drew.below hb3)))
               try (have hcb : Blk w3 (wr.heap.size + 1) 65 [.string ⟨#[]⟩, .slice none 0 0, .bool false] := (by with_reducible exact (Blk.at (wr.alloc _) _ [.string ⟨#[]⟩, .slice none 0 0, .bool false] (by simp)).drew.below hb3))
               try (have hcl := hcb.lt; have hcn := Nat.ne_of_lt hcl; have c0 := hcb.cell 0 (by simp); have c1 := hcb.cell 1 (by simp); have c2 := hcb.cell 2 (by simp); have f0 := hcb.frozen 0; have f1 := hcb.frozen 1; have f2 := hcb.frozen 2; simp only [List.getD_cons_zero, List.getD_cons_succ] at c0 c1 c2)))
        all_goals
          go_wp2_with fail
          go_meet
        · exact new1 HC.out ⟨h4, by omega, h3⟩ hb3
        · exact new2 HC.out ⟨h4, by omega, h3⟩ hb3
        · exact new3 HC.out ⟨h4, by omega, h3⟩ hb3
        · exact new4 HC.out ⟨h4, by omega, h3⟩ hb3
        · exact new5 HC.out ⟨h4, by omega, h3⟩ hb3
        · exact new6 HC.out ⟨h4, by omega, h3⟩ hb3
      case rest =>
        obtain ⟨cb, y, rfl, hy, hC⟩ := hcut
        obtain ⟨yc, yv⟩ := y
        simp only at hy
        subst hy
        have hnow := hC.base.now
        obtain ⟨an, cn, rfl⟩ := own_slice hnow
        obtain ⟨ay, cy, hyv⟩ := own_slice hC.val
        have hyv : yv = .slice ay 3 cy := hyv
        subst hyv
        have HQ := Lib.hid (RdE.own (q := fun _ => True) hnow (fun _ _ _ => trivial))
        have c0 := hC.chg.cell 0 (by show 0 < 3; omega)
        simp only [chgCells, List.getD_cons_zero] at c0
        have HCC := Lib.hid hC
        have hqo := HXS.out.2.2.2.1
        have hql := HXS.out.2.2.1
        have hal := atP_le Q (nameP (a + j))
        have HK := Lib.hid (rfl : nameP (a + j) = nameP (a + j))
        generalize hkk : nameP (a + j) = key at *
        have HKK := Lib.hid hkk
        clear hC hnow hb1 x2b x3b HN hkk HK
        generalize wc = w5 at *
        go_upto_block 2 with (fail)
        go_cut [10] from 15 to 117 (fun i wx => i = .int .i64 (atP Q key : Nat) ∧ ChgC w wx ⟨kind, n, a, b, power⟩ u6 (.slice an Q.length cn) xs Q cb (⟨key, [UInt8.ofNat b, UInt8.ofNat j, UInt8.ofNat a], false⟩, .slice ay 3 cy))
        case first =>
          go_wp2
          go_loopw [10] (fun i wr2 => ∃ t q, t ≤ atP Q key ∧ i = .int .i64 (t : Nat) ∧ wr2 = w5.drewN q) (fun i _ => atP Q key - (intOf i).toNat)
          case atStart => exact ⟨0, 0, Nat.zero_le _, rfl, rfl⟩
          case round =>
            obtain ⟨t, q, ht, rfl, rfl⟩ := hrel
            by_cases htl : t < Q.length
            · have b1 : (decide ((t : Int) < (Q.length : Nat))) = true := decide_eq_true (by omega)
              obtain ⟨a', cap', e, hx1, hx2, hx3, hc⟩ := HQ.out
              simp only [Value.slice.injEq] at e
              obtain ⟨rfl, _, rfl⟩ := e
              rcases hc with hc | ⟨g, off, rfl, hg, hg2, hcell⟩
              · rw [hc] at htl; simp at htl
              obtain ⟨q0, q1⟩ := hcell t htl
              have HT : Hid ((t < atP Q key → bytesBefore Q[t].1 key = true) ∧ (¬ t < atP Q key → bytesBefore Q[t].1 key = false)) := Lib.hid ⟨fun h => (atP_lt h).2, fun h => by
                obtain rfl : t = atP Q key := by omega
                exact atP_at htl⟩
              rw [← bl_eq] at HT
              generalize Q[t].1 = qk at *
              generalize Q[t].2 = qv at *
              clear hx1 hx2 hx3 hcell hg
              by_cases hta : t < atP Q key
              · have hbl : Op.bytesLess qk key = true := HT.out.1 hta
                go_upto_region 8 with (fail)
                go_quiet (fail)
                all_goals
                  go_wp2
                  exact ⟨⟨t + 1, _, by omega, by go_num, rfl⟩, by simp [intOf]; omega⟩
              · have hbl : Op.bytesLess qk key = false := HT.out.2 hta
                obtain rfl : t = atP Q key := by omega
                go_upto_region 8 with (fail)
                go_quiet (fail)
                all_goals
                  go_wp2_with fail
                  go_meet
                  exact ⟨rfl, (HCC.out.keep (below_drewN' _ _)).keep (below_drewN' _ _)⟩
            · have b1 : (decide ((t : Int) < (Q.length : Nat))) = false := decide_eq_false (by omega)
              obtain rfl : t = atP Q key := by omega
              go_upto_region 8 with (fail)
              go_quiet (fail)
              all_goals
                go_wp2_with fail
                go_meet
                exact ⟨rfl, (HCC.out.keep (below_drewN' _ _)).keep (below_drewN' _ _)⟩
        case rest =>
          obtain ⟨rfl, hC6⟩ := hcut
          clear HCC HQ c0
          generalize wc = w6 at *
          have HC6 := Lib.hid hC6
          have HQ := Lib.hid (RdE.own (q := fun _ => True) hC6.base.now (fun _ _ _ => trivial))
          have c0 := hC6.chg.cell 0 (by show 0 < 3; omega)
          simp only [chgCells, List.getD_cons_zero] at c0
          clear hC6
          go_upto_region 10 with (fail)
          go_cut [11] from 15 to 117 (fun c wx => c = .bool (thereP Q key) ∧ ChgC w wx ⟨kind, n, a, b, power⟩ u6 (.slice an Q.length cn) xs Q cb (⟨key, [UInt8.ofNat b, UInt8.ofNat j, UInt8.ofNat a], false⟩, .slice ay 3 cy))
          case first =>
            by_cases htl : atP Q key < Q.length
            · have b1 : (decide ((atP Q key : Int) < (Q.length : Nat))) = true := decide_eq_true (by omega)
              obtain ⟨a', cap', e, hx1, hx2, hx3, hc⟩ := HQ.out
              simp only [Value.slice.injEq] at e
              obtain ⟨rfl, _, rfl⟩ := e
              rcases hc with hc | ⟨g, off, rfl, hg, hg2, hcell⟩
              · rw [hc] at htl; simp at htl
              obtain ⟨q0, q1⟩ := hcell _ htl
              have HT : Hid (thereP Q key = (Q[atP Q key].1 == key)) := Lib.hid (by unfold thereP; rw [List.getElem?_eq_getElem htl])
              generalize Q[atP Q key].1 = qk at *
              generalize Q[atP Q key].2 = qv at *
              generalize hbb : (qk == key) = bb at *
              clear hx1 hx2 hx3 hcell hg
              go_quiet (fail)
              all_goals
                go_wp2_with fail
                go_meet
                exact ⟨by rw [HT.out], HC6.out.keep (below_drewN' _ _)⟩
            · have b1 : (decide ((atP Q key : Int) < (Q.length : Nat))) = false := decide_eq_false (by omega)
              have HT : Hid (thereP Q key = false) := Lib.hid (by unfold thereP; rw [List.getElem?_eq_none (by omega)])
              go_quiet (fail)
              all_goals
                go_wp2_with fail
                go_meet
                exact ⟨by rw [HT.out], HC6.out.keep (below_drewN' _ _)⟩
          case rest =>
            obtain ⟨rfl, hC7⟩ := hcut
            clear HC6 HQ c0
            generalize wc = w7 at *
            have HC7 := Lib.hid hC7
            have HQ := Lib.hid (RdE.own (q := fun _ => True) hC7.base.now (fun _ _ _ => trivial))
            have x3 := hC7.base.box.cell 3 (by show 3 < 5; omega)
            simp only [stepC, List.getD_cons_zero, List.getD_cons_succ] at x3
            have hone : ∀ bt : Bool, decide (b / 2 ^ j % 2 = 1) = bt → chOne ⟨kind, n, a, b, power⟩ Q j = if thereP Q key && bt then ⟨key, [], true⟩ else ⟨key, [UInt8.ofNat b, UInt8.ofNat j, UInt8.ofNat a], false⟩ := by
              rintro bt rfl
              unfold chOne
              simp only [HKK.out]
            have HONE := Lib.hid hone
            clear hC7 hone
            go_upto_region 11 with (fail)
            go_cut [11, 76] from 15 to 117 (fun c1 c wx => ∃ bt, decide (b / 2 ^ j % 2 = 1) = bt ∧ c1 = .bool (thereP Q key) ∧ c = .bool (thereP Q key && bt) ∧ w7 = wx)
            case first =>
              cases htt : thereP Q key with
              | true =>
                go_wp2_with fail
                go_meet
                rw [htt]
                exact ⟨_, rfl, rfl, by rw [bit_at b j h4, Bool.true_and], rfl⟩
              | false =>
                go_wp2_with fail
                go_meet
                rw [htt]
                exact ⟨_, rfl, rfl, rfl, rfl⟩
            case rest =>
              obtain ⟨bt, hbt, rfl, rfl, rfl⟩ := hcut
              have HBT := Lib.hid (HONE.out bt hbt)
              clear hbt HONE
              go_upto_if 76 with (fail)
              go_cut [7, 10, 11] from 15 to 117 (fun nv' c0 c1 wx => ∃ (Q' : PEnts) (y' : Chg × Value), c0 = .int .i64 (atP Q key : Nat) ∧ c1 = .bool (thereP Q key) ∧ ChgC w wx ⟨kind, n, a, b, power⟩ u6 nv' xs Q' cb y' ∧ y'.1 = chOne ⟨kind, n, a, b, power⟩ Q j ∧ Q' = pChg Q (chOne ⟨kind, n, a, b, power⟩ Q j) ∧ y'.2.oneCell' = true)
              case first =>
                have c0 := HC7.out.chg.cell 0 (by show 0 < 3; omega)
                have c1 := HC7.out.chg.cell 1 (by show 1 < 3; omega)
                have c2 := HC7.out.chg.cell 2 (by show 2 < 3; omega)
                have f1 := HC7.out.chg.frozen 1
                have f2 := HC7.out.chg.frozen 2
                simp only [chgCells, List.getD_cons_zero, List.getD_cons_succ] at c0 c1 c2
                have hz7 := HC7.out.base.below.size
                have hl7 := HC7.out.base.box.lt
                cases htt : thereP Q key with
                | true =>
                  have hat : atP Q key < Q.length := by
                    unfold thereP at htt
                    rcases Nat.lt_or_ge (atP Q key) Q.length with h | h
                    · exact h
                    · rw [List.getElem?_eq_none h] at htt; cases htt
                  have hHQ := HQ.out
                  obtain ⟨a', cap', e, hx1, hx2, hx3, hc⟩ := hHQ
                  simp only [Value.slice.injEq] at e
                  obtain ⟨rfl, _, rfl⟩ := e
                  rcases hc with hc | ⟨g, off, rfl, hg, hg2, hcell⟩
                  · rw [hc] at hat; simp at hat
                  have hoff : off = 0 := by
                    rcases HC7.out.base.now.2 with ⟨e, _⟩ | ⟨g', cap', cur, e, _⟩
                    · cases e
                    · simp only [Value.slice.injEq, Option.some.injEq, Addr.mk.injEq] at e
                      omega
                  subst hoff
                  cases bt with
                  | true =>
                    have hA := HBT.out
                    rw [htt] at hA
                    simp only [Bool.and_true, if_true] at hA
                    have HA := Lib.hid hA
                    have HG8 : Grown (fun g => g = cb) w7 ((w7.setCell ⟨cb, 1, none⟩ (.slice none 0 0)).setCell ⟨cb, 2, none⟩ (.bool true)) := Grown.setCell (S := fun g => g = cb) (Grown.setCell (S := fun g => g = cb) (Grown.refl _ w7) (a := ⟨cb, 1, none⟩) rfl _) (a := ⟨cb, 2, none⟩) rfl _
                    have HC8 := Lib.hid (HC7.out.turn (y' := (⟨key, [], true⟩, .slice none 0 0)) HG8 ((HC7.out.chg.set 1 (.slice none 0 0)).set 2 (.bool true)) (World.ownsRow_nil _ _ _ _))
                    have hcn : Q.length ≤ cn := hx1
                    clear hA HG8 hcell hg hx1 hx2 hx3 hg2 HQ
                    go_upto_region 13 with (fail)
                    generalize (w7.setCell ⟨cb, 1, none⟩ (.slice none 0 0)).setCell ⟨cb, 2, none⟩ (.bool true) = w8 at *
                    have hO1 : (w8.alloc (.cells #[] 60)).drew.ownsRow w8.heap.size 60 2 (.slice (some ⟨w8.heap.size, 0, none⟩) 0 0) ([] : PEnts).length (rowE []) := World.ownsRow_made w8 #[] 0 (Nat.le_refl _) (by unfold maxLen; omega) rfl
                    have hB8 : Below w8.heap.size w8 (w8.alloc (.cells #[] 60)).drew := undrew' ((Below.refl _ w8).alloc (Nat.le_refl _) _)
                    have hR8 := (RdE.own (q := fun g => g < w8.heap.size) HC8.out.base.now (fun _ _ h => h)).below hB8
                    have hg8 : g < w8.heap.size := (own_lt HC8.out.base.now (g := g) rfl).2
                    have hT1 := hR8.take (m := atP Q key) (by omega)
                    have hT2 := hR8.dropIf (m := atP Q key + 1) (by omega) hg8 (Nat.lt_of_lt_of_le hg8 hB8.size)
                    have hs8 := hB8.size
                    have hp1 : atP Q key ≤ cn := by omega
                    have hp2 : atP Q key + 1 ≤ Q.length := by omega
                    have hp3 : IntKind.i64.wrap ((atP Q key : Int) + 1) = (atP Q key : Int) + 1 := IntWalk.i64_in _ (by omega)
                    have hp4 : ((atP Q key : Int) + 1).toNat = atP Q key + 1 := by omega
                    have hp5 : (0 : Int) ≤ (atP Q key : Int) + 1 := by omega
                    have hp6 : Q.length ≤ cn := by omega
                    have hp7 : (atP Q key : Int) + 1 ≤ (Q.length : Int) := by omega
                    go_region_held3 (fun w' => True) (trivial)
                      (first
                        | (have _t := hT1; clear _t; go_must (refine step_appE rfl _ _ rfl w8.heap.size _ [] rfl hO1 _ (Q.take (atP Q key)) rfl hT1 (by simp; omega) (by exact hs8) ?_); intro v2 w9 hn9 hb9
                           have hT3 := hT2.below hb9
                           clear hT1)
                        | (go_must (refine step_appE rfl _ _ rfl w8.heap.size _ (Q.take (atP Q key)) rfl hn9 _ (Q.drop (atP Q key + 1)) rfl hT3 (by simp; omega) (by exact Nat.le_trans hs8 hb9.size) ?_); intro v3 w10 hn10 hb10))
                    all_goals
                      have hB10 : Below w8.heap.size w8 w10 := (hB8.trans hb9).trans hb10
                      have hn10' := own_mono hn10 (show w.heap.size + 1 ≤ w8.heap.size by have := HC8.out.base.below.size; have := HC8.out.base.box.lt; omega)
                      have e : pChg Q (chOne ⟨kind, n, a, b, power⟩ Q j) = Q.take (atP Q key) ++ Q.drop (atP Q key + 1) := by rw [HA.out]; exact pDel_at hqo htt
                      have HF := Lib.hid (And.intro (HC8.out.ents (Grown.of_below hB10) hn10') e)
                      clear hB10 hn10 hn10' e hn9 hb9 hb10 hT2 hT3 hO1
                      go_wp2_with fail
                      all_goals
                        go_meet
                        refine ⟨_, (⟨key, [], true⟩, .slice none 0 0), rfl, by rw [htt], ?_, HA.out.symm, rfl, rfl⟩
                        rw [HF.out.2]
                        exact HF.out.1
                  | false =>
                    have hA := HBT.out
                    rw [htt] at hA
                    simp only [Bool.and_false, Bool.false_eq_true, if_false] at hA
                    have HA := Lib.hid hA
                    obtain ⟨_, q1⟩ := hcell _ hat
                    rw [Nat.zero_add] at q1
                    have hq1f := HC7.out.base.now.frozenAt (atP Q key * 2 + 1)
                    have hst := HC7.out.base.now.stored (atP Q key * 2 + 1) (strV [UInt8.ofNat b, UInt8.ofNat j, UInt8.ofNat a])
                    rw [rowE_set Q _ hat] at hst
                    have hke : Q[atP Q key].1 = key := by
                      unfold thereP at htt
                      rw [List.getElem?_eq_getElem hat] at htt
                      simpa using htt
                    have e : pChg Q (chOne ⟨kind, n, a, b, power⟩ Q j) = Q.take (atP Q key) ++ (key, [UInt8.ofNat b, UInt8.ofNat j, UInt8.ofNat a]) :: Q.drop (atP Q key + 1) := by rw [HA.out]; exact pPut_at hqo htt
                    rw [hke, ← e] at hst
                    have hle : (pChg Q (chOne ⟨kind, n, a, b, power⟩ Q j)).length = Q.length := by rw [e]; simp; omega
                    have HF : Hid (ChgC w _ ⟨kind, n, a, b, power⟩ u6 (.slice (some ⟨g, 0, none⟩) Q.length cn) xs (pChg Q (chOne ⟨kind, n, a, b, power⟩ Q j)) cb (⟨key, [UInt8.ofNat b, UInt8.ofNat j, UInt8.ofNat a], false⟩, .slice ay 3 cy)) := Lib.hid (HC7.out.ents (row_grown hst.2) (by rw [hle]; exact hst.1))
                    have hcv : (convert 26 9 (.slice ay 3 cy)).run Tryd.prog w7 = .ok (.string ⟨[UInt8.ofNat b, UInt8.ofNat j, UInt8.ofNat a].toArray⟩) w7 := conv_c (RdB.of_own HC7.out.val)
                    clear hst hle e hke hx1 hx2 hx3 hcell hg hA
                    go_wp2
                    go_meet
                    exact ⟨_, (⟨key, [UInt8.ofNat b, UInt8.ofNat j, UInt8.ofNat a], false⟩, .slice ay 3 cy), rfl, by rw [htt], HF.out, HA.out.symm, rfl, rfl⟩
                | false =>
                  have hA := HBT.out
                  rw [htt] at hA
                  simp only [Bool.false_and, Bool.false_eq_true, if_false] at hA
                  simp only [Bool.false_and]
                  have HA := Lib.hid hA
                  have e : pChg Q (chOne ⟨kind, n, a, b, power⟩ Q j) = (Q.take (atP Q key) ++ [(key, [UInt8.ofNat b, UInt8.ofNat j, UInt8.ofNat a])]) ++ Q.drop (atP Q key) := by rw [HA.out, List.append_assoc]; exact pPut_new hqo htt
                  have HE := Lib.hid e
                  have HSK : Hid (∀ W, Below w7.heap.size w7 W → W.cell? ⟨cb, 0, none⟩ = some (strV key) ∧ W.cell? ⟨cb, 1, none⟩ = some (.slice ay 3 cy) ∧ (convert 26 9 (.slice ay 3 cy)).run Tryd.prog W = .ok (strV [UInt8.ofNat b, UInt8.ofNat j, UInt8.ofNat a]) W) := Lib.hid (fun W hb => by
                    have h := HC7.out.keep hb
                    have h0 := h.chg.cell 0 (by show 0 < 3; omega)
                    have h1 := h.chg.cell 1 (by show 1 < 3; omega)
                    simp only [chgCells, List.getD_cons_zero, List.getD_cons_succ] at h0 h1
                    exact ⟨h0, h1, conv_c (RdB.of_own h.val)⟩)
                  have hown := HC7.out.base.now
                  have hX : Below w7.heap.size w7 (w7.alloc (.cells #[] 60)) := (Below.refl _ w7).alloc (Nat.le_refl _) _
                  have hY : Below w7.heap.size w7 (w7.alloc (.cells #[strV key, strV [UInt8.ofNat b, UInt8.ofNat j, UInt8.ofNat a]] 60)) := (Below.refl _ w7).alloc (Nat.le_refl _) _
                  have hXY := hX.alloc hX.size (.cells #[strV key, strV [UInt8.ofNat b, UInt8.ofNat j, UInt8.ofNat a]] 60)
                  have hYX := hY.alloc hY.size (.cells #[] 60)
                  have hOa : (w7.alloc (.cells #[] 60)).ownsRow w7.heap.size 60 2 (.slice (some ⟨w7.heap.size, 0, none⟩) 0 0) ([] : PEnts).length (rowE []) := World.ownsRow_made w7 #[] 0 (Nat.le_refl _) (by unfold maxLen; omega) rfl
                  have hOb := hOa.alloc (.cells #[strV key, strV [UInt8.ofNat b, UInt8.ofNat j, UInt8.ofNat a]] 60)
                  have hOc : ((w7.alloc (.cells #[strV key, strV [UInt8.ofNat b, UInt8.ofNat j, UInt8.ofNat a]] 60)).alloc (.cells #[] 60)).ownsRow w7.heap.size 60 2 (.slice (some ⟨w7.heap.size + 1, 0, none⟩) 0 0) ([] : PEnts).length (rowE []) := by
                    have h : ((w7.alloc (.cells #[strV key, strV [UInt8.ofNat b, UInt8.ofNat j, UInt8.ofNat a]] 60)).alloc (.cells #[] 60)).ownsRow w7.heap.size 60 2 (.slice (some ⟨(w7.alloc (.cells #[strV key, strV [UInt8.ofNat b, UInt8.ofNat j, UInt8.ofNat a]] 60)).heap.size, 0, none⟩) 0 0) ([] : PEnts).length (rowE []) := World.ownsRow_made (w7.alloc (.cells #[strV key, strV [UInt8.ofNat b, UInt8.ofNat j, UInt8.ofNat a]] 60)) #[] 0 (by simp) (by unfold maxLen; omega) rfl
                    rwa [show (w7.alloc (.cells #[strV key, strV [UInt8.ofNat b, UInt8.ofNat j, UInt8.ofNat a]] 60)).heap.size = w7.heap.size + 1 by simp] at h
                  have hYb := Blk.at (w7.alloc (.cells #[] 60)) 60 [strV key, strV [UInt8.ofNat b, UInt8.ofNat j, UInt8.ofNat a]] (g := w7.heap.size + 1) (by simp)
                  have hYc := (Blk.new w7 60 [strV key, strV [UInt8.ofNat b, UInt8.ofNat j, UInt8.ofNat a]]).alloc (.cells #[] 60)
                  have HR7 := Lib.hid (RdE.own (q := fun g => g < w7.heap.size) hown (fun _ _ h => h))
                  have hBa : Below w7.heap.size w7 (w7.alloc (.cells #[] 60)).drew := undrew' hX
                  have hBb := undrew' hXY
                  have hBc := undrew' hYX
                  have hBy := undrew' hY
                  have hOa := hOa.drew
                  have hOb := hOb.drew
                  have hOc := hOc.drew
                  have hcn : Q.length ≤ cn := by
                    obtain ⟨a', cap', e, hx1, _⟩ := HR7.out
                    simp only [Value.slice.injEq] at e
                    obtain ⟨_, _, rfl⟩ := e
                    exact hx1
                  have hp1 : atP Q key ≤ cn := by omega
                  have hp7 : (atP Q key : Int) ≤ (Q.length : Int) := by omega
                  clear hX hY hXY hYX e hA
                  rcases an with _ | ⟨g, off, sp⟩
                  · have hq0 : Q = [] := by
                      rcases hown.2 with ⟨_, e⟩ | ⟨g', cap', cur, e, _⟩
                      · exact List.eq_nil_of_length_eq_zero e
                      · cases e
                    have hc0 : cn = 0 := by
                      rcases hown.2 with ⟨e, _⟩ | ⟨g', cap', cur, e, _⟩
                      · simp only [Value.slice.injEq] at e; exact e.2.2
                      · cases e
                    subst hc0
                    have ha0 : atP Q key = 0 := by rw [hq0]; rfl
                    have hl0 : Q.length = 0 := by rw [hq0]; rfl
                    have HT1 : Hid (∀ W, Below w7.heap.size w7 W → RdE W (fun g => g < w7.heap.size) (.slice none 0 0) (Q.take (atP Q key))) := Lib.hid (fun W hb => by rw [hq0]; exact RdE.nil _ _)
                    have HT2 : Hid (∀ W, Below w7.heap.size w7 W → RdE W (fun g => g < w7.heap.size) (.slice none 0 0) (Q.drop (atP Q key))) := Lib.hid (fun W hb => by rw [hq0]; exact RdE.nil _ _)
                    have HQ0 := Lib.hid hq0
                    clear hq0
                    go_upto_region 16 with (fail)
                    go_region_held3 (fun w' => w'.cell? ⟨cb, 0, none⟩ = some (strV key) ∧ w'.cell? ⟨cb, 1, none⟩ = some (.slice ay 3 cy) ∧ (convert 26 9 (.slice ay 3 cy)).run Tryd.prog w' = .ok (strV [UInt8.ofNat b, UInt8.ofNat j, UInt8.ofNat a]) w')
                      (with_reducible (first | exact HSK.out _ (undrew' (Below.refl _ _)) | exact HSK.out _ hB11 | exact HSK.out _ hB10 | exact HSK.out _ hB9 | exact HSK.out _ (hB9.alloc hB9.size _) | exact HSK.out _ hBa | exact HSK.out _ hBb | exact HSK.out _ hBc | exact HSK.out _ hBy))
                      (first
                        | (have _t := HT1; clear _t; refine step_appEG rfl _ _ rfl w7.heap.size (.slice (some ⟨w7.heap.size, 0, none⟩) 0 0) [] (by rfl) (by with_reducible exact hOa) (.slice none 0 0) (Q.take (atP Q key)) (by rfl) (by with_reducible exact HT1.out _ hBa) (by simp; omega) (by with_reducible exact hBa.size) ?_; intro v2 w9 hn9 hg9 hb9
                           have hn9 : w9.ownsRow w7.heap.size 60 2 v2 (Q.take (atP Q key)).length (rowE (Q.take (atP Q key))) := hn9
                           have hB9 : Below w7.heap.size w7 w9 := hBa.trans hb9
                           clear HT1)
                        | (have _t := HT1; clear _t; refine step_appEG rfl _ _ rfl w7.heap.size (.slice (some ⟨w7.heap.size, 0, none⟩) 0 0) [] (by rfl) (by with_reducible exact hOb) (.slice none 0 0) (Q.take (atP Q key)) (by rfl) (by with_reducible exact HT1.out _ hBb) (by simp; omega) (by with_reducible exact hBb.size) ?_; intro v2 w9 hn9 hg9 hb9
                           have hn9 : w9.ownsRow w7.heap.size 60 2 v2 (Q.take (atP Q key)).length (rowE (Q.take (atP Q key))) := hn9
                           have hB9 : Below w7.heap.size w7 w9 := hBb.trans hb9
                           have hY9 := hYb.drew.grown hg9 (fun e => by simp [Value.ownBlock] at e)
                           clear HT1)
                        | (have _t := HT1; clear _t; refine step_appEG rfl _ _ rfl w7.heap.size (.slice (some ⟨w7.heap.size + 1, 0, none⟩) 0 0) [] (by rfl) (by with_reducible exact hOc) (.slice none 0 0) (Q.take (atP Q key)) (by rfl) (by with_reducible exact HT1.out _ hBc) (by simp; omega) (by with_reducible exact hBc.size) ?_; intro v2 w9 hn9 hg9 hb9
                           have hn9 : w9.ownsRow w7.heap.size 60 2 v2 (Q.take (atP Q key)).length (rowE (Q.take (atP Q key))) := hn9
                           have hB9 : Below w7.heap.size w7 w9 := hBc.trans hb9
                           have hY9 := hYc.drew.grown hg9 (fun e => by simp [Value.ownBlock] at e)
                           clear HT1)
                        | (have _t := hn9; clear _t; refine step_appEG (q := fun _ => True) rfl _ _ rfl w7.heap.size v2 (Q.take (atP Q key)) (by rfl) (by with_reducible exact hn9.alloc _) (.slice (some ⟨w9.heap.size, 0, none⟩) 1 1) [(key, [UInt8.ofNat b, UInt8.ofNat j, UInt8.ofNat a])] (by rfl) (by with_reducible exact RdE.one (Blk.new w9 _ [strV key, strV [UInt8.ofNat b, UInt8.ofNat j, UInt8.ofNat a]]) trivial) (by simp; omega) (by with_reducible exact (hB9.alloc hB9.size _).size) ?_; intro v3 w10 hn10 hg10 hb10
                           have hB10 : Below w7.heap.size w7 w10 := (hB9.alloc hB9.size _).trans hb10
                           clear hn9)
                        | (have _t := hn9; clear _t; refine step_appEG (q := fun _ => True) rfl _ _ rfl w7.heap.size v2 (Q.take (atP Q key)) (by rfl) (by with_reducible exact hn9) (.slice (some ⟨w7.heap.size + 1, 0, none⟩) 1 1) [(key, [UInt8.ofNat b, UInt8.ofNat j, UInt8.ofNat a])] (by rfl) (by with_reducible exact RdE.one hY9 trivial) (by simp; omega) (by with_reducible exact hB9.size) ?_; intro v3 w10 hn10 hg10 hb10
                           have hB10 : Below w7.heap.size w7 w10 := hB9.trans hb10
                           clear hn9)
                        | (have _t := hn9; clear _t; refine step_appEG (q := fun _ => True) rfl _ _ rfl w7.heap.size v2 (Q.take (atP Q key)) (by rfl) (by with_reducible exact hn9) (.slice (some ⟨w7.heap.size, 0, none⟩) 1 1) [(key, [UInt8.ofNat b, UInt8.ofNat j, UInt8.ofNat a])] (by rfl) (by with_reducible exact RdE.one hY9 trivial) (by simp; omega) (by with_reducible exact hB9.size) ?_; intro v3 w10 hn10 hg10 hb10
                           have hB10 : Below w7.heap.size w7 w10 := hB9.trans hb10
                           clear hn9)
                        | (refine step_appEG rfl _ _ rfl w7.heap.size v3 (Q.take (atP Q key) ++ [(key, [UInt8.ofNat b, UInt8.ofNat j, UInt8.ofNat a])]) (by rfl) (by with_reducible exact hn10) (.slice none 0 0) (Q.drop (atP Q key)) (by rfl) (by with_reducible exact HT2.out w10 hB10) (by simp; omega) (by with_reducible exact hB10.size) ?_; intro v4 w11 hn11 hg11 hb11
                           have hB11 : Below w7.heap.size w7 w11 := hB10.trans hb11))
                    all_goals
                      have HF := Lib.hid (HC7.out.ents (Grown.of_below hB11) (own_mono hn11 (show w.heap.size + 1 ≤ w7.heap.size by omega)))
                      rw [← HE.out] at HF
                      clear hn11 hB11 hB10 hB9 hn10 hg9 hg10 hg11 hb9 hb10 hb11
                      go_wp2_with fail
                      all_goals
                        go_meet
                        exact ⟨_, (⟨key, [UInt8.ofNat b, UInt8.ofNat j, UInt8.ofNat a], false⟩, .slice ay 3 cy), by rw [ha0]; rfl, by rw [htt], HF.out, HA.out.symm, rfl, rfl⟩
                  · obtain ⟨rfl, rfl⟩ : off = 0 ∧ sp = none := by
                      rcases hown.2 with ⟨e, _⟩ | ⟨g', cap', cur, e, _⟩
                      · cases e
                      · simp only [Value.slice.injEq, Option.some.injEq, Addr.mk.injEq] at e
                        exact ⟨e.1.2.1, e.1.2.2⟩
                    have hg7 : g < w7.heap.size := (own_lt hown (g := g) rfl).2
                    have HT1 : Hid (∀ W, Below w7.heap.size w7 W → RdE W (fun g => g < w7.heap.size) (.slice (some ⟨g, 0, none⟩) (atP Q key) cn) (Q.take (atP Q key))) := Lib.hid (fun W hb => (HR7.out.below hb).take hal)
                    have HT2 : Hid (∀ W, Below w7.heap.size w7 W → RdE W (fun g => g < w7.heap.size) (.slice (if cn = atP Q key then some ⟨g, 0, none⟩ else some ⟨g, atP Q key * 2, none⟩) (Q.length - atP Q key) (cn - atP Q key)) (Q.drop (atP Q key))) := Lib.hid (fun W hb => (HR7.out.below hb).dropIf hal hg7 (Nat.lt_of_lt_of_le hg7 hb.size))
                    go_upto_region 16 with (fail)
                    go_region_held3 (fun w' => w'.cell? ⟨cb, 0, none⟩ = some (strV key) ∧ w'.cell? ⟨cb, 1, none⟩ = some (.slice ay 3 cy) ∧ (convert 26 9 (.slice ay 3 cy)).run Tryd.prog w' = .ok (strV [UInt8.ofNat b, UInt8.ofNat j, UInt8.ofNat a]) w')
                      (with_reducible (first | exact HSK.out _ (undrew' (Below.refl _ _)) | exact HSK.out _ hB11 | exact HSK.out _ hB10 | exact HSK.out _ hB9 | exact HSK.out _ (hB9.alloc hB9.size _) | exact HSK.out _ hBa | exact HSK.out _ hBb | exact HSK.out _ hBc | exact HSK.out _ hBy))
                      (first
                        | (have _t := HT1; clear _t; refine step_appEG rfl _ _ rfl w7.heap.size (.slice (some ⟨w7.heap.size, 0, none⟩) 0 0) [] (by rfl) (by with_reducible exact hOa) (.slice (some ⟨g, 0, none⟩) (atP Q key) cn) (Q.take (atP Q key)) (by rfl) (by with_reducible exact HT1.out _ hBa) (by simp; omega) (by with_reducible exact hBa.size) ?_; intro v2 w9 hn9 hg9 hb9
                           have hn9 : w9.ownsRow w7.heap.size 60 2 v2 (Q.take (atP Q key)).length (rowE (Q.take (atP Q key))) := hn9
                           have hB9 : Below w7.heap.size w7 w9 := hBa.trans hb9
                           clear HT1)
                        | (have _t := HT1; clear _t; refine step_appEG rfl _ _ rfl w7.heap.size (.slice (some ⟨w7.heap.size, 0, none⟩) 0 0) [] (by rfl) (by with_reducible exact hOb) (.slice (some ⟨g, 0, none⟩) (atP Q key) cn) (Q.take (atP Q key)) (by rfl) (by with_reducible exact HT1.out _ hBb) (by simp; omega) (by with_reducible exact hBb.size) ?_; intro v2 w9 hn9 hg9 hb9
                           have hn9 : w9.ownsRow w7.heap.size 60 2 v2 (Q.take (atP Q key)).length (rowE (Q.take (atP Q key))) := hn9
                           have hB9 : Below w7.heap.size w7 w9 := hBb.trans hb9
                           have hY9 := hYb.drew.grown hg9 (fun e => by simp [Value.ownBlock] at e)
                           clear HT1)
                        | (have _t := HT1; clear _t; refine step_appEG rfl _ _ rfl w7.heap.size (.slice (some ⟨w7.heap.size + 1, 0, none⟩) 0 0) [] (by rfl) (by with_reducible exact hOc) (.slice (some ⟨g, 0, none⟩) (atP Q key) cn) (Q.take (atP Q key)) (by rfl) (by with_reducible exact HT1.out _ hBc) (by simp; omega) (by with_reducible exact hBc.size) ?_; intro v2 w9 hn9 hg9 hb9
                           have hn9 : w9.ownsRow w7.heap.size 60 2 v2 (Q.take (atP Q key)).length (rowE (Q.take (atP Q key))) := hn9
                           have hB9 : Below w7.heap.size w7 w9 := hBc.trans hb9
                           have hY9 := hYc.drew.grown hg9 (fun e => by simp [Value.ownBlock] at e)
                           clear HT1)
                        | (have _t := hn9; clear _t; refine step_appEG (q := fun _ => True) rfl _ _ rfl w7.heap.size v2 (Q.take (atP Q key)) (by rfl) (by with_reducible exact hn9.alloc _) (.slice (some ⟨w9.heap.size, 0, none⟩) 1 1) [(key, [UInt8.ofNat b, UInt8.ofNat j, UInt8.ofNat a])] (by rfl) (by with_reducible exact RdE.one (Blk.new w9 _ [strV key, strV [UInt8.ofNat b, UInt8.ofNat j, UInt8.ofNat a]]) trivial) (by simp; omega) (by with_reducible exact (hB9.alloc hB9.size _).size) ?_; intro v3 w10 hn10 hg10 hb10
                           have hB10 : Below w7.heap.size w7 w10 := (hB9.alloc hB9.size _).trans hb10
                           clear hn9)
                        | (have _t := hn9; clear _t; refine step_appEG (q := fun _ => True) rfl _ _ rfl w7.heap.size v2 (Q.take (atP Q key)) (by rfl) (by with_reducible exact hn9) (.slice (some ⟨w7.heap.size + 1, 0, none⟩) 1 1) [(key, [UInt8.ofNat b, UInt8.ofNat j, UInt8.ofNat a])] (by rfl) (by with_reducible exact RdE.one hY9 trivial) (by simp; omega) (by with_reducible exact hB9.size) ?_; intro v3 w10 hn10 hg10 hb10
                           have hB10 : Below w7.heap.size w7 w10 := hB9.trans hb10
                           clear hn9)
                        | (have _t := hn9; clear _t; refine step_appEG (q := fun _ => True) rfl _ _ rfl w7.heap.size v2 (Q.take (atP Q key)) (by rfl) (by with_reducible exact hn9) (.slice (some ⟨w7.heap.size, 0, none⟩) 1 1) [(key, [UInt8.ofNat b, UInt8.ofNat j, UInt8.ofNat a])] (by rfl) (by with_reducible exact RdE.one hY9 trivial) (by simp; omega) (by with_reducible exact hB9.size) ?_; intro v3 w10 hn10 hg10 hb10
                           have hB10 : Below w7.heap.size w7 w10 := hB9.trans hb10
                           clear hn9)
                        | (refine step_appEG rfl _ _ rfl w7.heap.size v3 (Q.take (atP Q key) ++ [(key, [UInt8.ofNat b, UInt8.ofNat j, UInt8.ofNat a])]) (by rfl) (by with_reducible exact hn10) (.slice (if cn = atP Q key then some ⟨g, 0, none⟩ else some ⟨g, atP Q key * 2, none⟩) (Q.length - atP Q key) (cn - atP Q key)) (Q.drop (atP Q key)) (by rfl) (by with_reducible exact HT2.out w10 hB10) (by simp; omega) (by with_reducible exact hB10.size) ?_; intro v4 w11 hn11 hg11 hb11
                           have hB11 : Below w7.heap.size w7 w11 := hB10.trans hb11))
                    all_goals
                      have HF := Lib.hid (HC7.out.ents (Grown.of_below hB11) (own_mono hn11 (show w.heap.size + 1 ≤ w7.heap.size by omega)))
                      rw [← HE.out] at HF
                      clear hn11 hB11 hB10 hB9 hn10 hg9 hg10 hg11 hb9 hb10 hb11
                      go_wp2_with fail
                      all_goals
                        go_meet
                        exact ⟨_, (⟨key, [UInt8.ofNat b, UInt8.ofNat j, UInt8.ofNat a], false⟩, .slice ay 3 cy), rfl, by rw [htt], HF.out, HA.out.symm, rfl, rfl⟩
              case rest =>
                obtain ⟨Q', y', rfl, rfl, hC8, hy1, hQ', hone⟩ := hcut
                clear HC7 HQ HBT x3
                generalize wc = w8 at *
                have d0 := hC8.chg.cell 0 (by show 0 < 3; omega)
                have d1 := hC8.chg.cell 1 (by show 1 < 3; omega)
                have d2 := hC8.chg.cell 2 (by show 2 < 3; omega)
                simp only [chgCells, List.getD_cons_zero, List.getD_cons_succ] at d0 d1 d2
                have hal8 : Below w8.heap.size w8 (w8.alloc (.cells (chgCells y').toArray 65)) := (Below.refl _ w8).alloc (Nat.le_refl _) _
                have hC9 := hC8.keep hal8
                have hl8 := hC8.base.box.lt
                have hblk := Blk.new w8 65 (chgCells y')
                have HC9 := Lib.hid hC9
                have HFIN : Hid (xs.map (·.1) ++ [y'.1] = chList ⟨kind, n, a, b, power⟩ P (j + 1) ∧ Q' = pChgs P (chList ⟨kind, n, a, b, power⟩ P (j + 1))) := Lib.hid (by
                  rw [chList, hQ', hy1, HXS.out.1, ← HXS.out.2.1]
                  refine ⟨rfl, ?_⟩
                  unfold pChgs
                  rw [List.foldl_append]
                  show pChg Q _ = pChg (pChgs P _) _
                  rw [← HXS.out.2.1])
                have hxl := HXS.out.2.2.2.2
                have hyo : y'.2 = y'.2 := rfl
                have hrow := hC9.base.row
                have hval := hC9.val
                clear hC9 hC8 hal8 hyo hy1 hQ'
                go_wp2_with (at_builtin; go_must (refine wpList_chgG rfl _ _ rfl (w.heap.size + 1) u6 xs rfl hrow w8.heap.size 1 y' rfl hblk hval hone (by omega) (by simp; omega) ?_); intro lv' w9 hrow9 hg9)
                go_roundw
                case rel =>
                  exact ⟨j + 1, xs ++ [y'], Q', by omega, by go_num, HC9.out.done hg9 hrow9, by rw [List.map_append]; exact HFIN.out.1, HFIN.out.2⟩
                case measure => simp [intOf]; omega
    · have t1 : (decide ((j : Int) ≤ ((n % 4 : Nat) : Int))) = false := decide_eq_false (by omega)
      obtain rfl : j = n % 4 + 1 := by omega
      have HF : Hid (ChgRow wr w.heap.size u6 xs ∧ wr.ownsRow w.heap.size 60 2 u7 Q.length (rowE Q) ∧ Below w.heap.size w wr) := Lib.hid ⟨⟨own_mono hC.row.row (by omega), fun p hp => own_mono (hC.row.val p hp) (by omega)⟩, own_mono hC.now (by omega), hC.below⟩
      have HX := Lib.hid (And.intro hxs hQ)
      clear hC hxs hQ hql hqo
      go_wp2
      go_ret2
      refine ⟨_, _, xs, rfl, HX.out.1, HF.out.1, ?_, HF.out.2.2⟩
      have h := HF.out.2.1
      rw [HX.out.2] at h
      exact h
end Go.Proofs.YtondomklkapogaaDoor
