/- Lists of changes in memory, and the code of a commit. -/
import Derived.Test.YtondomklkapogaaDoorJRead
import Derived.Deep.RegionHeld3
namespace Go.Proofs.YtondomklkapogaaDoor
open Go.RowKit SeedP
/-- a change -/
structure Chg where
  key : List UInt8
  val : List UInt8
  drop : Bool
abbrev strV (l : List UInt8) : Value := .string ⟨l.toArray⟩
/-- one change in memory: its value lies below block B -/
def ChgIn (w : World) (B g off : Nat) (c : Chg) : Prop :=
  ∃ vv, w.cell? ⟨g, off, none⟩ = some (strV c.key) ∧ w.cell? ⟨g, off + 1, none⟩ = some vv ∧ w.cell? ⟨g, off + 2, none⟩ = some (.bool c.drop) ∧ RdB w B vv c.val
/-- a slice of changes, below block B -/
def ChgsAt (w : World) (B : Nat) (v : Value) (cs : List Chg) : Prop :=
  ∃ a cap, v = .slice a cs.length cap ∧ cs.length ≤ cap ∧ cap ≤ maxLen ∧ (cs = [] ∨ ∃ g off, a = some ⟨g, off, none⟩ ∧ g < B ∧ ∀ j (h : j < cs.length), ChgIn w B g (off + j * 3) cs[j])
theorem ChgIn.below {w w' : World} {B g off : Nat} {c : Chg} (h : ChgIn w B g off c) (hb : Below B w w') (hg : g < B) : ChgIn w' B g off c := by
  obtain ⟨vv, h0, h1, h2, h3⟩ := h
  exact ⟨vv, (hb.cell (p := ⟨g, off, none⟩) hg).trans h0, (hb.cell (p := ⟨g, off + 1, none⟩) hg).trans h1, (hb.cell (p := ⟨g, off + 2, none⟩) hg).trans h2, h3.below hb⟩
theorem ChgsAt.below {w w' : World} {B : Nat} {v : Value} {cs : List Chg} (h : ChgsAt w B v cs) (hb : Below B w w') : ChgsAt w' B v cs := by
  obtain ⟨a, cap, e, h1, h2, h3⟩ := h
  refine ⟨a, cap, e, h1, h2, ?_⟩
  rcases h3 with h3 | ⟨g, off, e2, hg, h4⟩
  · exact Or.inl h3
  · exact Or.inr ⟨g, off, e2, hg, fun j hj => (h4 j hj).below hb hg⟩
/-- the code of a change -/
def chgCode (c : Chg) : List UInt8 := if c.drop then 1 :: UInt8.ofNat c.key.length :: c.key else 0 :: (UInt8.ofNat c.key.length :: c.key ++ numB c.val.length 2 ++ c.val)
def codeOf (cs : List Chg) : List UInt8 := UInt8.ofNat cs.length :: cs.flatMap chgCode
theorem codeOf_take (cs : List Chg) (j : Nat) (h : j < cs.length) : (UInt8.ofNat cs.length :: (cs.take (j + 1)).flatMap chgCode) = (UInt8.ofNat cs.length :: (cs.take j).flatMap chgCode) ++ chgCode cs[j] := by
  rw [List.take_succ_eq_append_getElem h, List.flatMap_append]; simp
theorem chgCode_len (c : Chg) (hk : c.key.length ≤ 65535) (hv : c.val.length ≤ 65535) : (chgCode c).length ≤ 131080 := by
  unfold chgCode; split <;> simp [numB_length] <;> omega
set_option maxRecDepth 100000 in
/-- commitCode -/
theorem commitCode_c (v : Value) (cs : List Chg) (w : World) (hv : ChgsAt w w.heap.size v cs) (hn : cs.length ≤ 64) (hb : ∀ c ∈ cs, c.key.length ≤ 65535 ∧ c.val.length ≤ 65535) :
    Calls Tryd.prog 30 #[v] w fun e w' => (∃ v', e = .returned v' ∧ w'.ownsRow w.heap.size 5 1 v' (codeOf cs).length (byts (codeOf cs))) ∧ Below w.heap.size w w' := by
  obtain ⟨a, cap, rfl, hcap, hcm, hc⟩ := hv
  have HC := Lib.hid hc
  have HB := Lib.hid hb
  clear hc hb
  have hb1 : ((UInt8.ofNat cs.length).toNat : Int) = cs.length := by rw [UInt8.toNat_ofNat']; omega
  have hy0 : (w.alloc (.cells #[.int .u8 (UInt8.ofNat cs.length).toNat] 5)).ownsRow w.heap.size 5 1 (.slice (some ⟨w.heap.size, 0, none⟩) 1 1) 1 (byts [UInt8.ofNat cs.length]) := own_lit w w.heap.size [UInt8.ofNat cs.length] (by simp [maxLen]) 1 rfl (Nat.le_refl _)
  rw [hb1] at hy0
  clear hb1
  have HE := Lib.hid (codeOf_take cs)
  generalize hn8 : UInt8.ofNat cs.length = n8 at *
  have HN8 := Lib.hid hn8
  clear hn8
  go_enter Tryd.func30, Tryd.ntmps30
  go_wp2
  go_loopw [3, 12] (fun b i wr => ∃ j : Nat, j ≤ cs.length ∧ i = .int .i64 j ∧ wr.ownsRow w.heap.size 5 1 b (n8 :: (cs.take j).flatMap chgCode).length (byts (n8 :: (cs.take j).flatMap chgCode)) ∧ (n8 :: (cs.take j).flatMap chgCode).length ≤ 1 + j * 131080 ∧ Below w.heap.size w wr) (fun _ i _ => cs.length - (intOf i).toNat)
  case atStart => exact ⟨0, Nat.zero_le _, rfl, by simpa using hy0, by simp, (Below.refl _ _).alloc (Nat.le_refl _) _⟩
  case round =>
    obtain ⟨j, hj, rfl, hown, hlen, hB⟩ := hrel
    by_cases hlt : j < cs.length
    · rcases HC.out with h | ⟨g, off, rfl, hg, hch⟩
      · rw [h] at hlt; simp at hlt
      obtain ⟨vv, h0, h1, h2, h3⟩ := (hch j hlt).below hB hg
      have b1 : (j : Int) < cs.length := by omega
      have HJ := Lib.hid (HE.out j hlt)
      have H3 := Lib.hid h3
      obtain ⟨av, capv, rfl, _, _, _⟩ := h3.open_
      clear hch h3
      go_upto_region 5 with (fail)
      have hk := HB.out cs[j] (List.getElem_mem hlt)
      generalize cs[j] = c at *
      obtain ⟨key, val, drop⟩ := c
      simp only at h0 h1 h2 hk H3
      have hb1 := Blk.new wr 65 [strV key, .slice av val.length capv, .bool drop]
      have hy1 := hown.alloc (.cells [strV key, .slice av val.length capv, .bool drop].toArray 65)
      have HB1 : Below w.heap.size w (wr.alloc (.cells [strV key, .slice av val.length capv, .bool drop].toArray 65)) := hB.alloc hB.size _
      have HV1 := Lib.hid (H3.out.below ((Below.refl w.heap.size wr).alloc hB.size (.cells [strV key, .slice av val.length capv, .bool drop].toArray 65)))
      clear h0 h1 h2 hown hB H3
      simp only [strV] at hb1 hy1 HB1 HV1
      generalize wr.alloc (.cells [.string ⟨key.toArray⟩, .slice av val.length capv, .bool drop].toArray 65) = w1 at *
      generalize wr.heap.size = gb at *
      have c0 := hb1.cell 0 (by simp)
      have c1 := hb1.cell 1 (by simp)
      have c2 := hb1.cell 2 (by simp)
      simp only [List.getD_cons_zero, List.getD_cons_succ] at c0 c1 c2
      generalize (n8 :: (cs.take j).flatMap chgCode) = ys at *
      obtain ⟨hk1, hk2⟩ := hk
      have hks : (⟨key.toArray⟩ : ByteArray).size ≤ 65535 := by show key.toArray.size ≤ _; simpa using hk1
      have hs1 := HB1.size
      have hkl : IntKind.u8.wrap (key.length : Int) = ((UInt8.ofNat key.length).toNat : Int) := by rw [IntKind.wrap_u8, UInt8.toNat_ofNat']; omega
      cases drop with
      | true =>
        have HCC := Lib.hid (show chgCode ⟨key, val, true⟩ = [1, UInt8.ofNat key.length] ++ key from rfl)
        generalize UInt8.ofNat key.length = k8 at *
        go_upto_region 6 with (fail)
        go_region_held3 (fun w' => w'.cell? ⟨gb, 0, none⟩ = some (.string ⟨key.toArray⟩))
          (first | exact c3 | exact c0 | exact (hb1.alloc _).drew.cell 0 (by simp))
          (first
            | (have _t := hy1; clear _t; go_must (refine step_app rfl _ _ rfl w.heap.size _ _ ys rfl (hy1.alloc _).drew _ [1, k8] rfl (RdB.drew (rdB_lit w1 [1, k8] (by simp [maxLen]) 2 rfl)) (by simp; omega) (by simp; omega) ?_); intro v2 w2 hy2 hg2
               have hb2 := Blk.own (hb1.alloc (.cells (byts [1, k8]).toArray 5)).drew (hy1.alloc _).drew hg2 (by decide)
               have c3 := hb2.cell 0 (by simp)
               have HB2 := (HB1.alloc hs1 (.cells (byts [1, k8]).toArray 5)).drew.trans (below_own (hy1.alloc _).drew hg2 (by simp; omega))
               have hs2 := HB2.size
               simp only [List.getD_cons_zero] at c3
               clear hy1 hb1 hg2 HB1)
            | (go_must (refine step_appS rfl _ _ rfl w.heap.size _ _ (ys ++ [1, k8]) rfl hy2 ⟨key.toArray⟩ rfl (by simp; omega) hs2 ?_); intro v3 w3 hy3 hg3
               have HB3 := HB2.trans (below_own hy2 hg3 hs2)
               have c3 := (Blk.own hb2 hy2 hg3 (by decide)).cell 0 (by simp)
               simp only [List.getD_cons_zero] at c3
               clear hg3 hy2 hb2))
        all_goals
          go_wp2
          go_roundw
          case rel =>
            have e : n8 :: (cs.take (j + 1)).flatMap chgCode = ys ++ [1, k8] ++ key := by rw [HJ.out, HCC.out, List.append_assoc]
            refine ⟨j + 1, by omega, by go_num, ?_, ?_, HB3⟩
            · rw [e]
              have e3 : (ys ++ [1, k8] ++ key).length = ys.length + [1, k8].length + (⟨key.toArray⟩ : ByteArray).size := by simp only [List.length_append]; rfl
              rw [e3]; exact hy3
            · rw [e]; simp; omega
          case measure => simp [intOf]; omega
      | false =>
        have HCC := Lib.hid (show chgCode ⟨key, val, false⟩ = [0] ++ (UInt8.ofNat key.length :: key ++ numB val.length 2 ++ val) from rfl)
        clear hkl
        go_upto_region 7 with (fail)
        go_region_held3 (fun w' => w'.cell? ⟨gb, 0, none⟩ = some (.string ⟨key.toArray⟩) ∧ w'.cell? ⟨gb, 1, none⟩ = some (.slice av val.length capv))
          (first | exact ⟨c3, c4⟩ | exact ⟨c0, c1⟩ | exact ⟨(hb1.alloc _).drew.cell 0 (by simp), (hb1.alloc _).drew.cell 1 (by simp)⟩)
          (first
            | (have _t := hy1; clear _t; go_must (refine step_app rfl _ _ rfl w.heap.size _ _ ys rfl (hy1.alloc _).drew _ [0] rfl (RdB.drew (rdB_lit w1 [0] (by simp [maxLen]) 1 rfl)) (by simp; omega) (by simp; omega) ?_); intro v2 w2 hy2 hg2
               have hb2 := Blk.own (hb1.alloc (.cells (byts [0]).toArray 5)).drew (hy1.alloc _).drew hg2 (by decide)
               have c3 := hb2.cell 0 (by simp)
               have c4 := hb2.cell 1 (by simp)
               have HBA := ((Below.refl w.heap.size w1).alloc hs1 (.cells (byts [0]).toArray 5)).drew.trans (below_own (hy1.alloc _).drew hg2 (by simp; omega))
               have HB2 := HB1.trans HBA
               have HV2 := Lib.hid (HV1.out.below HBA)
               have hs2 := HB2.size
               simp only [List.getD_cons_zero, List.getD_cons_succ] at c3 c4
               clear hy1 hb1 hg2 HB1 HBA HV1)
            | (go_at_call 49; go_must (refine (entryCode_c _ (ys ++ [0]) ⟨key.toArray⟩ _ val w.heap.size _ (by simpa using hy2) hs2 (by simp; omega) hks hk2 HV2.out).mono ?_); rintro e w3 ⟨⟨v3, rfl, hy3⟩, hg3, hk3⟩
               have hb3 := hb2.kept hk3 (by decide)
               have c3 := hb3.cell 0 (by simp)
               have c4 := hb3.cell 1 (by simp)
               have HB3 := HB2.trans hg3
               simp only [List.getD_cons_zero, List.getD_cons_succ] at c3 c4
               clear hg3 hk3 hb3 hb2 hy2 HB2 HV2))
        all_goals
          go_wp2
          go_roundw
          case rel =>
            have e : n8 :: (cs.take (j + 1)).flatMap chgCode = ys ++ [0] ++ UInt8.ofNat key.length :: key ++ numB val.length 2 ++ val := by rw [HJ.out, HCC.out]; simp
            refine ⟨j + 1, by omega, by go_num, ?_, ?_, HB3⟩
            · rw [e]; exact hy3
            · rw [e]; simp [numB_length]; omega
          case measure => simp [intOf]; omega
    · obtain rfl : j = cs.length := by omega
      go_wp2
      go_ret
      refine ⟨⟨_, rfl, ?_⟩, hB⟩
      have e : n8 :: (cs.take cs.length).flatMap chgCode = codeOf cs := by rw [List.take_of_length_le (Nat.le_refl _)]; rw [← HN8.out]; rfl
      rw [← e]; exact hown
end Go.Proofs.YtondomklkapogaaDoor
