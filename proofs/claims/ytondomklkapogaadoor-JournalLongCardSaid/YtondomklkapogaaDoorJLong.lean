/- JournalLong: the walk of the law. -/
import Derived.Test.YtondomklkapogaaDoorJLibZ
import Derived.Test.YtondomklkapogaaDoorJAwake
import Derived.Deep.CutBlock
import Derived.Deep.CutRange
namespace Go.Proofs.YtondomklkapogaaDoor
open Go.RowKit SeedP Go.Maps
/-- the last values, in memory -/
def valsL (f n : Nat) : List Value := (List.range 50).map (fun k => strV ((lastV f n k).getD []))
theorem valsL_len (f n : Nat) : (valsL f n).length = 50 := by unfold valsL; rw [List.length_map, List.length_range]
theorem valsL_at (f n i : Nat) (h : i < (valsL f n).length) : (valsL f n)[i] = strV ((lastV f n i).getD []) := by
  have h2 : (valsL f n)[i]? = some (strV ((lastV f n i).getD [])) := by
    rw [valsL_len] at h
    unfold valsL
    rw [List.getElem?_map, List.getElem?_range h]; rfl
  rw [List.getElem?_eq_getElem h] at h2
  exact Option.some.inj h2
theorem valsL_zero (f : Nat) : valsL f 0 = List.replicate 50 (strV []) := by
  refine List.ext_getElem (by rw [valsL_len, List.length_replicate]) (fun i h1 h2 => ?_)
  rw [valsL_at, List.getElem_replicate]; rfl
theorem valsL_get (f n k : Nat) (hk : k < 50) : (valsL f n).getD k undef = strV ((lastV f n k).getD []) := by
  rw [List.getD_eq_getElem?_getD, List.getElem?_eq_getElem (by rw [valsL_len]; exact hk), valsL_at]; rfl
theorem valsL_next (f n : Nat) : (valsL f n).set (kL f n) (strV (valL n)) = valsL f (n + 1) := by
  refine List.ext_getElem (by rw [List.length_set, valsL_len, valsL_len]) (fun i h1 h2 => ?_)
  rw [List.getElem_set, valsL_at, valsL_at]
  by_cases e : kL f n = i
  · rw [if_pos e, lastV, if_pos e]; rfl
  · rw [if_neg e, lastV, if_neg e]
theorem byts_valL (i : Nat) : byts (valL i) = ints .u8 (((zeros 300).set 0 ((i % 256 : Nat) : Int)).set 299 ((i / 256 % 256 : Nat) : Int)) := by
  unfold byts valL ints zeros
  rw [List.map_set, List.map_set, List.map_set, List.map_set, List.map_replicate, List.map_replicate]
  have e : ∀ n : Nat, ((UInt8.ofNat n).toNat : Int) = ((n % 256 : Nat) : Int) := fun n => by rw [UInt8.toNat_ofNat']
  rw [e, e]; rfl
/-- one byte as a string -/
theorem conv_one (w : World) (K : Nat) (hK : K < 50) : (convert 26 9 (.slice (some ⟨w.heap.size, 0, none⟩) 1 1)).run Tryd.prog (w.alloc (.cells #[.int .u8 (65 + (K : Int))] 5)) = .ok (strV [UInt8.ofNat (65 + K)]) (w.alloc (.cells #[.int .u8 (65 + (K : Int))] 5)) := by
  have h := conv_c (rdB_lit w [UInt8.ofNat (65 + K)] (by show 1 ≤ maxLen; decide) 1 rfl)
  have e : (byts [UInt8.ofNat (65 + K)]).toArray = #[.int .u8 (65 + (K : Int))] := by
    have hb : (UInt8.ofNat (65 + K)).toNat = 65 + K := by rw [UInt8.toNat_ofNat']; omega
    unfold byts
    simp only [List.map_cons, List.map_nil, hb, Int.natCast_add]
    rfl
  rw [e] at h
  exact h
theorem key_app (K : Nat) : (⟨#[107, 101, 121]⟩ : ByteArray) ++ ⟨#[65 + UInt8.ofNat K]⟩ = ⟨(keyL K).toArray⟩ := by
  apply ByteArray.ext
  rw [ByteArray.data_append]
  unfold keyL
  rw [UInt8.ofNat_add]
  rfl
theorem long_keys {f n : Nat} {P : PEnts} (h : LongE f n P) (hn : 50 ≤ n) : ((keysOf P).filter (isPref [107, 101, 121])).length = 50 := by
  have e : (keysOf P).filter (isPref [107, 101, 121]) = keysOf P := by
    rw [List.filter_eq_self]
    intro k hk
    obtain ⟨x, hx, rfl⟩ := List.mem_map.1 hk
    obtain ⟨⟨i, _, hi⟩, _⟩ := h.ent x hx
    rw [hi]; rfl
  rw [e]
  unfold keysOf
  rw [List.length_map, h.full hn]
set_option maxRecDepth 100000 in
set_option maxHeartbeats 8000000 in
/-- the law -/
theorem journalLong_walk (a0 : Int) (W : World) (hs : St W) (h0 : 0 ≤ a0 ∧ a0 ≤ 255) :
    Calls Tryd.prog 6 #[.int .u8 a0] W fun e w' => e = .returned (.bool true) ∧ Below W.heap.size W w' := by
  obtain ⟨f, rfl⟩ : ∃ f : Nat, a0 = f := ⟨a0.toNat, by omega⟩
  obtain ⟨h00, h01⟩ := h0
  go_enter Tryd.func6, Tryd.ntmps6
  go_wp2_with fail
  refine (awake_c _ hs).mono ?_
  rintro e w1 ⟨rfl, hb1⟩
  have hs1 := hs.below hb1 hs.pos
  go_wp2_with fail
  refine (empty_c w1 hs1).mono ?_
  rintro e w2 ⟨rfl, hD, hb2⟩
  have hB2 := hb1.trans (hb2.mono hb1.size)
  have hzz := hb1.size
  clear hb1 hb2 hs1 hs
  generalize hdb : w1.heap.size = db at *
  clear hdb w1
  go_wp2_with fail
  refine (open_x hD (empty_ok (-1) (by decide) (by decide))).mono ?_
  rintro e w3 ⟨jb, mb, rfl, hX3, hb3⟩
  have HX := Lib.hid hX3
  have HB3 := Lib.hid (hB2.trans (hb3.mono hB2.size))
  clear hX3 hB2 hb3 hD
  have hV := Blk.new w3 57 (List.replicate 50 (strV []))
  have hbV := (Below.refl w3.heap.size w3).alloc (Nat.le_refl _) (.cells (List.replicate 50 (strV [])).toArray 57)
  rw [← valsL_zero f] at hV hbV
  have HV0 := Lib.hid (And.intro hV (And.intro (HX.out.z.below hbV) (HB3.out.trans (hbV.mono HB3.out.size))))
  have HPV : Hid (¬ ((db ≤ w3.heap.size ∧ w3.heap.size ≠ jb ∧ w3.heap.size ≠ db ∧ w3.heap.size ≠ mb) ∧ w3.heap.size < w3.heap.size)) := Lib.hid (fun h => Nat.lt_irrefl _ h.2)
  have hvb : W.heap.size ≤ w3.heap.size := HB3.out.size
  have hvl : db < w3.heap.size := HX.out.size
  clear hV hbV
  go_upto_region 9 with (fail)
  have HV1 : Hid (Blk (w3.alloc (.cells (valsL f 0).toArray 57)) w3.heap.size 57 (valsL f 0) ∧ JZ db (fun g => (db ≤ g ∧ g ≠ jb ∧ g ≠ db ∧ g ≠ mb) ∧ g < w3.heap.size) (w3.alloc (.cells (valsL f 0).toArray 57)) db jb mb (jOpen ⟨-1, [], []⟩) ∧ Below W.heap.size W (w3.alloc (.cells (valsL f 0).toArray 57))) := HV0
  change Code.wp _ _ _ _ (w3.alloc (.cells (valsL f 0).toArray 57))
  generalize w3.alloc (.cells (valsL f 0).toArray 57) = w4 at *
  generalize w3.heap.size = vb at *
  clear HX HB3 HV0
  have hmk : ∀ w : World, (Instr.makeSlice 26 (.int .i64 300) (.int .i64 300)).run Tryd.prog w = .ok (.slice (some ⟨w.heap.size, 0, none⟩) 300 300) (w.alloc (.cells (ints .u8 (zeros 300)).toArray 5)) := fun w => by
    obtain ⟨i, hi, hz, hs1, hby⟩ := info_parts infoB
    exact make_ints 26 5 i .u8 Tryd.underlying26 hi hz hs1 (by rw [hby]; omega) 300 (by omega) w
  go_wp2_with fail
  go_loopw [4, 7] (fun jv iv wr => ∃ (n jb mb : Nat) (s : JS) (p : Nat → Prop), n ≤ 3000 ∧ jv = .pointer (some ⟨jb, 0, none⟩) ∧ iv = .int .i64 n ∧ LongS f n s ∧ JZ db p wr db jb mb s ∧ ¬ p vb ∧ Blk wr vb 57 (valsL f n) ∧ Below W.heap.size W wr) (fun _ i _ => 3000 - (intOf i).toNat)
  case atStart => exact ⟨0, jb, mb, _, _, by omega, rfl, rfl, LongS.start f, HV1.out.2.1, HPV.out, HV1.out.1, HV1.out.2.2⟩
  case round =>
    obtain ⟨n, jb, mb, s, p, hn, rfl, rfl, hL, hX, hpv, hV, hB⟩ := hrel
    clear HV1 HPV
    have HPV := Lib.hid hpv
    have HL := Lib.hid hL
    have HX := Lib.hid hX
    have HV := Lib.hid hV
    have HB := Lib.hid hB
    have hzr := hB.size
    have hvlt := hV.lt
    clear hL hX hV hB hpv
    by_cases hlt : n < 3000
    · have b1 : (decide ((n : Int) < 3000)) = true := decide_eq_true (by omega)
      have hkk : ((n : Int) * 7 + (f : Int)) % 50 = ((kL f n : Nat) : Int) := by unfold kL; omega
      have hkl := kL_lt f n
      go_upto_region 13 with (fail)
      have hN := Blk.new wr 5 (ints .u8 (zeros 300))
      have hbN := (Below.refl wr.heap.size wr).alloc (Nat.le_refl _) (.cells (ints .u8 (zeros 300)).toArray 5)
      obtain ⟨nb, hnb⟩ : ∃ nb, wr.heap.size = nb := ⟨_, rfl⟩
      have HJLT := Lib.hid (show jb < nb ∧ db < nb ∧ mb < nb by have := HX.out.jw.lt; rw [hnb] at this; exact this)
      rw [hnb] at hN hbN ⊢
      generalize wr.alloc (.cells (ints .u8 (zeros 300)).toArray 5) = w5 at *
      have HBN := Lib.hid hbN
      have HNB := Lib.hid hnb
      have c0 : w5.cell? ⟨nb, 0, none⟩ = some (.int .u8 0) := by
        have := hN.cell 0 (by rw [ints_length, zeros_length]; omega)
        rwa [ints_getD _ _ _ (by rw [zeros_length]; omega)] at this
      have c1 : w5.cell? ⟨nb, 299, none⟩ = some (.int .u8 0) := by
        have := hN.cell 299 (by rw [ints_length, zeros_length]; omega)
        rwa [ints_getD _ _ _ (by rw [zeros_length]; omega)] at this
      have f0 := hN.frozen 0
      have f1 := hN.frozen 299
      have hN6 := (hN.setInt (k := .u8) 0 (((n % 256 : Nat) : Int))).setInt (k := .u8) 299 (((n / 256 % 256 : Nat) : Int))
      rw [← byts_valL n] at hN6
      have hb6 := (hbN.setCell (p := ⟨nb, 0, none⟩) (Nat.le_refl _) (.int .u8 ((n % 256 : Nat) : Int))).setCell (p := ⟨nb, 299, none⟩) (Nat.le_refl _) (.int .u8 ((n / 256 % 256 : Nat) : Int))
      have HN6 := Lib.hid (And.intro hN6 hb6)
      clear hN hN6 hb6 hbN hnb HBN
      have hw0 : IntKind.u8.wrap (n : Int) = ((n % 256 : Nat) : Int) := by rw [IntKind.wrap_u8]; omega
      have hw1 : IntKind.u8.wrap ((n : Int) / 256) = ((n / 256 % 256 : Nat) : Int) := by rw [IntKind.wrap_u8]; omega
      go_upto_region 14 with (fail)
      rw [hkk]
      change Code.wp _ _ _ _ ((w5.setCell ⟨nb, 0, none⟩ (.int .u8 ((n % 256 : Nat) : Int))).setCell ⟨nb, 299, none⟩ (.int .u8 ((n / 256 % 256 : Nat) : Int)))
      generalize (w5.setCell ⟨nb, 0, none⟩ (.int .u8 ((n % 256 : Nat) : Int))).setCell ⟨nb, 299, none⟩ (.int .u8 ((n / 256 % 256 : Nat) : Int)) = w6 at *
      have hb6 := HN6.out.2
      rw [← HNB.out] at hb6
      have hX6 := HX.out.below hb6
      have hV6 := HV.out.below hb6
      have hB6 := HB.out.trans (hb6.mono hzr)
      have HVN : Hid (w6.ownsRow nb 5 1 (.slice (some ⟨nb, 0, none⟩) 300 300) (valL n).length (byts (valL n))) := Lib.hid (by
        have h := own_blk (n := 300) HN6.out.1 (Nat.le_refl nb) (by rw [byts_length, valL_length]) (by decide)
        rwa [valL_length])
      have HR6 := Lib.hid (And.intro hX6 (And.intro hV6 hB6))
      clear hX6 hV6 hB6 hb6 c0 c1 f0 f1 hw0 hw1 HX HV HB
      have hku : IntKind.u8.wrap (65 + ((kL f n : Nat) : Int)) = 65 + ((kL f n : Nat) : Int) := by rw [IntKind.wrap_u8]; omega
      generalize hK : kL f n = K at *
      have hcv := conv_one w6 K hkl
      have hms := LongS.next HL.out (by omega)
      unfold chL at hms
      rw [hK] at hms
      have HS6 := Lib.hid (set_z (HR6.out.1.below ((Below.refl w6.heap.size w6).alloc (Nat.le_refl _) (.cells #[.int .u8 (65 + (K : Int))] 5))) (keyL K) (valL n) (.slice (some ⟨nb, 0, none⟩) 300 300) (RdP.own (HVN.out.alloc _) (fun g hg _ => by have := HJLT.out; omega)) (by show 4 ≤ 1073741824; omega) (by rw [valL_length]; omega))
      rw [hms.1] at HS6
      have HMS := Lib.hid hms.2
      clear hms
      go_wp2_with fail
      rw [key_app]
      refine HS6.out.mono ?_
      rintro e w7 ⟨rfl, hX7, hG7⟩
      obtain ⟨fa0, fc0, fa1, fc1, _, d1, d2, _, _, _⟩ := hX7.x.jl.dl.cells
      have hf0 : ((jCommit [⟨keyL K, valL n, false⟩] s).1.d.f0.length : Int) ≤ 262144 := by have := HMS.out.live.ok.f0; omega
      have hf1 : ((jCommit [⟨keyL K, valL n, false⟩] s).1.d.f1.length : Int) ≤ 262144 := by have := HMS.out.live.ok.f1; omega
      have hVb := HR6.out.2.1.alloc (.cells #[.int .u8 (65 + (K : Int))] 5)
      have hXb := HR6.out.1.below ((Below.refl w6.heap.size w6).alloc (Nat.le_refl _) (.cells #[.int .u8 (65 + (K : Int))] 5))
      have hoth := hXb.x.jw.other hVb (by decide) (by decide)
      have hV7 := hVb.grown hG7 (fun e => by unfold Sj at e; omega)
      have hrow := own_keep (HVN.out.alloc (.cells #[.int .u8 (65 + (K : Int))] 5)) hG7 (fun g hg e => by
        obtain rfl : nb = g := by simpa [Value.ownBlock] using hg
        have := HJLT.out
        unfold Sj at e; omega)
      have hcv2 : (convert 26 9 (.slice (some ⟨nb, 0, none⟩) 300 300)).run Tryd.prog w7 = .ok (strV (valL n)) w7 := by
        have h := RdB.of_own hrow
        have h2 := conv_c h
        exact h2
      have hvk := hV7.cell K (by rw [valsL_len]; exact hkl)
      have hvf := hV7.frozen K
      rw [valsL_get _ _ _ hkl] at hvk
      have hB7 := ((HR6.out.2.2.alloc HR6.out.2.2.size _).trans ((hXb.x.cut hG7).mono hzz))
      have hV8 := hV7.set K (strV (valL n))
      rw [← hK, valsL_next, hK] at hV8
      have hpn : ¬ pNext p (w6.alloc (.cells #[.int .u8 (65 + (K : Int))] 5)) w7 vb := pNext.not HPV.out hVb.lt
      have hX8 := hX7.grown (S := fun g => g = vb) (Grown.setCell (S := fun g => g = vb) (Grown.refl _ w7) (a := ⟨vb, K, none⟩) rfl (strV (valL n))) (fun g e => by
        subst e
        exact ⟨hpn, fun e => by unfold Sj at e; omega, by omega⟩)
      have hB8 := hB7.setCell (p := ⟨vb, K, none⟩) (by show W.heap.size ≤ vb; omega) (strV (valL n))
      have HR8 := Lib.hid (And.intro hX8 (And.intro hpn (And.intro hV8 hB8)))
      clear hVb hXb hoth hV7 hrow hB7 hV8 hpn hX8 hB8 hX7 hG7 HS6 hcv HR6
      generalize (jCommit [⟨keyL K, valL n, false⟩] s).1 = s7 at *
      generalize pNext p (w6.alloc (.cells #[.int .u8 (65 + (K : Int))] 5)) w7 = p7 at *
      cases h5 : ((n : Int) % 500 == 499) with
      | true =>
        go_wp2_with fail
        change Calls _ _ _ (w7.setCell ⟨vb, K, none⟩ (strV (valL n))) _
        generalize w7.setCell ⟨vb, K, none⟩ (strV (valL n)) = w8 at *
        refine (reopen_z HR8.out.1).mono ?_
        rintro e w9 ⟨jb2, mb2, rfl, hj2, hm2, ⟨p2, hp2, hX9⟩, hb9⟩
        have HR9 := Lib.hid (And.intro hX9 (And.intro (show ¬ p2 vb from fun h => by
          rcases hp2 vb h with h | h
          · exact HR8.out.2.1 h
          · have := HR8.out.2.2.1.lt; omega) (And.intro (HR8.out.2.2.1.below hb9) (HR8.out.2.2.2.trans (hb9.mono HR8.out.2.2.2.size)))))
        have HO := Lib.hid (HMS.out.reopen (by omega))
        clear hX9 hp2 hb9 d1 d2 hf0 hf1 hcv2 hvk hvf
        go_wp2
        go_roundw
        case rel => exact ⟨n + 1, jb2, mb2, _, p2, by omega, rfl, by go_num, HO.out, HR9.out⟩
        case measure => simp [intOf]; omega
      | false =>
        go_wp2
        go_roundw
        case rel => exact ⟨n + 1, jb, mb, s7, p7, by omega, rfl, by go_num, HMS.out, HR8.out⟩
        case measure => simp [intOf]; omega
    · have b1 : (decide ((n : Int) < 3000)) = false := decide_eq_false (by omega)
      have b1' : ¬ ((n : Int) < 3000) := by omega
      have hen : s.ents = s.c.ents := ents_up HL.out.live
      have hdn := HL.out.live.up
      have hgen := HL.out.old (by omega)
      have HEN := Lib.hid hen
      have HDN := Lib.hid hdn
      clear hen hdn hmk
      generalize wr = wq at *
      go_wp2_with fail
      go_loopw [10] (fun iv w2 => ∃ k : Nat, k ≤ 50 ∧ iv = .int .i64 k ∧ Below wq.heap.size wq w2) (fun i _ => 50 - (intOf i).toNat)
      case atStart => exact ⟨0, by omega, rfl, Below.refl _ _⟩
      case round =>
        obtain ⟨K, hK, rfl, hB2⟩ := hrel
        have HB2 := Lib.hid hB2
        have hz2 := hB2.size
        clear hB2
        by_cases hk : K < 50
        · have b2 : (decide ((K : Int) < 50)) = true := decide_eq_true (by omega)
          have hku : IntKind.u8.wrap (65 + (K : Int)) = 65 + (K : Int) := by rw [IntKind.wrap_u8]; omega
          obtain ⟨v, hv, hvl⟩ := lastV_some f K hk n (by have := Nat.mod_lt (43 * (K + (50 - f % 50))) (show 50 > 0 by omega); omega)
          have hfd : pFind s.ents (keyL K) = some v := by rw [HEN.out, HL.out.ents.find K hk, hv]
          have hcv := conv_one wr K hk
          have hXg := (HX.out.x.below HB2.out).below ((Below.refl wr.heap.size wr).alloc (Nat.le_refl _) (.cells #[.int .u8 (65 + (K : Int))] 5))
          have hG := get_l hXg.jl (keyL K) (by show 4 ≤ 140737488351232; omega)
          rw [hfd] at hG
          simp only [Option.getD_some, Option.isSome_some, hvl] at hG
          have HG := Lib.hid hG
          have hbA := HB2.out.alloc hz2 (.cells #[.int .u8 (65 + (K : Int))] 5)
          have hvk := HV.out.cell K (by rw [valsL_len]; exact hk)
          rw [valsL_get _ _ _ hk, hv] at hvk
          simp only [Option.getD_some] at hvk
          have HVK := Lib.hid hvk
          have HBA := Lib.hid hbA
          clear hXg hG hbA hvk hfd
          go_wp2_with fail
          rw [key_app]
          refine HG.out.mono ?_
          rintro e w3 ⟨⟨ga, gc, rfl, hgr⟩, hb3⟩
          have hB3 := HBA.out.trans (hb3.mono HBA.out.size)
          have hvk := keep_cell hB3 HVK.out
          have hcv2 : ∀ q, (convert 26 9 (.slice ga 300 gc)).run Tryd.prog (w3.drewN q) = .ok (strV v) (w3.drewN q) := fun q => by
            exact conv_c (w := w3.drewN q) hgr
          have HB3 := Lib.hid hB3
          clear hgr hb3 hB3 hcv HG HBA hvl hv
          go_upto_region 25 with (fail)
          go_quiet (fail)
          all_goals
            go_wp2
            go_roundw
            case rel => exact ⟨K + 1, by omega, by go_num, below_drewN HB3.out _⟩
            case measure => simp [intOf]; omega
        · have b2 : (decide ((K : Int) < 50)) = false := decide_eq_false (by omega)
          have b3 : ¬ ((K : Int) < 50) := by omega
          have hXe := HX.out.x.below HB2.out
          have hW := weight_l hXe.jl
          rw [HDN.out] at hW
          simp only [Bool.false_eq_true, if_false] at hW
          rw [HL.out.live.ok.wt, HL.out.ents.wt, HL.out.ents.full (by omega)] at hW
          have hW : Calls Tryd.prog 20 #[.pointer (some ⟨jb, 0, none⟩)] wr fun e w' => e = .returned (.int .i64 15350) ∧ wr = w' := hW
          have HW := Lib.hid hW
          have hG := generation_l hXe.jl
          rw [HDN.out] at hG
          simp only [Bool.false_eq_true, if_false] at hG
          have HG := Lib.hid hG
          have hKs := keys_l hXe.jl [107, 101, 121] (by decide)
          rw [HEN.out, long_keys HL.out.ents (by omega)] at hKs
          have HKS := Lib.hid hKs
          have HF := Lib.hid (HB.out.trans (HB2.out.mono hzr))
          have hgi : (1 : Int) < (s.c.gen : Int) := by omega
          clear hXe hW hG hKs
          generalize (s.c.gen : Int) = gi at *
          go_wp2_with fail
          refine HW.out.mono ?_
          rintro e w4 ⟨rfl, rfl⟩
          go_wp2_with fail
          refine HG.out.mono ?_
          rintro e w4 ⟨rfl, rfl⟩
          go_wp2_with fail
          refine HKS.out.mono ?_
          rintro e w4 ⟨kv, rfl, hkv, hb4⟩
          obtain ⟨ka, kc, rfl⟩ : ∃ ka kc, kv = .slice ka 50 kc := own_slice hkv
          have HF2 := Lib.hid (HF.out.trans (hb4.mono HF.out.size))
          clear hkv hb4
          go_wp2
          go_ret
          exact ⟨rfl, HF2.out⟩
end Go.Proofs.YtondomklkapogaaDoor
