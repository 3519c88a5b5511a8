/- The walk of stateCode. -/
import Derived.Test.YtondomklkapogaaDoorJOps
import Derived.Test.YtondomklkapogaaDoorIterP
import Derived.Sort.KeysCollected
namespace Go.Proofs.YtondomklkapogaaDoor
open Go.RowKit SeedP Go.Maps Go.Shelf
theorem blt_lt : ∀ {a b : List UInt8}, bytesBefore a b = true → a < b
  | [], [], h => by simp [bytesBefore] at h
  | [], _ :: _, _ => List.nil_lt_cons _ _
  | _ :: _, [], h => by simp [bytesBefore] at h
  | x :: r, y :: s, h => by
    simp only [bytesBefore, Bool.or_eq_true, decide_eq_true_eq, Bool.and_eq_true, beq_iff_eq] at h
    rw [List.cons_lt_cons_iff]
    rcases h with h | ⟨h, h2⟩
    · exact Or.inl h
    · exact Or.inr ⟨h, blt_lt h2⟩
theorem strKeys_toD (L : List Ent) : strKeys (toD L) = keysOf (EB L) := by
  unfold toD keysOf EB
  show (L.map fun e => (Lit.string e.key, DataW.held e.val)).map (fun p => strOf p.1) = _
  rw [List.map_map, List.map_map]; rfl
/-- a permutation of keys in order, sorted -/
theorem sort_keys {P : PEnts} (ho : Ordered P) {ss : List (List UInt8)} (h : ss.Perm (keysOf P)) : ss.mergeSort (fun x y => decide (x ≤ y)) = keysOf P := by
  have e := mergeSort_of_perm h
  have e2 : ss.mergeSort (fun x y => decide (x ≤ y)) = ss.mergeSort Go.leB := rfl
  rw [e2, e]
  refine List.mergeSort_of_pairwise ?_
  unfold keysOf
  rw [List.pairwise_map]
  refine ho.imp ?_
  intro a b hab
  simp only [Go.leB, decide_eq_true_eq]
  exact List.le_of_lt (blt_lt hab)
/-- slices.Sort's two contracts at this dump -/
theorem sorts_J (m : Nat) : AnyZ.SortsIn Tryd.prog Tryd.sorted62_ren Fence.wide m :=
  ⟨fun blk off cap ss W hH hblk hsz => callsIn_wide.2 (AnyM.slices_Sort_string Tryd.sort42 blk off cap ss W hH hblk hsz),
   fun p cap W => callsIn_wide.2 (AnyM.slices_Sort_string_none Tryd.sort42 p cap W)⟩
/-- maps.Keys -/
theorem keys_c (mb : Option Nat) (W : World) : Calls Tryd.prog 63 #[.map mb] W fun e w' => e = .returned (.func (.func 76) #[] #[.pointer (some ⟨W.heap.size, 0, none⟩)]) ∧ w' = W.alloc (.cells #[.map mb] 67) :=
  (callsIn_wide (n := 5)).1 (AnyZ.keys_in Tryd.keys63 Fence.wide 5 trivial rfl mb W)
/-- slices.Sorted, over a map's keys -/
theorem sorted_c (mb : Nat) (p : Nat → Prop) (L : List Ent) (w : World) (hM : MapAt w mb p L) (ho : Ordered (EB L)) (hl : L.length ≤ 1000000) :
    Calls Tryd.prog 62 #[.func (.func 76) #[] #[.pointer (some ⟨w.heap.size, 0, none⟩)]] (w.alloc (.cells #[.map (some mb)] 67)) fun e w' =>
      ∃ v : Value, e = .returned v ∧ w'.ownsRow w.heap.size 9 1 v L.length (L.map fun e => strV e.key) ∧ (v = .slice none 0 0 ↔ L = []) ∧ Below w.heap.size w w' := by
  have hown := hM.own
  have hbl := hown.lt
  have hsz : Maps.size (toD L) = L.length := toD_size L
  have hseq : SeqGives Fence.wide 2 Tryd.prog 76 #[.pointer (some ⟨w.heap.size, 0, none⟩)] encStr (fun ss => ss.Perm (strKeys (toD L))) (Maps.size (toD L)) (w.alloc (.cells #[.map (some mb)] 67)) :=
    AnyZ.keys_gives (ρ := Tryd.keys63_ren) { Tryd.keys63 with } Fence.wide _ trivial rfl (by omega) w.heap.size mb L.length (toD L) _ (by simp) (by simp) (by
      obtain ⟨es, clock, hb, Ft, hs, hD⟩ := hown
      exact ⟨es, clock, (Below.heap_alloc _ _ mb hbl).trans hb, Ft, hs, hD⟩)
  have h := AnyZ.sorted_in Tryd.sorted62 Fence.wide 5 trivial trivial trivial trivial rfl (by omega) (sorts_J _) (enters_of Tryd.func42 (by kernel_rfl) rfl) 76 #[.pointer (some ⟨w.heap.size, 0, none⟩)] trivial (enters_of Tryd.func76 (by kernel_rfl) rfl) _ _ (by rw [hsz]; unfold maxLen; omega) (by rw [hsz]; omega) _ hseq
  refine ((callsIn_wide (n := 5)).1 h).mono ?_
  rintro e w' ⟨v, ss, rfl, hS, hrow, hnil, hb⟩
  rw [strKeys_toD] at hS
  rw [sort_keys ho hS] at hrow
  have hlen : ss.length = L.length := by rw [hS.length_eq]; unfold keysOf EB; simp
  refine ⟨v, rfl, ?_, ?_, ?_⟩
  · rw [hlen] at hrow
    have e : (keysOf (EB L)).map encStr = L.map fun e => strV e.key := by unfold keysOf EB; rw [List.map_map, List.map_map]; rfl
    rw [e] at hrow
    exact ownsRow_base_a hrow (by simp)
  · rw [hnil]
    constructor
    · intro h; rw [h] at hlen; exact List.eq_nil_of_length_eq_zero (by simpa using hlen.symm)
    · intro h; rw [h] at hlen; exact List.eq_nil_of_length_eq_zero (by simpa using hlen)
  · exact ((Below.refl _ w).alloc (Nat.le_refl _) _).trans (hb.mono (by simp))
theorem eFind_at {L : List Ent} (h : (keysOf (EB L)).Nodup) {j : Nat} (hj : j < L.length) : eFind L L[j].key = some L[j] := by
  unfold eFind
  induction L generalizing j with
  | nil => simp at hj
  | cons x r ih =>
    have hn := List.nodup_cons.1 (show (x.key :: keysOf (EB r)).Nodup from h)
    rw [List.find?_cons]
    cases j with
    | zero => simp
    | succ j =>
      have hj : j < r.length := by simpa using hj
      have hne : (x.key == r[j].key) = false := by
        simp only [beq_eq_false_iff_ne]
        intro e
        refine hn.1 ?_
        rw [e]
        unfold keysOf EB
        rw [List.map_map]
        exact List.mem_map_of_mem (List.getElem_mem hj)
      rw [List.getElem_cons_succ, hne]
      exact ih hn.2 hj
theorem RdP.toBB {w : World} {p : Nat → Prop} {B : Nat} {v : Value} {l : List UInt8} (h : RdP w p v l) (hp : ∀ g, p g → g < B) : RdB w B v l := by
  rcases h with h | ⟨g, off, cap, e, h1, h2, h3, h4⟩
  · exact Or.inl h
  · exact Or.inr ⟨g, off, cap, e, h1, h2, hp g h3, h4⟩
theorem own_cells {w : World} {B n : Nat} {e : TypeId} {a : Option Addr} {cap : Nat} {xs : List Value} (h : w.ownsRow B e 1 (.slice a n cap) n xs) (hn : 0 < n) : ∃ g cur fr, a = some ⟨g, 0, none⟩ ∧ w.heap[g]? = some (.cells cur e fr) ∧ n ≤ cap ∧ ∀ j, j < n → w.cell? ⟨g, j, none⟩ = xs[j]? := by
  have h' := h
  obtain ⟨hl, h2⟩ := h
  rcases h2 with ⟨e, rfl⟩ | ⟨g, cap', cur, e, hb, hg, hn', hc, hs, ht⟩
  · simp at hl; omega
  · cases e
    exact ⟨g, _, _, rfl, hg, hn', fun j hj => h'.cellAt j (by omega)⟩
theorem ents_take_len (P : PEnts) (j : Nat) : ((P.take j).flatMap entB).length ≤ (P.flatMap entB).length := by
  conv => rhs; rw [← List.take_append_drop j P, List.flatMap_append, List.length_append]
  omega
set_option maxRecDepth 100000 in
set_option maxHeartbeats 1000000 in
/-- stateCode -/
theorem stateCode_c (cb co mb gen : Nat) (L : List Ent) (p : Nat → Prop) (w : World) (hm : w.cell? ⟨cb, co + 1, none⟩ = some (.map (some mb))) (hM : MapAt w mb p L) (ho : Ordered (EB L)) (hw : pWt (EB L) ≤ 131072) (hnd : (keysOf (EB L)).Nodup) (hsm : SmallEnts (EB L)) (hg : gen ≤ 9223372036854775807) :
    Calls Tryd.prog 48 #[.pointer (some ⟨cb, co, none⟩), .int .i64 gen] w fun e w' => (∃ v', e = .returned v' ∧ w'.ownsRow w.heap.size 5 1 v' (stateB gen (EB L)).length (byts (stateB gen (EB L)))) ∧ Below w.heap.size w w' := by
  have hcl := World.block_lt_of_cell? w _ hm
  have hml := hM.lt
  have hll : L.length ≤ 131072 := by
    have := pWt_len (EB L); rw [EB_length] at this; omega
  have hel : ((EB L).flatMap entB).length ≤ 131072 := by have := ents_len (EB L); omega
  have HM := Lib.hid (show MapAt w mb (fun g => g < w.heap.size) L from ⟨hM.own, fun e he => (hM.val e he).mono (fun g hg _ => hg)⟩)
  have H1 := Lib.hid (fun W (h : w.heap.size ≤ W.heap.size) => number_i (.slice none 0 0) [] gen gen 8 w.heap.size 8 W rfl rfl (by simpa [byts] using World.ownsRow_nil W w.heap.size 5 1) h (by omega) (by omega) (by simp))
  have H2 := Lib.hid (fun v ys W hy (h : w.heap.size ≤ W.heap.size) hl => number_i v ys L.length L.length 4 w.heap.size 4 W rfl rfl hy h (by omega) (by omega) hl)
  have HO := Lib.hid (And.intro ho hnd)
  have HE := Lib.hid (And.intro hsm hel)
  clear hM ho hnd hw hel hsm
  go_enter Tryd.func48, Tryd.ntmps48
  go_wp2_with fail
  refine (H1.out _ (Nat.le_refl _)).mono ?_
  rintro e w1 ⟨⟨v1, rfl, hy1⟩, g1, _⟩
  rw [List.nil_append] at hy1
  have c1 : w1.cell? ⟨cb, co + 1, none⟩ = _ := (g1.cell (p := ⟨cb, co + 1, none⟩) hcl).trans hm
  have M1 := HM.out.grown (Grown.of_below g1) (S := fun k => w.heap.size ≤ k) (by omega) (fun g hg h => by omega)
  go_wp2_with (first | (at_len; refine wpList_len_own _ rfl _ 67 rfl 9 _ Tryd.underlying67 _ mb L.length (toD L) rfl M1.own ?_; rw [toD_size]))
  refine (H2.out _ _ _ hy1 g1.size (by simp [numB_length])).mono ?_
  rintro e w2 ⟨⟨v2, rfl, hy2⟩, g2, _⟩
  have G2 := g1.trans g2
  have c2 : w2.cell? ⟨cb, co + 1, none⟩ = _ := (G2.cell (p := ⟨cb, co + 1, none⟩) hcl).trans hm
  have M2 := HM.out.grown (Grown.of_below G2) (S := fun k => w.heap.size ≤ k) (by omega) (fun g hg h => by omega)
  have HK := Lib.hid (keys_c (some mb) w2)
  have HS := Lib.hid (sorted_c mb (fun g => g < w.heap.size) L w2 M2 HO.out.1 (by omega))
  clear H1 H2 g1 g2 hy1 M1 c1
  go_wp2_with fail
  refine HK.out.mono ?_
  rintro e w3 ⟨rfl, rfl⟩
  go_wp2_with fail
  refine HS.out.mono ?_
  rintro e w3 ⟨v3, rfl, hrow, _, g3⟩
  have G3 := G2.trans (g3.mono G2.size)
  have c3 : w3.cell? ⟨cb, co + 1, none⟩ = _ := (G3.cell (p := ⟨cb, co + 1, none⟩) hcl).trans hm
  have hy3 := own_grown hy2 (Grown.of_below g3 (S := fun _ => False)) (fun g _ _ h => h)
  have hz3 := G3.size
  obtain ⟨a3, cap3, rfl⟩ := own_slice hrow
  clear HK HS hy2 M2 c2 G2
  have hXl : (numB gen 8 ++ numB L.length 4).length = 12 := by rw [List.length_append, numB_length, numB_length]
  go_wp2
  go_loopw [5, 26] (fun b i wr => ∃ j : Nat, j ≤ L.length ∧ i = .int .i64 j ∧ wr.ownsRow w.heap.size 5 1 b (numB gen 8 ++ numB L.length 4 ++ ((EB L).take j).flatMap entB).length (byts (numB gen 8 ++ numB L.length 4 ++ ((EB L).take j).flatMap entB)) ∧ Below w.heap.size w wr ∧ Kept w3 wr ∧ w3.heap.size ≤ wr.heap.size) (fun _ i _ => L.length - (intOf i).toNat)
  case atStart => exact ⟨0, Nat.zero_le _, rfl, by simpa using hy3, G3, Kept.refl _, Nat.le_refl _⟩
  case round =>
    obtain ⟨j, hj, rfl, hown, hB, hK, hz⟩ := hrel
    by_cases hlt : j < L.length
    · obtain ⟨g, cur, fr, rfl, hg3, hcap, hcells⟩ := own_cells hrow (by omega)
      have hgr : wr.heap[g]? = w3.heap[g]? := hK g (Array.getElem?_eq_some_iff.1 hg3).1 (fun cur' fr' e => by rw [hg3] at e; simp only [Option.some.injEq, Obj.cells.injEq] at e; exact absurd e.2.1 (by decide))
      have hk0 : wr.cell? ⟨g, j, none⟩ = some (strV L[j].key) := by
        rw [World.cell?_of_block (w := w3) (a := ⟨g, j, none⟩) hgr, hcells j hlt]; simp [hlt]
      have cr : wr.cell? ⟨cb, co + 1, none⟩ = _ := (hB.cell (p := ⟨cb, co + 1, none⟩) hcl).trans hm
      have Mr := HM.out.grown (Grown.of_below hB) (S := fun k => w.heap.size ≤ k) (by omega) (fun g hg h => by omega)
      have hmem := List.getElem_mem hlt
      have hmb : (L[j].key, L[j].bytes) ∈ EB L := List.mem_map.2 ⟨L[j], hmem, rfl⟩
      have hkl := (HE.out.1.key _ hmb).2
      have hvl := HE.out.1.val _ hmb
      have hlook := Mr.look1 L[j].key (by simp only at hkl; unfold maxLen; omega)
      rw [eFind_at HO.out.2 hlt] at hlook
      have hrd := (Mr.val _ hmem).toBB (B := w.heap.size) (fun g h => h)
      have hXj := ents_take_len (EB L) j
      have hent := HE.out.2
      have HN := Lib.hid (show (EB L).take (j + 1) = (EB L).take j ++ [(L[j].key, L[j].bytes)] by rw [List.take_succ_eq_append_getElem (by rw [EB_length]; exact hlt)]; unfold EB; simp)
      generalize L[j] = x at *
      obtain ⟨key, val, bytes⟩ := x
      simp only at hkl hvl hlook hrd HN hk0
      obtain ⟨av, capv, rfl, _, _, _⟩ := hrd.open_
      have hXX : (numB gen 8 ++ numB L.length 4 ++ ((EB L).take j).flatMap entB).length ≤ 1073741824 := by rw [List.length_append, hXl]; omega
      have HC := Lib.hid (entryCode_c _ (numB gen 8 ++ numB L.length 4 ++ ((EB L).take j).flatMap entB) ⟨key.toArray⟩ (.slice av bytes.length capv) bytes w.heap.size wr hown hB.size hXX (by show key.toArray.size ≤ _; simp; omega) (by omega) hrd)
      have b1 : (j : Int) < (L.length : Int) := by omega
      clear hmb hcells hXj hent hXX hg3 hgr hrow hown Mr hy3 hrd hmem
      go_wp2_with fail
      refine HC.out.mono ?_
      rintro e w4 ⟨⟨v4, rfl, hy4⟩, g4, k4⟩
      go_wp2
      go_roundw
      case rel =>
        have hks : (⟨key.toArray⟩ : ByteArray).size = key.length := by show key.toArray.size = _; simp
        have e : numB gen 8 ++ numB L.length 4 ++ ((EB L).take (j + 1)).flatMap entB = numB gen 8 ++ numB L.length 4 ++ ((EB L).take j).flatMap entB ++ UInt8.ofNat (⟨key.toArray⟩ : ByteArray).size :: key ++ numB bytes.length 2 ++ bytes := by
          rw [HN.out, List.flatMap_append, hks]; unfold entB; simp
        refine ⟨j + 1, by omega, by go_num, ?_, hB.trans g4, hK.trans k4, Nat.le_trans hz g4.size⟩
        rw [e]; exact hy4
      case measure => simp [intOf]; omega
    · obtain rfl : j = L.length := by omega
      go_wp2
      go_ret
      have e : (EB L).take L.length = EB L := List.take_of_length_le (by rw [EB_length]; omega)
      rw [e] at hown
      exact ⟨⟨_, rfl, by unfold stateB; rw [EB_length]; exact hown⟩, hB⟩
end Go.Proofs.YtondomklkapogaaDoor
