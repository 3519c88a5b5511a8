/- JournalWrong: the table of region 22, which makes ten slices in any order. -/
import Derived.Test.YtondomklkapogaaDoorJTab
import Derived.Test.YtondomklkapogaaDoorJWrongP
import Derived.Test.YtondomklkapogaaDoorJCommit
namespace Go.Proofs.YtondomklkapogaaDoor
open Go.RowKit SeedP Go.Maps
abbrev RowP := Value → List Value → World → Prop
/-- what an operation yields, in words of others' results -/
def pEq (f : List Value → Value) : RowP := fun v ds _ => v = f ds
/-- a slice of changes above block B -/
def qChg (B : Nat) (cs : List Chg) : RowP := fun v _ w => ChgsP w (fun g => B ≤ g) v cs
/-- a slice of bytes above block B -/
def pRd (B : Nat) (l : List UInt8) : RowP := fun v _ w => RdP w (fun g => B ≤ g) v l
/-- a change with such a slice -/
def pAg (B : Nat) (l : List UInt8) (f : List Value → Value) : RowP := fun v ds w => v = f ds ∧ RdP w (fun g => B ≤ g) (ds.getD 0 undef) l
/-- a row of the law's table: a slice and a number -/
def pSt (code : Int) : RowP := fun v ds _ => v = .agg #[ds.getD 0 undef, .int .i64 code] ∧ ∃ a n c, ds.getD 0 undef = .slice a n c
/-- one change with a key of whatever length -/
def pLong (B : Nat) (k : List UInt8) : RowP := fun v _ w => ∃ g, v = .slice (some ⟨g, 0, none⟩) 1 1 ∧ B ≤ g ∧ Blk w g 65 [strV k, .slice none 0 0, .bool false]
def flatV (ds : List Value) : List Value := ds.flatMap fun v => match v with | .agg xs => xs.toList | v => [v]
/-- the law's table -/
def pOut (B : Nat) (ty : TypeId) : RowP := fun v ds w => ∃ g, v = .slice (some ⟨g, 0, none⟩) 9 9 ∧ B ≤ g ∧ Blk w g ty (flatV ds)
def MonoP (p : RowP) : Prop := ∀ v ds w w', Below w.heap.size w w' → p v ds w → p v ds w'
theorem monoEq (f : List Value → Value) : MonoP (pEq f) := fun _ _ _ _ _ h => h
theorem monoChg (B : Nat) (cs : List Chg) : MonoP (qChg B cs) := fun _ _ _ _ hb h => ChgsP.grown (S := fun _ => False) h (Grown.of_below hb) (fun _ _ h => h)
theorem monoRd (B : Nat) (l : List UInt8) : MonoP (pRd B l) := fun _ _ _ _ hb h => RdP.grown (S := fun _ => False) h (Grown.of_below hb) (fun _ _ h => h)
theorem monoAg (B : Nat) (l : List UInt8) (f : List Value → Value) : MonoP (pAg B l f) := fun _ _ _ _ hb h => ⟨h.1, RdP.grown (S := fun _ => False) h.2 (Grown.of_below hb) (fun _ _ h => h)⟩
theorem monoSt (code : Int) : MonoP (pSt code) := fun _ _ _ _ _ h => h
theorem monoLong (B : Nat) (k : List UInt8) : MonoP (pLong B k) := fun _ _ _ _ hb h => by obtain ⟨g, h1, h2, h3⟩ := h; exact ⟨g, h1, h2, h3.below hb⟩
theorem monoOut (B : Nat) (ty : TypeId) : MonoP (pOut B ty) := fun _ _ _ _ hb h => by obtain ⟨g, h1, h2, h3⟩ := h; exact ⟨g, h1, h2, h3.below hb⟩
def chV (k : List UInt8) (v : Value) (d : Bool) : Value := .agg #[strV k, v, .bool d]
def nilV : Value := .slice none 0 0
/-- region 22, row by row -/
def wrongT (B : Nat) (k : List UInt8) : List (List Nat × RowP) :=
  [([], pEq fun _ => .agg #[nilV, .int .i64 5]),
   ([], qChg B (List.replicate 65 ⟨[], [], false⟩)),
   ([1], pSt 5),
   ([], pEq fun _ => chV [] nilV false),
   ([3], qChg B [⟨[], [], false⟩]),
   ([4], pSt 2),
   ([], pEq fun _ => strV fortyB),
   ([6], pEq fun _ => strV (fortyB ++ [48])),
   ([], pEq fun _ => strV k),
   ([7, 8], pEq fun _ => strV (fortyB ++ [48] ++ k)),
   ([9], pEq fun _ => chV (fortyB ++ [48] ++ k) nilV false),
   ([10], pLong B (fortyB ++ [48] ++ k)),
   ([11], pSt 2),
   ([], pEq fun _ => chV [98] nilV false),
   ([], pEq fun _ => chV [98] nilV false),
   ([13, 14], qChg B [⟨[98], [], false⟩, ⟨[98], [], false⟩]),
   ([15], pSt 2),
   ([], pRd B [1]),
   ([17], pAg B [1] fun ds => chV [97] (ds.getD 0 undef) true),
   ([18], qChg B [⟨[97], [1], true⟩]),
   ([19], pSt 2),
   ([], pEq fun _ => chV [99] nilV true),
   ([], pRd B (List.replicate 4097 0)),
   ([22], pAg B (List.replicate 4097 0) fun ds => chV [98] (ds.getD 0 undef) false),
   ([21, 23], qChg B [⟨[99], [], true⟩, ⟨[98], List.replicate 4097 0, false⟩]),
   ([24], pSt 3),
   ([], pEq fun _ => chV [98] nilV false),
   ([], pEq fun _ => chV [99] nilV true),
   ([26, 27], qChg B [⟨[98], [], false⟩, ⟨[99], [], true⟩]),
   ([28], pSt 6),
   ([], pEq fun _ => chV [98] nilV true),
   ([], pEq fun _ => chV [] nilV false),
   ([30, 31], qChg B [⟨[98], [], true⟩, ⟨[], [], false⟩]),
   ([32], pSt 2),
   ([0, 2, 5, 12, 16, 20, 25, 29, 33], pOut B 74),
   ([34], pEq fun _ => .int .i64 9),
   ([], pEq fun _ => .int .i64 0)]
theorem wrongT_mono (B : Nat) (k : List UInt8) : ∀ t ∈ wrongT B k, MonoP t.2 := by
  intro t ht
  unfold wrongT at ht
  simp only [List.mem_cons, List.not_mem_nil, or_false] at ht
  rcases ht with rfl | rfl | rfl | rfl | rfl | rfl | rfl | rfl | rfl | rfl | rfl | rfl | rfl | rfl | rfl | rfl | rfl | rfl | rfl | rfl | rfl | rfl | rfl | rfl | rfl | rfl | rfl | rfl | rfl | rfl | rfl | rfl | rfl | rfl | rfl | rfl | rfl
  all_goals first | exact monoEq _ | exact monoChg _ _ | exact monoRd _ _ | exact monoAg _ _ _ | exact monoSt _ | exact monoLong _ _ | exact monoOut _ _
theorem mk_bytes (n : Nat) (hn : n ≤ 1000000) (w : World) (q : Nat → Prop) (hq : q w.heap.size) : ∃ o : Obj, (Instr.makeSlice 26 (.int .i64 (n : Int)) (.int .i64 (n : Int))).run Tryd.prog w = .ok (.slice (some ⟨w.heap.size, 0, none⟩) n n) (w.alloc o) ∧ RdP (w.alloc o) q (.slice (some ⟨w.heap.size, 0, none⟩) n n) (List.replicate n 0) := by
  obtain ⟨i, hi, hz, hs1, hby⟩ := info_parts infoB
  have h := make_ints 26 5 i .u8 Tryd.underlying26 hi hz hs1 (by rw [hby]; omega) n (by omega) w
  have hl : (ints .u8 (zeros n)).length = n := by unfold ints zeros; simp
  have hb := Blk.new w 5 (ints .u8 (zeros n))
  refine ⟨_, h, Or.inr ⟨w.heap.size, 0, n, by rw [List.length_replicate], by rw [List.length_replicate]; exact Nat.le_refl _, by unfold maxLen; omega, hq, fun j hj => ?_⟩⟩
  rw [List.length_replicate] at hj
  rw [Nat.zero_add, hb.cell j (by omega)]
  unfold ints zeros
  simp [List.getD_eq_getElem?_getD, hj]
theorem mk_chgs (n : Nat) (hn : n ≤ 1000000) (w : World) (q : Nat → Prop) (hq : q w.heap.size) : ∃ o : Obj, (Instr.makeSlice 39 (.int .i64 (n : Int)) (.int .i64 (n : Int))).run Tryd.prog w = .ok (.slice (some ⟨w.heap.size, 0, none⟩) n n) (w.alloc o) ∧ ChgsP (w.alloc o) q (.slice (some ⟨w.heap.size, 0, none⟩) n n) (List.replicate n ⟨[], [], false⟩) := by
  obtain ⟨i, hi, hz, hs1, hby⟩ := info_parts infoC
  have h := run_makeSlice w 39 65 i _ Tryd.underlying39 hi hz .i64 .i64 (n : Int) (n : Int) (by omega) (by omega) (by rw [hs1]; omega) (by rw [hby]; omega) (by omega)
  rw [Int.toNat_natCast, hs1] at h
  have hb := Blk.new w 65 (madeCells (Value.agg #[.string ⟨#[]⟩, .slice none 0 0, .bool false]).cells (n * 3)).toList
  have hl : (madeCells (Value.agg #[.string ⟨#[]⟩, .slice none 0 0, .bool false]).cells (n * 3)).toList.length = n * 3 := by simp [madeCells]
  have hc : ∀ j, j < n * 3 → (w.alloc (.cells (madeCells (Value.agg #[.string ⟨#[]⟩, .slice none 0 0, .bool false]).cells (n * 3)) 65)).cell? ⟨w.heap.size, j, none⟩ = some (#[Value.string ⟨#[]⟩, .slice none 0 0, .bool false][j % 3]!) := fun j hj => by
    have h1 := hb.cell j (by rw [hl]; exact hj)
    simp only [Array.toArray_toList] at h1
    rw [h1]
    simp [madeCells, hj, Value.cells]
  refine ⟨_, h, ⟨_, n, by rw [List.length_replicate], by rw [List.length_replicate]; exact Nat.le_refl _, by unfold maxLen; omega, Or.inr ⟨w.heap.size, 0, rfl, hq, fun j hj => ?_⟩⟩⟩
  rw [List.length_replicate] at hj
  rw [List.getElem_replicate, Nat.zero_add]
  have e0 : j * 3 % 3 = 0 := by omega
  have e1 : (j * 3 + 1) % 3 = 1 := by omega
  have e2 : (j * 3 + 2) % 3 = 2 := by omega
  refine ⟨.slice none 0 0, ?_, ?_, ?_, Or.inl ⟨Or.inl rfl, rfl⟩⟩
  · rw [hc _ (by omega), e0]; rfl
  · rw [hc _ (by omega), e1]; rfl
  · rw [hc _ (by omega), e2]; rfl
end Go.Proofs.YtondomklkapogaaDoor
