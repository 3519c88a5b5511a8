/- Plain laws: what a file tells, block by block. -/
import Derived.Test.YtondomklkapogaaDoorJRound
namespace Go.Proofs.YtondomklkapogaaDoor
open Go.RowKit SeedP Go.Maps
theorem seg (l r : List UInt8) {n a b : Nat} (h : a + b ≤ n) (hn : n ≤ l.length) : ((l.take n ++ r).drop a).take b = (l.drop a).take b := by
  rw [List.drop_append_of_le_length (by rw [List.length_take]; omega), List.take_append_of_le_length (by rw [List.length_drop, List.length_take]; omega), List.drop_take, List.take_take, Nat.min_eq_left (by omega)]
theorem nextB_local {l : List UInt8} {x : Int} {code : List UInt8} {s : Int} (h : nextB l x = some (code, s)) (r : List UInt8) : nextB (l.take (12 + code.length) ++ r) x = some (code, s) := by
  obtain ⟨h1, h2, h3, h4, h5⟩ := nextB_some h
  have e1 : bLen (l.take (12 + code.length) ++ r) = bLen l := by
    unfold bLen
    have := seg l r (n := 12 + code.length) (a := 0) (b := 4) (by omega) h1
    simp only [List.drop_zero] at this; rw [this]
  have e2 : bSum (l.take (12 + code.length) ++ r) = bSum l := by unfold bSum; rw [seg l r (by omega) h1]
  have e3 : bCode (l.take (12 + code.length) ++ r) = bCode l := by unfold bCode; rw [e1, seg l r (by omega) h1]
  rw [nextB_eq, e1, e2, e3, if_pos]
  · rw [h3, h4]
  · refine ⟨?_, ?_, ?_⟩
    · rw [List.length_append, List.length_take]; omega
    · rw [List.length_append, List.length_take]; omega
    · rw [← h3, h5, h4]
theorem nextB_nil (x : Int) : nextB [] x = none := by rw [nextB_eq, if_neg (by simp)]
theorem block_parts (x : Int) (code r : List UInt8) (hc : code.length < 4294967296) (hx0 : 0 ≤ x) (hx1 : x ≤ 18446744073709551615) :
    bLen (blockB x code ++ r) = code.length ∧ (bSum (blockB x code ++ r) : Int) = x ∧ bCode (blockB x code ++ r) = code := by
  have e1 : bLen (blockB x code ++ r) = code.length := by
    unfold bLen blockB
    rw [List.append_assoc, List.append_assoc, List.take_left' (numB_length _ _), numV_numB, Nat.mod_eq_of_lt (by omega)]
  have e2 : (bSum (blockB x code ++ r) : Int) = x := by
    unfold bSum blockB
    rw [List.append_assoc, List.append_assoc, List.drop_left' (numB_length _ _), List.take_left' (numB_length _ _), numV_numB, Nat.mod_eq_of_lt (by omega)]
    omega
  refine ⟨e1, e2, ?_⟩
  unfold bCode
  rw [e1]
  unfold blockB
  rw [List.append_assoc, List.drop_left' (by simp [numB_length]), List.take_left' rfl]
theorem nextB_block (x : Int) (code r : List UInt8) (hc : code.length < 4294967296) : nextB (blockB (subI x code) code ++ r) x = some (code, subI x code) := by
  have hr := subI_range x code
  obtain ⟨h1, h2, h3⟩ := block_parts (subI x code) code r hc hr.1 hr.2
  rw [nextB_eq, h1, h2, h3, if_pos]
  refine ⟨?_, ?_, rfl⟩ <;> rw [List.length_append, blockB_len] <;> omega
theorem nextB_torn (x y : Int) (code : List UInt8) (k : Nat) (hc : code.length < 4294967296) (hk : k < 12 + code.length) : nextB ((blockB x code).take k) y = none := by
  rw [nextB_eq, if_neg]
  rintro ⟨h1, h2, _⟩
  have hl : ((blockB x code).take k).length = k := by rw [List.length_take, blockB_len]; omega
  rw [hl] at h1 h2
  have : bLen ((blockB x code).take k) = code.length := by
    unfold bLen
    rw [List.take_take, Nat.min_eq_left (by omega)]
    unfold blockB
    rw [List.append_assoc, List.take_left' (numB_length _ _), numV_numB, Nat.mod_eq_of_lt (by omega)]
  omega
inductive Chain (file : List UInt8) : Cont → Prop
  | start {code : List UInt8} {s : Int} {gen : Nat} {P : PEnts} {wt : Int} (hn : nextB file 0 = some (code, s)) (hr : rState code = some (gen, P, wt)) : Chain file ⟨gen, P, wt, s, 12 + code.length⟩
  | next {c : Cont} {code : List UInt8} {s : Int} {cs : List Chg} (hc : Chain file c) (hn : nextB (file.drop c.ed) c.sum = some (code, s)) (hr : rComm code = some cs) (hp : pPoss c.ents c.wt cs = true) : Chain file ⟨c.gen, pChgs c.ents cs, pWAfter c.ents c.wt cs, s, c.ed + 12 + code.length⟩
def Stops (file : List UInt8) (c : Cont) : Prop :=
  nextB (file.drop c.ed) c.sum = none ∨ ∃ code s, nextB (file.drop c.ed) c.sum = some (code, s) ∧ (rComm code = none ∨ ∃ cs, rComm code = some cs ∧ pPoss c.ents c.wt cs = false)
theorem Chain.good {file : List UInt8} {c : Cont} (h : Chain file c) : c.Good file := by
  induction h with
  | start hn hr => exact Good.start hn hr
  | next _ hn hr hp ih => exact Good.next ih hn hr hp
theorem readGo_of_stops {file : List UInt8} {c : Cont} (h : Stops file c) : ∀ n, readGo file n c = c
  | 0 => rfl
  | n + 1 => by
    rcases h with h | ⟨code, s, h, h2 | ⟨cs, h2, h3⟩⟩
    · exact readGo_stop h
    · exact readGo_stop2 h h2
    · exact readGo_stop3 h h2 h3
theorem readGo_chain {file : List UInt8} : ∀ n {c : Cont}, Chain file c → file.length < n + c.ed → Chain file (readGo file n c) ∧ Stops file (readGo file n c) := by
  intro n
  induction n with
  | zero => intro c h hl; have := h.good.ed; omega
  | succ n ih =>
    intro c h hl
    cases hn : nextB (file.drop c.ed) c.sum with
    | none => rw [readGo_stop hn]; exact ⟨h, Or.inl hn⟩
    | some p =>
      obtain ⟨code, s⟩ := p
      cases hr : rComm code with
      | none => rw [readGo_stop2 hn hr]; exact ⟨h, Or.inr ⟨code, s, hn, Or.inl hr⟩⟩
      | some cs =>
        cases hp : pPoss c.ents c.wt cs with
        | false => rw [readGo_stop3 hn hr hp]; exact ⟨h, Or.inr ⟨code, s, hn, Or.inr ⟨cs, hr, hp⟩⟩⟩
        | true => rw [readGo_step hn hr hp]; exact ih (Chain.next h hn hr hp) (by show _ < n + (c.ed + 12 + code.length); omega)
theorem readF_chain {file : List UInt8} {c : Cont} (h : readF file = some c) : Chain file c ∧ Stops file c := by
  unfold readF at h
  split at h
  · cases h
  · rename_i code s hn
    split at h
    · cases h
    · rename_i gen P wt hr
      simp only [Option.some.injEq] at h
      subst h
      exact readGo_chain _ (Chain.start hn hr) (by show _ < _ + (12 + _); omega)
theorem chain_readF {file : List UInt8} {c : Cont} (h : Chain file c) : ∃ m, file.length < m + c.ed ∧ readF file = some (readGo file m c) := by
  induction h with
  | start hn hr => exact ⟨file.length, by show _ < _ + (12 + _); omega, by unfold readF; simp only [hn, hr]⟩
  | @next c code s cs hc hn hr hp ih =>
    obtain ⟨m, hm, he⟩ := ih
    have := hc.good.ed
    obtain ⟨m', rfl⟩ : ∃ m', m = m' + 1 := ⟨m - 1, by omega⟩
    rw [readGo_step hn hr hp] at he
    exact ⟨m', by show _ < m' + (c.ed + 12 + code.length); omega, he⟩
theorem readF_iff {file : List UInt8} {c : Cont} : readF file = some c ↔ Chain file c ∧ Stops file c := by
  constructor
  · exact readF_chain
  · rintro ⟨h, hs⟩
    obtain ⟨m, _, he⟩ := chain_readF h
    rw [he, readGo_of_stops hs]
theorem Chain.local {file : List UInt8} {c : Cont} (h : Chain file c) : ∀ r, Chain (file.take c.ed ++ r) c := by
  induction h with
  | start hn hr => intro r; exact Chain.start (nextB_local hn r) hr
  | @next c code s cs hc hn hr hp ih =>
    intro r
    have h1 := (nextB_some hn).1
    rw [List.length_drop] at h1
    have e : file.take (c.ed + 12 + code.length) ++ r = file.take c.ed ++ ((file.drop c.ed).take (12 + code.length) ++ r) := by
      rw [Nat.add_assoc, List.take_add, List.append_assoc]
    have hd : (file.take (c.ed + 12 + code.length) ++ r).drop c.ed = (file.drop c.ed).take (12 + code.length) ++ r := by
      rw [e, List.drop_left' (by rw [List.length_take]; have := hc.good.ed; omega)]
    show Chain (file.take (c.ed + 12 + code.length) ++ r) _
    refine Chain.next (c := c) ?_ ?_ hr hp
    · rw [e]; exact ih _
    · rw [hd]; exact nextB_local hn r
/-- a file that is cut off where its blocks end -/
theorem readF_cut {file : List UInt8} {c : Cont} (h : Chain file c) : readF (file.take c.ed) = some c := by
  rw [readF_iff]
  have h1 := h.local []
  rw [List.append_nil] at h1
  refine ⟨h1, Or.inl ?_⟩
  rw [List.drop_eq_nil_of_le (by rw [List.length_take]; omega)]
  exact nextB_nil _
theorem block_chain {file : List UInt8} {c : Cont} (h : Chain file c) (hl : file.length = c.ed) {cs : List Chg} (hv : Valid cs) (h1 : 1 ≤ cs.length) (h2 : cs.length ≤ 64) (hp : pPoss c.ents c.wt cs = true) (r : List UInt8) :
    Chain (file ++ blockB (subI c.sum (codeOf cs)) (codeOf cs) ++ r) ⟨c.gen, pChgs c.ents cs, pWAfter c.ents c.wt cs, subI c.sum (codeOf cs), c.ed + 12 + (codeOf cs).length⟩ := by
  have hlen := codeOf_len cs
  have hsz := hv.size
  rw [List.append_assoc]
  refine Chain.next (c := c) ?_ ?_ (rComm_code hv h1 h2) hp
  · have := h.local (blockB (subI c.sum (codeOf cs)) (codeOf cs) ++ r)
    rwa [List.take_of_length_le (by omega)] at this
  · rw [List.drop_left' hl]
    exact nextB_block _ _ _ (by omega)
/-- Commit's block, read again -/
theorem readF_commit {file : List UInt8} {c : Cont} (h : Chain file c) (hl : file.length = c.ed) {cs : List Chg} (hv : Valid cs) (h1 : 1 ≤ cs.length) (h2 : cs.length ≤ 64) (hp : pPoss c.ents c.wt cs = true) :
    readF (file ++ blockB (subI c.sum (codeOf cs)) (codeOf cs)) = some ⟨c.gen, pChgs c.ents cs, pWAfter c.ents c.wt cs, subI c.sum (codeOf cs), c.ed + 12 + (codeOf cs).length⟩ := by
  have hb := block_chain h hl hv h1 h2 hp []
  rw [List.append_nil] at hb
  rw [readF_iff]
  refine ⟨hb, Or.inl ?_⟩
  rw [List.drop_eq_nil_of_le (by show (file ++ _).length ≤ c.ed + 12 + _; rw [List.length_append, blockB_len]; omega)]
  exact nextB_nil _
/-- a torn block at the end of a file is not read -/
theorem readF_torn {file : List UInt8} {c : Cont} (h : Chain file c) (hl : file.length = c.ed) (x : Int) (code : List UInt8) (k : Nat) (hc : code.length < 4294967296) (hk : k < 12 + code.length) :
    readF (file ++ (blockB x code).take k) = some c := by
  rw [readF_iff]
  refine ⟨?_, Or.inl ?_⟩
  · have := h.local ((blockB x code).take k)
    rwa [List.take_of_length_le (by omega)] at this
  · rw [List.drop_left' hl]; exact nextB_torn _ _ _ _ hc hk
theorem readF_nil : readF [] = none := by unfold readF; rw [nextB_nil]
theorem readF_torn0 (x : Int) (code : List UInt8) (k : Nat) (hc : code.length < 4294967296) (hk : k < 12 + code.length) : readF ((blockB x code).take k) = none := by
  unfold readF; rw [nextB_torn _ _ _ _ hc hk]
/-- compact's file, read again -/
theorem readF_state {P : PEnts} {gen : Nat} (ho : Ordered P) (hs : SmallEnts P) (hw : pWt P ≤ 131072) (hg1 : 1 ≤ gen) (hg2 : gen ≤ 4611686018427387904) :
    readF (blockB (subI 0 (stateB gen P)) (stateB gen P)) = some ⟨gen, P, pWt P, subI 0 (stateB gen P), 12 + (stateB gen P).length⟩ := by
  have hl := stateB_len gen P
  have hn := nextB_block 0 (stateB gen P) [] (by omega)
  rw [List.append_nil] at hn
  rw [readF_iff]
  refine ⟨Chain.start hn (rState_code ho hs hw hg1 hg2), Or.inl ?_⟩
  rw [List.drop_eq_nil_of_le (by show (blockB _ _).length ≤ 12 + _; rw [blockB_len]; omega)]
  exact nextB_nil _
end Go.Proofs.YtondomklkapogaaDoor
