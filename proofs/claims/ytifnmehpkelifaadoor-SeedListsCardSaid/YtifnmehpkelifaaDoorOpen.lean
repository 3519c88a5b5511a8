/- A slice of integers among the arguments: what the law's walk is told of it. -/
import Derived.Test.YtifnmehpkelifaaDoorLaid
import Derived.SizedLaws
namespace Go.Proofs.YtifnmehpkelifaaDoor
open Go.ChangeShapes Go.WideShapes Go.ChangeAt Go.RowKit
theorem open_rd {H : Type} {enc : TypeId × Value → H} {T E : TypeId} {k : IntKind} (hu : Tryd.prog.underlying T = some (.slice E)) (he : Tryd.prog.underlying E = some (.int k)) (hc : Tryd.prog.cellsOf E = 1)
    {W : World} {base : Nat} {v : Value} {d : DataW H} {ps : List MemPlace} (hval : Value.okWide Tryd.prog W .any base T v) (h : DataW.Trod enc Tryd.prog W 0 (fun _ => true) true T v d ps) :
    ∃ l : List Int, Rd W v (ints k l) ∧ (∀ x ∈ l, (Lit.int k x).wf = true) ∧ (l = [] ∨ ∃ el sp, d = .slice el sp ∧ l.length ≤ el.length + sp.length) := by
  obtain ⟨a0, len, cap, rfl⟩ := okWide_slice hu hval
  obtain ⟨fuel, hf⟩ := h
  rcases open_ints hu he hc hf with ⟨hcs, _⟩ | ⟨x, l, c, zs, hcs, _, hl, hm, hz, hx, hcell, hwz⟩
  · simp [Value.cells] at hcs
    obtain ⟨rfl, rfl, rfl⟩ := hcs
    exact ⟨[], Or.inl ⟨Or.inl rfl, rfl⟩, (fun x hx => by cases hx), Or.inl rfl⟩
  · simp [Value.cells] at hcs
    obtain ⟨rfl, rfl, rfl⟩ := hcs
    have hzl : zs.length = cap := by simpa using hz
    simp only [Prod.mk.injEq] at hx
    have hlen : (zs.take len).length = len := by simp; omega
    by_cases h0 : len = 0
    · subst h0
      exact ⟨[], Or.inl ⟨Or.inr ⟨_, _, rfl⟩, rfl⟩, (fun x hx => by cases hx), Or.inl rfl⟩
    · obtain ⟨b, off, spot⟩ := x
      have hspot : spot = none := by simpa [Addr.add] using World.cell?_spot (hcell 0 (by omega))
      subst hspot
      refine ⟨zs.take len, Or.inr ⟨b, off, cap, by rw [ints_length, hlen], by rw [ints_length, hlen]; exact hl, hm, fun j u hu => ?_⟩, fun x hx => hwz x (List.mem_of_mem_take hx), Or.inr ⟨_, _, hx.1, by simp [lits]⟩⟩
      have hj := (List.getElem?_eq_some_iff.1 hu).1
      rw [ints_length, hlen] at hj
      rw [ints_get _ _ _ (by rw [hlen]; exact hj)] at hu
      have hcj := hcell j (by omega)
      have e : (⟨b, off, none⟩ : Addr).add j = ⟨b, off + j, none⟩ := by unfold Addr.add; split <;> simp_all
      rw [e] at hcj
      rw [hcj, ← hu]
      simp [List.getD_eq_getElem?_getD, hj]
end Go.Proofs.YtifnmehpkelifaaDoor
