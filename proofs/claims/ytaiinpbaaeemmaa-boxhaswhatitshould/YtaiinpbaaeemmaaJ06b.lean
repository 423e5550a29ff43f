import Derived.Test.YtaiinpbaaeemmaaJ06
import Derived.Deep.Slices
namespace Go.Proofs.Ytaiinpbaaeemmaa
open Go Go.Av Go.ChangeShapes Go.WideShapes Go.ChangeAt Go.RowKit Go.Joins
theorem cells22 : Try.prog.cellsOf 22 = 1 := by kernel_rfl
theorem gl_out {l : List (List Int)} {i : Nat} (h : l.length ≤ i) : gl l i = [] := by
  unfold gl; rw [List.getD_eq_getElem?_getD, List.getElem?_eq_none h]; rfl
section
variable {H : Type} {enc : TypeId × Value → H}
theorem open_vecs {W : World} {r : Reach} {b0 : Nat} {v : Value} {d : DataW H} {p : List MemPlace} (hv : Value.okWide Try.prog W r b0 59 v) (h : DataW.Trod enc Try.prog W 0 (fun _ => true) true 59 v d p) : ∃ l : List (List Int), Rep (C0 W) (vIss l) v ∧ l.length ≤ maxLen ∧ ∀ i, (gl l i).length ≤ maxLen := by
  obtain ⟨a0, len0, cap0, rfl⟩ := okWide_slice Try.underlying59 hv
  obtain ⟨fuel, hf⟩ := h
  rcases Go.Deep.open_slice Try.underlying59 hf with ⟨h1, _⟩ | ⟨a, len, cap, m, n, D, Pl, h1, _, h2, h3, h4, _, h5⟩
  · simp only [Value.cells, List.cons.injEq, and_true] at h1
    rw [h1]
    exact ⟨[], ⟨none, 0, rfl, Nat.le_refl _, fun h => absurd h (by simp)⟩, by simp, fun i => by rw [gl_out (by simp)]; simp⟩
  · simp only [Value.cells, List.cons.injEq, and_true] at h1
    rw [h1]
    simp only [if_true] at h4
    have hx : ∀ i, ∃ li : List Int, i < len → ∃ c, W.cell? (a.add (i * 1 + 0)) = some c ∧ Rep (C0 W) (vIs li) c ∧ li.length ≤ maxLen := fun i => by
      by_cases hi : i < len
      · obtain ⟨cs', hc, ht⟩ := h5 i (by omega)
        rw [cells22] at hc
        obtain ⟨_, hcl, hat⟩ := World.cells?_some hc
        match cs', hcl with
        | [c], _ =>
          obtain ⟨li, k1, k2, _⟩ := rep_ints Try.underlying22 Try.underlying3 cells3 ht
          refine ⟨li, fun _ => ⟨c, ?_, k1, k2⟩⟩
          have := hat 0 (by simp)
          rw [Go.Deep.add_add] at this
          simpa using this
      · exact ⟨[], fun h => absurd h hi⟩
    have hg : ∀ i, i < len → gl ((List.range len).map fun i => (hx i).choose) i = (hx i).choose := fun i hi => by
      unfold gl; rw [List.getD_eq_getElem?_getD, List.getElem?_map, List.getElem?_range hi]; rfl
    refine ⟨(List.range len).map fun i => (hx i).choose, ⟨some a, cap, by simp, by simpa using h2, fun h0 => ⟨a, rfl, C0.st ?_, fun i j hi hj => ?_⟩⟩, by simp; omega, fun i => ?_⟩
    · simp only [List.length_map, List.length_range] at h0
      obtain ⟨c, this, _⟩ := (hx 0).choose_spec h0
      have hb : (a.add (0 * 1 + 0)).block = a.block := add_block a _
      unfold World.cell? at this
      rw [hb] at this
      exact Classical.byContradiction fun hn => by rw [Array.getElem?_eq_none (by omega)] at this; cases this
    · simp only [List.length_map, List.length_range] at hi
      obtain rfl : j = 0 := by omega
      obtain ⟨c, k0, k1, _⟩ := (hx i).choose_spec hi
      exact ⟨c, k0, by show Rep (C0 W) (vIs (gl _ i)) c; rw [hg i hi]; exact k1⟩
    · by_cases hi : i < len
      · rw [hg i hi]; exact ((hx i).choose_spec hi).elim fun c h => h.2.2
      · rw [gl_out (by simp; omega)]; simp
end
end Go.Proofs.Ytaiinpbaaeemmaa
