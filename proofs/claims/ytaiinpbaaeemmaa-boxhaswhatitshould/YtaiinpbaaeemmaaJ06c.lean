import Derived.Test.YtaiinpbaaeemmaaJ06
import Derived.Test.YtaiinpbaaeemmaaL06
namespace Go.Proofs.Ytaiinpbaaeemmaa
open Go Go.Av Go.ChangeShapes Go.WideShapes Go.ChangeAt Go.RowKit Go.Joins
theorem cells84 : Try.prog.cellsOf 84 = 1 := by kernel_rfl
theorem u16_wf {n : Int} (h : (Lit.int .u16 n).wf = true) : 0 ≤ n ∧ n < 65536 := by
  simp [Lit.wf, IntKind.min, IntKind.max, IntKind.bits, IntKind.signed] at h
  omega
section
variable {H : Type} {enc : TypeId × Value → H}
theorem open_u16 {W : World} {r : Reach} {b0 : Nat} {v : Value} {d : DataW H} {p : List MemPlace} (hv : Value.okWide Try.prog W r b0 48 v) (h : DataW.Trod enc Try.prog W 0 (fun _ => true) true 48 v d p) : ∃ l : List Int, Rep (C0 W) (vK .u16 l) v ∧ l.length ≤ maxLen ∧ ∀ i, 0 ≤ gi l i ∧ gi l i < 65536 := by
  obtain ⟨a, len, cap, rfl⟩ := okWide_slice Try.underlying48 hv
  obtain ⟨fuel, hf⟩ := h
  obtain ⟨l, h1, h2, h3⟩ := rep_ints Try.underlying48 Try.underlying84 cells84 hf
  refine ⟨l, h1, h2, fun i => ?_⟩
  by_cases hi : i < l.length
  · have e : gi l i = l[i] := by unfold gi; rw [List.getD_eq_getElem?_getD, List.getElem?_eq_getElem hi]; rfl
    rw [e]; exact u16_wf (h3 _ (List.getElem_mem hi))
  · have e : gi l i = 0 := by unfold gi; rw [List.getD_eq_getElem?_getD, List.getElem?_eq_none (by omega)]; rfl
    rw [e]; decide
end
end Go.Proofs.Ytaiinpbaaeemmaa
