import Derived.Test.YtaiinpbaaeemmaaL06d
import Derived.Test.YtaiinpbaaeemmaaB06e
set_option linter.unusedVariables false
set_option linter.unusedSimpArgs false
set_option maxRecDepth 100000
namespace Go.Proofs.Ytaiinpbaaeemmaa
open Go Go.Av Classical
attribute [local irreducible] SRuns SL FR KR oKS oKF caK caF yaK gdK fgK NewK NewF
theorem inn_in {a b w : List Int} (h : Valid (a, b)) (hw : ∀ i, 0 ≤ gi w i) : InB a b (mkL a.length (innF a b w)) := fun i hi => by
  have hi' : i < a.length := by simpa using hi
  have := h.2.2.2 i hi'
  simp only at this
  rw [gi_mkL hi']
  unfold innF
  have hd : 0 ≤ (if i < w.length then gi w i else 0) := by split; exact hw i; omega
  have t1 := Int.tmod_nonneg (gi b i - gi a i + 1) hd
  have t2 := Int.tmod_lt_of_pos (if i < w.length then gi w i else 0) (by omega : 0 < gi b i - gi a i + 1)
  omega
end Go.Proofs.Ytaiinpbaaeemmaa
