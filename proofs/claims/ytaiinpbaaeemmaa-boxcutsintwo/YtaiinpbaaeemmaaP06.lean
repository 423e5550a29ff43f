import Derived.Test.YtaiinpbaaeemmaaL06b
set_option linter.unusedVariables false
set_option linter.unusedSimpArgs false
set_option maxRecDepth 100000
namespace Go.Proofs.Ytaiinpbaaeemmaa
open Go Go.Av Classical
attribute [local irreducible] SRuns SL FR KR oKS oKF caK caF yaK gdK fgK NewK NewF
theorem near_eq (m : Int) (a b v : List Int) : mS m (a, b) v (D42 a b v) = rNear m (a, b) v := by
  unfold mS rNear
  by_cases h : Asked m (a, b) v
  · rw [if_pos h, if_pos h]
    rw [keyA_congr fun i hi => ?_]
    have e : v.length = a.length := h.2.2.2
    have := h.2.1.2.2.2 i (by simp only; omega)
    simp only at this
    unfold D42 dif nearS
    rw [gi_mkL hi]
    unfold nearF
    simp only
    omega
  · rw [if_neg h, if_neg h]
theorem far_eq (m : Int) (a b v : List Int) : mS m (a, b) v (D43 a b v) = rFar m (a, b) v := by
  unfold mS rFar
  by_cases h : Asked m (a, b) v
  · rw [if_pos h, if_pos h]
    rw [keyA_congr fun i hi => ?_]
    have e : v.length = a.length := h.2.2.2
    have := h.2.1.2.2.2 i (by simp only; omega)
    simp only at this
    unfold D43 dif farS
    rw [gi_mkL hi]
    unfold farF
    simp only
    split <;> omega
  · rw [if_neg h, if_neg h]
theorem apart_eq (m : Int) (x y : Bx) : apS m x y = rApart m x y := by
  unfold apS rApart
  by_cases h : (1 ≤ m ∧ m ≤ 3) ∧ Alike x y
  · rw [if_pos h, if_pos h]
    rw [keyA_congr fun i hi => ?_]
    unfold D46 gap
    omega
  · rw [if_neg h, if_neg h]
theorem cutS_len (x : Bx) (k t : Int) (h1 : x.1.length ≤ 40) (h2 : x.2.length ≤ 40) : (cutS x k t).1.1.length ≤ 40 ∧ (cutS x k t).1.2.length ≤ 40 ∧ (cutS x k t).2.1.1.length ≤ 40 ∧ (cutS x k t).2.1.2.length ≤ 40 := by
  unfold cutS
  split
  · simp [upd]; omega
  · simp
/-- what both give for the halving of a box -/
noncomputable def splS (x : Bx) : Int × Int × Int := if h : Valid x then (if gi (wide x) (axis_ex h).choose = 0 then (0, 0, 4) else ((axis_ex h).choose, gi x.1 (axis_ex h).choose + (gi (wide x) (axis_ex h).choose).tdiv 2, 0)) else (0, 0, 1)
theorem f15s (a b : List Int) (h1 : a.length < 2 ^ 40) (h2 : b.length < 2 ^ 40) (M : Mem) : ACalls Try.prog 15 [vBox (a, b)] M fun r M' => r = .tup 3 (lst [vI (splS (a, b)).1, vI (splS (a, b)).2.1, vI (splS (a, b)).2.2]) ∧ M' = M := by
  unfold splS
  by_cases h : Valid (a, b)
  · rw [dif_pos h]
    have := f15 a b h1 h2 h _ (axis_ex h).choose_spec.1 M
    unfold spR at this
    split at this <;> rename_i e
    · rw [if_pos e]; exact this
    · rw [if_neg e]; exact this
  · rw [dif_neg h]; exact f15n a b h1 h2 h M
theorem f20s (a b : List Int) (h1 : a.length < 2 ^ 40) (h2 : b.length < 2 ^ 40) (M : Mem) : ACalls Try.prog 20 [vBox (a, b)] M fun r M' => r = .ag 3 (lst [vI (splS (a, b)).1, vI (splS (a, b)).2.1, vI (splS (a, b)).2.2]) ∧ M' = M := by
  unfold splS
  by_cases h : Valid (a, b)
  · rw [dif_pos h]
    have := f20 a b h1 h2 h _ (axis_ex h).choose_spec.1 M
    unfold rsR at this
    split at this <;> rename_i e
    · rw [if_pos e]; exact this
    · rw [if_neg e]; exact this
  · rw [dif_neg h]; exact f20n a b h1 h2 h M
end Go.Proofs.Ytaiinpbaaeemmaa
