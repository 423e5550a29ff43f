import Derived.Test.YtaiinpbaaeemmaaR06c
set_option linter.unusedVariables false
set_option linter.unusedSimpArgs false
set_option maxRecDepth 100000
namespace Go.Proofs.Ytaiinpbaaeemmaa
open Go Go.Av Classical
attribute [local irreducible] SRuns SL FR KR oKS oKF caK caF yaK gdK fgK NewK NewF
theorem Le.lit2 {n : Nat} {l : List AV} {m : List (List Int)} (hn : n = m.length) (h : LeL l (m.map vIs)) : Le (.sl n 1 fun i j => lst l (i * 1 + j)) (vIss m) := by
  subst hn
  refine Le.sl fun i j hi hj => ?_
  obtain rfl : j = 0 := by omega
  have e : lst (m.map vIs) i = vIs (gl m i) := by
    clear h
    induction m generalizing i with
    | nil => simp at hi
    | cons a m ih => cases i with
      | zero => rfl
      | succ i => exact ih i (by simpa using hi)
  have := h.get i
  rw [e] at this
  simpa using this
theorem Le.litI {n : Nat} {l : List AV} {m : List Int} (hn : n = m.length) (h : LeL l (m.map vI)) : Le (.sl n 1 fun i j => lst l (i * 1 + j)) (vIs m) := by
  subst hn
  refine Le.sl fun i j hi hj => ?_
  obtain rfl : j = 0 := by omega
  have e : lst (m.map vI) i = vI (gi m i) := by
    clear h
    induction m generalizing i with
    | nil => simp at hi
    | cons a m ih => cases i with
      | zero => rfl
      | succ i => exact ih i (by simpa using hi)
  have := h.get i
  rw [e] at this
  simpa using this
theorem meet_valid {x y : Bx} (h : Alike x y) : Valid (zipS max x.1 y.1, zipS min x.2 y.2) ↔ ∀ i, i < x.1.length → max (gi x.1 i) (gi y.1 i) ≤ min (gi x.2 i) (gi y.2 i) := by
  have e1 : x.1.length = x.2.length := h.1.2.2.1
  have e2 : x.1.length = y.1.length := h.2.2
  have e3 : y.1.length = y.2.length := h.2.1.2.2.1
  have e4 : (zipS max x.1 y.1).length = x.1.length := by simp [zipS]
  have e5 : (zipS min x.2 y.2).length = x.2.length := by simp [zipS]
  have g1 : ∀ i, i < x.1.length → gi (zipS max x.1 y.1) i = max (gi x.1 i) (gi y.1 i) := fun i hi => by unfold zipS; rw [gi_mkL hi]
  have g2 : ∀ i, i < x.1.length → gi (zipS min x.2 y.2) i = min (gi x.2 i) (gi y.2 i) := fun i hi => by unfold zipS; rw [gi_mkL (by omega)]
  constructor
  · intro hv i hi
    have := hv.2.2.2 i (by simp only; omega)
    simp only [g1 i hi, g2 i hi] at this
    exact this
  · intro hm
    have b1 := h.1.1; have b2 := h.1.2.1; have b3 := h.2.1.1; have b4 := h.2.1.2.1
    have l1 := b1.2
    refine ⟨⟨fun i hi => ?_, ?_⟩, ⟨fun i hi => ?_, ?_⟩, ?_, fun i hi => ?_⟩ <;> simp only at *
    · have hi : i < x.1.length := by omega
      rw [g1 i hi]
      have := b1.bd hi; have := b3.bd (i := i) (by omega)
      unfold InR; omega
    · omega
    · have hi : i < x.1.length := by omega
      rw [g2 i hi]
      have := b2.bd (i := i) (by omega); have := b4.bd (i := i) (by omega)
      unfold InR; omega
    · omega
    · omega
    · have hi : i < x.1.length := by omega
      rw [g1 i hi, g2 i hi]; exact hm i hi
end Go.Proofs.Ytaiinpbaaeemmaa
