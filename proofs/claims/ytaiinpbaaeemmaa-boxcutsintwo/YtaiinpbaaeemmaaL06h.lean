import Derived.Test.YtaiinpbaaeemmaaL06f
set_option linter.unusedVariables false
set_option linter.unusedSimpArgs false
set_option maxRecDepth 100000
namespace Go.Proofs.Ytaiinpbaaeemmaa
open Go Go.Av Classical
attribute [local irreducible] SRuns SL FR KR oKS oKF caK caF yaK gdK fgK NewK NewF
/-! plain laws for law 6: a box cut in two -/
theorem upd_len (l : List Int) (k : Nat) (x : Int) : (upd l k x).length = l.length := by simp [upd]
theorem upd_gi {l : List Int} {k i : Nat} {x : Int} (h : i < l.length) : gi (upd l k x) i = if i = k then x else gi l i := by unfold upd; rw [gi_mkL h]
theorem cut_low {a b : List Int} {k : Nat} {t : Int} (h : Valid (a, b)) (hk : k < a.length) (h1 : gi a k ≤ t) (h2 : t < gi b k) : Valid (a, upd b k t) := by
  have e : a.length = b.length := h.2.2.1
  have bb := h.2.1.2
  simp only at bb
  refine ⟨h.1, ⟨fun i hi => ?_, by simp only [upd_len]; omega⟩, by simp only [upd_len]; omega, fun i hi => ?_⟩
  · simp only [upd_len] at hi
    simp only
    rw [upd_gi hi]
    have b1 := h.1.bd hk
    have b2 := h.2.1.bd (i := k) (by simp only; omega)
    have b3 := h.2.1.bd (i := i) hi
    simp only at b1 b2 b3
    unfold InR; split <;> omega
  · simp only at hi ⊢
    have b3 := h.2.2.2 i hi
    simp only at b3
    rw [upd_gi (by omega)]
    split
    · rename_i e2; subst e2; omega
    · exact b3
theorem cut_high {a b : List Int} {k : Nat} {t : Int} (h : Valid (a, b)) (hk : k < a.length) (h1 : gi a k ≤ t) (h2 : t < gi b k) : Valid (upd a k (t + 1), b) := by
  have e : a.length = b.length := h.2.2.1
  have bb := h.1.2
  simp only at bb
  refine ⟨⟨fun i hi => ?_, by simp only [upd_len]; omega⟩, h.2.1, by simp only [upd_len]; omega, fun i hi => ?_⟩
  · simp only [upd_len] at hi
    simp only
    rw [upd_gi hi]
    have b1 := h.1.bd hk
    have b2 := h.2.1.bd (i := k) (by simp only; omega)
    have b3 := h.1.bd (i := i) hi
    simp only at b1 b2 b3
    unfold InR; split <;> omega
  · simp only [upd_len] at hi
    have b3 := h.2.2.2 i hi
    simp only at b3 ⊢
    rw [upd_gi hi]
    split
    · rename_i e2; subst e2; omega
    · exact b3
theorem cut_near {a b v : List Int} {k : Nat} {t : Int} (h : Valid (a, b)) (ev : v.length = a.length) (hk : k < a.length) (h1 : gi a k ≤ t) (h2 : t < gi b k) (m : Int) :
    min (keyA m (D42 a (upd b k t) v) v.length) (keyA m (D42 (upd a k (t + 1)) b v) v.length) = keyA m (D42 a b v) v.length := by
  have e : a.length = b.length := h.2.2.1
  have le1 := (keyA_mono (m := m) (D := D42 a b v) (D' := D42 a (upd b k t) v) (n := v.length) fun i hi => by
    unfold D42; rw [upd_gi (by omega)]; split <;> (try subst_vars) <;> omega).2
  have le2 := (keyA_mono (m := m) (D := D42 a b v) (D' := D42 (upd a k (t + 1)) b v) (n := v.length) fun i hi => by
    unfold D42; rw [upd_gi (by omega)]; split <;> (try subst_vars) <;> omega).2
  by_cases hs : gi v k ≤ t
  · have : keyA m (D42 a (upd b k t) v) v.length = keyA m (D42 a b v) v.length := keyA_congr fun i hi => by
      unfold D42; rw [upd_gi (by omega)]; split <;> (try subst_vars) <;> omega
    omega
  · have : keyA m (D42 (upd a k (t + 1)) b v) v.length = keyA m (D42 a b v) v.length := keyA_congr fun i hi => by
      unfold D42; rw [upd_gi (by omega)]; split <;> (try subst_vars) <;> omega
    omega
theorem cut_far {a b v : List Int} {k : Nat} {t : Int} (h : Valid (a, b)) (ev : v.length = a.length) (hk : k < a.length) (h1 : gi a k ≤ t) (h2 : t < gi b k) (m : Int) :
    max (keyA m (D43 a (upd b k t) v) v.length) (keyA m (D43 (upd a k (t + 1)) b v) v.length) = keyA m (D43 a b v) v.length := by
  have e : a.length = b.length := h.2.2.1
  have le1 := (keyA_mono (m := m) (D := D43 a (upd b k t) v) (D' := D43 a b v) (n := v.length) fun i hi => by
    have := h.2.2.2 i (by simp only; omega)
    simp only at this
    unfold D43; rw [upd_gi (by omega)]; split <;> (try subst_vars) <;> omega).2
  have le2 := (keyA_mono (m := m) (D := D43 (upd a k (t + 1)) b v) (D' := D43 a b v) (n := v.length) fun i hi => by
    have := h.2.2.2 i (by simp only; omega)
    simp only at this
    unfold D43; rw [upd_gi (by omega)]; split <;> (try subst_vars) <;> omega).2
  by_cases hs : gi b k - gi v k ≤ gi v k - gi a k
  · have : keyA m (D43 a (upd b k t) v) v.length = keyA m (D43 a b v) v.length := keyA_congr fun i hi => by
      unfold D43; rw [upd_gi (by omega)]; split <;> (try subst_vars) <;> omega
    omega
  · have : keyA m (D43 (upd a k (t + 1)) b v) v.length = keyA m (D43 a b v) v.length := keyA_congr fun i hi => by
      unfold D43; rw [upd_gi (by omega)]; split <;> (try subst_vars) <;> omega
    omega
/-- each vector of a box lies in just one part -/
theorem cut_one {a b p : List Int} {k : Nat} {t : Int} (e : a.length = b.length) (hp : InB a b p) (ep : p.length = a.length) (hk : k < a.length) : (InB a (upd b k t) p ↔ gi p k ≤ t) ∧ (InB (upd a k (t + 1)) b p ↔ ¬ gi p k ≤ t) := by
  constructor
  · constructor
    · intro h; have := (h k (by omega)).2; rw [upd_gi (by omega)] at this; simpa using this
    · intro h i hi; have := hp i hi; rw [upd_gi (by omega)]; split <;> (try subst_vars) <;> omega
  · constructor
    · intro h; have := (h k (by omega)).1; rw [upd_gi (by omega)] at this; simp at this; omega
    · intro h i hi; have := hp i hi; rw [upd_gi (by omega)]; split <;> (try subst_vars) <;> omega
end Go.Proofs.Ytaiinpbaaeemmaa
