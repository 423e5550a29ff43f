import Derived.Test.YtaiinpbaaeemmaaL06d
import Derived.Test.YtaiinpbaaeemmaaB06e
set_option linter.unusedVariables false
set_option linter.unusedSimpArgs false
set_option maxRecDepth 100000
namespace Go.Proofs.Ytaiinpbaaeemmaa
open Go Go.Av Classical
attribute [local irreducible] SRuns SL FR KR oKS oKF caK caF yaK gdK fgK NewK NewF
theorem acc_mono {m n n' d d' : Int} (h0 : 0 ≤ n) (h1 : n ≤ n') (h2 : 0 ≤ d) (h3 : d ≤ d') : acc m n d ≤ acc m n' d' := by
  have : d * d ≤ d' * d' := Int.mul_le_mul h3 h3 h2 (by omega)
  unfold acc
  repeat' split
  all_goals omega
theorem keyA_mono {m : Int} {D D' : Nat → Int} : ∀ {n : Nat}, (∀ i, i < n → 0 ≤ D i ∧ D i ≤ D' i) → 0 ≤ keyA m D n ∧ keyA m D n ≤ keyA m D' n
  | 0, _ => ⟨by simp [keyA], Int.le_refl _⟩
  | n + 1, h => by
    have ih := keyA_mono (m := m) (n := n) fun i hi => h i (by omega)
    have hn := h n (by omega)
    refine ⟨?_, acc_mono ih.1 ih.2 hn.1 hn.2⟩
    have : 0 ≤ D n * D n := Int.mul_nonneg hn.1 hn.1
    show 0 ≤ acc m (keyA m D n) (D n)
    unfold acc
    repeat' split
    all_goals omega
theorem keyA_zero {m : Int} {D : Nat → Int} (hm : 1 ≤ m ∧ m ≤ 3) : ∀ {n : Nat}, (∀ i, i < n → 0 ≤ D i) → (keyA m D n = 0 ↔ ∀ i, i < n → D i = 0)
  | 0, _ => by simp [keyA]
  | n + 1, h => by
    have ih := keyA_zero (n := n) hm fun i hi => h i (by omega)
    have hp := (keyA_mono (m := m) (D := D) (D' := D) (n := n) fun i hi => ⟨h i (by omega), Int.le_refl _⟩).1
    have hn := h n (by omega)
    have hs : 0 ≤ D n * D n := Int.mul_nonneg hn hn
    have hz : D n * D n = 0 ↔ D n = 0 := by rw [Int.mul_eq_zero]; simp
    have e : keyA m D (n + 1) = 0 ↔ keyA m D n = 0 ∧ D n = 0 := by
      show acc m (keyA m D n) (D n) = 0 ↔ _
      unfold acc
      rcases (by omega : m = 1 ∨ m = 2 ∨ m = 3) with rfl | rfl | rfl
      · simp; omega
      · simp only [if_neg (by decide : ¬ (2 : Int) = 1), if_true]; rw [← hz]; omega
      · simp only [if_neg (by decide : ¬ (3 : Int) = 1), if_neg (by decide : ¬ (3 : Int) = 2), if_true]; omega
    rw [e, ih]
    constructor
    · rintro ⟨h1, h2⟩ i hi
      by_cases ei : i = n
      · subst ei; exact h2
      · exact h1 i (by omega)
    · exact fun h1 => ⟨fun i hi => h1 i (by omega), h1 n (by omega)⟩
theorem keyA_top {m : Int} {D : Nat → Int} : ∀ {n : Nat}, (∀ i, i < n → 0 ≤ D i ∧ D i ≤ 2000) → 0 ≤ keyA m D n ∧ keyA m D n ≤ n * 4000000
  | 0, _ => by simp [keyA]
  | n + 1, h => by
    have ih := keyA_top (m := m) (n := n) fun i hi => h i (by omega)
    have hn := h n (by omega)
    have hs : 0 ≤ D n * D n := Int.mul_nonneg hn.1 hn.1
    have hs2 := Int.mul_le_mul hn.2 hn.2 hn.1 (by omega : (0 : Int) ≤ 2000)
    show 0 ≤ acc m (keyA m D n) (D n) ∧ acc m (keyA m D n) (D n) ≤ _
    unfold acc
    repeat' split
    all_goals omega
theorem inn_in {a b w : List Int} (h : Valid (a, b)) (hw : ∀ i, 0 ≤ gi w i) : InB a b (mkL a.length (innF a b w)) := fun i hi => by
  have hi' : i < a.length := by simpa using hi
  have := h.2.2.2 i hi'
  simp only at this
  rw [gi_mkL hi']
  unfold innF
  have hd : 0 ≤ (if i < w.length then gi w i else 0) := by split; exact hw i; omega
  have t1 := Int.tmod_nonneg (gi b i - gi a i + 1) hd
  have t2 := Int.tmod_lt_of_pos (if i < w.length then gi w i else 0) (by omega : 0 < gi b i - gi a i + 1)
  omega
theorem near_le {a b v p : List Int} (e : v.length = a.length) (hv : Valid (a, b)) (hp : InB a b p) (ep : p.length = a.length) (m : Int) : keyA m (D42 a b v) v.length ≤ keyA m (dif v p) v.length ∧ keyA m (dif v p) v.length ≤ keyA m (D43 a b v) v.length := by
  refine ⟨(keyA_mono fun i hi => ?_).2, (keyA_mono fun i hi => ?_).2⟩
  · have h1 := hp i (by omega)
    unfold D42 dif; omega
  · have h1 := hp i (by omega)
    unfold D43 dif; omega
theorem near_zero {a b v : List Int} (e : v.length = a.length) (hv : Valid (a, b)) {m : Int} (hm : 1 ≤ m ∧ m ≤ 3) : keyA m (D42 a b v) v.length = 0 ↔ InB a b v := by
  rw [keyA_zero hm fun i hi => by unfold D42; omega]
  constructor
  · intro h i hi; have := h i hi; unfold D42 at this; omega
  · intro h i hi; have := h i hi; unfold D42; omega
theorem far_top {a b v : List Int} (e : v.length = a.length) (hv : Valid (a, b)) (hvv : Vec v) (m : Int) : keyA m (D43 a b v) v.length ≤ 134217728 := by
  have h := (keyA_top (m := m) (D := D43 a b v) (n := v.length) fun i hi => by
    have h1 := hv.1.bd (i := i) (by simp only; omega)
    have h2 := hv.2.1.bd (i := i) (by have := hv.2.2.1; simp only at this ⊢; omega)
    have h3 := hvv.bd hi
    have h4 := hv.2.2.2 i (by simp only; omega)
    simp only at h1 h2 h4
    unfold D43; omega).2
  have := hvv.2.2
  omega
end Go.Proofs.Ytaiinpbaaeemmaa
