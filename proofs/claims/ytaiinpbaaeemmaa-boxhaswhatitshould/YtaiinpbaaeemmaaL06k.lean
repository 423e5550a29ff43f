import Derived.Test.YtaiinpbaaeemmaaL06e
import Derived.Test.YtaiinpbaaeemmaaL06f
set_option linter.unusedVariables false
set_option linter.unusedSimpArgs false
set_option maxRecDepth 100000
namespace Go.Proofs.Ytaiinpbaaeemmaa
open Go Go.Av Classical
attribute [local irreducible] SRuns SL FR KR oKS oKF caK caF yaK gdK fgK NewK NewF
/-! plain laws for law 8 -/
theorem minU_spec (l : List (List Int)) (k : Nat) : ∀ n, (∃ j, j ≤ n ∧ gi (gl l j) k = minU l k n) ∧ ∀ j, j ≤ n → minU l k n ≤ gi (gl l j) k
  | 0 => ⟨⟨0, Nat.le_refl _, rfl⟩, fun i hi => (by
    have e : i = 0 := by omega
    rw [e]; exact Int.le_refl _)⟩
  | n + 1 => by
    obtain ⟨⟨j, h1, h2⟩, h3⟩ := minU_spec l k n
    simp only [minU]
    refine ⟨?_, fun i hi => ?_⟩
    · by_cases h : minU l k n ≤ gi (gl l (n + 1)) k
      · exact ⟨j, by omega, by omega⟩
      · exact ⟨n + 1, Nat.le_refl _, by omega⟩
    · by_cases e : i = n + 1
      · subst e; omega
      · have := h3 i (by omega); omega
theorem maxU_spec (l : List (List Int)) (k : Nat) : ∀ n, (∃ j, j ≤ n ∧ gi (gl l j) k = maxU l k n) ∧ ∀ j, j ≤ n → gi (gl l j) k ≤ maxU l k n
  | 0 => ⟨⟨0, Nat.le_refl _, rfl⟩, fun i hi => (by
    have e : i = 0 := by omega
    rw [e]; exact Int.le_refl _)⟩
  | n + 1 => by
    obtain ⟨⟨j, h1, h2⟩, h3⟩ := maxU_spec l k n
    simp only [maxU]
    refine ⟨?_, fun i hi => ?_⟩
    · by_cases h : gi (gl l (n + 1)) k ≤ maxU l k n
      · exact ⟨j, by omega, by omega⟩
      · exact ⟨n + 1, Nat.le_refl _, by omega⟩
    · by_cases e : i = n + 1
      · subst e; omega
      · have := h3 i (by omega); omega
structure OfIs (l : List (List Int)) (u v : List Int) : Prop where
  valid : Valid (u, v)
  len : ∀ i, i < l.length → (gl l i).length = u.length
  inb : ∀ i, i < l.length → InB u v (gl l i)
  lo : ∀ k, k < u.length → ∃ j, j < l.length ∧ gi (gl l j) k = gi u k
  hi : ∀ k, k < u.length → ∃ j, j < l.length ∧ gi (gl l j) k = gi v k
theorem of_is {l : List (List Int)} (h : OfOk l) : OfIs l (loA l (l.length - 1)) (hiA l (l.length - 1)) := by
  have h0 := h.1
  have h1 := h.2 0 h0
  have la : (loA l (l.length - 1)).length = (gl l 0).length := by simp [loA]
  have lb : (hiA l (l.length - 1)).length = (gl l 0).length := by simp [hiA]
  have ga : ∀ k, k < (gl l 0).length → gi (loA l (l.length - 1)) k = minU l k (l.length - 1) := fun k hk => by unfold loA; rw [gi_mkL hk]
  have gb : ∀ k, k < (gl l 0).length → gi (hiA l (l.length - 1)) k = maxU l k (l.length - 1) := fun k hk => by unfold hiA; rw [gi_mkL hk]
  have lo : ∀ k, k < (gl l 0).length → ∃ j, j < l.length ∧ gi (gl l j) k = gi (loA l (l.length - 1)) k := fun k hk => by
    obtain ⟨⟨j, a, b⟩, _⟩ := minU_spec l k (l.length - 1)
    exact ⟨j, by omega, by rw [ga k hk]; exact b⟩
  have hi : ∀ k, k < (gl l 0).length → ∃ j, j < l.length ∧ gi (gl l j) k = gi (hiA l (l.length - 1)) k := fun k hk => by
    obtain ⟨⟨j, a, b⟩, _⟩ := maxU_spec l k (l.length - 1)
    exact ⟨j, by omega, by rw [gb k hk]; exact b⟩
  refine ⟨⟨⟨fun k hk => ?_, ?_⟩, ⟨fun k hk => ?_, ?_⟩, ?_, fun k hk => ?_⟩, fun i hi' => ?_, fun i hi' k hk => ?_, fun k hk => ?_, fun k hk => ?_⟩
  · simp only at hk ⊢
    obtain ⟨j, a, b⟩ := lo k (by omega)
    rw [← b]
    have := h.2 j a
    exact this.1.1 k (by omega)
  · simp only; rw [la]; exact h1.1.2
  · simp only at hk ⊢
    obtain ⟨j, a, b⟩ := hi k (by omega)
    rw [← b]
    have := h.2 j a
    exact this.1.1 k (by omega)
  · simp only; rw [lb]; exact h1.1.2
  · simp only; omega
  · simp only at hk ⊢
    rw [ga k (by omega), gb k (by omega)]
    have a := (minU_spec l k (l.length - 1)).2 0 (by omega)
    have b := (maxU_spec l k (l.length - 1)).2 0 (by omega)
    omega
  · rw [la]; exact (h.2 i hi').2
  · have e := (h.2 i hi').2
    rw [ga k (by omega), gb k (by omega)]
    exact ⟨(minU_spec l k (l.length - 1)).2 i (by omega), (maxU_spec l k (l.length - 1)).2 i (by omega)⟩
  · exact lo k (by omega)
  · exact hi k (by omega)
theorem Alike.symm {x y : Bx} (h : Alike x y) : Alike y x := ⟨h.2.1, h.1, h.2.2.symm⟩
theorem zipS_comm {f : Int → Int → Int} (hf : ∀ x y, f x y = f y x) {a b : List Int} (h : a.length = b.length) : zipS f a b = zipS f b a := by
  unfold zipS; rw [h]; exact mkL_congr fun i _ => hf _ _
structure JoinIs (a b c d : List Int) (u v : List Int) : Prop where
  valid : Valid (u, v)
  len : u.length = a.length
  l : InB u v a ∧ InB u v b
  r : InB u v c ∧ InB u v d
theorem join_is {a b c d : List Int} (h : Alike (a, b) (c, d)) : JoinIs a b c d (zipS min a c) (zipS max b d) := by
  obtain ⟨h1, h2, h3⟩ := h
  have e1 : a.length = b.length := h1.2.2.1
  have e2 : a.length = c.length := h3
  have e3 : c.length = d.length := h2.2.2.1
  have la : (zipS min a c).length = a.length := by simp [zipS]
  have lb : (zipS max b d).length = a.length := by simp [zipS, e1]
  have ga : ∀ k, k < a.length → gi (zipS min a c) k = min (gi a k) (gi c k) := fun k hk => by unfold zipS; rw [gi_mkL hk]
  have gb : ∀ k, k < a.length → gi (zipS max b d) k = max (gi b k) (gi d k) := fun k hk => by unfold zipS; rw [gi_mkL (by omega)]
  have v1 : ∀ k, k < a.length → gi a k ≤ gi b k := h1.2.2.2
  have v2 : ∀ k, k < a.length → gi c k ≤ gi d k := fun k hk => h2.2.2.2 k (by simp only; omega)
  have r1 : ∀ k, k < a.length → InR (gi a k) := h1.1.1
  have r2 : ∀ k, k < a.length → InR (gi b k) := fun k hk => h1.2.1.1 k (by simp only; omega)
  have r3 : ∀ k, k < a.length → InR (gi c k) := fun k hk => h2.1.1 k (by simp only; omega)
  have r4 : ∀ k, k < a.length → InR (gi d k) := fun k hk => h2.2.1.1 k (by simp only; omega)
  have l1 : 1 ≤ a.length ∧ a.length ≤ 32 := h1.1.2
  unfold InR at *
  refine ⟨⟨⟨fun k hk => ?_, ?_⟩, ⟨fun k hk => ?_, ?_⟩, ?_, fun k hk => ?_⟩, la, ⟨fun k hk => ?_, fun k hk => ?_⟩, fun k hk => ?_, fun k hk => ?_⟩ <;> simp only [la, lb] at *
  · have := r1 k hk; have := r3 k hk; unfold InR; rw [ga k hk]; omega
  · exact l1
  · have := r2 k hk; have := r4 k hk; unfold InR; rw [gb k hk]; omega
  · exact l1
  · have := v1 k hk; rw [ga k hk, gb k hk]; omega
  · have := v1 k hk; rw [ga k hk, gb k hk]; omega
  · rw [← e1] at hk; have := v1 k hk; rw [ga k hk, gb k hk]; omega
  · rw [← e2] at hk; have := v2 k hk; rw [ga k hk, gb k hk]; omega
  · rw [← e3, ← e2] at hk; have := v2 k hk; rw [ga k hk, gb k hk]; omega
theorem meet_has {a b c d p : List Int} (h : Alike (a, b) (c, d)) (hp : InB a b p) (ep : p.length = a.length) (hv : Valid (zipS max a c, zipS min b d)) :
    InB (zipS max a c) (zipS min b d) p ↔ InB c d p := by
  have e1 : a.length = b.length := h.1.2.2.1
  have ga : ∀ k, k < a.length → gi (zipS max a c) k = max (gi a k) (gi c k) := fun k hk => by unfold zipS; rw [gi_mkL hk]
  have gb : ∀ k, k < a.length → gi (zipS min b d) k = min (gi b k) (gi d k) := fun k hk => by unfold zipS; rw [gi_mkL (by omega)]
  constructor
  · intro q k hk
    have a1 := q k hk
    rw [ga k (by omega), gb k (by omega)] at a1; omega
  · intro q k hk
    have a1 := q k hk
    have a2 := hp k hk
    rw [ga k (by omega), gb k (by omega)]; omega
theorem meet_none {a b c d p : List Int} (h : Alike (a, b) (c, d)) (hp : InB a b p) (ep : p.length = a.length) (hv : ¬ Valid (zipS max a c, zipS min b d)) : ¬ InB c d p := fun q => hv ((meet_valid h).2 fun k hk => by
  simp only at hk ⊢
  have a1 := q k (by omega)
  have a2 := hp k (by omega)
  omega)
theorem meet_in {a b c d : List Int} (h : Alike (a, b) (c, d)) (hv : Valid (zipS max a c, zipS min b d)) : (InB a b (zipS max a c) ∧ InB a b (zipS min b d)) ∧ (InB c d (zipS max a c) ∧ InB c d (zipS min b d)) ∧ (zipS max a c).length = a.length := by
  have e1 : a.length = b.length := h.1.2.2.1
  have la : (zipS max a c).length = a.length := by simp [zipS]
  have lb : (zipS min b d).length = a.length := by simp [zipS, e1]
  have ga : ∀ k, k < a.length → gi (zipS max a c) k = max (gi a k) (gi c k) := fun k hk => by unfold zipS; rw [gi_mkL hk]
  have gb : ∀ k, k < a.length → gi (zipS min b d) k = min (gi b k) (gi d k) := fun k hk => by unfold zipS; rw [gi_mkL (by omega)]
  have key : ∀ k, k < a.length → max (gi a k) (gi c k) ≤ min (gi b k) (gi d k) := (meet_valid h).1 hv
  refine ⟨⟨fun k hk => ?_, fun k hk => ?_⟩, ⟨fun k hk => ?_, fun k hk => ?_⟩, la⟩
  all_goals (first | rw [la] at hk | rw [lb] at hk)
  all_goals (have := key k hk; first | rw [ga k hk] | rw [gb k hk])
  all_goals omega
end Go.Proofs.Ytaiinpbaaeemmaa
