import Derived.Test.YtaiinpbaaeemmaaA8
namespace Go.Proofs.Ytaiinpbaaeemmaa
open Go Go.Av Classical
abbrev Bx := List Int × List Int
/-! the key of differences -/
def acc (m n d : Int) : Int := if m = 1 then n + d else if m = 2 then n + d * d else if m = 3 then max n d else n
def keyA (m : Int) (D : Nat → Int) : Nat → Int
  | 0 => 0
  | i + 1 => acc m (keyA m D i) (D i)
theorem keyA_bd (m : Int) (D : Nat → Int) (n : Nat) (h : ∀ i, i < n → 0 ≤ D i ∧ D i ≤ 4000) : ∀ i, i ≤ n → 0 ≤ keyA m D i ∧ keyA m D i ≤ i * 16000000
  | 0, _ => by simp [keyA]
  | i + 1, hi => by
    have ih := keyA_bd m D n h i (by omega)
    have hd := h i (by omega)
    have hq : 0 ≤ D i * D i ∧ D i * D i ≤ 16000000 := ⟨Int.mul_nonneg hd.1 hd.1, by
      have := Int.mul_le_mul hd.2 hd.2 hd.1 (by omega : (0 : Int) ≤ 4000)
      omega⟩
    simp only [keyA, acc]
    repeat' split
    all_goals omega
def Sm (a : List Int) : Prop := ∀ i, i < a.length → -2000 ≤ gi a i ∧ gi a i ≤ 2000
theorem Sm.mk {n : Nat} {f : Nat → Int} (h : ∀ i, i < n → -2000 ≤ f i ∧ f i ≤ 2000) : Sm (mkL n f) := fun i hi => by
  rw [mkL_length] at hi; rw [gi_mkL hi]; exact h i hi
/-! boxes -/
def InR (x : Int) : Prop := -1000 ≤ x ∧ x ≤ 1000
def Vec (v : List Int) : Prop := (∀ i, i < v.length → InR (gi v i)) ∧ 1 ≤ v.length ∧ v.length ≤ 32
def Valid (b : List Int × List Int) : Prop := Vec b.1 ∧ Vec b.2 ∧ b.1.length = b.2.length ∧ ∀ i, i < b.1.length → gi b.1 i ≤ gi b.2 i
def Alike (x y : List Int × List Int) : Prop := Valid x ∧ Valid y ∧ x.1.length = y.1.length
def InB (a b v : List Int) : Prop := ∀ i, i < v.length → gi a i ≤ gi v i ∧ gi v i ≤ gi b i
def few (lo hi : List Int) : Prop := lo.length ≤ 40 ∧ hi.length ≤ 40
def Asked (m : Int) (x : Bx) (v : List Int) : Prop := (1 ≤ m ∧ m ≤ 3) ∧ Valid x ∧ Vec v ∧ v.length = x.1.length
theorem Vec.sm {v : List Int} (h : Vec v) : Sm v := fun i hi => by have := h.1 i hi; unfold InR at this; omega
theorem Vec.bd {v : List Int} (h : Vec v) {i : Nat} (hi : i < v.length) : -1000 ≤ gi v i ∧ gi v i ≤ 1000 := h.1 i hi
def zipS (f : Int → Int → Int) (a b : List Int) : List Int := mkL a.length fun i => f (gi a i) (gi b i)
noncomputable def joinS (x y : Bx) : Bx × Int := if Alike x y then ((zipS min x.1 y.1, zipS max x.2 y.2), 0) else (([], []), 1)
/-! nearest and farthest -/
end Go.Proofs.Ytaiinpbaaeemmaa
