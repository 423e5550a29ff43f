import Derived.AtR
import Derived.RangeFuncLeaves
import Derived.RangeFuncNested
import Derived.Below
import Derived.Tactics
import Derived.WalkKit
import Derived.KernelRfl
import Derived.Laws.StructEq
import Derived.Laws.Small
import Derived.Laws.Cover1
import Derived.Laws.AppendOwn
import Derived.WalkSpells
set_option linter.unusedVariables false
set_option linter.unusedSimpArgs false
namespace Go.Av
/-! ## 1. Abstract values, abstract memory -/
inductive AV where
  | raw (v : Value)
  | dead
  | ag (n : Nat) (f : Nat → AV)
  | tup (n : Nat) (f : Nat → AV)
  | nilB (n : Nat)
  | sl (n sz : Nat) (f : Nat → Nat → AV)
  | own (g n sz : Nat)
  | ptr (g off : Nat)
  | elp (g n sz i o : Nat)
  | ref (n : Nat) (f : Nat → AV)
  | fn (k : Fn) (n : Nat) (c : Nat → AV)
  | mp (g : Nat)
  | yl (g : Nat)
instance : Inhabited AV := ⟨.dead⟩
inductive Blk where
  | cells (e : TypeId) (n : Nat) (cs : Nat → AV)
  | row (e : TypeId) (n sz : Nat) (f : Nat → Nat → AV)
  | gone
  | loop (st : LoopState) (pend : Option Code) (fn : FuncId) (N : Nat) (Γ : Nat → AV) (ps : Array Tmp) (asg body : Code) (d : Nat)
  | defr
  | map (es : Array MapEntry) (clock : Nat)
def Blk.live : Blk → Prop
  | .gone => False
  | _ => True
abbrev Mem := Nat → Option Blk
structure Cx where
  w : World
  M : Mem
  ρ : Nat → Option Nat
def Cx.own (C : Cx) (b : Nat) : Prop := ∃ g B, C.M g = some B ∧ B.live ∧ C.ρ g = some b
def Cx.st (C : Cx) (b : Nat) : Prop := b < C.w.heap.size ∧ ¬ C.own b
/-- what a whole row's slice is, in memory -/
def OwnAt (C : Cx) (g n sz : Nat) (x : Value) : Prop :=
  match C.ρ g with
  | none => x = .slice none 0 0 ∧ n = 0
  | some b => ∃ (arr : Array Value) (e : TypeId) (cap : Nat), C.w.heap[b]? = some (.cells arr e (0, 0)) ∧ arr.size = cap * sz ∧ n ≤ cap ∧ x = .slice (some ⟨b, 0, none⟩) n cap
def Rep (C : Cx) : AV → Value → Prop
  | .raw v, x => x = v
  | .dead, _ => True
  | .ag n f, x => ∃ cs : Array Value, x = .agg cs ∧ cs.size = n ∧ ∀ i, i < n → Rep C (f i) (cs.getD i undef)
  | .tup n f, x => ∃ cs : Array Value, x = .tuple cs ∧ cs.size = n ∧ ∀ i, i < n → Rep C (f i) (cs.getD i undef)
  | .nilB n, x => ∃ b, x = .bool b ∧ (b = true → n = 0)
  | .sl n sz f, x => ∃ A c, x = .slice A n c ∧ n ≤ c ∧ (0 < n → ∃ ad, A = some ad ∧ C.st ad.block ∧ ∀ i j, i < n → j < sz → ∃ v, C.w.cell? (ad.add (i * sz + j)) = some v ∧ Rep C (f i j) v)
  | .own g n sz, x => match C.M g with
    | some (.row _ n' sz' _) => n ≤ n' ∧ sz' = sz ∧ (n' = n → OwnAt C g n sz x)
    | some .gone => True
    | _ => False
  | .ptr g off, x => match C.M g with
    | some (.cells ..) => ∃ b, C.ρ g = some b ∧ x = .pointer (some ⟨b, off, none⟩)
    | some .gone => True
    | _ => False
  | .elp g n sz i o, x => match C.M g with
    | some (.row _ n' sz' _) => n ≤ n' ∧ sz' = sz ∧ (n' = n → ∃ b, C.ρ g = some b ∧ x = .pointer (some ⟨b, i * sz + o, none⟩))
    | some .gone => True
    | _ => False
  | .ref n f, x => ∃ ad, x = .pointer (some ad) ∧ C.st ad.block ∧ ∀ i, i < n → ∃ v, C.w.cell? (ad.add i) = some v ∧ Rep C (f i) v
  | .fn k n c, x => ∃ cs : Array Value, x = .func k #[] cs ∧ cs.size = n ∧ ∀ i, i < n → Rep C (c i) (cs.getD i undef)
  | .mp g, x => match C.M g with
    | some (.map ..) => ∃ b, C.ρ g = some b ∧ x = .map (some b)
    | some .gone => True
    | _ => False
  | .yl g, x => match C.M g with
    | some (.loop ..) => ∃ b, C.ρ g = some b ∧ x = .func (.yield b) #[] #[]
    | some .gone => True
    | _ => False
/-- the real object of a tracked block -/
def BlkOk (C : Cx) (g : Nat) : Blk → Prop
  | .cells e n cs => ∃ b arr, C.ρ g = some b ∧ C.w.heap[b]? = some (.cells arr e (0, 0)) ∧ arr.size = n ∧ ∀ i, i < n → Rep C (cs i) (arr.getD i undef)
  | .row e n sz f => 0 < sz ∧ ((n = 0 ∧ C.ρ g = none) ∨ ∃ b arr cap, C.ρ g = some b ∧ C.w.heap[b]? = some (.cells arr e (0, 0)) ∧ arr.size = cap * sz ∧ n ≤ cap ∧ cap ≤ maxLen ∧ ∀ i j, i < n → j < sz → Rep C (f i j) (arr.getD (i * sz + j) undef))
  | .gone => True
  | .loop st pend fn N Γ ps asg body d => ∃ b tmps, C.ρ g = some b ∧ C.w.heap[b]? = some (.loop { state := st, pending := pend, fn := fn, tmps := tmps, params := ps, assign := asg, body := body, defers := d }) ∧ tmps.size = N ∧ ∀ i, Rep C (Γ i) (tmps.getD i undef)
  | .defr => ∃ b, C.ρ g = some b ∧ C.w.heap[b]? = some (.deferred (some []))
  | .map es clock => ∃ b, C.ρ g = some b ∧ C.w.heap[b]? = some (.map es clock)
structure Sim (C : Cx) : Prop where
  inj : ∀ g g' B B' b, C.M g = some B → B.live → C.M g' = some B' → B'.live → C.ρ g = some b → C.ρ g' = some b → g = g'
  fin : ∃ N, ∀ g, N ≤ g → C.M g = none
  blk : ∀ g B, C.M g = some B → BlkOk C g B
/-- how a tracked block may go on -/
def IdStep (C C' : Cx) (g : Nat) : Blk → Blk → Prop
  | _, .gone => True
  | .cells e n _, .cells e' n' _ => e' = e ∧ n' = n ∧ C'.ρ g = C.ρ g
  | .row e n sz _, .row e' n' sz' _ => e' = e ∧ sz' = sz ∧ n ≤ n' ∧ (n' = n → C'.ρ g = C.ρ g ∧ ∀ b arr e fr, C.ρ g = some b → C.w.heap[b]? = some (.cells arr e fr) → ∃ arr' e', C'.w.heap[b]? = some (.cells arr' e' fr) ∧ arr'.size = arr.size)
  | .loop _ _ fn N Γ ps asg body z, .loop _ _ fn' N' Γ' ps' asg' body' z' => fn' = fn ∧ N' = N ∧ Γ' = Γ ∧ ps' = ps ∧ asg' = asg ∧ body' = body ∧ z' = z ∧ C'.ρ g = C.ρ g
  | .defr, .defr => C'.ρ g = C.ρ g
  | .map _ _, .map _ _ => C'.ρ g = C.ρ g
  | _, _ => False
structure Step (C C' : Cx) : Prop where
  os : C'.w.os = C.w.os
  tape : C'.w.tape = C.w.tape
  output : C'.w.output = C.w.output
  size : C.w.heap.size ≤ C'.w.heap.size
  stable : ∀ b, C.st b → C'.w.heap[b]? = C.w.heap[b]? ∧ C'.st b
  ids : ∀ g B, C.M g = some B → ∃ B', C'.M g = some B' ∧ IdStep C C' g B B'
theorem cell_of_heap {w w' : World} {a : Addr} (h : w'.heap[a.block]? = w.heap[a.block]?) : w'.cell? a = w.cell? a := by
  unfold World.cell?; rw [h]
theorem add_block (a : Addr) (n : Nat) : (a.add n).block = a.block := by unfold Addr.add; split <;> rfl
theorem OwnAt.step {C C' : Cx} {g n sz : Nat} {x : Value} (hρ : C'.ρ g = C.ρ g)
    (hb : ∀ b arr e fr, C.ρ g = some b → C.w.heap[b]? = some (.cells arr e fr) → ∃ arr' e', C'.w.heap[b]? = some (.cells arr' e' fr) ∧ arr'.size = arr.size) (h : OwnAt C g n sz x) : OwnAt C' g n sz x := by
  unfold OwnAt at h ⊢
  rw [hρ]
  cases hg : C.ρ g with
  | none => rw [hg] at h; exact h
  | some b =>
    rw [hg] at h
    obtain ⟨arr, e, cap, h1, h2, h3, h4⟩ := h
    obtain ⟨arr', e', h5, h6⟩ := hb b arr e (0, 0) hg h1
    exact ⟨arr', e', cap, h5, by rw [h6, h2], h3, h4⟩
theorem Rep.step {C C' : Cx} (hs : Step C C') : ∀ (av : AV) (x : Value), Rep C av x → Rep C' av x := by
  intro av
  induction av with
  | raw v => exact fun x h => h
  | dead => exact fun x h => trivial
  | ag n f ih => rintro x ⟨cs, h1, h2, h3⟩; exact ⟨cs, h1, h2, fun i hi => ih i _ (h3 i hi)⟩
  | tup n f ih => rintro x ⟨cs, h1, h2, h3⟩; exact ⟨cs, h1, h2, fun i hi => ih i _ (h3 i hi)⟩
  | nilB n => exact fun x h => h
  | sl n sz f ih =>
    rintro x ⟨A, c, h1, h2, h3⟩
    refine ⟨A, c, h1, h2, fun h0 => ?_⟩
    obtain ⟨ad, ha, hst, hc⟩ := h3 h0
    obtain ⟨e1, e2⟩ := hs.stable _ hst
    refine ⟨ad, ha, e2, fun i j hi hj => ?_⟩
    obtain ⟨v, hv, hr⟩ := hc i j hi hj
    exact ⟨v, (cell_of_heap (by rw [add_block]; exact e1)).trans hv, ih i j _ hr⟩
  | own g n sz =>
    intro x h
    simp only [Rep] at h ⊢
    cases hg : C.M g with
    | none => rw [hg] at h; exact h.elim
    | some B =>
      obtain ⟨B', hB', hid⟩ := hs.ids g B hg
      rw [hg] at h; rw [hB']
      cases B' with
      | gone => trivial
      | row e' n' sz' f' =>
        cases B with
        | row e n0 sz0 f0 =>
          obtain ⟨rfl, rfl, hle, hk⟩ := hid
          obtain ⟨h1, h2, h3⟩ := h
          refine ⟨Nat.le_trans h1 hle, h2, fun hn => ?_⟩
          obtain rfl : n0 = n' := by omega
          obtain ⟨r1, r2⟩ := hk rfl
          exact OwnAt.step r1 r2 (h3 hn)
        | _ => exact hid.elim
      | _ => cases B <;> first | exact hid.elim | (simp at h)
  | ptr g off =>
    intro x h
    simp only [Rep] at h ⊢
    cases hg : C.M g with
    | none => rw [hg] at h; exact h.elim
    | some B =>
      obtain ⟨B', hB', hid⟩ := hs.ids g B hg
      rw [hg] at h; rw [hB']
      cases B' with
      | gone => trivial
      | cells e' n' cs' =>
        cases B with
        | cells e n cs =>
          obtain ⟨_, _, hρ⟩ := hid
          obtain ⟨b, h1, h2⟩ := h
          exact ⟨b, hρ.trans h1, h2⟩
        | _ => exact hid.elim
      | _ => cases B <;> first | exact hid.elim | (simp at h)
  | elp g n sz i o =>
    intro x h
    simp only [Rep] at h ⊢
    cases hg : C.M g with
    | none => rw [hg] at h; exact h.elim
    | some B =>
      obtain ⟨B', hB', hid⟩ := hs.ids g B hg
      rw [hg] at h; rw [hB']
      cases B' with
      | gone => trivial
      | row e' n' sz' f' =>
        cases B with
        | row e n0 sz0 f0 =>
          obtain ⟨rfl, rfl, hle, hk⟩ := hid
          obtain ⟨h1, h2, h3⟩ := h
          refine ⟨Nat.le_trans h1 hle, h2, fun hn => ?_⟩
          obtain rfl : n0 = n' := by omega
          obtain ⟨r1, r2⟩ := hk rfl
          obtain ⟨b, h5, h6⟩ := h3 hn
          exact ⟨b, r1.trans h5, h6⟩
        | _ => exact hid.elim
      | _ => cases B <;> first | exact hid.elim | (simp at h)
  | ref n f ih =>
    rintro x ⟨ad, h1, hst, h3⟩
    obtain ⟨e1, e2⟩ := hs.stable _ hst
    refine ⟨ad, h1, e2, fun i hi => ?_⟩
    obtain ⟨v, hv, hr⟩ := h3 i hi
    exact ⟨v, (cell_of_heap (by rw [add_block]; exact e1)).trans hv, ih i _ hr⟩
  | fn k n c ih => rintro x ⟨cs, h1, h2, h3⟩; exact ⟨cs, h1, h2, fun i hi => ih i _ (h3 i hi)⟩
  | mp g =>
    intro x h
    simp only [Rep] at h ⊢
    cases hg : C.M g with
    | none => rw [hg] at h; exact h.elim
    | some B =>
      obtain ⟨B', hB', hid⟩ := hs.ids g B hg
      rw [hg] at h; rw [hB']
      cases B' with
      | gone => trivial
      | map es cl =>
        cases B with
        | map es0 cl0 =>
          obtain ⟨b, h5, h6⟩ := h
          exact ⟨b, Eq.trans hid h5, h6⟩
        | _ => exact hid.elim
      | _ => cases B <;> first | exact hid.elim | (simp at h)
  | yl g =>
    intro x h
    simp only [Rep] at h ⊢
    cases hg : C.M g with
    | none => rw [hg] at h; exact h.elim
    | some B =>
      obtain ⟨B', hB', hid⟩ := hs.ids g B hg
      rw [hg] at h; rw [hB']
      cases B' with
      | gone => trivial
      | loop st pend fn N Γ ps asg body z =>
        cases B with
        | loop st0 pend0 fn0 N0 Γ0 ps0 asg0 body0 z0 =>
          obtain ⟨_, _, _, _, _, _, _, hρ⟩ := hid
          obtain ⟨b, h5, h6⟩ := h
          exact ⟨b, hρ.trans h5, h6⟩
        | _ => exact hid.elim
      | _ => cases B <;> first | exact hid.elim | (simp at h)
theorem IdStep.refl (C : Cx) (g : Nat) (B : Blk) : IdStep C C g B B := by
  cases B <;> simp only [IdStep, true_and, and_self, and_true, Nat.le_refl, forall_const, true_implies]
  exact fun b arr e fr _ h => ⟨arr, e, h, rfl⟩
theorem Step.refl (C : Cx) : Step C C :=
  ⟨rfl, rfl, rfl, Nat.le_refl _, fun b h => ⟨rfl, h⟩, fun g B h => ⟨B, h, .refl C g B⟩⟩
theorem IdStep.trans {C C' C'' : Cx} {g : Nat} {B B' B'' : Blk} (h : IdStep C C' g B B') (k : IdStep C' C'' g B' B'') : IdStep C C'' g B B'' := by
  cases B'' with
  | gone => cases B <;> trivial
  | cells e n cs =>
    cases B' with
    | cells e1 n1 cs1 =>
      cases B with
      | cells e0 n0 cs0 => obtain ⟨rfl, rfl, r⟩ := h; obtain ⟨rfl, rfl, s⟩ := k; exact ⟨rfl, rfl, s.trans r⟩
      | _ => exact h.elim
    | _ => exact k.elim
  | row e n sz f =>
    cases B' with
    | row e1 n1 sz1 f1 =>
      cases B with
      | row e0 n0 sz0 f0 =>
        obtain ⟨rfl, rfl, h1, h2⟩ := h; obtain ⟨rfl, rfl, k1, k2⟩ := k
        refine ⟨rfl, rfl, Nat.le_trans h1 k1, fun hn => ?_⟩
        obtain rfl : n1 = n := by omega
        obtain ⟨r1, r2⟩ := h2 hn
        obtain ⟨s1, s2⟩ := k2 rfl
        refine ⟨s1.trans r1, fun b arr e fr hb hh => ?_⟩
        obtain ⟨arr', e', q1, q2⟩ := r2 b arr e fr hb hh
        obtain ⟨arr'', e'', q3, q4⟩ := s2 b arr' e' fr (r1.trans hb) q1
        exact ⟨arr'', e'', q3, q4.trans q2⟩
      | _ => exact h.elim
    | _ => exact k.elim
  | loop st pend fn N Γ ps asg body z =>
    cases B' with
    | loop st1 pend1 fn1 N1 Γ1 ps1 asg1 body1 z1 =>
      cases B with
      | loop st0 pend0 fn0 N0 Γ0 ps0 asg0 body0 z0 =>
        obtain ⟨rfl, rfl, rfl, rfl, rfl, rfl, rfl, r⟩ := h; obtain ⟨rfl, rfl, rfl, rfl, rfl, rfl, rfl, s⟩ := k
        exact ⟨rfl, rfl, rfl, rfl, rfl, rfl, rfl, s.trans r⟩
      | _ => exact h.elim
    | _ => exact k.elim
  | defr =>
    cases B' with
    | defr =>
      cases B with
      | defr => exact Eq.trans k h
      | _ => exact h.elim
    | _ => exact k.elim
  | map es cl =>
    cases B' with
    | map es1 cl1 =>
      cases B with
      | map es0 cl0 => exact Eq.trans k h
      | _ => exact h.elim
    | _ => exact k.elim
theorem Step.trans {C C' C'' : Cx} (h : Step C C') (k : Step C' C'') : Step C C'' :=
  ⟨k.os.trans h.os, k.tape.trans h.tape, k.output.trans h.output, Nat.le_trans h.size k.size,
   fun b hb => ⟨(k.stable b (h.stable b hb).2).1.trans (h.stable b hb).1, (k.stable b (h.stable b hb).2).2⟩,
   fun g B hg => by
     obtain ⟨B', h1, h2⟩ := h.ids g B hg
     obtain ⟨B'', k1, k2⟩ := k.ids g B' h1
     exact ⟨B'', k1, h2.trans k2⟩⟩
end Go.Av
set_option linter.unusedVariables false
set_option linter.unusedSimpArgs false
namespace Go.Av
/-! ## 2. Types, operands, reading operations -/
inductive Ty where
  | int (k : IntKind) | bool | str | slice (e : TypeId) | struct (fs : List (Nat × TypeId)) (n : Nat) | arr (len : Nat) (e : TypeId) (n : Nat)
  | ptr (e : TypeId) | func | map (k e : TypeId) | iface | tup | other
def Ty.cells : Ty → Nat | .struct _ n => n | .arr _ _ n => n | _ => 1
def Ty.agg : Ty → Bool | .struct .. => true | .arr .. => true | _ => false
structure Tab where
  ty : TypeId → Option Ty
  zero : TypeId → Option (List Value)
  eqs : TypeId → Bool
  bytes : TypeId → Option Nat
def DescOk : TypeDesc → Ty → Bool
  | .int k, .int k' => k = k'
  | .bool, .bool | .string, .str | .func .., .func | .interface _, .iface | .tuple _, .tup => true
  | .slice e, .slice e' => e = e'
  | .struct fields, .struct fs _ => (fields.toList.map fun f => (f.offset, f.type)) = fs
  | .array l e, .arr l' e' _ => l = l' && e = e'
  | .pointer e, .ptr e' => e = e'
  | .map k e, .map k' e' => k = k' && e = e'
  | .struct _, _ | .array .., _ => false
  | _, .other => true
  | _, _ => false
def TyOk (P : Program) (t : TypeId) (ty : Ty) : Prop := ∃ i d, P.info? t = some i ∧ P.underlying t = some d ∧ i.size = ty.cells ∧ DescOk d ty = true
def ZeroOk (P : Program) (t : TypeId) (zs : List Value) : Prop := ∃ i z, P.info? t = some i ∧ i.zero = some z ∧ z.cells.toList = zs
/-- the type is a struct with no blank field, comparable without a panic and not stood in for -/
def PlainStruct (P : Program) (t : TypeId) : Prop := ∃ fields : Array Field, P.underlying t = some (.struct fields) ∧ P.stoodInHeld t = false ∧ P.eqGuardType P.depth t = false ∧ ∀ q ∈ fields.toList, q.name ≠ "_"
structure TabOk (P : Program) (T : Tab) : Prop where
  ty : ∀ t ty, T.ty t = some ty → TyOk P t ty
  zero : ∀ t zs, T.zero t = some zs → ZeroOk P t zs
  eqs : ∀ t, T.eqs t = true → PlainStruct P t
  bytes : ∀ t n, T.bytes t = some n → ∃ i, P.info? t = some i ∧ i.bytes = n
def cst : Value → AV
  | .agg cs => .ag cs.size (fun i => .raw (cs.getD i undef))
  | v => .raw v
def opv (Γ : Nat → AV) : Operand → AV
  | .tmp t => Γ t
  | .const v => cst v
  | .global g => .raw (.pointer (some ⟨g, 0, none⟩))
  | .func f => .fn (.func f) 0 (fun _ => .dead)
theorem Rep.cst (C : Cx) (v : Value) : Rep C (cst v) v := by
  cases v <;> first | rfl | exact ⟨_, rfl, rfl, fun i _ => rfl⟩
def Fits (C : Cx) (Γ : Nat → AV) (tmps : Array Value) : Prop := ∀ i, Rep C (Γ i) (tmps.getD i undef)
theorem Fits.opv {C : Cx} {Γ : Nat → AV} {a : Act} (h : Fits C Γ a.tmps) : ∀ x : Operand, Rep C (opv Γ x) (a.eval x)
  | .tmp t => h t
  | .const v => Rep.cst C v
  | .global g => rfl
  | .func f => ⟨#[], rfl, rfl, fun i hi => absurd hi (Nat.not_lt_zero _)⟩
theorem Fits.step {C C' : Cx} {Γ : Nat → AV} {tmps : Array Value} (h : Fits C Γ tmps) (hs : Step C C') : Fits C' Γ tmps := fun i => (h i).step hs _ _
def up (Γ : Nat → AV) (d : Nat) (v : AV) : Nat → AV := fun i => if i = d then v else Γ i
theorem Fits.up {C : Cx} {Γ : Nat → AV} {tmps : Array Value} (h : Fits C Γ tmps) {d : Nat} {v : Value} {av : AV} (hd : d < tmps.size) (hv : Rep C av v) : Fits C (up Γ d av) (tmps.setIfInBounds d v) := by
  intro i
  unfold Av.up
  by_cases e : i = d
  · subst e
    simp only [if_true]
    rw [Array.getD_eq_getD_getElem?, Array.getElem?_setIfInBounds_self_of_lt hd]
    exact hv
  · rw [if_neg e, Array.getD_eq_getD_getElem?, Array.getElem?_setIfInBounds_ne (by omega), ← Array.getD_eq_getD_getElem?]
    exact h i
def lst (l : List AV) : Nat → AV := fun i => l.getD i .dead
/-- the first n values of f, from the s-th -/
def tk : Nat → Nat → (Nat → AV) → List AV
  | 0, _, _ => []
  | n + 1, s, f => f s :: tk n (s + 1) f
theorem tk_get (f : Nat → AV) : ∀ (n s i : Nat), i < n → lst (tk n s f) i = f (s + i)
  | n + 1, s, 0, _ => rfl
  | n + 1, s, i + 1, h => by
    have := tk_get f n (s + 1) i (by omega)
    simp only [lst, tk, List.getD_cons_succ] at this ⊢
    rw [this]; congr 1; omega
def nrm (n : Nat) (f : Nat → AV) : Nat → AV := lst (tk n 0 f)
theorem nrm_eq {n : Nat} {f : Nat → AV} {i : Nat} (h : i < n) : nrm n f i = f i := by rw [nrm, tk_get f n 0 i h, Nat.zero_add]
def ldAt (ty : Ty) (f : Nat → AV) : AV := if ty.agg then .ag ty.cells (nrm ty.cells f) else f 0
theorem und {P : Program} {T : Tab} (hT : TabOk P T) {t : TypeId} {ty : Ty} (h : T.ty t = some ty) : ∃ d, P.underlying t = some d ∧ DescOk d ty = true := by
  obtain ⟨i, d, _, h2, _, h4⟩ := hT.ty t ty h
  exact ⟨d, h2, h4⟩
theorem run_isAgg' {P : Program} {T : Tab} (hT : TabOk P T) {t : TypeId} {ty : Ty} (h : T.ty t = some ty) (w : World) : (isAgg t).run P w = .ok ty.agg w := by
  obtain ⟨d, h1, h2⟩ := und hT h
  simp only [isAgg, Sem.run_bind, run_underlying h1, Result.andThen_ok]
  cases d <;> cases ty <;> first | rfl | (simp [DescOk] at h2)
theorem run_sizeOf' {P : Program} {T : Tab} (hT : TabOk P T) {t : TypeId} {ty : Ty} (h : T.ty t = some ty) (w : World) : (sizeOf t).run P w = .ok ty.cells w := by
  obtain ⟨i, d, h1, _, h3, _⟩ := hT.ty t ty h
  simp [sizeOf, typeInfo, h1, h3]
/-- a value is loaded out of cells that are told -/
theorem run_loadVar' {P : Program} {T : Tab} (hT : TabOk P T) {t : TypeId} {ty : Ty} (h : T.ty t = some ty) (C : Cx) (ad : Addr) (f : Nat → AV) (h1 : 0 < ty.cells)
    (hc : ∀ i, i < ty.cells → ∃ v, C.w.cell? (ad.add i) = some v ∧ Rep C (f i) v) : ∃ v, (loadVar t ad).run P C.w = .ok v C.w ∧ Rep C (ldAt ty f) v := by
  unfold ldAt
  simp only [loadVar, Sem.run_bind, run_isAgg' hT h, Result.andThen_ok]
  cases ha : ty.agg with
  | true =>
    have key : ∃ g : Nat → Value, ∀ i, i < ty.cells → C.w.cell? (ad.add i) = some (g i) ∧ Rep C (f i) (g i) :=
      ⟨fun i => (C.w.cell? (ad.add i)).getD undef, fun i hi => by obtain ⟨v, hv, hr⟩ := hc i hi; simp only [hv, Option.getD_some]; exact ⟨trivial, hr⟩⟩
    obtain ⟨g, hg⟩ := key
    refine ⟨.agg ((List.range ty.cells).map g).toArray, ?_, ⟨_, rfl, by simp, fun i hi => ?_⟩⟩
    · simp only [if_true, Sem.run_bind, run_sizeOf' hT h, Result.andThen_ok, run_loadCells C.w ad ty.cells g (fun j hj => (hg j hj).1)]
      rfl
    · have : (((List.range ty.cells).map g).toArray).getD i undef = g i := by simp [Array.getD_eq_getD_getElem?, hi]
      rw [this, nrm_eq hi]; exact (hg i hi).2
  | false =>
    obtain ⟨v, hv, hr⟩ := hc 0 h1
    rw [Go.Addr.add_zero'] at hv
    refine ⟨v, ?_, hr⟩
    simp [hv]
theorem cell_arr {w : World} {b : Nat} {arr : Array Value} {e : TypeId} {fr : Nat × Nat} (h : w.heap[b]? = some (.cells arr e fr)) {o : Nat} (ho : o < arr.size) : w.cell? ⟨b, o, none⟩ = some (arr.getD o undef) := by
  simp [World.cell?, h, Array.getD_eq_getD_getElem?, ho]
theorem add_add (a : Addr) (n m : Nat) : (a.add n).add m = a.add (n + m) := by
  unfold Addr.add
  by_cases h : n = 0 <;> by_cases k : m = 0 <;> simp_all [Nat.add_assoc]
def rdLoad (T : Tab) (M : Mem) (t : TypeId) (x : AV) : Option AV :=
  match T.ty t with
  | none => none
  | some ty =>
    if ty.cells = 0 then none else
    match x with
    | .ref n f => if ty.cells ≤ n then some (ldAt ty f) else none
    | .ptr g off => match M g with
      | some (.cells e n cs) => if off + ty.cells ≤ n then some (ldAt ty (fun i => cs (off + i))) else none
      | _ => none
    | .elp g n sz i o => match M g with
      | some (.row e n' sz' f) => if n' = n ∧ o + ty.cells ≤ sz ∧ i < n then some (ldAt ty (fun c => f i (o + c))) else none
      | _ => none
    | _ => none
theorem rdLoad_sound {P : Program} {T : Tab} (hT : TabOk P T) {C : Cx} (hS : Sim C) {t : TypeId} {x av : AV} {p : Value} (h : rdLoad T C.M t x = some av) (hx : Rep C x p) :
    ∃ v, (Instr.loadAt t p).run P C.w = .ok v C.w ∧ Rep C av v := by
  unfold rdLoad at h
  cases hty : T.ty t with
  | none => rw [hty] at h; cases h
  | some ty =>
    simp only [hty] at h
    by_cases h0 : ty.cells = 0
    · rw [if_pos h0] at h; cases h
    rw [if_neg h0] at h
    have go : ∀ (ad : Addr) (f : Nat → AV), p = .pointer (some ad) → (∀ i, i < ty.cells → ∃ v, C.w.cell? (ad.add i) = some v ∧ Rep C (f i) v) → some (ldAt ty f) = some av →
        ∃ v, (Instr.loadAt t p).run P C.w = .ok v C.w ∧ Rep C av v := by
      rintro ad f rfl hc e
      cases e
      obtain ⟨v, hv, hr⟩ := run_loadVar' hT hty C ad f (by omega) hc
      exact ⟨v, by simp [Instr.loadAt, Instr.sureAddr, hv], hr⟩
    cases x with
    | ref n f =>
      simp only at h
      split at h
      · rename_i hle
        obtain ⟨ad, e1, _, hc⟩ := hx
        exact go ad f e1 (fun i hi => hc i (by omega)) h
      · cases h
    | ptr g off =>
      simp only [Rep] at h hx
      cases hg : C.M g with
      | none => rw [hg] at h; cases h
      | some B =>
        rw [hg] at h hx
        cases B with
        | cells e n cs =>
          simp only at h hx
          split at h
          · rename_i hle
            obtain ⟨b, hb, e1⟩ := hx
            obtain ⟨b', arr, hb', hh, hsz, hc⟩ := hS.blk g _ hg
            obtain rfl : b = b' := by rw [hb] at hb'; cases hb'; rfl
            refine go ⟨b, off, none⟩ _ e1 (fun i hi => ⟨arr.getD (off + i) undef, ?_, hc _ (by omega)⟩) h
            have : (⟨b, off, none⟩ : Addr).add i = ⟨b, off + i, none⟩ := by unfold Addr.add; split <;> simp_all
            rw [this]; exact cell_arr hh (by omega)
          · cases h
        | _ => cases h
    | elp g n sz i o =>
      simp only [Rep] at h hx
      cases hg : C.M g with
      | none => rw [hg] at h; cases h
      | some B =>
        rw [hg] at h hx
        cases B with
        | row e n' sz' f =>
          simp only at h hx
          split at h
          · rename_i hle
            obtain ⟨rfl, hle2, hin⟩ := hle
            obtain ⟨_, rfl, h3⟩ := hx
            obtain ⟨b, hb, e1⟩ := h3 rfl
            obtain ⟨hpos, hk⟩ := hS.blk g _ hg
            rcases hk with ⟨hn0, _⟩ | ⟨b', arr, cap, hb', hh, hsz, hcap, _, hc⟩
            · omega
            obtain rfl : b = b' := by rw [hb] at hb'; cases hb'; rfl
            have hb1 : i * sz' + sz' ≤ cap * sz' := by rw [← Nat.succ_mul]; exact Nat.mul_le_mul_right _ (by omega)
            refine go _ _ e1 (fun c hc' => ⟨arr.getD (i * sz' + (o + c)) undef, ?_, hc _ _ hin (by omega)⟩) h
            have : (⟨b, i * sz' + o, none⟩ : Addr).add c = ⟨b, i * sz' + (o + c), none⟩ := by unfold Addr.add; split <;> simp_all [Nat.add_assoc]
            rw [this]; exact cell_arr hh (by omega)
          · cases h
        | _ => cases h
    | _ => simp at h
def rdFieldAddr (T : Tab) (M : Mem) (s : TypeId) (x : AV) (k : Nat) : Option AV :=
  match T.ty s with
  | some (.struct fs _) => match fs[k]? with
    | some (o, t) => match T.ty t with
      | some ty => if ty.cells = 0 then none else match x with
        | .ref n f => if o + ty.cells ≤ n then some (.ref ty.cells (nrm ty.cells (fun i => f (o + i)))) else none
        | .ptr g off => match M g with
          | some (.cells _ _ _) => some (.ptr g (off + o))
          | _ => none
        | .elp g n sz i p => match M g with
          | some (.row _ n' sz' _) => if n' = n ∧ sz' = sz then some (.elp g n sz i (p + o)) else none
          | _ => none
        | _ => none
      | none => none
    | none => none
  | _ => none
theorem struct_fields {P : Program} {T : Tab} (hT : TabOk P T) {s : TypeId} {fs : List (Nat × TypeId)} {n : Nat} (h : T.ty s = some (.struct fs n)) :
    ∃ fields : Array Field, P.underlying s = some (.struct fields) ∧ (fields.toList.map fun f => (f.offset, f.type)) = fs := by
  obtain ⟨d, h1, h2⟩ := und hT h
  cases d <;> first | (simp [DescOk] at h2; done) | skip
  rename_i fields
  exact ⟨fields, h1, by simpa [DescOk] using h2⟩
theorem field_at {fields : Array Field} {fs : List (Nat × TypeId)} (h : (fields.toList.map fun f => (f.offset, f.type)) = fs) {k o : Nat} {t : TypeId} (hk : fs[k]? = some (o, t)) :
    ∃ f : Field, fields[k]? = some f ∧ f.offset = o ∧ f.type = t := by
  subst h
  rw [List.getElem?_map] at hk
  cases hf : fields.toList[k]? with
  | none => rw [hf] at hk; simp at hk
  | some f =>
    rw [hf] at hk
    simp only [Option.map_some, Option.some.injEq, Prod.mk.injEq] at hk
    exact ⟨f, by simpa using hf, hk.1, hk.2⟩
theorem rdFieldAddr_sound {P : Program} {T : Tab} (hT : TabOk P T) {C : Cx} {s : TypeId} {x av : AV} {k : Nat} {p : Value} (h : rdFieldAddr T C.M s x k = some av) (hx : Rep C x p) :
    ∃ v, (Instr.fieldAt s p k).run P C.w = .ok v C.w ∧ Rep C av v := by
  unfold rdFieldAddr at h
  cases hs : T.ty s with
  | none => rw [hs] at h; cases h
  | some ts =>
    rw [hs] at h
    cases ts with
    | struct fs m =>
      simp only at h
      cases hk : fs[k]? with
      | none => rw [hk] at h; cases h
      | some ot =>
        obtain ⟨o, t⟩ := ot
        rw [hk] at h
        simp only at h
        cases ht : T.ty t with
        | none => rw [ht] at h; cases h
        | some ty =>
          rw [ht] at h
          simp only at h
          by_cases h0 : ty.cells = 0
          · rw [if_pos h0] at h; cases h
          rw [if_neg h0] at h
          obtain ⟨fields, hu, hfs⟩ := struct_fields hT hs
          obtain ⟨f, hf, rfl, rfl⟩ := field_at hfs hk
          have run : ∀ ad : Addr, (Instr.fieldAt s (.pointer (some ad)) k).run P C.w = .ok (.pointer (some (ad.add f.offset))) C.w := fun ad => by
            simp [Instr.fieldAt, run_underlying hu, hf, Instr.sureAddr, fieldPlace, run_sizeOf' hT ht, h0]
          cases x with
          | ref n g =>
            simp only at h
            split at h
            · rename_i hle
              cases h
              obtain ⟨ad, rfl, hst, hc⟩ := hx
              refine ⟨_, run ad, ad.add f.offset, rfl, by rw [add_block]; exact hst, fun i hi => ?_⟩
              obtain ⟨v, hv, hr⟩ := hc (f.offset + i) (by omega)
              exact ⟨v, by rw [add_add]; exact hv, by rw [nrm_eq hi]; exact hr⟩
            · cases h
          | ptr g off =>
            cases hg : C.M g with
            | none => simp [hg] at h
            | some B =>
              cases B with
              | cells e n cs =>
                simp only [hg, Option.some.injEq] at h
                subst h
                simp only [Rep, hg] at hx
                obtain ⟨b, hb, rfl⟩ := hx
                refine ⟨_, run _, ?_⟩
                simp only [Rep, hg]
                exact ⟨b, hb, by rw [Go.Addr.add_lit]⟩
              | _ => simp [hg] at h
          | elp g n sz i p =>
            cases hg : C.M g with
            | none => simp [hg] at h
            | some B =>
              cases B with
              | row e n' sz' fr =>
                simp only [hg] at h
                split at h
                · rename_i hc
                  obtain ⟨rfl, rfl⟩ := hc
                  cases h
                  simp only [Rep, hg] at hx
                  obtain ⟨_, _, h3⟩ := hx
                  obtain ⟨b, hb, rfl⟩ := h3 trivial
                  refine ⟨_, run _, ?_⟩
                  simp only [Rep, hg]
                  exact ⟨Nat.le_refl _, trivial, fun _ => ⟨b, hb, by rw [Go.Addr.add_lit, Nat.add_assoc]⟩⟩
                · cases h
              | _ => simp [hg] at h
          | _ => simp at h
    | _ => simp at h
def rdField (T : Tab) (s : TypeId) (x : AV) (k : Nat) : Option AV :=
  match T.ty s with
  | some (.struct fs _) => match fs[k]? with
    | some (o, t) => match T.ty t with
      | some ty => if ty.cells = 0 then none else match x with
        | .ag n f => if o + ty.cells ≤ n then some (ldAt ty (fun i => f (o + i))) else none
        | _ => none
      | none => none
    | none => none
  | _ => none
theorem rdField_sound {P : Program} {T : Tab} (hT : TabOk P T) {C : Cx} {s : TypeId} {x av : AV} {k : Nat} {p : Value} (h : rdField T s x k = some av) (hx : Rep C x p) :
    ∃ v, (Instr.field s p k).run P C.w = .ok v C.w ∧ Rep C av v := by
  unfold rdField at h
  cases hs : T.ty s with
  | none => rw [hs] at h; cases h
  | some ts =>
    rw [hs] at h
    cases ts with
    | struct fs m =>
      simp only at h
      cases hk : fs[k]? with
      | none => rw [hk] at h; cases h
      | some ot =>
        obtain ⟨o, t⟩ := ot
        rw [hk] at h
        simp only at h
        cases ht : T.ty t with
        | none => rw [ht] at h; cases h
        | some ty =>
          rw [ht] at h
          simp only at h
          by_cases h0 : ty.cells = 0
          · rw [if_pos h0] at h; cases h
          rw [if_neg h0] at h
          obtain ⟨fields, hu, hfs⟩ := struct_fields hT hs
          obtain ⟨f, hf, rfl, rfl⟩ := field_at hfs hk
          cases x with
          | ag n g =>
            simp only at h
            split at h
            · rename_i hle
              cases h
              obtain ⟨cs, rfl, hsz, hc⟩ := hx
              unfold ldAt
              cases ha : ty.agg with
              | true =>
                refine ⟨.agg (cs.extract f.offset (f.offset + ty.cells)), by simp [Instr.field, run_underlying hu, hf, asAgg, part, run_isAgg' hT ht, ha, run_sizeOf' hT ht], ⟨_, rfl, by simp; omega, fun i hi => ?_⟩⟩
                have : (cs.extract f.offset (f.offset + ty.cells)).getD i undef = cs.getD (f.offset + i) undef := by
                  simp only [Array.getD_eq_getD_getElem?, Array.getElem?_extract]
                  rw [if_pos (by omega)]
                rw [this, nrm_eq hi]
                exact hc _ (by omega)
              | false =>
                have h1 : f.offset < cs.size := by omega
                refine ⟨cs.getD f.offset undef, ?_, by simpa using hc f.offset (by omega)⟩
                simp [Instr.field, run_underlying hu, hf, asAgg, part, run_isAgg' hT ht, ha, Array.getD_eq_getD_getElem?, h1]
            · cases h
          | _ => simp at h
    | _ => simp at h
def rdIndexAddr (T : Tab) (M : Mem) (t : TypeId) (x i : AV) : Option AV :=
  match T.ty t with
  | some (.slice e) => match T.ty e with
    | some te => match x, i with
      | .sl n sz f, .raw (.int _ j) => if sz = te.cells ∧ 0 ≤ j ∧ j < n then some (.ref sz (nrm sz (f j.toNat))) else none
      | .own g n sz, .raw (.int _ j) => match M g with
        | some (.row _ n' sz' _) => if n' = n ∧ sz' = sz ∧ sz = te.cells ∧ 0 ≤ j ∧ j < n then some (.elp g n sz j.toNat 0) else none
        | _ => none
      | _, _ => none
    | none => none
  | some (.arr len e _) => match T.ty e with
    | some te => match x, i with
      | .ptr g off, .raw (.int _ j) => match M g with
        | some (.cells _ _ _) => if 0 ≤ j ∧ j < len then some (.ptr g (off + j.toNat * te.cells)) else none
        | _ => none
      | .ref m f, .raw (.int _ j) => if len * te.cells ≤ m ∧ 0 ≤ j ∧ j < len then some (.ref te.cells (nrm te.cells (fun c => f (j.toNat * te.cells + c)))) else none
      | _, _ => none
    | none => none
  | _ => none
theorem rdIndexAddr_sound {P : Program} {T : Tab} (hT : TabOk P T) {C : Cx} {t : TypeId} {x i av : AV} {p q : Value} (h : rdIndexAddr T C.M t x i = some av) (hx : Rep C x p) (hi : Rep C i q) :
    ∃ v, (Instr.indexAt t p q).run P C.w = .ok v C.w ∧ Rep C av v := by
  unfold rdIndexAddr at h
  cases hs : T.ty t with
  | none => rw [hs] at h; cases h
  | some ts =>
    rw [hs] at h
    cases ts with
    | slice e =>
      simp only at h
      cases ht : T.ty e with
      | none => rw [ht] at h; cases h
      | some te =>
        rw [ht] at h
        simp only at h
        obtain ⟨d, hu, hd⟩ := und hT hs
        have hd' : d = .slice e := by cases d <;> simp_all [DescOk]
        subst hd'
        split at h
        · rename_i n sz f k j
          split at h
          · rename_i hc
            obtain ⟨rfl, h0, h1⟩ := hc
            cases h
            obtain ⟨A, c, rfl, hnc, hm⟩ := hx
            cases hi
            obtain ⟨ad, rfl, hst, hcell⟩ := hm (by omega)
            refine ⟨.pointer (some (ad.add (j.toNat * te.cells))), by simp [Instr.indexAt, asIntOf, run_underlying hu, h0, h1, run_sizeOf' hT ht], _, rfl, by rw [add_block]; exact hst, fun c hc => ?_⟩
            obtain ⟨v, hv, hr⟩ := hcell j.toNat c (by omega) hc
            exact ⟨v, by rw [add_add]; exact hv, by rw [nrm_eq hc]; exact hr⟩
          · cases h
        · rename_i g n sz k j
          simp only [Rep] at hx
          cases hg : C.M g with
          | none => simp [hg] at h
          | some B =>
            cases B with
            | row e' n' sz' f =>
              simp only [hg] at h hx
              split at h
              · rename_i hc
                obtain ⟨rfl, rfl, rfl, h0, h1⟩ := hc
                cases h
                obtain ⟨_, _, h3⟩ := hx
                have h4 := h3 rfl
                cases hi
                unfold OwnAt at h4
                cases hρ : C.ρ g with
                | none => rw [hρ] at h4; omega
                | some b =>
                  rw [hρ] at h4
                  obtain ⟨arr, e2, cap, _, _, _, rfl⟩ := h4
                  refine ⟨.pointer (some ((⟨b, 0, none⟩ : Addr).add (j.toNat * te.cells))), by simp [Instr.indexAt, asIntOf, run_underlying hu, h0, h1, run_sizeOf' hT ht], ?_⟩
                  simp only [Rep, hg]
                  exact ⟨Nat.le_refl _, trivial, fun _ => ⟨b, hρ, by rw [Go.Addr.add_lit]; simp⟩⟩
              · cases h
            | _ => simp [hg] at h
        · cases h
    | arr len e m =>
      simp only at h
      cases ht : T.ty e with
      | none => rw [ht] at h; cases h
      | some te =>
        rw [ht] at h
        simp only at h
        obtain ⟨d, hu, hd⟩ := und hT hs
        have hd' : d = .array len e := by cases d <;> simp_all [DescOk]
        subst hd'
        split at h
        · rename_i g off k j
          simp only [Rep] at hx
          cases hg : C.M g with
          | none => simp [hg] at h
          | some B =>
            cases B with
            | cells e' n' cs =>
              simp only [hg] at h hx
              split at h
              · rename_i hc
                obtain ⟨h0, h1⟩ := hc
                cases h
                obtain ⟨b, hb, rfl⟩ := hx
                cases hi
                refine ⟨.pointer (some ((⟨b, off, none⟩ : Addr).add (j.toNat * te.cells))), by simp [Instr.indexAt, asIntOf, run_underlying hu, h0, h1, run_sizeOf' hT ht, Instr.sureAddr], ?_⟩
                simp only [Rep, hg]
                exact ⟨b, hb, by rw [Go.Addr.add_lit]⟩
              · cases h
            | _ => simp [hg] at h
        · rename_i m' f k j
          split at h
          · rename_i hc
            obtain ⟨hle, h0, h1⟩ := hc
            cases h
            obtain ⟨ad, rfl, hst, hcell⟩ := hx
            cases hi
            refine ⟨.pointer (some (ad.add (j.toNat * te.cells))), by simp [Instr.indexAt, asIntOf, run_underlying hu, h0, h1, run_sizeOf' hT ht, Instr.sureAddr], _, rfl, by rw [add_block]; exact hst, fun c hc => ?_⟩
            have hb1 : j.toNat * te.cells + te.cells ≤ len * te.cells := by rw [← Nat.succ_mul]; exact Nat.mul_le_mul_right _ (by omega)
            obtain ⟨v, hv, hr⟩ := hcell (j.toNat * te.cells + c) (by omega)
            exact ⟨v, by rw [add_add]; exact hv, by rw [nrm_eq hc]; exact hr⟩
          · cases h
        · cases h
    | _ => simp at h
end Go.Av
set_option linter.unusedVariables false
set_option linter.unusedSimpArgs false
namespace Go.Av
/-! ## 3. Operations on plain values -/
def binInt (op : BinOp) (k : IntKind) (a b : Int) : Option Value :=
  match op with
  | .add => some (.int k (k.wrap (a + b)))
  | .sub => some (.int k (k.wrap (a - b)))
  | .mul => some (.int k (k.wrap (a * b)))
  | .quo => if b = 0 then none else some (.int k (k.wrap (a.tdiv b)))
  | .rem => if b = 0 then none else some (.int k (a.tmod b))
  | .and => some (.int k (k.wrap (BitVec.ofInt k.bits a &&& BitVec.ofInt k.bits b).toNat))
  | .or => some (.int k (k.wrap (BitVec.ofInt k.bits a ||| BitVec.ofInt k.bits b).toNat))
  | .xor => some (.int k (k.wrap (BitVec.ofInt k.bits a ^^^ BitVec.ofInt k.bits b).toNat))
  | .andNot => some (.int k (k.wrap (BitVec.ofInt k.bits a &&& ~~~ BitVec.ofInt k.bits b).toNat))
  | .eql => some (.bool (decide (a = b)))
  | .neq => some (.bool (decide (a ≠ b)))
  | .lss => some (.bool (decide (a < b)))
  | .leq => some (.bool (decide (a ≤ b)))
  | .gtr => some (.bool (decide (b < a)))
  | .geq => some (.bool (decide (b ≤ a)))
  | _ => none
def binV (op : BinOp) (t : Option Ty) (x y : Value) : Option Value :=
  match x, y with
  | .int k a, .int k' b => match op with
    | .shl => if b < 0 then none else some (.int k (k.wrap (a * 2 ^ (min b.toNat k.bits))))
    | .shr => if b < 0 then none else some (.int k (a.fdiv (2 ^ (min b.toNat k.bits))))
    | _ => if k = k' then binInt op k a b else none
  | .bool a, .bool b => match t, op with
    | some .bool, .eql => some (.bool (a == b))
    | some .bool, .neq => some (.bool (!(a == b)))
    | _, _ => none
  | .string a, .string b => match op with
    | .eql => some (.bool (a.toList == b.toList))
    | .neq => some (.bool (!(a.toList == b.toList)))
    | .lss => some (.bool (Op.bytesLess a.toList b.toList))
    | .leq => some (.bool (Op.bytesLess a.toList b.toList || a.toList == b.toList))
    | .gtr => some (.bool (!(Op.bytesLess a.toList b.toList || a.toList == b.toList)))
    | .geq => some (.bool (!(Op.bytesLess a.toList b.toList)))
    | _ => none
  | _, _ => none
theorem binInt_sound {P : Program} {op : BinOp} {k : IntKind} {a b : Int} {v : Value} {t : TypeId} (w : World) (h : binInt op k a b = some v) :
    (binOp op t (.int k a) (.int k b)).run P w = .ok v w := by
  have key : ∀ (op : BinOp) (v' : Value), (binOp op t (.int k a) (.int k b)).run P w = .ok v' w → v' = v → (binOp op t (.int k a) (.int k b)).run P w = .ok v w := fun _ _ h e => e ▸ h
  cases op with
  | add => cases h; rw [binOp_add]; rfl
  | sub => cases h; rw [binOp_sub]; rfl
  | mul => cases h; rw [binOp_mul]; rfl
  | quo =>
    simp only [binInt] at h
    split at h
    · cases h
    · rename_i h0; cases h; rw [binOp_quo]; simp [Op.intDiv, h0]
  | rem =>
    simp only [binInt] at h
    split at h
    · cases h
    · rename_i h0; cases h; rw [binOp_rem]; simp [Op.intDiv, h0]
  | and => cases h; rw [binOp_and]; rfl
  | or => cases h; rw [binOp_or]; rfl
  | xor => cases h; rw [binOp_xor]; rfl
  | andNot => cases h; rw [binOp_andNot]; rfl
  | eql => cases h; rw [binOp_eql]; simp only [Sem.run_pure]; congr 2
  | neq => cases h; rw [binOp_neq]; simp only [Sem.run_pure]; congr 2; by_cases e : a = b <;> simp [e]
  | lss => cases h; simp only [binOp, Op.intCmp, ne_eq, not_true_eq_false, if_false, Sem.run_pure]
  | leq => cases h; simp only [binOp, Op.intCmp, ne_eq, not_true_eq_false, if_false, Sem.run_pure]
  | gtr => cases h; simp only [binOp, Op.intCmp, ne_eq, not_true_eq_false, if_false, Sem.run_pure]
  | geq => cases h; simp only [binOp, Op.intCmp, ne_eq, not_true_eq_false, if_false, Sem.run_pure]
  | _ => cases h
theorem binV_sound {P : Program} {T : Tab} (hT : TabOk P T) {op : BinOp} {t : TypeId} {x y v : Value} (X Y : Operand) (w : World) (h : binV op (T.ty t) x y = some v) :
    (do eqGuard op t X Y x y; binOp op t x y : Sem Value).run P w = .ok v w := by
  unfold binV at h
  split at h
  · rename_i k a k' b
    rw [Sem.run_bind, eqGuard_at_int]
    simp only [Sem.run_pure, Result.andThen_ok]
    split at h
    · split at h
      · cases h
      · rename_i h0; cases h; simp [binOp, Op.shift, h0]
    · split at h
      · cases h
      · rename_i h0; cases h; simp [binOp, Op.shift, h0]
    · split at h
      · rename_i hk; subst hk; exact binInt_sound w h
      · cases h
  · rename_i a b
    rw [Sem.run_bind, eqGuard_at_bool]
    simp only [Sem.run_pure, Result.andThen_ok]
    split at h
    · rename_i e1
      cases h
      obtain ⟨d, hu, hd⟩ := und hT e1
      have : d = .bool := by cases d <;> simp_all [DescOk]
      subst this
      simp only [binOp]
      simp [Op.equal, Op.maxDepth, run_equalIn_bool' (P := P) w 9999 t a b hu]
    · rename_i e1
      cases h
      obtain ⟨d, hu, hd⟩ := und hT e1
      have : d = .bool := by cases d <;> simp_all [DescOk]
      subst this
      simp only [binOp]
      simp [Op.equal, Op.maxDepth, run_equalIn_bool' (P := P) w 9999 t a b hu]
    · cases h
  · rename_i a b
    rw [Sem.run_bind, eqGuard_at_string]
    simp only [Sem.run_pure, Result.andThen_ok]
    split at h <;> first | (cases h; simp [binOp, Op.stringOp]; done) | cases h
  · cases h
/-- struct values of plain cells: 'p' says what their equality is -/
def eqCell : AV → AV → Option Bool
  | .raw (.int k a), .raw (.int k' b) => if k = k' then some (decide (a = b)) else none
  | .raw (.bool a), .raw (.bool b) => some (a == b)
  | .raw (.string a), .raw (.string b) => some (a.toList == b.toList)
  | _, _ => none
def eqFields (T : Tab) (f g : Nat → AV) : List (Nat × TypeId) → Option Bool
  | [] => some true
  | (o, t) :: fs => match T.ty t, eqCell (f o) (g o), eqFields T f g fs with
    | some (.int _), some b, some c => some (b && c)
    | some .bool, some b, some c => some (b && c)
    | some .str, some b, some c => some (b && c)
    | _, _, _ => none
theorem eqCell_sound {P : Program} {C : Cx} {x y : AV} {u v : Value} {b : Bool} (d : Nat) (t : TypeId) {ty : Ty} (hd : ∃ e, P.underlying t = some e ∧ DescOk e ty = true) (hty : (∃ k, ty = .int k) ∨ ty = .bool ∨ ty = .str)
    (hx : Rep C x u) (hy : Rep C y v) (h : eqCell x y = some b) (hm : (∃ k a a', x = .raw (.int k a) ∧ y = .raw (.int k a') ∧ ∃ k', ty = .int k') ∨ (∃ a a', x = .raw (.bool a) ∧ y = .raw (.bool a') ∧ ty = .bool) ∨ (∃ a a', x = .raw (.string a) ∧ y = .raw (.string a') ∧ ty = .str)) (w : World) :
    (Op.equalIn (d + 1) t u v).run P w = .ok b w := by
  obtain ⟨e, hu, he⟩ := hd
  rcases hm with ⟨k, a, a', rfl, rfl, k', rfl⟩ | ⟨a, a', rfl, rfl, rfl⟩ | ⟨a, a', rfl, rfl, rfl⟩
  · have : e = .int k' := by cases e <;> simp_all [DescOk]
    subst this
    cases hx; cases hy
    simp only [eqCell, if_true, Option.some.injEq] at h
    rw [run_equalIn_int w d t k k' a a' hu, ← h]
    congr 1
  · have : e = .bool := by cases e <;> simp_all [DescOk]
    subst this
    cases hx; cases hy
    simp only [eqCell, Option.some.injEq] at h
    rw [run_equalIn_bool' w d t a a' hu, ← h]
  · have : e = .string := by cases e <;> simp_all [DescOk]
    subst this
    cases hx; cases hy
    simp only [eqCell, Option.some.injEq] at h
    rw [run_equalIn_string w d t a a' hu, ← h]
def tyCell : Ty → AV → Bool
  | .int _, .raw (.int _ _) => true
  | .bool, .raw (.bool _) => true
  | .str, .raw (.string _) => true
  | _, _ => false
/-- equality of two struct values of plain cells -/
def eqFs (T : Tab) (n : Nat) (f g : Nat → AV) : List (Nat × TypeId) → Option Bool
  | [] => some true
  | (o, t) :: fs => match T.ty t with
    | some ty => if o < n ∧ tyCell ty (f o) = true ∧ tyCell ty (g o) = true then (match eqCell (f o) (g o) with
      | some b => (match eqFs T n f g fs with
        | some c => some (b && c)
        | none => none)
      | none => none) else none
    | none => none
theorem tyCell_eq {ty : Ty} {x y : AV} {b : Bool} (hx : tyCell ty x = true) (hy : tyCell ty y = true) (h : eqCell x y = some b) :
    ((∃ k, ty = .int k) ∨ ty = .bool ∨ ty = .str) ∧ ((∃ k a a', x = .raw (.int k a) ∧ y = .raw (.int k a') ∧ ∃ k', ty = .int k') ∨ (∃ a a', x = .raw (.bool a) ∧ y = .raw (.bool a') ∧ ty = .bool) ∨ (∃ a a', x = .raw (.string a) ∧ y = .raw (.string a') ∧ ty = .str)) := by
  cases x with
  | raw u =>
    cases y with
    | raw v =>
      cases u <;> cases v <;> first | (simp [eqCell] at h; done) | skip
      · cases ty <;> simp_all [tyCell]
      · rename_i k n k' n'
        simp only [eqCell] at h
        split at h
        · rename_i e; subst e
          cases ty <;> simp_all [tyCell]
        · cases h
      · cases ty <;> simp_all [tyCell]
    | _ => cases u <;> simp [eqCell] at h
  | _ => simp [eqCell] at h
theorem eqFs_sound {P : Program} {T : Tab} (hT : TabOk P T) {C : Cx} {n : Nat} {f g : Nat → AV} {xs ys : Array Value} (hx : xs.size = n) (hy : ys.size = n) (hf : ∀ i, i < n → Rep C (f i) (xs.getD i undef)) (hg : ∀ i, i < n → Rep C (g i) (ys.getD i undef)) (w : World) (d : Nat) :
    ∀ (fs : List Field) (b : Bool), (∀ q ∈ fs, (q.name ≠ "_")) → eqFs T n f g (fs.map fun q => (q.offset, q.type)) = some b → (Op.eqFields (d + 1) xs ys fs).run P w = .ok b w
  | [], b, _, h => by cases h; simp [Op.eqFields]
  | q :: fs, b, hn, h => by
    simp only [List.map_cons, eqFs] at h
    cases ht : T.ty q.type with
    | none => rw [ht] at h; cases h
    | some ty =>
      rw [ht] at h
      simp only at h
      split at h
      · rename_i hc
        obtain ⟨ho, h1, h2⟩ := hc
        cases he : eqCell (f q.offset) (g q.offset) with
        | none => rw [he] at h; cases h
        | some b1 =>
          rw [he] at h
          simp only at h
          cases hr : eqFs T n f g (fs.map fun q => (q.offset, q.type)) with
          | none => rw [hr] at h; cases h
          | some c =>
            rw [hr] at h
            cases h
            obtain ⟨k1, k2⟩ := tyCell_eq h1 h2 he
            have ih := eqFs_sound hT hx hy hf hg w d fs c (fun q hq => hn q (by simp [hq])) hr
            have hag : ty.agg = false := by rcases k1 with ⟨k, rfl⟩ | rfl | rfl <;> rfl
            have p1 : ∀ (zs : Array Value) (hz : q.offset < zs.size), (part q.type zs q.offset).run P w = .ok (zs.getD q.offset undef) w := fun zs hz => by
              simp [part, run_isAgg' hT ht, hag, hz]
            have e1 := eqCell_sound d q.type (und hT ht) k1 (hf q.offset ho) (hg q.offset ho) he k2 w
            simp only [Op.eqFields, Sem.run_ite, if_pos (hn q (by simp)), Sem.run_bind, p1 xs (by omega), p1 ys (by omega), Result.andThen_ok, e1, ih]
            cases b1 <;> simp
      · cases h
theorem fieldsOf_eq {P : Program} {t : TypeId} {fields : Array Field} (h : P.underlying t = some (.struct fields)) : P.fieldsOf t = fields := by
  simp [Program.fieldsOf, h]
def rdBin (T : Tab) (op : BinOp) (t : TypeId) (x y : AV) : Option AV :=
  match x, y with
  | .raw u, .raw v => (binV op (T.ty t) u v).map .raw
  | .ag n f, .ag m g => match T.ty t with
    | some (.struct fs N) => if n = N ∧ m = N ∧ T.eqs t = true then (match op, eqFs T N f g fs with
      | .eql, some b => some (.raw (.bool b))
      | .neq, some b => some (.raw (.bool (!b)))
      | _, _ => none) else none
    | _ => none
  | .sl n _ _, .raw (.slice none 0 0) => match T.ty t, op with
    | some (.slice _), .eql => some (.nilB n)
    | _, _ => none
  | _, _ => none
theorem rdBin_sound {P : Program} {T : Tab} (hT : TabOk P T) {C : Cx} {op : BinOp} {t : TypeId} {x y av : AV} {p q : Value} (X Y : Operand) (h : rdBin T op t x y = some av) (hx : Rep C x p) (hy : Rep C y q) (w : World) :
    ∃ v, (do eqGuard op t X Y p q; binOp op t p q : Sem Value).run P w = .ok v w ∧ Rep C av v := by
  unfold rdBin at h
  split at h
  · rename_i u v
    cases hx; cases hy
    cases hb : binV op (T.ty t) p q with
    | none => rw [hb] at h; cases h
    | some r => rw [hb] at h; cases h; exact ⟨r, binV_sound hT X Y w hb, rfl⟩
  · rename_i n f m g
    split at h
    · rename_i fs N hty
      split at h
      · rename_i hc
        obtain ⟨rfl, rfl, heq⟩ := hc
        obtain ⟨xs, rfl, hxs, hf⟩ := hx
        obtain ⟨ys, rfl, hys, hg⟩ := hy
        obtain ⟨fields, hu, h1, h2, h3⟩ := hT.eqs t heq
        obtain ⟨fields', hu', hfs⟩ := struct_fields hT hty
        obtain rfl : fields = fields' := by rw [hu] at hu'; cases hu'; rfl
        have hfo := fieldsOf_eq hu
        split at h
        · rename_i b e
          cases h
          have e1 := eqFs_sound (P := P) hT hxs hys hf hg w 9998 fields.toList b h3 (by rw [hfs]; exact e)
          refine ⟨.bool b, ?_, rfl⟩
          rw [Sem.run_bind, run_eqGuard_agg w .eql t X Y xs ys h2]
          simp only [Result.andThen_ok]
          rw [run_eql_struct, run_equalIn_agg w 9999 t xs ys (by rw [hfo]; exact hu) h1, hfo, e1]
          rfl
        · rename_i b e
          cases h
          have e1 := eqFs_sound (P := P) hT hxs hys hf hg w 9998 fields.toList b h3 (by rw [hfs]; exact e)
          refine ⟨.bool (!b), ?_, rfl⟩
          rw [Sem.run_bind, run_eqGuard_agg w .neq t X Y xs ys h2]
          simp only [Result.andThen_ok]
          rw [run_neq_struct, run_equalIn_agg w 9999 t xs ys (by rw [hfo]; exact hu) h1, hfo, e1]
          rfl
        · cases h
      · cases h
    · cases h
  · rename_i n sz f
    split at h
    · rename_i e ht
      cases h
      obtain ⟨A, c, rfl, hnc, hm⟩ := hx
      cases hy
      obtain ⟨d, hu, hd⟩ := und hT ht
      have : d = .slice e := by cases d <;> simp_all [DescOk]
      subst this
      rw [Sem.run_bind, eqGuard_at_slice]
      simp only [Sem.run_pure, Result.andThen_ok]
      refine ⟨.bool A.isNone, ?_, A.isNone, rfl, fun hA => ?_⟩
      · exact Lib.run_eql_slice_nil w t e A n c 0 0 hu
      · rcases Nat.eq_zero_or_pos n with h0 | h0
        · exact h0
        · obtain ⟨ad, rfl, _⟩ := hm h0; simp at hA
    · cases h
  · cases h
def rdUn (op : UnOp) (x : AV) : Option AV :=
  match op, x with
  | .not, .raw (.bool b) => some (.raw (.bool (!b)))
  | .neg, .raw (.int k n) => some (.raw (.int k (k.wrap (0 - n))))
  | _, _ => none
theorem rdUn_sound {P : Program} {C : Cx} {op : UnOp} {x av : AV} {p : Value} (h : rdUn op x = some av) (hx : Rep C x p) (w : World) : ∃ v, (Op.unary op p).run P w = .ok v w ∧ Rep C av v := by
  unfold rdUn at h
  split at h
  · cases h; cases hx; exact ⟨_, rfl, rfl⟩
  · cases h; cases hx; exact ⟨_, rfl, rfl⟩
  · cases h
def rdConv (T : Tab) (src dst : TypeId) (x : AV) : Option AV :=
  match T.ty src, T.ty dst, x with
  | some _, some (.int k), .raw (.int _ n) => some (.raw (.int k (k.wrap n)))
  | some _, some .str, .raw (.string s) => some (.raw (.string s))
  | _, _, _ => none
theorem rdConv_sound {P : Program} {T : Tab} (hT : TabOk P T) {C : Cx} {src dst : TypeId} {x av : AV} {p : Value} (h : rdConv T src dst x = some av) (hx : Rep C x p) (w : World) : ∃ v, (convert src dst p).run P w = .ok v w ∧ Rep C av v := by
  unfold rdConv at h
  split at h
  · rename_i ts k k' n hs hd
    cases h; cases hx
    obtain ⟨d1, u1, _⟩ := und hT hs
    obtain ⟨d2, u2, e2⟩ := und hT hd
    have : d2 = .int k := by cases d2 <;> simp_all [DescOk]
    subst this
    refine ⟨_, ?_, rfl⟩
    simp only [convert, Sem.run_bind, run_underlying u1, run_underlying u2, Result.andThen_ok, Conv.intToInt]
    rfl
  · rename_i ts s hs hd
    cases h; cases hx
    obtain ⟨d1, u1, _⟩ := und hT hs
    obtain ⟨d2, u2, e2⟩ := und hT hd
    have : d2 = .string := by cases d2 <;> simp_all [DescOk]
    subst this
    refine ⟨_, ?_, rfl⟩
    simp only [convert, Sem.run_bind, run_underlying u1, run_underlying u2, Result.andThen_ok]
    rfl
  · cases h
def bndOf (d : Int) : Option AV → Option Int
  | none => some d
  | some (.raw (.int _ j)) => some j
  | _ => none
def rdSlice (T : Tab) (t : TypeId) (x : AV) (lo hi : Option AV) : Option AV :=
  match T.ty t, x with
  | some (.slice e), .sl n sz f => match T.ty e, bndOf 0 lo, bndOf n hi with
    | some te, some l, some h => if sz = te.cells ∧ 0 ≤ l ∧ l ≤ h ∧ h ≤ n then some (.sl (h - l).toNat sz (fun i j => f (l.toNat + i) j)) else none
    | _, _, _ => none
  | some .str, .raw (.string s) => match bndOf 0 lo, bndOf s.size hi with
    | some l, some h => if 0 ≤ l ∧ l ≤ h ∧ h ≤ s.size then some (.raw (.string (s.extract l.toNat h.toNat))) else none
    | _, _ => none
  | _, _ => none
def RepO (C : Cx) : Option AV → Option Value → Prop
  | none, none => True
  | some a, some v => Rep C a v
  | _, _ => False
theorem bound_run {P : Program} {C : Cx} {lo : Option AV} {p : Option Value} {d l : Int} (h : RepO C lo p) (hb : bndOf d lo = some l) (y : Nat) (code : BoundsCode) (w : World) (h0 : 0 ≤ l) (h1 : l ≤ y) :
    (lo = none ∧ p = none ∧ l = d) ∨ ∃ v, p = some v ∧ (Instr.sliceBound v y code).run P w = .ok l.toNat w := by
  cases lo with
  | none => cases p with
    | none => simp only [bndOf, Option.some.injEq] at hb; exact .inl ⟨rfl, rfl, hb.symm⟩
    | some v => exact h.elim
  | some a =>
    cases p with
    | none => exact h.elim
    | some v =>
      refine .inr ⟨v, rfl, ?_⟩
      cases a with
      | raw u =>
        cases u with
        | int k j =>
          simp only [bndOf, Option.some.injEq] at hb
          subst hb
          cases h
          simp [Instr.sliceBound, asIntOf, h0, h1]
        | _ => simp [bndOf] at hb
      | _ => simp [bndOf] at hb
theorem bounds_run {P : Program} {C : Cx} {lo hi : Option AV} {q r : Option Value} {l k : Int} (isS : Bool) (n cap : Nat) (hl : RepO C lo q) (hh : RepO C hi r) (hbl : bndOf 0 lo = some l) (hbh : bndOf n hi = some k) (h0 : 0 ≤ l) (h1 : l ≤ k) (h2 : k ≤ cap) (w : World) :
    (Instr.sliceBounds isS n cap q r none).run P w = .ok (l.toNat, k.toNat, cap) w := by
  have e2 : ∀ code, (lo = none ∧ q = none ∧ l = 0) ∨ ∃ v, q = some v ∧ (Instr.sliceBound v k.toNat code).run P w = .ok l.toNat w := fun code => bound_run (P := P) hl hbl k.toNat code w h0 (by omega)
  rcases bound_run (P := P) hh hbh cap (if isS then .sliceAcap else .sliceAlen) w (by omega) (by omega) with ⟨_, rfl, rfl⟩ | ⟨v, rfl, hv⟩
  · rcases e2 .sliceB with ⟨_, rfl, rfl⟩ | ⟨u, rfl, hu⟩
    · simp [Instr.sliceBounds]
    · simp only [Int.toNat_natCast] at hu
      simp [Instr.sliceBounds, hu]
  · rcases e2 .sliceB with ⟨_, rfl, rfl⟩ | ⟨u, rfl, hu⟩
    · simp only [Instr.sliceBounds, Sem.run_bind, Sem.run_pure, Result.andThen_ok, hv]
      simp
    · simp only [Instr.sliceBounds, Sem.run_bind, Sem.run_pure, Result.andThen_ok, hv]
      simp [hu]
theorem rdSlice_sound {P : Program} {T : Tab} (hT : TabOk P T) {C : Cx} {t : TypeId} {x av : AV} {lo hi : Option AV} {p : Value} {q r : Option Value} (h : rdSlice T t x lo hi = some av) (hx : Rep C x p) (hl : RepO C lo q) (hh : RepO C hi r) :
    ∃ v, (Instr.sliceAt t p q r none).run P C.w = .ok v C.w ∧ Rep C av v := by
  unfold rdSlice at h
  split at h
  · rename_i e n sz f hs
    split at h
    · rename_i te l k ht hbl hbh
      split at h
      · rename_i hc
        obtain ⟨rfl, h0, h1, h2⟩ := hc
        cases h
        obtain ⟨d, hu, hd⟩ := und hT hs
        have : d = .slice e := by cases d <;> simp_all [DescOk]
        subst this
        obtain ⟨A, c, rfl, hnc, hm⟩ := hx
        refine ⟨.slice (if c = l.toNat then A else A.map (·.add (l.toNat * te.cells))) (k.toNat - l.toNat) (c - l.toNat), ?_, ?_⟩
        · simp only [Instr.sliceAt, Sem.run_bind, run_underlying hu, Result.andThen_ok, Instr.slice, bounds_run (P := P) true n c hl hh hbl hbh h0 h1 (by omega) C.w, run_sizeOf' hT ht, Sem.run_pure]
        · refine ⟨if c = l.toNat then A else A.map (·.add (l.toNat * te.cells)), c - l.toNat, ?_, by omega, fun hpos => ?_⟩
          · have : (k - l).toNat = k.toNat - l.toNat := by omega
            rw [this]
          · obtain ⟨ad, rfl, hst, hcell⟩ := hm (by omega)
            rw [if_neg (by omega)]
            refine ⟨ad.add (l.toNat * te.cells), rfl, by rw [add_block]; exact hst, fun i j hi hj => ?_⟩
            obtain ⟨v, hv, hr⟩ := hcell (l.toNat + i) j (by omega) hj
            refine ⟨v, ?_, hr⟩
            rw [add_add, show l.toNat * te.cells + (i * te.cells + j) = (l.toNat + i) * te.cells + j by rw [Nat.add_mul]; omega]
            exact hv
      · cases h
    · cases h
  · rename_i s hs
    split at h
    · rename_i l k hbl hbh
      split at h
      · rename_i hc
        obtain ⟨h0, h1, h2⟩ := hc
        cases h
        cases hx
        obtain ⟨d, hu, hd⟩ := und hT hs
        have : d = .string := by cases d <;> simp_all [DescOk]
        subst this
        refine ⟨.string (s.extract l.toNat k.toNat), ?_, rfl⟩
        simp only [Instr.sliceAt, Sem.run_bind, run_underlying hu, Result.andThen_ok, Instr.slice, Option.isSome_none, Bool.false_eq_true, if_false, bounds_run (P := P) false s.size s.size hl hh hbl hbh h0 h1 (by omega) C.w, Sem.run_pure]
      · cases h
    · cases h
  · cases h
def rdLen (T : Tab) (M : Mem) (t : TypeId) (x : AV) : Option AV :=
  match T.ty t, x with
  | some (.slice _), .sl n _ _ => some (.raw (.int .i64 n))
  | some (.slice _), .own g n sz => match M g with
    | some (.row _ n' sz' _) => if n' = n ∧ sz' = sz then some (.raw (.int .i64 n)) else none
    | _ => none
  | some (.slice _), .raw (.slice _ n _) => some (.raw (.int .i64 n))
  | some .str, .raw (.string s) => some (.raw (.int .i64 s.size))
  | _, _ => none
def rdMax (args : List AV) : Option AV :=
  match args with
  | [.raw (.int k x), .raw (.int _ y)] => some (.raw (.int k (max x y)))
  | [.raw (.int k x), .raw (.int _ y), .raw (.int _ z)] => some (.raw (.int k (max (max x y) z)))
  | _ => none
def rdMin (args : List AV) : Option AV :=
  match args with
  | [.raw (.int k x), .raw (.int _ y)] => some (.raw (.int k (min x y)))
  | [.raw (.int k x), .raw (.int _ y), .raw (.int _ z)] => some (.raw (.int k (min (min x y) z)))
  | _ => none
def rdIndex (T : Tab) (t : TypeId) (x i : AV) : Option AV :=
  match T.ty t, x, i with
  | some .str, .raw (.string s), .raw (.int _ j) => if h : 0 ≤ j ∧ j < s.size then some (.raw (.int .u8 (s[j.toNat]'(by omega)).toNat)) else none
  | some (.arr len e _), .ag n f, .raw (.int _ j) => match T.ty e with
    | some te => if 0 ≤ j ∧ j < len ∧ len * te.cells ≤ n ∧ 0 < te.cells then some (ldAt te (fun c => f (j.toNat * te.cells + c))) else none
    | none => none
  | _, _, _ => none
def rdPick (c a b : AV) : Option AV :=
  match c, a, b with
  | .raw (.bool c), .raw (.bool x), .raw (.bool y) => some (.raw (.bool (bif c then x else y)))
  | .raw (.bool true), x, _ => some x
  | .raw (.bool false), _, y => some y
  | _, _, _ => none
def rdExtract (x : AV) (k : Nat) : Option AV :=
  match x with
  | .tup n f => if k < n then some (f k) else none
  | _ => none
end Go.Av
