import Derived.Test.YtaiinpbaaeemmaaA7
import Derived.ProofKit
import Derived.Below
import Derived.Carry
import Derived.ChangeSame
import Derived.ChangeSlices
set_option linter.unusedVariables false
set_option linter.unusedSimpArgs false
namespace Go.Av
/-! ## 29. Rules that turn what is told, not what is -/
/-- a state told anew -/
theorem ARuns.turnTo {X : Fx} {k : List It} {Γ Γ' : Nat → AV} {M : Mem} {Z : List Nat} {Q : AV → Mem → Prop} (h : ∀ C : Cx, C.M = M → Sim C → ∀ tmps, Fits C Γ tmps → ∃ C' : Cx, C'.w = C.w ∧ Step C C' ∧ Sim C' ∧ Fits C' Γ' tmps ∧ ARuns X k Γ' C'.M Z Q) : ARuns X k Γ M Z Q := by
  intro hG items ht C a b cs hn
  obtain ⟨C', hw, st, sm, hF, hr⟩ := h C hn.m hn.sim a.tmps hn.fits
  have := hr hG items ht C' a b cs (hn.step st sm hF hn.size rfl)
  rw [hw] at this
  exact this.mono fun v w => Post.step st
theorem SRuns.turnTo {X : Fx} {k : List SI} {Γ Γ' : Nat → AV} {M : Mem} {Z : List Nat} {Q : AV → Mem → Prop} (h : ∀ C : Cx, C.M = M → Sim C → ∀ tmps, Fits C Γ tmps → ∃ C' : Cx, C'.w = C.w ∧ Step C C' ∧ Sim C' ∧ Fits C' Γ' tmps ∧ SRuns X k Γ' C'.M Z Q) : SRuns X k Γ M Z Q := by
  intro todo ht
  exact ARuns.turnTo (Γ' := Γ') fun C h1 h2 t h3 => by
    obtain ⟨C', a1, a2, a3, a4, a5⟩ := h C h1 h2 t h3
    exact ⟨C', a1, a2, a3, a4, a5 todo ht⟩
section
variable {X : Fx} {k : List SI} {Γ : Nat → AV} {M : Mem} {Z : List Nat} {Q : AV → Mem → Prop}
/-- ids from N on are free -/
theorem SRuns.fresh (h : ∀ N, (∀ g, N ≤ g → M g = none) → SRuns X k Γ M Z Q) : SRuns X k Γ M Z Q :=
  SRuns.turnTo (Γ' := Γ) fun C h1 h2 t h3 => by
    obtain ⟨N, hN⟩ := h2.fin
    exact ⟨C, rfl, Step.refl C, h2, h3, by rw [h1]; exact h N (by rw [← h1]; exact hN)⟩
/-- a row is the run's own no more -/
theorem SRuns.frz (g e n sz : Nat) (f : Nat → Nat → AV) (hg : M g = some (.row e n sz f)) (h : SRuns X k (fun i => fzV g n sz f (Γ i)) (upM M g .gone) Z Q) : SRuns X k Γ M Z Q :=
  SRuns.turnTo fun C h1 h2 t h3 => by
    obtain ⟨st, sm⟩ := turn_gone h2 g
    exact ⟨C.fz g, rfl, st, sm, fun i => fz_rep h2 (by rw [h1]; exact hg) _ _ (h3 i), by rw [show (C.fz g).M = upM C.M g .gone from rfl, h1]; exact h⟩
def BlkLe : Blk → Blk → Prop
  | .cells e n cs, .cells e' n' cs' => e' = e ∧ n' = n ∧ ∀ i, i < n → Le (cs i) (cs' i)
  | .row e n sz f, .row e' n' sz' f' => e' = e ∧ n' = n ∧ sz' = sz ∧ ∀ i j, i < n → j < sz → Le (f i j) (f' i j)
  | _, _ => False
/-- a block's contents, told anew -/
theorem SRuns.retell (g : Nat) (B B' : Blk) (hg : M g = some B) (hl : BlkLe B B') (h : SRuns X k Γ (upM M g B') Z Q) : SRuns X k Γ M Z Q :=
  SRuns.turnTo (Γ' := Γ) fun C h1 h2 t h3 => by
    subst h1
    have hb := h2.blk g B hg
    have hlive : B.live ∧ B'.live := by cases B <;> cases B' <;> first | exact hl.elim | exact ⟨trivial, trivial⟩
    obtain ⟨st, sm⟩ := turn h2 g B' C.w (C.ρ g) rfl rfl rfl (Nat.le_refl _) (fun _ _ _ => rfl) (fun b e => .inr ⟨B, hg, hlive.1, e⟩) (fun B0 hB0 => by
      rw [hg] at hB0; cases hB0
      cases B <;> cases B' <;> first | exact hl.elim | skip
      · exact ⟨hl.1, hl.2.1, by simp [Cx.turn]⟩
      · exact ⟨hl.1, hl.2.2.1, Nat.le_of_eq hl.2.1.symm, fun _ => ⟨by simp [Cx.turn], fun b arr e fr _ h => ⟨arr, e, h, rfl⟩⟩⟩) (fun st => by
      cases B <;> cases B' <;> first | exact hl.elim | skip
      · obtain ⟨rfl, rfl, hl⟩ := hl
        obtain ⟨b, arr, e1, h1, h2, h3⟩ := hb
        exact ⟨b, arr, by simp [Cx.turn, e1], h1, h2, fun i hi => hl i hi _ _ (Rep.step st _ _ (h3 i hi))⟩
      · obtain ⟨rfl, rfl, rfl, hl⟩ := hl
        obtain ⟨h0, ⟨h1, e1⟩ | ⟨b, arr, cap, e1, h1, h2, h3, h4, h5⟩⟩ := hb
        · exact ⟨h0, .inl ⟨h1, by simp [Cx.turn, e1]⟩⟩
        · exact ⟨h0, .inr ⟨b, arr, cap, by simp [Cx.turn, e1], h1, h2, h3, h4, fun i j hi hj => hl i j hi hj _ _ (Rep.step st _ _ (h5 i j hi hj))⟩⟩)
    exact ⟨C.turn C.w g B' (C.ρ g), rfl, st, sm, h3.step st, h⟩
theorem SRuns.retellU {g : Nat} {B B' : Blk} (hl : BlkLe B B') (h : SRuns X k Γ (upM M g B') Z Q) : SRuns X k Γ (upM M g B) Z Q :=
  SRuns.retell g B B' (upM_self _ _ _) hl (by rw [upM_twice]; exact h)
/-- slots, one told anew -/
def setL (i : Nat) (v : AV) : List (Nat × AV) → List (Nat × AV)
  | [] => []
  | (j, a) :: L => if j = i then (j, v) :: setL i v L else (j, a) :: setL i v L
theorem lk_setL {i : Nat} {v : AV} : ∀ {L : List (Nat × AV)} {j : Nat}, j ≠ i → lk (setL i v L) j = lk L j
  | [], j, _ => by simp [setL, lk]
  | (q, a) :: L, j, e => by
    have ih := lk_setL (i := i) (v := v) (L := L) e
    by_cases e2 : q = i
    · subst e2; simp only [setL, if_true, lk, if_neg e]; exact ih
    · by_cases e3 : j = q
      · subst e3; simp [setL, e2, lk]
      · simp only [setL, if_neg e2, lk, if_neg e3]; exact ih
theorem setL_or {i : Nat} {v : AV} : ∀ (L : List (Nat × AV)), lk (setL i v L) i = .dead ∨ lk (setL i v L) i = v
  | [] => .inl rfl
  | (q, a) :: L => by
    by_cases e : q = i
    · subst e; right; simp [setL, lk]
    · simp only [setL, if_neg e, lk, if_neg (Ne.symm e)]
      exact setL_or L
theorem fits_set {C C' : Cx} {L : List (Nat × AV)} {tmps : Array Value} {i : Nat} {v : AV} (st : Step C C') (h : Fits C (lk L) tmps) (hv : ∀ x, Rep C (lk L i) x → Rep C' v x) : Fits C' (lk (setL i v L)) tmps := by
  intro j
  by_cases e : j = i
  · subst e
    rcases setL_or (i := j) (v := v) L with e2 | e2
    · rw [e2]; trivial
    · rw [e2]; exact hv _ (h j)
  · rw [lk_setL e]
    exact Rep.step st _ _ (h j)
/-- a nil slice is an empty row of the run's own -/
theorem SRuns.nilOwn {L : List (Nat × AV)} (i e sz g : Nat) (f : Nat → Nat → AV) (hi : lk L i = .raw (.slice none 0 0)) (hs : 0 < sz) (hg : M g = none) (h : SRuns X k (lk (setL i (.own g 0 sz) L)) (upM M g (.row e 0 sz f)) Z Q) : SRuns X k (lk L) M Z Q :=
  SRuns.turnTo (Γ' := lk (setL i (.own g 0 sz) L)) fun C h1 h2 t h3 => by
    subst h1
    obtain ⟨st, sm⟩ := turn h2 g (.row e 0 sz f) C.w none rfl rfl rfl (Nat.le_refl _) (fun _ _ _ => rfl) (fun b e => by cases e) (fun B0 hB0 => by rw [hg] at hB0; cases hB0) (fun st => ⟨hs, .inl ⟨rfl, by simp [Cx.turn]⟩⟩)
    refine ⟨C.turn C.w g (.row e 0 sz f) none, rfl, st, sm, fits_set st h3 fun x hx => ?_, h⟩
    rw [hi] at hx
    have hx : x = .slice none 0 0 := hx
    subst hx
    simp only [Rep]
    rw [show (C.turn C.w g (.row e 0 sz f) none).M g = some (.row e 0 sz f) from upM_self _ _ _]
    refine ⟨Nat.le_refl _, rfl, fun _ => ?_⟩
    unfold OwnAt
    simp [Cx.turn]
theorem lt_live {N g : Nat} {B : Blk} (hN : ∀ g, N ≤ g → M g = none) (hg : M g = some B) : g < N := by
  by_cases h : N ≤ g
  · rw [hN g h] at hg; cases hg
  · omega
theorem lt_some {N g : Nat} (hN : ∀ g, N ≤ g → M g = none) (hg : M g ≠ none) : g < N := by
  by_cases h : N ≤ g
  · exact absurd (hN g h) hg
  · omega
/-- the end of a function that leaves memory as it was -/
theorem Done.keep {M0 M : Mem} {r : AV} {Q : AV → Mem → Prop} (N : Nat) (hN : ∀ g, N ≤ g → M0 g = none) (h : ∀ g, g < N → M g = M0 g) (hr : Clo M0 r) (hq : Q r M0) : Done M0 M r Q :=
  Done.pure (fun g hg => h g (lt_some hN hg)) hr hq
/-- the same, with one block more -/
theorem Done.more {M0 M : Mem} {r : AV} {Q : AV → Mem → Prop} (N : Nat) (hN : ∀ g, N ≤ g → M0 g = none) (h : ∀ g, g < N → M g = M0 g) (g : Nat) (B : Blk) (hg : M g = some B) (hn : N ≤ g) (hc : CloB (upM M0 g B) B) (hr : Clo (upM M0 g B) r) (hq : Q r (upM M0 g B)) : Done M0 M r Q := by
  refine ⟨upM M0 g B, fun g' hg' => ?_, fun g' B' h' => ?_, hr, fun g' B' h' => ?_, hq⟩
  · have hl := lt_some hN hg'
    rw [upM_ne _ _ (show g' ≠ g by omega)]
    exact ⟨hg', (h g' hl).symm⟩
  · by_cases e : g' = g
    · subst e; rw [upM_self] at h'; rw [hg]; exact h'
    · rw [upM_ne _ _ e] at h'; rw [h g' (lt_live hN h')]; exact h'
  · by_cases e : g' = g
    · subst e; rw [upM_self] at h'; cases h'; exact .inr hc
    · rw [upM_ne _ _ e] at h'; exact .inl ⟨_, h', fun _ h => h⟩
end
/-! words for slices that go out -/
section
variable {g n sz : Nat} {f : Nat → Nat → AV}
@[go_sem] theorem fz_raw {v : Value} : fzV g n sz f (.raw v) = .raw v := rfl
@[go_sem] theorem fz_dead : fzV g n sz f .dead = .dead := rfl
@[go_sem] theorem fz_own : fzV g n sz f (.own g n sz) = .sl n sz f := by simp [fzV]
@[go_sem] theorem fz_other {g' n' sz' : Nat} (h : g' ≠ g) : fzV g n sz f (.own g' n' sz') = .own g' n' sz' := by simp [fzV, h]
theorem fz_lst (l : List AV) : (fun i => fzV g n sz f (lst l i)) = lst (l.map (fzV g n sz f)) := by
  funext i
  unfold lst
  by_cases h : i < l.length
  · simp [List.getD_eq_getElem?_getD, h]
  · simp [List.getD_eq_getElem?_getD, h]; rfl
@[go_sem] theorem fz_ag {m : Nat} {l : List AV} : fzV g n sz f (.ag m (lst l)) = .ag m (lst (l.map (fzV g n sz f))) := by
  show AV.ag m (fun i => fzV g n sz f (lst l i)) = _
  rw [fz_lst]
@[go_sem] theorem fz_tup {m : Nat} {l : List AV} : fzV g n sz f (.tup m (lst l)) = .tup m (lst (l.map (fzV g n sz f))) := by
  show AV.tup m (fun i => fzV g n sz f (lst l i)) = _
  rw [fz_lst]
/-- a row is the run's own no more -/
def fzL (g n sz : Nat) (f : Nat → Nat → AV) (L : List (Nat × AV)) : List (Nat × AV) := L.map fun p => (p.1, fzV g n sz f p.2)
@[go_sem] theorem fzL_nil : fzL g n sz f [] = [] := rfl
@[go_sem] theorem fzL_cons {p : Nat × AV} {L : List (Nat × AV)} : fzL g n sz f (p :: L) = (p.1, fzV g n sz f p.2) :: fzL g n sz f L := rfl
@[go_sem] theorem setL_nil {i : Nat} {v : AV} : setL i v [] = [] := rfl
@[go_sem] theorem setL_cons {i j : Nat} {v a : AV} {L : List (Nat × AV)} : setL i v ((j, a) :: L) = if j = i then (j, v) :: setL i v L else (j, a) :: setL i v L := rfl
end
end Go.Av
set_option linter.unusedVariables false
set_option linter.unusedSimpArgs false
namespace Go.Av
/-! ## 30. More words: values put together, slices of slices, nil -/
def nth {α : Type} : List α → Nat → Option α
  | [], _ => none
  | a :: _, 0 => some a
  | _ :: l, n + 1 => nth l n
@[go_sem] theorem nth_zero {α : Type} {a : α} {l : List α} : nth (a :: l) 0 = some a := rfl
@[go_sem] theorem nth_succ {α : Type} {a : α} {l : List α} {n : Nat} : nth (a :: l) (n + 1) = nth l n := rfl
def plcs (T : Tab) : List (Nat × TypeId) → Option (List (Nat × Nat))
  | [] => some []
  | (o, t) :: fs => match T.ty t, plcs T fs with
    | some ty, some l => some ((o, ty.cells) :: l)
    | _, _ => none
/-- how a struct is put together: places, zero cells -/
def bdS (T : Tab) (t : TypeId) : Option (List (Nat × Nat) × List Value) :=
  match T.ty t, T.zero t with
  | some (.struct fs _), some zs => match plcs T fs with
    | some l => some (l, zs)
    | none => none
  | _, _ => none
def bdK (M : Mem) (ps : List (Nat × AV)) (pl : List (Nat × Nat)) (zs : List Value) : Option (List AV) := fillA (nth pl) M (zs.map .raw) ps
def bdO : Option (List AV) → Option AV
  | some l => some (.ag l.length (lst l))
  | none => none
@[go_sem] theorem bdO_some {l : List AV} : bdO (some l) = some (.ag l.length (lst l)) := rfl
theorem plcs_ok {T : Tab} : ∀ {fs : List (Nat × TypeId)} {l : List (Nat × Nat)}, plcs T fs = some l → fs.all (fun p => (T.ty p.2).isSome) = true ∧ plS T fs = nth l
  | [], l, h => by cases h; exact ⟨rfl, by funext k; simp [plS, nth]⟩
  | (o, t) :: fs, l, h => by
    simp only [plcs] at h
    cases h1 : T.ty t with
    | none => rw [h1] at h; cases h
    | some ty =>
      cases h2 : plcs T fs with
      | none => rw [h1, h2] at h; cases h
      | some l' =>
        rw [h1, h2] at h; cases h
        obtain ⟨e1, e2⟩ := plcs_ok h2
        refine ⟨by simp [h1]; simpa using e1, ?_⟩
        funext k
        cases k with
        | zero => simp [plS, nth, h1]
        | succ k => have := congrFun e2 k; simpa [plS, nth] using this
theorem rdBuild_eq {T : Tab} {t : TypeId} {pl : List (Nat × Nat)} {zs : List Value} (h : bdS T t = some (pl, zs)) {M : Mem} {ps : List (Nat × AV)} : rdBuild T M t ps = bdO (bdK M ps pl zs) := by
  unfold bdS at h
  split at h
  · rename_i fs n zs' h1 h2
    split at h
    · rename_i l h3
      cases h
      obtain ⟨e1, e2⟩ := plcs_ok h3
      unfold rdBuild
      simp only [h1, h2, e1, if_true, e2, bdK]
      cases fillA (nth pl) M (zs.map .raw) ps <;> rfl
    · cases h
  · cases h
@[go_sem] theorem bdK_eq {M : Mem} {ps : List (Nat × AV)} {pl : List (Nat × Nat)} {zs : List Value} : bdK M ps pl zs = fillA (nth pl) M (zs.map .raw) ps := rfl
section
variable {T : Tab} {M : Mem} {t : TypeId}
def rsS (n sz : Nat) (f : Nat → Nat → AV) : Option Ty → Option Int → Option Int → Option AV
  | some te, some l, some h => if sz = te.cells ∧ 0 ≤ l ∧ l ≤ h ∧ h ≤ n then some (.sl (h - l).toNat sz (fun i j => f (l.toNat + i) j)) else none
  | _, _, _ => none
@[go_sem] theorem rdSlice_sl {n sz : Nat} {f : Nat → Nat → AV} {lo hi : Option AV} : rdSlice T t (.sl n sz f) lo hi = rsS n sz f (elt T t) (bndOf 0 lo) (bndOf n hi) := by
  unfold rdSlice rsS elt
  cases h : T.ty t with
  | none => rfl
  | some ty => cases ty <;> rfl
@[go_sem] theorem rsS_ok {n sz : Nat} {f : Nat → Nat → AV} {te : Ty} {l h : Int} (h0 : 0 ≤ l) (h1 : l ≤ h) (h2 : h ≤ n) : rsS n sz f (some te) (some l) (some h) = if sz = te.cells then some (.sl (h - l).toNat sz (fun i j => f (l.toNat + i) j)) else none := by
  simp [rsS, h0, h1, h2]
@[go_sem] theorem bnd_none {d : Int} : bndOf d none = some d := rfl
@[go_sem] theorem bnd_some {d j : Int} {k : IntKind} : bndOf d (some (.raw (.int k j))) = some j := rfl
attribute [go_sem] Option.map_none Option.map_some
def nlK (n : Nat) : Option Ty → Option AV
  | some (.slice _) => some (.nilB n)
  | _ => none
@[go_sem] theorem bin_slnil {n sz : Nat} {f : Nat → Nat → AV} : rdBin T .eql t (.sl n sz f) (.raw (.slice none 0 0)) = nlK n (T.ty t) := by
  unfold rdBin nlK
  cases T.ty t with
  | none => rfl
  | some ty => cases ty <;> rfl
@[go_sem] theorem nlK_some {n e : Nat} : nlK n (some (.slice e)) = some (.nilB n) := rfl
end
/-- a call of yield -/
def yaK (X : Fx) (d : Option Tmp) (y : Nat) (as : List AV) (l : List SOp) (L : List (Nat × AV)) (M : Mem) (K : (Nat → AV) → Mem → Prop) : Prop := AYield X.P y as M fun r M' => SL X l (put (lk L) d r) M' K
@[congr] theorem yaK_congr {X : Fx} {d : Option Tmp} {y : Nat} {as as' : List AV} {l : List SOp} {L : List (Nat × AV)} {M : Mem} {K : (Nat → AV) → Mem → Prop} (h : as = as') : yaK X d y as l L M K = yaK X d y as' l L M K := by rw [h]
@[go_sem] theorem clK_yl {X : Fx} {m y : Nat} {as : List AV} {l : List SOp} {L : List (Nat × AV)} {M : Mem} {K : (Nat → AV) → Mem → Prop} : clK X (some m) as l L M K (.yl y) = (m < X.N ∧ yaK X (some m) y as l L M K) := rfl
theorem yaK.of {X : Fx} {m y : Nat} {as : List AV} {l : List SOp} {L : List (Nat × AV)} {M : Mem} {K : (Nat → AV) → Mem → Prop} {Q : AV → Mem → Prop} (h : AYield X.P y as M Q) (hq : ∀ r M', Q r M' → SL X l (lk ((m, r) :: L)) M' K) : yaK X (some m) y as l L M K :=
  h.mono fun r M' h' => by rw [put_lk]; exact hq r M' h'
/-! weaker tellings -/
theorem Le.nil {sz : Nat} {f : Nat → Nat → AV} : Le (.raw (.slice none 0 0)) (.sl 0 sz f) := fun C x h => ⟨none, 0, h, Nat.le_refl _, fun h => by omega⟩
theorem Le.ag {n : Nat} {f g : Nat → AV} (h : ∀ i, i < n → Le (f i) (g i)) : Le (.ag n f) (.ag n g) := fun C x ⟨cs, h1, h2, h3⟩ => ⟨cs, h1, h2, fun i hi => h i hi C _ (h3 i hi)⟩
theorem Le.tup {n : Nat} {f g : Nat → AV} (h : ∀ i, i < n → Le (f i) (g i)) : Le (.tup n f) (.tup n g) := fun C x ⟨cs, h1, h2, h3⟩ => ⟨cs, h1, h2, fun i hi => h i hi C _ (h3 i hi)⟩
theorem Le.ref {n : Nat} {f g : Nat → AV} (h : ∀ i, i < n → Le (f i) (g i)) : Le (.ref n f) (.ref n g) := fun C x ⟨ad, h1, h2, h3⟩ => ⟨ad, h1, h2, fun i hi => by obtain ⟨v, a, b⟩ := h3 i hi; exact ⟨v, a, h i hi C _ b⟩⟩
theorem Le.fn {k : Fn} {n : Nat} {f g : Nat → AV} (h : ∀ i, i < n → Le (f i) (g i)) : Le (.fn k n f) (.fn k n g) := fun C x ⟨cs, h1, h2, h3⟩ => ⟨cs, h1, h2, fun i hi => h i hi C _ (h3 i hi)⟩
theorem Le.sl {n sz : Nat} {f g : Nat → Nat → AV} (h : ∀ i j, i < n → j < sz → Le (f i j) (g i j)) : Le (.sl n sz f) (.sl n sz g) := fun C x ⟨A, c, h1, h2, h3⟩ => ⟨A, c, h1, h2, fun h0 => by
  obtain ⟨ad, a, b, c⟩ := h3 h0
  exact ⟨ad, a, b, fun i j hi hj => by obtain ⟨v, d, e⟩ := c i j hi hj; exact ⟨v, d, h i j hi hj C _ e⟩⟩⟩
theorem Le.trans {a b c : AV} (h : Le a b) (k : Le b c) : Le a c := fun C x hx => k C x (h C x hx)
/-- lists of slots, one after the other -/
def LeL : List AV → List AV → Prop
  | [], [] => True
  | a :: l, b :: m => Le a b ∧ LeL l m
  | _, _ => False
theorem LeL.get : ∀ {l m : List AV}, LeL l m → ∀ i, Le (lst l i) (lst m i)
  | [], [], _, i => Le.refl _
  | a :: l, b :: m, h, 0 => h.1
  | a :: l, b :: m, h, i + 1 => LeL.get h.2 i
  | [], _ :: _, h, _ => h.elim
  | _ :: _, [], h, _ => h.elim
theorem Le.agL {n : Nat} {l m : List AV} (h : LeL l m) : Le (.ag n (lst l)) (.ag n (lst m)) := Le.ag fun i _ => h.get i
theorem Le.tupL {n : Nat} {l m : List AV} (h : LeL l m) : Le (.tup n (lst l)) (.tup n (lst m)) := Le.tup fun i _ => h.get i
theorem Le.refL {n : Nat} {l m : List AV} (h : LeL l m) : Le (.ref n (lst l)) (.ref n (lst m)) := Le.ref fun i _ => h.get i
theorem Le.fnL {k : Fn} {n : Nat} {l m : List AV} (h : LeL l m) : Le (.fn k n (lst l)) (.fn k n (lst m)) := Le.fn fun i _ => h.get i
/-- slots told anew -/
def LeS : List (Nat × AV) → List (Nat × AV) → Prop
  | [], [] => True
  | (i, a) :: l, (j, b) :: m => i = j ∧ Le a b ∧ LeS l m
  | _, _ => False
theorem LeS.get : ∀ {l m : List (Nat × AV)}, LeS l m → ∀ i, Le (lk l i) (lk m i)
  | [], [], _, i => Le.refl _
  | (j, a) :: l, (q, b) :: m, ⟨e, h1, h2⟩, i => by
    subst e
    simp only [lk]
    split
    · exact h1
    · exact LeS.get h2 i
  | [], _ :: _, h, _ => h.elim
  | _ :: _, [], h, _ => h.elim
theorem SRuns.weakS {X : Fx} {k : List SI} {L L' : List (Nat × AV)} {M : Mem} {Z : List Nat} {Q : AV → Mem → Prop} (hl : LeS L L') (h : SRuns X k (lk L') M Z Q) : SRuns X k (lk L) M Z Q := SRuns.weak (fun i => hl.get i) h
end Go.Av
set_option linter.unusedVariables false
set_option linter.unusedSimpArgs false
namespace Go.Av
/-! ## 31. Functions that are ranged over -/
/-- the function calls yield with these, one after the other, until it answers false -/
def SeqOf (P : Program) (f : FuncId) (n : Nat) (cap : Nat → AV) (len : Nat) (x : Nat → List AV) : Prop :=
  ∀ (y : Nat) (M : Mem) (I : Nat → Mem → Prop) (S : Mem → Prop), I 0 M → (∀ i M', i < len → I i M' → AYield P y (x i) M' fun r M'' => ∃ c, r = .raw (.bool c) ∧ (c = true → I (i + 1) M'') ∧ (c = false → S M'')) →
    ACalls P f (.yl y :: tk n 0 cap) M fun _ M' => I len M' ∨ S M'
/-- the record of a loop -/
abbrev lpB (X : Fx) (L : List (Nat × AV)) (ps : Array Tmp) (asg body : Code) (d : Nat) (st : LoopState) (pe : Option Code) : Blk := .loop st pe X.fn X.N (lk L) ps asg body d
/-- memory within a range -/
abbrev inR' (M : Mem) (z y : Nat) (B : Blk) : Mem := upM (upM M z .defr) y B
section
variable {X : Fx} {k : List SI} {L : List (Nat × AV)} {M M1 : Mem} {Q Q' : AV → Mem → Prop} {Γ : Nat → AV} {y : Nat}
/-- a round's beginning -/
theorem SRuns.rBegin {asg body : Code} {ps : Array Tmp} {d : Nat} (hy : M y = some (lpB X L ps asg body d .ready none)) (h : SRuns (X.rnd M1 y) k Γ (upM M y (lpB X L ps asg body d .busy none)) [] Q) : SRuns (X.rnd M1 y) (.beginRound :: k) Γ M [] Q :=
  SRuns.beginRound (X := X.rnd M1 y) rfl hy h
/-- a round's end -/
theorem SRuns.rFin {asg body : Code} {ps : Array Tmp} {d : Nat} (hy : M y = some (lpB X L ps asg body d .busy none)) (hq : Q (.raw (.bool true)) (upM M y (lpB X L ps asg body d .ready none))) : SRuns (X.rnd M1 y) [] Γ M [] Q :=
  SRuns.roundFin ⟨y, _, _, _, _, _, _, _, _, _, rfl, hy, .all hq⟩
theorem SRuns.rRet {asg body : Code} {ps : Array Tmp} {d : Nat} (hy : M y = some (lpB X L ps asg body d .busy none)) (hq : Q (.raw (.bool false)) (upM M y (lpB X L ps asg body d .done (some .ret)))) : SRuns (X.rnd M1 y) (.code .ret :: k) Γ M [] Q :=
  SRuns.roundRet ⟨y, _, _, _, _, _, _, _, _, _, rfl, hy, .all hq⟩
theorem SRuns.rExit {asg body : Code} {ps : Array Tmp} {d id : Nat} (hx : exitS id k = none) (hy : M y = some (lpB X L ps asg body d .busy none)) (hq : Q (.raw (.bool false)) (upM M y (lpB X L ps asg body d .done (some (.exit id))))) : SRuns (X.rnd M1 y) (.code (.exit id) :: k) Γ M [] Q :=
  SRuns.roundExit hx ⟨y, _, _, _, _, _, _, _, _, _, rfl, hy, .all hq⟩
/-- a round, seen from its body: R, B: the record ahead of the round and in it; D, E: behind a jump out (none: a return), and when that jump is made -/
structure Rnd (X X1 : Fx) (L : List (Nat × AV)) (y : Nat) (R B : Blk) (D E : Option Nat → Blk) : Prop where
  P : X1.P = X.P
  T : X1.T = X.T
  N : X1.N = X.N
  own : X1.own = X.own
  ro : X1.ro = some y
  r : ∀ (M : Mem) (g : Nat) (A : Blk), g ≠ y → upM (upM M y R) g A = upM (upM M g A) y R
  b : ∀ (M : Mem) (g : Nat) (A : Blk), g ≠ y → upM (upM M y B) g A = upM (upM M g A) y B
  e : ∀ (j : Option Nat) (M : Mem) (g : Nat) (A : Blk), g ≠ y → upM (upM M y (E j)) g A = upM (upM M g A) y (E j)
  beg : ∀ {k : List SI} {Γ : Nat → AV} {M : Mem} {Q : AV → Mem → Prop}, SRuns X1 k Γ (upM M y B) [] Q → SRuns X1 (.beginRound :: k) Γ (upM M y R) [] Q
  fin : ∀ {Γ : Nat → AV} {M : Mem} {Q : AV → Mem → Prop}, Q (.raw (.bool true)) (upM M y R) → SRuns X1 [] Γ (upM M y B) [] Q
  ret : ∀ {k : List SI} {Γ : Nat → AV} {M : Mem} {Q : AV → Mem → Prop}, Q (.raw (.bool false)) (upM M y (D none)) → SRuns X1 (.code .ret :: k) Γ (upM M y B) [] Q
  ext : ∀ {id : Nat} {k : List SI} {Γ : Nat → AV} {M : Mem} {Q : AV → Mem → Prop}, exitS id k = none → Q (.raw (.bool false)) (upM M y (D (some id))) → SRuns X1 (.code (.exit id) :: k) Γ (upM M y B) [] Q
  aret : ∀ {k : List SI} {M : Mem} {Z : List Nat} {Q : AV → Mem → Prop}, SRuns X (.code .ret :: k) (lk L) (upM M y (E none)) Z Q → SAfter X k (lk L) Z Q y (upM M y (D none))
  aext : ∀ {id : Nat} {k : List SI} {M : Mem} {Z : List Nat} {Q : AV → Mem → Prop}, SRuns X (.code (.exit id) :: k) (lk L) (upM M y (E (some id))) Z Q → SAfter X k (lk L) Z Q y (upM M y (D (some id)))
theorem upM_comm {M : Mem} {a b : Nat} {A B : Blk} (h : b ≠ a) : upM (upM M a A) b B = upM (upM M b B) a A := by
  funext g
  unfold upM
  by_cases e : g = a
  · subst e; simp [Ne.symm h]
  · simp [e]
def jmp : Option Nat → Code
  | none => .ret
  | some id => .exit id
theorem Rnd.mk' (ps : Array Tmp) (asg body : Code) (d : Nat) : Rnd X (X.rnd M1 y) L y (lpB X L ps asg body d .ready none) (lpB X L ps asg body d .busy none) (fun j => lpB X L ps asg body d .done (some (jmp j))) (fun j => lpB X L ps asg body d .exhausted (some (jmp j))) where
  P := rfl
  T := rfl
  N := rfl
  own := rfl
  ro := rfl
  r := fun M g A h => upM_comm h
  b := fun M g A h => upM_comm h
  e := fun j M g A h => upM_comm h
  beg := fun {k Γ M Q} h => by
    have := SRuns.rBegin (X := X) (L := L) (M1 := M1) (Γ := Γ) (k := k) (Q := Q) (M := upM M y (lpB X L ps asg body d .ready none)) (y := y) (upM_self _ _ _) (by rw [upM_twice]; exact h)
    exact this
  fin := fun {Γ M Q} h => by
    refine SRuns.rFin (X := X) (L := L) (M1 := M1) (upM_self _ _ _) ?_
    rw [upM_twice]; exact h
  ret := fun {k Γ M Q} h => by
    refine SRuns.rRet (X := X) (L := L) (M1 := M1) (upM_self _ _ _) ?_
    rw [upM_twice]; exact h
  ext := fun {id k Γ M Q} hx h => by
    refine SRuns.rExit (X := X) (L := L) (M1 := M1) hx (upM_self _ _ _) ?_
    rw [upM_twice]; exact h
  aret := fun {k M Z Q} h => by
    refine ⟨.done, some .ret, X.fn, X.N, lk L, ps, asg, body, d, upM_self _ _ _, by simp, ?_⟩
    show SRuns X (.code .ret :: k) (lk L) (upM (upM M y _) y _) Z Q
    rw [upM_twice]; exact h
  aext := fun {id k M Z Q} h => by
    refine ⟨.done, some (.exit id), X.fn, X.N, lk L, ps, asg, body, d, upM_self _ _ _, by simp, ?_⟩
    show SRuns X (.code (.exit id) :: k) (lk L) (upM (upM M y _) y _) Z Q
    rw [upM_twice]; exact h
/-- **A RANGE OVER A FUNCTION**: base i is memory behind i rounds, the range's own records aside -/
theorem SRuns.rangeSeq {g : Operand} {ps : Array Tmp} {a b : SC} {f : FuncId} {n : Nat} {cap : Nat → AV} {len : Nat} {x : Nat → List AV} (base : Nat → Mem) (Pr : Nat → Prop) (z y : Nat) (hs : SeqOf X.P f n cap len x) (hT : TabOk X.P X.T) (hro : X.ro = none) (hg : opv (lk L) g = .fn (.func f) n cap)
    (hne : y ≠ z) (h0 : base 0 = M) (hp0 : Pr 0) (hl : ∀ i, ps.size = (x i).length) (hp : ps.toList.all (fun t => decide (t < X.N)) = true) (hz : M z = none) (hy : M y = none)
    (hround : ∀ (X1 : Fx) (R B : Blk) (D E : Option Nat → Blk), Rnd X X1 L y R B D E → ∀ i : Nat, i < len → Pr i → SRuns X1 [.code a, .beginRound, .code b] (bindPs (lk L) ps.toList (x i)) (upM (upM (base i) z .defr) y R) []
      fun r M2 => (r = .raw (.bool true) ∧ M2 = upM (upM (base (i + 1)) z .defr) y R ∧ Pr (i + 1)) ∨ (r = .raw (.bool false) ∧ SAfter X k (lk L) [z] Q y M2))
    (hend : Pr len → ∀ E : Blk, (∀ (M : Mem) (g : Nat) (A : Blk), g ≠ y → upM (upM M y E) g A = upM (upM M g A) y E) → SRuns X k (lk L) (upM (upM (base len) z .defr) y E) [z] Q) :
    SRuns X (.code (.range g ps a b) :: k) (lk L) M [] Q := by
  refine SRuns.range hro hg z y hz hy hne fun d asg body ha hb => ?_
  refine (hs y (inR' M z y (lpB X L ps asg body d .ready none)) (fun i M' => M' = inR' (base i) z y (lpB X L ps asg body d .ready none) ∧ Pr i) (fun M2 => SAfter X k (lk L) [z] Q y M2) ⟨by rw [h0], hp0⟩ ?_).mono ?_
  · rintro i M' hi ⟨rfl, hpi⟩
    have hyM : inR' (base i) z y (lpB X L ps asg body d .ready none) y = some (lpB X L ps asg body d .ready none) := upM_self _ _ _
    refine (AYield.of_slim (X := X) (y := y) (al := x i) hT hyM ha hb (hl i) (fun t ht => by have := List.all_eq_true.1 hp t ht; simpa using this) (hround _ _ _ _ _ (Rnd.mk' ps asg body d) i hi hpi)).mono ?_
    rintro r M'' (⟨rfl, h⟩ | ⟨rfl, h⟩)
    · exact ⟨true, rfl, fun _ => h, fun h => by cases h⟩
    · exact ⟨false, rfl, (fun h => by cases h), fun _ => h⟩
  · rintro r M' (⟨rfl, hpl⟩ | h)
    · refine ⟨.ready, none, X.fn, X.N, lk L, ps, asg, body, d, upM_self _ _ _, by simp, ?_⟩
      have := hend hpl (lpB X L ps asg body d .exhausted none) (fun M g A h => upM_comm h)
      have e : upM (inR' (base len) z y (lpB X L ps asg body d .ready none)) y (lpB X L ps asg body d .exhausted none) = inR' (base len) z y (lpB X L ps asg body d .exhausted none) := upM_twice
      show SRuns X k (lk L) (upM _ y (lpB X L ps asg body d .exhausted none)) [z] Q
      rw [e]; exact this
    · exact h
/-- the end of a function with marks of ranges -/
theorem EEnd.of1 {z : Nat} (h0 : X.ro = none) (hz : M z = some .defr) (h : oK (resAll X.T Γ (upM M z .gone) X.rs) fun vs => DoneF X.M0 (upM M z .gone) (resAV vs) Q) : EEnd X Γ M [z] Q := ⟨h0, ⟨hz, trivial⟩, h⟩
@[go_sem] theorem rnd_P : (X.rnd M y).P = X.P := rfl
@[go_sem] theorem rnd_T : (X.rnd M y).T = X.T := rfl
@[go_sem] theorem rnd_N : (X.rnd M y).N = X.N := rfl
@[go_sem] theorem rnd_own : (X.rnd M y).own = X.own := rfl
@[go_sem] theorem bind_nil {Γ : Nat → AV} {al : List AV} : bindPs Γ [] al = Γ := by unfold bindPs; rfl
@[go_sem] theorem bind_cons {t : Tmp} {ts : List Tmp} {v : AV} {al : List AV} : bindPs (lk L) (t :: ts) (v :: al) = bindPs (lk ((t, v) :: L)) ts al := by
  rw [bindPs, up_lk]
end
end Go.Av
set_option linter.unusedVariables false
set_option linter.unusedSimpArgs false
namespace Go.Av
/-! ## 32. Numbers, truth values, lists of numbers -/
abbrev vI (n : Int) : AV := .raw (.int .i64 n)
abbrev vB (b : Bool) : AV := .raw (.bool b)
def gi (l : List Int) (i : Nat) : Int := l.getD i 0
def vIs (l : List Int) : AV := .sl l.length 1 (fun i _ => vI (gi l i))
theorem vBd {p q : Prop} {a : Decidable p} {b : Decidable q} (h : p ↔ q) : vB (@decide p a) = vB (@decide q b) := by
  have : @decide p a = @decide q b := by rw [Bool.eq_iff_iff]; simpa using h
  rw [this]
theorem vBt {q : Prop} {b : Decidable q} (h : q) : vB true = vB (@decide q b) := by simp [h]
theorem vBf {q : Prop} {b : Decidable q} (h : ¬ q) : vB false = vB (@decide q b) := by simp [h]
theorem gi_lt {l : List Int} {i : Nat} (h : i < l.length) : gi l i = l[i] := by simp [gi, h]
theorem gi_ext {l m : List Int} (h : l.length = m.length) (k : ∀ i, i < l.length → gi l i = gi m i) : l = m := by
  apply List.ext_getElem h
  intro i h1 h2
  have := k i h1
  rwa [gi_lt h1, gi_lt h2] at this
/-- a list by its length and its elements -/
def mkL (n : Nat) (f : Nat → Int) : List Int := (List.range n).map f
@[simp] theorem mkL_length {n : Nat} {f : Nat → Int} : (mkL n f).length = n := by simp [mkL]
theorem gi_mkL {n i : Nat} {f : Nat → Int} (h : i < n) : gi (mkL n f) i = f i := by simp [gi, mkL, h]
theorem mkL_gi (l : List Int) : mkL l.length (gi l) = l := gi_ext (by simp) fun i h => gi_mkL (by simpa using h)
theorem mkL_congr {n : Nat} {f g : Nat → Int} (h : ∀ i, i < n → f i = g i) : mkL n f = mkL n g := by
  unfold mkL; exact List.map_congr_left fun i hi => h i (by simpa using hi)
/-- a row that holds a list -/
def rowI (e : TypeId) (l : List Int) : Blk := .row e l.length 1 (fun i _ => vI (gi l i))
theorem Le.vIs_of {n : Nat} {f : Nat → Nat → AV} {l : List Int} (hn : n = l.length) (h : ∀ i, i < n → f i 0 = vI (gi l i)) : Le (.sl n 1 f) (vIs l) := by
  subst hn
  refine Le.sl fun i j hi hj => ?_
  obtain rfl : j = 0 := by omega
  rw [h i hi]; exact Le.refl _
theorem Le.ofI {k : IntKind} {a b : Int} (h : a = b) : Le (.raw (.int k a)) (.raw (.int k b)) := by rw [h]; exact Le.refl _
theorem Le.of {a b : AV} (h : a = b) : Le a b := by rw [h]; exact Le.refl _
theorem LeS.nil : LeS [] [] := trivial
theorem LeS.cons {i j : Nat} {a b : AV} {l m : List (Nat × AV)} (e : i = j) (h : Le a b) (k : LeS l m) : LeS ((i, a) :: l) ((j, b) :: m) := ⟨e, h, k⟩
theorem LeL.nil : LeL [] [] := trivial
theorem LeL.cons {a b : AV} {l m : List AV} (h : Le a b) (k : LeL l m) : LeL (a :: l) (b :: m) := ⟨h, k⟩
theorem Les.refl : ∀ l : List AV, Les l l
  | [] => trivial
  | a :: l => ⟨Le.refl a, Les.refl l⟩
theorem LeL.refl : ∀ l : List AV, LeL l l
  | [] => trivial
  | a :: l => ⟨Le.refl a, LeL.refl l⟩
theorem Les.nil : Les [] [] := trivial
theorem Les.cons {a b : AV} {l m : List AV} (h : Le a b) (k : Les l m) : Les (a :: l) (b :: m) := ⟨h, k⟩
/-- a loop, by states -/
theorem SRuns.loopS {X : Fx} {k : List SI} {L : List (Nat × AV)} {M : Mem} {Z : List Nat} {Q : AV → Mem → Prop} {x : SC} {σ : Type} (m : σ → Nat) (Lf : σ → List (Nat × AV)) (Mf : σ → Mem) (P : σ → Prop) (s0 : σ) (hL : LeS L (Lf s0)) (hM : M = Mf s0) (h0 : P s0)
    (h : ∀ s, P s → (∀ s', m s' < m s → P s' → SRuns X (.inLoop x :: k) (lk (Lf s')) (Mf s') Z Q) → SRuns X (.code x :: .inLoop x :: k) (lk (Lf s)) (Mf s) Z Q) : SRuns X (.code (.loop x) :: k) (lk L) M Z Q := by
  refine SRuns.weakS hL ?_
  subst hM
  refine SRuns.loop (fun n Γ M => ∃ s, n = m s ∧ P s ∧ Γ = lk (Lf s) ∧ M = Mf s) (m s0) ⟨s0, rfl, h0, rfl, rfl⟩ ?_
  rintro n Γ M ⟨s, rfl, hp, rfl, rfl⟩ IH
  exact h s hp fun s' h1 h2 => IH _ _ _ h1 ⟨s', rfl, h2, rfl, rfl⟩
/-- the same: a counter that goes up -/
theorem SRuns.loopU {X : Fx} {k : List SI} {L : List (Nat × AV)} {M : Mem} {Z : List Nat} {Q : AV → Mem → Prop} {x : SC} (n : Nat) (Lf : Nat → List (Nat × AV)) (Mf : Nat → Mem) (P : Nat → Prop) (hL : LeS L (Lf 0)) (hM : M = Mf 0) (h0 : P 0)
    (h : ∀ i, i ≤ n → P i → (i < n → P (i + 1) → SRuns X (.inLoop x :: k) (lk (Lf (i + 1))) (Mf (i + 1)) Z Q) → SRuns X (.code x :: .inLoop x :: k) (lk (Lf i)) (Mf i) Z Q) : SRuns X (.code (.loop x) :: k) (lk L) M Z Q :=
  SRuns.loopS (fun i => n - i) Lf Mf (fun i => i ≤ n ∧ P i) 0 hL hM ⟨Nat.zero_le _, h0⟩ fun i hi IH => h i hi.1 hi.2 fun h1 h2 => IH (i + 1) (by omega) ⟨h1, h2⟩
end Go.Av
set_option linter.unusedVariables false
set_option linter.unusedSimpArgs false
namespace Go.Av
/-- the truth of a proposition, as a value -/
noncomputable abbrev vP (p : Prop) : AV := .raw (.bool (@decide p (Classical.propDecidable p)))
theorem vPd {p q : Prop} {a : Decidable p} (h : p ↔ q) : vB (@decide p a) = vP q := vBd h
theorem vPt {q : Prop} (h : q) : vB true = vP q := vBt h
theorem vPf {q : Prop} (h : ¬ q) : vB false = vP q := vBf h
/-! the order of memory's blocks -/
section
variable {M : Mem} {a b c : Nat} {A A' B B' : Blk} {st : LoopState} {pe : Option Code} {fn : FuncId} {N : Nat} {Γ : Nat → AV} {ps : Array Tmp} {asg body : Code} {d : Nat}
@[go_sem] theorem upM_defr_cells {e n : Nat} {f : Nat → AV} (h : b ≠ a) : upM (upM M a .defr) b (.cells e n f) = upM (upM M b (.cells e n f)) a .defr := upM_comm h
@[go_sem] theorem upM_defr_row {e n sz : Nat} {f : Nat → Nat → AV} (h : b ≠ a) : upM (upM M a .defr) b (.row e n sz f) = upM (upM M b (.row e n sz f)) a .defr := upM_comm h
@[go_sem] theorem upM_again2 (h : b ≠ a) : upM (upM (upM M a A) b B) a A' = upM (upM M a A') b B := by rw [upM_comm h, upM_twice, upM_comm (Ne.symm h)]
@[go_sem] theorem upM_again3 {C : Blk} (h : b ≠ a) (k : c ≠ a) : upM (upM (upM (upM M a A) b B) c C) a A' = upM (upM (upM M a A') b B) c C := by
  rw [upM_comm (M := upM (upM M a A) b B) (a := c) (b := a) (Ne.symm k), upM_again2 h]
end
section
variable {g n sz : Nat} {f : Nat → Nat → AV}
@[go_sem] theorem fz_ref {m : Nat} {l : List AV} : fzV g n sz f (.ref m (lst l)) = .ref m (lst (l.map (fzV g n sz f))) := by
  show AV.ref m (fun i => fzV g n sz f (lst l i)) = _
  rw [fz_lst]
@[go_sem] theorem fz_fn {k : Fn} {m : Nat} {l : List AV} : fzV g n sz f (.fn k m (lst l)) = .fn k m (lst (l.map (fzV g n sz f))) := by
  show AV.fn k m (fun i => fzV g n sz f (lst l i)) = _
  rw [fz_lst]
@[go_sem] theorem fz_fnd {k : Fn} {m : Nat} : fzV g n sz f (.fn k m fun _ => .dead) = .fn k m fun _ => .dead := rfl
@[go_sem] theorem fz_ptr {g' o : Nat} : fzV g n sz f (.ptr g' o) = .ptr g' o := rfl
@[go_sem] theorem fz_yl {y : Nat} : fzV g n sz f (.yl y) = .yl y := rfl
@[go_sem] theorem fz_slr {m s : Nat} {h : Nat → Nat → Value} : fzV g n sz f (.sl m s fun i j => .raw (h i j)) = .sl m s fun i j => .raw (h i j) := rfl
@[go_sem] theorem fz_slr2 {m s : Nat} {a b : Nat → Nat → Nat} {h : Nat → Nat → Nat → Nat → Value} : fzV g n sz f (.sl m s fun i j => .sl (a i j) (b i j) fun p q => .raw (h i j p q)) = .sl m s fun i j => .sl (a i j) (b i j) fun p q => .raw (h i j p q) := rfl
end
theorem KR.go {X : Fx} {k : List SI} {ks : List Nat} {Z : List Nat} {Q : AV → Mem → Prop} {L : List (Nat × AV)} {M : Mem} (h : SRuns X k (lk (kpl ks L)) M Z Q) : KR X k ks Z Q (lk L) M := by rw [KR_lk]; exact h
theorem SRuns.weakL {X : Fx} {k : List SI} {c : SC} {L L' : List (Nat × AV)} {M : Mem} {Z : List Nat} {Q : AV → Mem → Prop} (hl : LeS L L') (h : SRuns X (.inLoop c :: k) (lk L') M Z Q) : SRuns X (.inLoop c :: k) (lk L) M Z Q := SRuns.weakS hl h
theorem SRuns.goL {X : Fx} {k : List SI} {c : SC} {Γ : Nat → AV} {M : Mem} {Z : List Nat} {Q : AV → Mem → Prop} (h : SRuns X (.inLoop c :: k) Γ M Z Q) : SRuns X (.inLoop c :: k) Γ M Z Q := h
theorem caK.go {X : Fx} {d : Option Tmp} {g : FuncId} {al : List AV} {l : List SOp} {L : List (Nat × AV)} {M : Mem} {K : (Nat → AV) → Mem → Prop} (h : caK X d g al l L M K) : caK X d g al l L M K := h
theorem caK.valL {X : Fx} {d : Option Tmp} {l : List SOp} {L : List (Nat × AV)} {M : Mem} {K : (Nat → AV) → Mem → Prop} {g : FuncId} {al bl : List AV} {v : AV} (hl : Les al bl) (h : ACalls X.P g bl M (fun r M' => r = v ∧ M' = M)) (hq : oKS X d l L M K (some v)) : caK X d g al l L M K := caK.val h hl hq
theorem caK.toL {X : Fx} {d : Option Tmp} {l : List SOp} {L : List (Nat × AV)} {M : Mem} {K : (Nat → AV) → Mem → Prop} {g : FuncId} {al bl : List AV} {Q : AV → Mem → Prop} (hl : Les al bl) (h : ACalls X.P g bl M Q) (hq : ∀ r M', Q r M' → SL X l (put (lk L) d r) M' K) : caK X d g al l L M K := caK.to h hl hq
theorem caF.valL {X : Fx} {E : Nat → List Nat} {gs : Nat → Nat} {pl u : Nat} {U : List Nat} {d : Option Tmp} {g : FuncId} {al bl : List AV} {v : AV} {l : List (SOp × List Nat)} {L : List (Nat × AV)} {M : Mem} {K : (Nat → AV) → Mem → Prop} (hl : Les al bl) (h : ∀ M2, ACalls X.P g bl M2 fun r M' => r = v ∧ M' = M2) (hq : oKF X E gs pl d l L M K (some v)) : caF X E gs pl u U d g al l L M K := caF.val h hl hq
theorem caF.go {X : Fx} {E : Nat → List Nat} {gs : Nat → Nat} {pl u : Nat} {U : List Nat} {d : Option Tmp} {g : FuncId} {al : List AV} {l : List (SOp × List Nat)} {L : List (Nat × AV)} {M : Mem} {K : (Nat → AV) → Mem → Prop} (h : caF X E gs pl u U d g al l L M K) : caF X E gs pl u U d g al l L M K := h
theorem yaK.go {X : Fx} {d : Option Tmp} {y : Nat} {al : List AV} {l : List SOp} {L : List (Nat × AV)} {M : Mem} {K : (Nat → AV) → Mem → Prop} (h : yaK X d y al l L M K) : yaK X d y al l L M K := h
/-! what names no block that is not there -/
def CloL (M : Mem) : List AV → Prop
  | [] => True
  | a :: l => Clo M a ∧ CloL M l
theorem CloL.get {M : Mem} : ∀ {l : List AV}, CloL M l → ∀ i, Clo M (lst l i)
  | [], _, i => by simp [lst, Clo]
  | a :: l, h, 0 => h.1
  | a :: l, h, i + 1 => CloL.get h.2 i
theorem CloL.nil {M : Mem} : CloL M [] := trivial
theorem CloL.cons {M : Mem} {a : AV} {l : List AV} (h : Clo M a) (k : CloL M l) : CloL M (a :: l) := ⟨h, k⟩
theorem Clo.agL {M : Mem} {n : Nat} {l : List AV} (h : CloL M l) : Clo M (.ag n (lst l)) := fun i _ => h.get i
theorem Clo.tupL {M : Mem} {n : Nat} {l : List AV} (h : CloL M l) : Clo M (.tup n (lst l)) := fun i _ => h.get i
theorem Clo.refL {M : Mem} {n : Nat} {l : List AV} (h : CloL M l) : Clo M (.ref n (lst l)) := fun i _ => h.get i
theorem Clo.fnL {M : Mem} {k : Fn} {n : Nat} {l : List AV} (h : CloL M l) : Clo M (.fn k n (lst l)) := fun i _ => h.get i
theorem Clo.vIs {M : Mem} {l : List Int} : Clo M (vIs l) := fun _ _ _ _ => trivial
theorem Clo.slI {M : Mem} {n sz : Nat} {f : Nat → Nat → Value} : Clo M (.sl n sz fun i j => .raw (f i j)) := fun _ _ _ _ => trivial
theorem CloB.cellsL {M : Mem} {e n : Nat} {l : List AV} (h : CloL M l) : CloB M (.cells e n (lst l)) := fun i _ => h.get i
theorem CloB.rowI {M : Mem} {e : Nat} {l : List Int} : CloB M (rowI e l) := fun _ _ _ _ => trivial
theorem Clo.own {M : Mem} {g n sz : Nat} {B : Blk} (h : M g = some B) : Clo M (.own g n sz) := by show M g ≠ none; rw [h]; simp
theorem DoneF.rawv {M0 M : Mem} {v : Value} {Q : AV → Mem → Prop} (N : Nat) (hN : ∀ g, N ≤ g → M0 g = none) (h : ∀ g, g < N → M g = M0 g) (hq : Q (.raw v) M0) : DoneF M0 M (.raw v) Q := .done (Done.keep N hN h trivial hq)
/-! rows and lists by functions -/
abbrev rowF (e n : Nat) (F : Nat → Int) : Blk := .row e n 1 (fun i _ => vI (F i))
theorem rowF_app {e n : Nat} {F : Nat → Int} {x : Int} (h : x = F n) : BlkLe (.row e (n + 1) 1 (cat n (fun i _ => vI (F i)) (fun i j => lst [vI x] (i * 1 + j)))) (rowF e (n + 1) F) := by
  refine ⟨rfl, rfl, rfl, fun i j hi hj => ?_⟩
  obtain rfl : j = 0 := by omega
  by_cases hn : i < n
  · simp only [cat, if_pos hn]; exact Le.refl _
  · obtain rfl : i = n := by omega
    simp only [cat, if_neg hn, Nat.sub_self, h]; exact Le.refl _
theorem Le.mkF {n : Nat} {F : Nat → Int} : Le (.sl n 1 fun i _ => vI (F i)) (vIs (mkL n F)) := Le.vIs_of (by simp) fun i hi => by rw [gi_mkL hi]
end Go.Av
set_option linter.unusedVariables false
set_option linter.unusedSimpArgs false
namespace Go.Av
theorem NewK.pick {X : Fx} {l : List SOp} {L : List (Nat × AV)} {M : Mem} {K : (Nat → AV) → Mem → Prop} {n : Nat} {v : Nat → AV} {B : Blk} (g : Nat) (hM : M g = none) (h : SL X l (lk ((n, v g) :: L)) (upM M g B) K) : NewK X (some n) v B l L M K := .inr ⟨g, hM, h⟩
theorem caK.newL {X : Fx} {n : Nat} {l : List SOp} {L : List (Nat × AV)} {M : Mem} {K : (Nat → AV) → Mem → Prop} {g : FuncId} {al bl : List AV} {v : Nat → AV} {B : Blk} (N : Nat) (hl : Les al bl) (h : ∀ M2 g', M2 g' = none → ACalls X.P g bl M2 fun r M' => r = v g' ∧ M' = upM M2 g' B) (hg : M (N + n) = none) (hq : SL X l (lk ((n, v (N + n)) :: L)) (upM M (N + n) B) K) : caK X (some n) g al l L M K :=
  caK.new h hl (N + n) hg hq
theorem caF.newL {X : Fx} {E : Nat → List Nat} {gs : Nat → Nat} {pl u n : Nat} {U : List Nat} {l : List (SOp × List Nat)} {L : List (Nat × AV)} {M : Mem} {K : (Nat → AV) → Mem → Prop} {g : FuncId} {al bl : List AV} {v : Nat → AV} {B : Blk} (hl : Les al bl) (h : ∀ M2 g', M2 g' = none → ACalls X.P g bl M2 fun r M' => r = v g' ∧ M' = upM M2 g' B) (hq : NewF X E gs pl u U (some n) v B l L M K) : caF X E gs pl u U (some n) g al l L M K :=
  caF.new (n := 0) h hl hq
@[go_sem] theorem ones_int {M : Mem} {sz n : Nat} {k : IntKind} {F : Nat → Nat → Int} : ones M sz (n, fun i j => .raw (.int k (F i j))) = True := by
  simp [ones, one, Value.oneCell']
@[go_sem] theorem fz_vIs {g n sz : Nat} {f : Nat → Nat → AV} {l : List Int} : fzV g n sz f (vIs l) = vIs l := rfl
/-- lists of lists -/
def gl (l : List (List Int)) (i : Nat) : List Int := l.getD i []
def vIss (l : List (List Int)) : AV := .sl l.length 1 (fun i _ => vIs (gl l i))
theorem Clo.vIss {M : Mem} {l : List (List Int)} : Clo M (vIss l) := fun _ _ _ _ _ _ _ _ => trivial
/-! words for lists that stay closed -/
section
variable {T : Tab} {M : Mem} {t : TypeId} {l : List Int} {L : List (List Int)} {k : IntKind} {j : Int}
@[go_sem] theorem cells_vIs : cellsOf M (vIs l) = some [vIs l] := rfl
@[go_sem] theorem one_vIs : one M (vIs l) = true := rfl
@[go_sem] theorem len_vIs : rdLen T M t (vIs l) = lnS l.length (T.ty t) := len_sl
@[go_sem] theorem idx_vIs : rdIndexAddr T M t (vIs l) (.raw (.int k j)) = ixS l.length 1 (fun i _ => vI (gi l i)) j (elt T t) := rdIndexAddr_sl
@[go_sem] theorem src_vIs : srcOf M 1 (vIs l) = some (l.length, fun i _ => vI (gi l i)) := srcOf_sl
@[go_sem] theorem cells_vIss : cellsOf M (vIss L) = some [vIss L] := rfl
@[go_sem] theorem one_vIss : one M (vIss L) = true := rfl
@[go_sem] theorem len_vIss : rdLen T M t (vIss L) = lnS L.length (T.ty t) := len_sl
@[go_sem] theorem idx_vIss : rdIndexAddr T M t (vIss L) (.raw (.int k j)) = ixS L.length 1 (fun i _ => vIs (gl L i)) j (elt T t) := rdIndexAddr_sl
@[go_sem] theorem sli_vIss {lo hi : Option AV} : rdSlice T t (vIss L) lo hi = rsS L.length 1 (fun i _ => vIs (gl L i)) (elt T t) (bndOf 0 lo) (bndOf L.length hi) := rdSlice_sl
theorem Clo.slv {M : Mem} {n sz : Nat} {f : Nat → Nat → List Int} : Clo M (.sl n sz fun i j => Go.Av.vIs (f i j)) := fun _ _ _ _ _ _ _ _ => trivial
end
end Go.Av
namespace Go.Av
open Go.ChangeShapes Go.WideShapes Go.ChangeAt Go.RowKit
/-- the state with which a call from outside begins: nothing is tracked -/
def C0 (W : World) : Cx := ⟨W, fun _ => none, fun _ => none⟩
theorem C0.sim (W : World) : Sim (C0 W) := ⟨fun _ _ _ _ _ h => (by cases h), ⟨0, fun _ _ => rfl⟩, fun _ _ h => (by cases h)⟩
theorem C0.st {W : World} {b : Nat} (h : b < W.heap.size) : (C0 W).st b := ⟨h, fun ⟨_, _, h, _⟩ => (by cases h)⟩
theorem ACalls.calls {P : Program} {f : FuncId} {as : List AV} {Q : AV → Mem → Prop} (h : ACalls P f as (fun _ => none) Q) (W : World) (vs : Array Value) (hr : Reps (C0 W) as vs.toList) :
    Calls P f vs W fun e W' => ∃ v r C', e = .returned v ∧ Rep C' r v ∧ Q r C'.M ∧ Below W.heap.size W W' := fun cs => by
  obtain ⟨v, fr, C', r, h1, h2, h3, h4, h5, h6, h7⟩ := h.2 (C0 W) vs.toList rfl (C0.sim W) hr cs
  exact ⟨.returned v, C'.w, fr, ⟨v, r, C', rfl, h6, h7, ⟨h5.os, h5.tape, h5.output, h5.size, fun k hk => (h5.stable k (C0.st hk)).1⟩⟩, h1, h2, h3⟩
section
variable {H : Type} {enc : TypeId × Value → H} {P : Program}
theorem TrodAll.stays (hl : laidOutB P = true) {W W' : World} {sp' : Nat → Bool} : ∀ {ts : List TypeId} {vs : List Value} {ds : List (DataW H)} {ps : List MemPlace}, (∀ t ∈ ts, P.readableRec t = true ∧ t < P.types.size) → DataW.TrodAll enc P W 0 (fun _ => true) true ts vs ds ps → (∀ p ∈ ps, W.sameAt W' p) → (∀ p ∈ ps, sp' p.block = true) → DataW.TrodAll enc P W' 0 sp' true ts vs ds ps
  | [], [], [], ps, _, h, _, _ => h
  | t :: ts, v :: vs, d :: ds, ps, hr, h, hs, hp => by
    obtain ⟨p, q, h1, h2, rfl⟩ := h
    exact ⟨p, q, WideElems.Trod_stays hl (hr t (by simp)).1 (hr t (by simp)).2 h1 (fun x hx => hs x (by simp [hx])) (fun x hx => hp x (by simp [hx])), TrodAll.stays hl (fun t ht => hr t (by simp [ht])) h2 (fun x hx => hs x (by simp [hx])) (fun x hx => hp x (by simp [hx])), rfl⟩
  | [], [], _ :: _, _, _, h, _, _ => h.elim
  | [], _ :: _, [], _, _, h, _, _ => h.elim
  | [], _ :: _, _ :: _, _, _, h, _, _ => h.elim
  | _ :: _, [], [], _, _, h, _, _ => h.elim
  | _ :: _, [], _ :: _, _, _, h, _, _ => h.elim
  | _ :: _, _ :: _, [], _, _, h, _, _ => h.elim
def vKi (k : IntKind) (l : List Int) : AV := .sl l.length 1 fun i _ => .raw (.int k (gi l i))
theorem rep_ints {t e : TypeId} {k : IntKind} {fuel : Nat} {W : World} {c : Value} {x : DataW H × List MemPlace} (ht : P.underlying t = some (.slice e)) (he : P.underlying e = some (.int k)) (hc : P.cellsOf e = 1)
    (h : DataW.trod enc P W 0 (fun _ => true) true fuel t [c] = some x) : ∃ l : List Int, Rep (C0 W) (vKi k l) c ∧ l.length ≤ maxLen ∧ ∀ n ∈ l, (Lit.int k n).wf = true := by
  rcases open_ints ht he hc h with ⟨h1, _⟩ | ⟨a, len, cap, zs, h1, _, h2, h3, h4, _, h5, h6⟩
  · simp only [List.cons.injEq, and_true] at h1
    subst h1
    exact ⟨[], ⟨none, 0, rfl, Nat.le_refl _, fun h => absurd h (by simp)⟩, by simp, by simp⟩
  · simp only [List.cons.injEq, and_true] at h1
    subst h1
    simp only [if_true] at h4
    have hl : (zs.take len).length = len := by rw [List.length_take]; omega
    refine ⟨zs.take len, ⟨some a, cap, by rw [hl], by rw [hl]; exact h2, fun h0 => ⟨a, rfl, C0.st ?_, fun i j hi hj => ?_⟩⟩, by omega, fun n hn => h6 n (List.mem_of_mem_take hn)⟩
    · have := h5 0 (by omega)
      have hb : (a.add 0).block = a.block := add_block a 0
      unfold World.cell? at this
      rw [hb] at this
      exact Classical.byContradiction fun hn => by rw [Array.getElem?_eq_none (by omega)] at this; cases this
    · obtain rfl : j = 0 := by omega
      refine ⟨_, by rw [Nat.mul_one, Nat.add_zero]; exact h5 i (by omega), ?_⟩
      show _ = _
      unfold gi
      rw [List.getD_eq_getElem?_getD, List.getD_eq_getElem?_getD, List.getElem?_take_of_lt (by omega)]
end
end Go.Av
