import Derived.Test.YtaiinpbaaeemmaaB06e
set_option linter.unusedVariables false
set_option linter.unusedSimpArgs false
set_option maxRecDepth 100000
namespace Go.Proofs.Ytaiinpbaaeemmaa
open Go Go.Av Classical
attribute [local irreducible] SRuns SL FR KR oKS oKF caK caF yaK gdK fgK NewK NewF
def upd (l : List Int) (k : Nat) (v : Int) : List Int := mkL l.length fun i => if i = k then v else gi l i
def CutOk (x : Bx) (axis at_ : Int) : Prop := Valid x ∧ 0 ≤ axis ∧ axis < x.1.length ∧ gi x.1 axis.toNat ≤ at_ ∧ at_ < gi x.2 axis.toNat
noncomputable def cutS (x : Bx) (axis at_ : Int) : Bx × Bx × Int := if CutOk x axis at_ then ((x.1, upd x.2 axis.toNat at_), (upd x.1 axis.toNat (at_ + 1), x.2), 0) else (([], []), ([], []), 1)
def vBBE (p : Bx × Bx × Int) : AV := .tup 3 (lst [vBox p.1, vBox p.2.1, vI p.2.2])
theorem f14 (a b : List Int) (axis at_ : Int) (h1 : a.length < 2 ^ 40) (h2 : b.length < 2 ^ 40) (M : Mem) : ACalls Try.prog 14 [vBox (a, b), vI axis, vI at_] M fun r M' => r = vBBE (cutS (a, b) axis at_) ∧ M' = M := by
  refine a14 (by simp) (SRuns.fresh fun N hN => ?_)
  by_cases hc : CutOk (a, b) axis at_
  · obtain ⟨c1, c2, c3, c4, c5⟩ := hc
    simp only at c3 c4 c5
    have e1 : a.length = b.length := c1.2.2.1
    have e0 : 0 < a.length := c1.1.2.1
    have e2 : a.length ≤ 32 := c1.1.2.2
    have e3 : -1000 ≤ gi b axis.toNat ∧ gi b axis.toNat ≤ 1000 := c1.2.1.bd (by show axis.toNat < b.length; omega)
    have e4 : -1000 ≤ gi a axis.toNat ∧ gi a axis.toNat ≤ 1000 := c1.1.bd (by show axis.toNat < a.length; omega)
    rw [show cutS (a, b) axis at_ = ((a, upd b axis.toNat at_), (upd a axis.toNat (at_ + 1), b), 0) from if_pos ⟨c1, c2, c3, c4, c5⟩]
    repeat' (first
        | (refine caK.go ?_; refine caK.valL (by (repeat' (first | assumption | exact Le.dead _ | exact Le.mkF | exact LeS.nil | exact Les.refl _ | exact LeL.refl _ | exact Le.refl _ | exact Le.ofI (by omega) | exact Le.nil | refine LeS.cons rfl ?_ ?_ | refine Les.cons ?_ ?_ | refine LeL.cons ?_ ?_ | refine Le.agL ?_ | refine Le.tupL ?_ | refine Le.refL ?_ | refine Le.fnL ?_ | refine Le.lit2 rfl ?_ | refine Le.litI rfl ?_)); done) (f24 _ _ (by omega) (by omega) _) ?_)
        | (refine caF.go ?_; refine caF.valL (by (repeat' (first | assumption | exact Le.dead _ | exact Le.mkF | exact LeS.nil | exact Les.refl _ | exact LeL.refl _ | exact Le.refl _ | exact Le.ofI (by omega) | exact Le.nil | refine LeS.cons rfl ?_ ?_ | refine Les.cons ?_ ?_ | refine LeL.cons ?_ ?_ | refine Le.agL ?_ | refine Le.tupL ?_ | refine Le.refL ?_ | refine Le.fnL ?_ | refine Le.lit2 rfl ?_ | refine Le.litI rfl ?_)); done) (fun M2 => f24 _ _ (by omega) (by omega) M2) ?_)
        | refine FR.at (n := 45) N ?_ (fun j => if j = 3 then [N + 737] else if j = 4 then [N + 737] else if j = 7 then [N + 737, N + 740] else []) ?_
        | refine FR.at (n := 52) N ?_ (fun j => if j = 3 then [N + 758] else if j = 4 then [N + 758] else if j = 7 then [N + 758, N + 761] else []) ?_
        | refine FR.at (n := 59) N ?_ (fun j => if j = 3 then [N + 740] else if j = 4 then [N + 740] else if j = 5 then [N + 740] else if j = 7 then [N + 740] else if j = 8 then [N + 740] else []) ?_
        | refine FR.at (n := 70) N ?_ (fun j => if j = 1 then [N + 6] else []) ?_
        | (refine caF.go ?_; refine caF.newL (by (repeat' (first | assumption | exact Le.dead _ | exact Le.mkF | exact LeS.nil | exact Les.refl _ | exact LeL.refl _ | exact Le.refl _ | exact Le.ofI (by omega) | exact Le.nil | refine LeS.cons rfl ?_ ?_ | refine Les.cons ?_ ?_ | refine LeL.cons ?_ ?_ | refine Le.agL ?_ | refine Le.tupL ?_ | refine Le.refL ?_ | refine Le.fnL ?_ | refine Le.lit2 rfl ?_ | refine Le.litI rfl ?_)); done) (fun M2 g hg => f47o _ (by omega) (by omega) M2 g hg) ?_)
        | refine KR.go ?_ | refine SRuns.seq ?_ | refine SRuns.reg ?_ | refine SRuns.block ?_ | refine SRuns.skip ?_ | refine SRuns.inBlock ?_ | refine SRuns.exit rfl ?_
        | refine SRuns.ret (EEnd.of rfl ?_) | refine SRuns.fin (EEnd.of rfl ?_)
        | refine SRuns.ret (EEnd.of1 rfl ?_ ?_) | refine SRuns.fin (EEnd.of1 rfl ?_ ?_)
        | refine SRuns.free ?_
        | refine FR.at N ?_ (fun _ => []) ?_ | refine NewK.at N ?_ ?_ | exact fun i => hN _ (by omega)
        | refine gdD_t (fun h => ?_) (fun h => ?_) | refine gdD_f (fun h => ?_) (fun h => ?_) | refine gdK_split (fun h => ?_) (fun h => ?_)
        | refine fgD_t (fun h => ?_) (fun h => ?_) | refine fgD_f (fun h => ?_) (fun h => ?_) | refine fgK_split (fun h => ?_) (fun h => ?_)
        | refine SRuns.condNil rfl (fun h => ?_) ?_ | refine SRuns.condT rfl ?_ | refine SRuns.condF rfl ?_ | refine SRuns.condD rfl (fun h => ?_) (fun h => ?_) | refine SRuns.cond rfl (fun h => ?_) (fun h => ?_)
        | simp (disch := omega) only [go_sem, vIs, vBox, hN, c1, ↓reduceIte, Nat.reduceAdd, Nat.reduceMul, Nat.reduceEqDiff, Nat.reduceLT, Nat.reduceLeDiff, Nat.reduceBEq, Int.toNat_natCast, true_or, or_true, Int.toNat_zero, Int.toNat_one, Bool.true_or, Bool.or_true, Bool.or_false, Bool.false_or, List.size_toArray, not_true_eq_false, not_false_eq_true, decide_true, decide_false, and_self]
        | (refine DoneF.rawv N hN ?_ ⟨?_, rfl⟩; (focus ((first | exact fun _ _ => rfl | (intro g hg; simp (disch := omega) only [go_sem])); done)))
        | (refine DoneF.done (Done.keep N hN ?_ ?_ ⟨rfl, rfl⟩); (focus ((first | exact fun _ _ => rfl | (intro g hg; simp (disch := omega) only [go_sem])); done)); (focus ((repeat' (first | exact trivial | exact CloL.nil | exact Clo.vIs | exact Clo.vIss | exact Clo.slv | exact CloB.rowI | exact Clo.slI | refine CloL.cons ?_ ?_ | refine Clo.agL ?_ | refine Clo.tupL ?_ | refine Clo.refL ?_ | refine Clo.fnL ?_ | refine CloB.cellsL ?_)); done)))
        | exact DoneF.all ⟨rfl, rfl⟩ | refine And.intro (by omega) ?_ | (exfalso; omega) | contradiction
        | fail)
    have hb : Le (.sl b.length 1 fun i' j => if i' = axis.toNat then ovr (fun _ => vI (gi b axis.toNat)) 0 [vI at_] j else vI (gi b i')) (vIs (upd b axis.toNat at_)) := Le.vIs_of (by simp [upd]) fun i hi => by
      unfold upd; rw [gi_mkL hi]; by_cases e : i = axis.toNat <;> simp [e, ovr]
    have ha : Le (.sl a.length 1 fun i' j => if i' = axis.toNat then ovr (fun _ => vI (gi a axis.toNat)) 0 [vI (at_ + 1)] j else vI (gi a i')) (vIs (upd a axis.toNat (at_ + 1))) := Le.vIs_of (by simp [upd]) fun i hi => by
      unfold upd; rw [gi_mkL hi]; by_cases e : i = axis.toNat <;> simp [e, ovr]
    refine DoneF.frz (N + 735 + 2) 3 a.length 1 (fun i _ => vI (gi a i)) (by simp (disch := omega) only [go_sem]) ?_
    refine DoneF.frz (N + 735 + 5) 3 b.length 1 (fun i' j => if i' = axis.toNat then ovr (fun _ => vI (gi b axis.toNat)) 0 [vI at_] j else vI (gi b i')) (by simp (disch := omega) only [go_sem]) ?_
    simp (disch := omega) only [go_sem]
    refine .le (.tup 3 (lst [.ag 2 (lst [vIs a, vIs (upd b axis.toNat at_)]), .ag 2 (lst [.own (N + 756 + 2) a.length 1, .own (N + 756 + 5) b.length 1]), vI 0])) (by (repeat' (first | assumption | exact Le.dead _ | exact Le.mkF | exact LeS.nil | exact Les.refl _ | exact LeL.refl _ | exact Le.refl _ | exact Le.ofI (by omega) | exact Le.nil | refine LeS.cons rfl ?_ ?_ | refine Les.cons ?_ ?_ | refine LeL.cons ?_ ?_ | refine Le.agL ?_ | refine Le.tupL ?_ | refine Le.refL ?_ | refine Le.fnL ?_ | refine Le.lit2 rfl ?_ | refine Le.litI rfl ?_)); done) ?_
    refine DoneF.frz (N + 756 + 2) 3 a.length 1 (fun i' j => if i' = axis.toNat then ovr (fun _ => vI (gi a axis.toNat)) 0 [vI (at_ + 1)] j else vI (gi a i')) (by simp (disch := omega) only [go_sem]) ?_
    simp (disch := omega) only [go_sem]
    refine .le (.tup 3 (lst [.ag 2 (lst [vIs a, vIs (upd b axis.toNat at_)]), .ag 2 (lst [vIs (upd a axis.toNat (at_ + 1)), .own (N + 756 + 5) b.length 1]), vI 0])) (by (repeat' (first | assumption | exact Le.dead _ | exact Le.mkF | exact LeS.nil | exact Les.refl _ | exact LeL.refl _ | exact Le.refl _ | exact Le.ofI (by omega) | exact Le.nil | refine LeS.cons rfl ?_ ?_ | refine Les.cons ?_ ?_ | refine LeL.cons ?_ ?_ | refine Le.agL ?_ | refine Le.tupL ?_ | refine Le.refL ?_ | refine Le.fnL ?_ | refine Le.lit2 rfl ?_ | refine Le.litI rfl ?_)); done) ?_
    refine DoneF.frz (N + 756 + 5) 3 b.length 1 (fun i _ => vI (gi b i)) (by simp (disch := omega) only [go_sem]) ?_
    simp (disch := omega) only [go_sem]
    exact .le (vBBE ((a, upd b axis.toNat at_), (upd a axis.toNat (at_ + 1), b), 0)) (by (repeat' (first | assumption | exact Le.dead _ | exact Le.mkF | exact LeS.nil | exact Les.refl _ | exact LeL.refl _ | exact Le.refl _ | exact Le.ofI (by omega) | exact Le.nil | refine LeS.cons rfl ?_ ?_ | refine Les.cons ?_ ?_ | refine LeL.cons ?_ ?_ | refine Le.agL ?_ | refine Le.tupL ?_ | refine Le.refL ?_ | refine Le.fnL ?_ | refine Le.lit2 rfl ?_ | refine Le.litI rfl ?_)); done) (.done (Done.keep N hN (by first | exact fun _ _ => rfl | (intro g hg; simp (disch := omega) only [go_sem]; done)) (by (repeat' (first | exact trivial | exact CloL.nil | exact Clo.vIs | exact Clo.vIss | exact Clo.slv | exact CloB.rowI | exact Clo.slI | refine CloL.cons ?_ ?_ | refine Clo.agL ?_ | refine Clo.tupL ?_ | refine Clo.refL ?_ | refine Clo.fnL ?_ | refine CloB.cellsL ?_)); done) ⟨rfl, rfl⟩))
  · rw [show cutS (a, b) axis at_ = (([], []), ([], []), 1) from if_neg hc]
    by_cases hv : Valid (a, b)
    · have e1 : a.length = b.length := hv.2.2.1
      have hc' : ¬ (0 ≤ axis ∧ axis < a.length ∧ gi a axis.toNat ≤ at_ ∧ at_ < gi b axis.toNat) := fun h => hc ⟨hv, h⟩
      repeat' (first
          | (refine caK.go ?_; refine caK.valL (by (repeat' (first | assumption | exact Le.dead _ | exact Le.mkF | exact LeS.nil | exact Les.refl _ | exact LeL.refl _ | exact Le.refl _ | exact Le.ofI (by omega) | exact Le.nil | refine LeS.cons rfl ?_ ?_ | refine Les.cons ?_ ?_ | refine LeL.cons ?_ ?_ | refine Le.agL ?_ | refine Le.tupL ?_ | refine Le.refL ?_ | refine Le.fnL ?_ | refine Le.lit2 rfl ?_ | refine Le.litI rfl ?_)); done) (f24 _ _ (by omega) (by omega) _) ?_)
          | (refine caF.go ?_; refine caF.valL (by (repeat' (first | assumption | exact Le.dead _ | exact Le.mkF | exact LeS.nil | exact Les.refl _ | exact LeL.refl _ | exact Le.refl _ | exact Le.ofI (by omega) | exact Le.nil | refine LeS.cons rfl ?_ ?_ | refine Les.cons ?_ ?_ | refine LeL.cons ?_ ?_ | refine Le.agL ?_ | refine Le.tupL ?_ | refine Le.refL ?_ | refine Le.fnL ?_ | refine Le.lit2 rfl ?_ | refine Le.litI rfl ?_)); done) (fun M2 => f24 _ _ (by omega) (by omega) M2) ?_)
          | refine KR.go ?_ | refine SRuns.seq ?_ | refine SRuns.reg ?_ | refine SRuns.block ?_ | refine SRuns.skip ?_ | refine SRuns.inBlock ?_ | refine SRuns.exit rfl ?_
          | refine SRuns.ret (EEnd.of rfl ?_) | refine SRuns.fin (EEnd.of rfl ?_)
          | refine SRuns.ret (EEnd.of1 rfl ?_ ?_) | refine SRuns.fin (EEnd.of1 rfl ?_ ?_)
          | refine SRuns.free ?_
          | refine FR.at N ?_ (fun _ => []) ?_ | refine NewK.at N ?_ ?_ | exact fun i => hN _ (by omega)
          | refine gdD_t (fun h => ?_) (fun h => ?_) | refine gdD_f (fun h => ?_) (fun h => ?_) | refine gdK_split (fun h => ?_) (fun h => ?_)
          | refine fgD_t (fun h => ?_) (fun h => ?_) | refine fgD_f (fun h => ?_) (fun h => ?_) | refine fgK_split (fun h => ?_) (fun h => ?_)
          | refine SRuns.condNil rfl (fun h => ?_) ?_ | refine SRuns.condT rfl ?_ | refine SRuns.condF rfl ?_ | refine SRuns.condD rfl (fun h => ?_) (fun h => ?_) | refine SRuns.cond rfl (fun h => ?_) (fun h => ?_)
          | simp (disch := omega) only [go_sem, vIs, vBox, hN, hv, ↓reduceIte, Nat.reduceAdd, Nat.reduceMul, Nat.reduceEqDiff, Nat.reduceLT, Nat.reduceLeDiff, Nat.reduceBEq, Int.toNat_natCast, true_or, or_true, Int.toNat_zero, Int.toNat_one, Bool.true_or, Bool.or_true, Bool.or_false, Bool.false_or, List.size_toArray, not_true_eq_false, not_false_eq_true, decide_true, decide_false, and_self]
          | (refine DoneF.rawv N hN ?_ ⟨?_, rfl⟩; (focus ((first | exact fun _ _ => rfl | (intro g hg; simp (disch := omega) only [go_sem])); done)))
          | (refine DoneF.done (Done.keep N hN ?_ ?_ ⟨rfl, rfl⟩); (focus ((first | exact fun _ _ => rfl | (intro g hg; simp (disch := omega) only [go_sem])); done)); (focus ((repeat' (first | exact trivial | exact CloL.nil | exact Clo.vIs | exact Clo.vIss | exact Clo.slv | exact CloB.rowI | exact Clo.slI | refine CloL.cons ?_ ?_ | refine Clo.agL ?_ | refine Clo.tupL ?_ | refine Clo.refL ?_ | refine Clo.fnL ?_ | refine CloB.cellsL ?_)); done)))
          | exact DoneF.all ⟨rfl, rfl⟩ | refine And.intro (by omega) ?_ | (exfalso; omega) | contradiction
          | fail)
      all_goals (exact .le (.tup 3 (lst [vBox ([], []), vBox ([], []), vI 1])) (by (repeat' (first | assumption | exact Le.dead _ | exact Le.mkF | exact LeS.nil | exact Les.refl _ | exact LeL.refl _ | exact Le.refl _ | exact Le.ofI (by omega) | exact Le.nil | refine LeS.cons rfl ?_ ?_ | refine Les.cons ?_ ?_ | refine LeL.cons ?_ ?_ | refine Le.agL ?_ | refine Le.tupL ?_ | refine Le.refL ?_ | refine Le.fnL ?_ | refine Le.lit2 rfl ?_ | refine Le.litI rfl ?_)); done) (.done (Done.keep N hN (by first | exact fun _ _ => rfl | (intro g hg; simp (disch := omega) only [go_sem]; done)) (by (repeat' (first | exact trivial | exact CloL.nil | exact Clo.vIs | exact Clo.vIss | exact Clo.slv | exact CloB.rowI | exact Clo.slI | refine CloL.cons ?_ ?_ | refine Clo.agL ?_ | refine Clo.tupL ?_ | refine Clo.refL ?_ | refine Clo.fnL ?_ | refine CloB.cellsL ?_)); done) ⟨rfl, rfl⟩)))
    · repeat' (first
          | (refine caK.go ?_; refine caK.valL (by (repeat' (first | assumption | exact Le.dead _ | exact Le.mkF | exact LeS.nil | exact Les.refl _ | exact LeL.refl _ | exact Le.refl _ | exact Le.ofI (by omega) | exact Le.nil | refine LeS.cons rfl ?_ ?_ | refine Les.cons ?_ ?_ | refine LeL.cons ?_ ?_ | refine Le.agL ?_ | refine Le.tupL ?_ | refine Le.refL ?_ | refine Le.fnL ?_ | refine Le.lit2 rfl ?_ | refine Le.litI rfl ?_)); done) (f24 _ _ (by omega) (by omega) _) ?_)
          | (refine caF.go ?_; refine caF.valL (by (repeat' (first | assumption | exact Le.dead _ | exact Le.mkF | exact LeS.nil | exact Les.refl _ | exact LeL.refl _ | exact Le.refl _ | exact Le.ofI (by omega) | exact Le.nil | refine LeS.cons rfl ?_ ?_ | refine Les.cons ?_ ?_ | refine LeL.cons ?_ ?_ | refine Le.agL ?_ | refine Le.tupL ?_ | refine Le.refL ?_ | refine Le.fnL ?_ | refine Le.lit2 rfl ?_ | refine Le.litI rfl ?_)); done) (fun M2 => f24 _ _ (by omega) (by omega) M2) ?_)
          | refine KR.go ?_ | refine SRuns.seq ?_ | refine SRuns.reg ?_ | refine SRuns.block ?_ | refine SRuns.skip ?_ | refine SRuns.inBlock ?_ | refine SRuns.exit rfl ?_
          | refine SRuns.ret (EEnd.of rfl ?_) | refine SRuns.fin (EEnd.of rfl ?_)
          | refine SRuns.ret (EEnd.of1 rfl ?_ ?_) | refine SRuns.fin (EEnd.of1 rfl ?_ ?_)
          | refine SRuns.free ?_
          | refine FR.at N ?_ (fun _ => []) ?_ | refine NewK.at N ?_ ?_ | exact fun i => hN _ (by omega)
          | refine gdD_t (fun h => ?_) (fun h => ?_) | refine gdD_f (fun h => ?_) (fun h => ?_) | refine gdK_split (fun h => ?_) (fun h => ?_)
          | refine fgD_t (fun h => ?_) (fun h => ?_) | refine fgD_f (fun h => ?_) (fun h => ?_) | refine fgK_split (fun h => ?_) (fun h => ?_)
          | refine SRuns.condNil rfl (fun h => ?_) ?_ | refine SRuns.condT rfl ?_ | refine SRuns.condF rfl ?_ | refine SRuns.condD rfl (fun h => ?_) (fun h => ?_) | refine SRuns.cond rfl (fun h => ?_) (fun h => ?_)
          | simp (disch := omega) only [go_sem, vIs, vBox, hN, hv, ↓reduceIte, Nat.reduceAdd, Nat.reduceMul, Nat.reduceEqDiff, Nat.reduceLT, Nat.reduceLeDiff, Nat.reduceBEq, Int.toNat_natCast, true_or, or_true, Int.toNat_zero, Int.toNat_one, Bool.true_or, Bool.or_true, Bool.or_false, Bool.false_or, List.size_toArray, not_true_eq_false, not_false_eq_true, decide_true, decide_false, and_self]
          | (refine DoneF.rawv N hN ?_ ⟨?_, rfl⟩; (focus ((first | exact fun _ _ => rfl | (intro g hg; simp (disch := omega) only [go_sem])); done)))
          | (refine DoneF.done (Done.keep N hN ?_ ?_ ⟨rfl, rfl⟩); (focus ((first | exact fun _ _ => rfl | (intro g hg; simp (disch := omega) only [go_sem])); done)); (focus ((repeat' (first | exact trivial | exact CloL.nil | exact Clo.vIs | exact Clo.vIss | exact Clo.slv | exact CloB.rowI | exact Clo.slI | refine CloL.cons ?_ ?_ | refine Clo.agL ?_ | refine Clo.tupL ?_ | refine Clo.refL ?_ | refine Clo.fnL ?_ | refine CloB.cellsL ?_)); done)))
          | exact DoneF.all ⟨rfl, rfl⟩ | refine And.intro (by omega) ?_ | (exfalso; omega) | contradiction
          | fail)
      exact .le (.tup 3 (lst [vBox ([], []), vBox ([], []), vI 1])) (by (repeat' (first | assumption | exact Le.dead _ | exact Le.mkF | exact LeS.nil | exact Les.refl _ | exact LeL.refl _ | exact Le.refl _ | exact Le.ofI (by omega) | exact Le.nil | refine LeS.cons rfl ?_ ?_ | refine Les.cons ?_ ?_ | refine LeL.cons ?_ ?_ | refine Le.agL ?_ | refine Le.tupL ?_ | refine Le.refL ?_ | refine Le.fnL ?_ | refine Le.lit2 rfl ?_ | refine Le.litI rfl ?_)); done) (.done (Done.keep N hN (by first | exact fun _ _ => rfl | (intro g hg; simp (disch := omega) only [go_sem]; done)) (by (repeat' (first | exact trivial | exact CloL.nil | exact Clo.vIs | exact Clo.vIss | exact Clo.slv | exact CloB.rowI | exact Clo.slI | refine CloL.cons ?_ ?_ | refine Clo.agL ?_ | refine Clo.tupL ?_ | refine Clo.refL ?_ | refine Clo.fnL ?_ | refine CloB.cellsL ?_)); done) ⟨rfl, rfl⟩))
/-- the place of the first widest coordinate -/
def wide (x : Bx) : List Int := zipS (fun hi lo => hi - lo) x.2 x.1
def IsAxis (x : Bx) (k : Nat) : Prop := k < x.1.length ∧ (∀ i, i < x.1.length → gi (wide x) i ≤ gi (wide x) k) ∧ ∀ i, i < k → gi (wide x) i ≠ gi (wide x) k
theorem maxA_spec (l : List Int) : ∀ n, (∃ k, k ≤ n ∧ gi l k = maxA l n) ∧ ∀ i, i ≤ n → gi l i ≤ maxA l n
  | 0 => ⟨⟨0, Nat.le_refl _, rfl⟩, fun i hi => (by
    have e : i = 0 := by omega
    rw [e]; exact Int.le_refl _)⟩
  | n + 1 => by
    obtain ⟨⟨k, h1, h2⟩, h3⟩ := maxA_spec l n
    simp only [maxA]
    refine ⟨?_, fun i hi => ?_⟩
    · by_cases h : maxA l n ≤ gi l (n + 1)
      · exact ⟨n + 1, Nat.le_refl _, by omega⟩
      · exact ⟨k, by omega, by omega⟩
    · by_cases e : i = n + 1
      · subst e; omega
      · have := h3 i (by omega); omega
theorem first_of {l : List Int} {x : Int} {n : Nat} : (∃ k, k < n ∧ gi l k = x) → ∃ k, k < n ∧ gi l k = x ∧ ∀ i, i < k → gi l i ≠ x := by
  rintro ⟨k, h1, h2⟩
  induction k using Nat.strongRecOn with
  | _ k ih =>
    by_cases h : ∃ i, i < k ∧ gi l i = x
    · obtain ⟨i, h3, h4⟩ := h
      exact ih i h3 (by omega) h4
    · exact ⟨k, h1, h2, fun i hi e => h ⟨i, hi, e⟩⟩
theorem axis_ex {x : Bx} (h : Valid x) : ∃ k, IsAxis x k ∧ gi (wide x) k = maxA (wide x) ((wide x).length - 1) := by
  have h0 : 0 < x.1.length := h.1.2.1
  have e1 : x.1.length = x.2.length := h.2.2.1
  have el : (wide x).length = x.1.length := by simp [wide, zipS, e1]
  obtain ⟨⟨k, h1, h2⟩, h3⟩ := maxA_spec (wide x) ((wide x).length - 1)
  obtain ⟨k, h4, h5, h6⟩ := first_of (l := wide x) (n := x.1.length) ⟨k, by omega, h2⟩
  exact ⟨k, ⟨h4, fun i hi => by rw [h5]; exact h3 i (by omega), fun i hi => by rw [h5]; exact h6 i hi⟩, h5⟩
theorem axis_un {x : Bx} {j k : Nat} (h : IsAxis x j) (h' : IsAxis x k) : j = k := by
  obtain ⟨a1, a2, a3⟩ := h
  obtain ⟨b1, b2, b3⟩ := h'
  have c1 := a2 k b1
  have c2 := b2 j a1
  have e : gi (wide x) j = gi (wide x) k := by omega
  rcases Nat.lt_trichotomy j k with h | h | h
  · exact absurd e (b3 j h)
  · exact h
  · exact absurd e.symm (a3 k h)
def spR (x : Bx) (k : Nat) : AV := if gi (wide x) k = 0 then .tup 3 (lst [vI 0, vI 0, vI 4]) else .tup 3 (lst [vI k, vI (gi x.1 k + (gi (wide x) k).tdiv 2), vI 0])
theorem f15 (a b : List Int) (h1 : a.length < 2 ^ 40) (h2 : b.length < 2 ^ 40) (hv : Valid (a, b)) (k : Nat) (hk : IsAxis (a, b) k) (M : Mem) : ACalls Try.prog 15 [vBox (a, b)] M fun r M' => r = spR (a, b) k ∧ M' = M := by
  refine a15 (by simp) (SRuns.fresh fun N hN => ?_)
  obtain ⟨k', hk', hm⟩ := axis_ex hv
  obtain rfl := axis_un hk hk'
  have e1 : a.length = b.length := hv.2.2.1
  have e2 : 0 < a.length := hv.1.2.1
  have e3 : a.length ≤ 32 := hv.1.2.2
  have el : (wide (a, b)).length = b.length := by simp [wide, zipS]
  have e4 : k < a.length := hk.1
  have bd : ∀ i, i < a.length → (-1000 ≤ gi a i ∧ gi a i ≤ 1000) ∧ (-1000 ≤ gi b i ∧ gi b i ≤ 1000) := fun i hi => ⟨hv.1.bd hi, hv.2.1.bd (i := i) (by show i < b.length; omega)⟩
  have bw : ∀ i, i < a.length → gi (wide (a, b)) i = gi b i - gi a i := fun i hi => by unfold wide zipS; rw [gi_mkL (by show i < b.length; omega)]
  have bk := bd k e4
  have bwk := bw k e4
  have H48 : ∀ M, ACalls Try.prog 48 [vIs b, vIs a, .fn (.func 49) 0 fun _ => .dead] M fun r M' => r = vIs (wide (a, b)) ∧ M' = M := fun M => f48g b a (by omega) (by omega) (by omega) 49 (fun i => gi b i - gi a i) (fun i hi M => f49 _ _ (by have := bd i (by omega); omega) (by have := bd i (by omega); omega) M) M
  by_cases hz : gi (wide (a, b)) k = 0
  · rw [show spR (a, b) k = .tup 3 (lst [vI 0, vI 0, vI 4]) from if_pos hz]
    repeat' (first
        | (refine caK.go ?_; refine caK.valL (by (repeat' (first | assumption | exact Le.dead _ | exact Le.mkF | exact LeS.nil | exact Les.refl _ | exact LeL.refl _ | exact Le.refl _ | exact Le.ofI (by omega) | exact Le.nil | refine LeS.cons rfl ?_ ?_ | refine Les.cons ?_ ?_ | refine LeL.cons ?_ ?_ | refine Le.agL ?_ | refine Le.tupL ?_ | refine Le.refL ?_ | refine Le.fnL ?_ | refine Le.lit2 rfl ?_ | refine Le.litI rfl ?_)); done) (f24 _ _ (by omega) (by omega) _) ?_)
        | (refine caF.go ?_; refine caF.valL (by (repeat' (first | assumption | exact Le.dead _ | exact Le.mkF | exact LeS.nil | exact Les.refl _ | exact LeL.refl _ | exact Le.refl _ | exact Le.ofI (by omega) | exact Le.nil | refine LeS.cons rfl ?_ ?_ | refine Les.cons ?_ ?_ | refine LeL.cons ?_ ?_ | refine Le.agL ?_ | refine Le.tupL ?_ | refine Le.refL ?_ | refine Le.fnL ?_ | refine Le.lit2 rfl ?_ | refine Le.litI rfl ?_)); done) (fun M2 => f24 _ _ (by omega) (by omega) M2) ?_)
        | (refine caK.go ?_; refine caK.valL (by (repeat' (first | assumption | exact Le.dead _ | exact Le.mkF | exact LeS.nil | exact Les.refl _ | exact LeL.refl _ | exact Le.refl _ | exact Le.ofI (by omega) | exact Le.nil | refine LeS.cons rfl ?_ ?_ | refine Les.cons ?_ ?_ | refine LeL.cons ?_ ?_ | refine Le.agL ?_ | refine Le.tupL ?_ | refine Le.refL ?_ | refine Le.fnL ?_ | refine Le.lit2 rfl ?_ | refine Le.litI rfl ?_)); done) (H48 _) ?_)
        | (refine caF.go ?_; refine caF.valL (by (repeat' (first | assumption | exact Le.dead _ | exact Le.mkF | exact LeS.nil | exact Les.refl _ | exact LeL.refl _ | exact Le.refl _ | exact Le.ofI (by omega) | exact Le.nil | refine LeS.cons rfl ?_ ?_ | refine Les.cons ?_ ?_ | refine LeL.cons ?_ ?_ | refine Le.agL ?_ | refine Le.tupL ?_ | refine Le.refL ?_ | refine Le.fnL ?_ | refine Le.lit2 rfl ?_ | refine Le.litI rfl ?_)); done) (fun M2 => H48 M2) ?_)
        | (refine caK.go ?_; refine caK.valL (by (repeat' (first | assumption | exact Le.dead _ | exact Le.mkF | exact LeS.nil | exact Les.refl _ | exact LeL.refl _ | exact Le.refl _ | exact Le.ofI (by omega) | exact Le.nil | refine LeS.cons rfl ?_ ?_ | refine Les.cons ?_ ?_ | refine LeL.cons ?_ ?_ | refine Le.agL ?_ | refine Le.tupL ?_ | refine Le.refL ?_ | refine Le.fnL ?_ | refine Le.lit2 rfl ?_ | refine Le.litI rfl ?_)); done) (f51 (wide (a, b)) (by omega) (by omega) _) ?_)
        | (refine caF.go ?_; refine caF.valL (by (repeat' (first | assumption | exact Le.dead _ | exact Le.mkF | exact LeS.nil | exact Les.refl _ | exact LeL.refl _ | exact Le.refl _ | exact Le.ofI (by omega) | exact Le.nil | refine LeS.cons rfl ?_ ?_ | refine Les.cons ?_ ?_ | refine LeL.cons ?_ ?_ | refine Le.agL ?_ | refine Le.tupL ?_ | refine Le.refL ?_ | refine Le.fnL ?_ | refine Le.lit2 rfl ?_ | refine Le.litI rfl ?_)); done) (fun M2 => f51 (wide (a, b)) (by omega) (by omega) M2) ?_)
        | (refine caK.go ?_; refine caK.valL (by (repeat' (first | assumption | exact Le.dead _ | exact Le.mkF | exact LeS.nil | exact Les.refl _ | exact LeL.refl _ | exact Le.refl _ | exact Le.ofI (by omega) | exact Le.nil | refine LeS.cons rfl ?_ ?_ | refine Les.cons ?_ ?_ | refine LeL.cons ?_ ?_ | refine Le.agL ?_ | refine Le.tupL ?_ | refine Le.refL ?_ | refine Le.fnL ?_ | refine Le.lit2 rfl ?_ | refine Le.litI rfl ?_)); done) (f50 (wide (a, b)) _ (by omega) k (by omega) hm (fun i hi e => hk.2.2 i hi (by rw [e, hm])) _) ?_)
        | (refine caF.go ?_; refine caF.valL (by (repeat' (first | assumption | exact Le.dead _ | exact Le.mkF | exact LeS.nil | exact Les.refl _ | exact LeL.refl _ | exact Le.refl _ | exact Le.ofI (by omega) | exact Le.nil | refine LeS.cons rfl ?_ ?_ | refine Les.cons ?_ ?_ | refine LeL.cons ?_ ?_ | refine Le.agL ?_ | refine Le.tupL ?_ | refine Le.refL ?_ | refine Le.fnL ?_ | refine Le.lit2 rfl ?_ | refine Le.litI rfl ?_)); done) (fun M2 => f50 (wide (a, b)) _ (by omega) k (by omega) hm (fun i hi e => hk.2.2 i hi (by rw [e, hm])) M2) ?_)
        | refine KR.go ?_ | refine SRuns.seq ?_ | refine SRuns.reg ?_ | refine SRuns.block ?_ | refine SRuns.skip ?_ | refine SRuns.inBlock ?_ | refine SRuns.exit rfl ?_
        | refine SRuns.ret (EEnd.of rfl ?_) | refine SRuns.fin (EEnd.of rfl ?_)
        | refine SRuns.ret (EEnd.of1 rfl ?_ ?_) | refine SRuns.fin (EEnd.of1 rfl ?_ ?_)
        | refine SRuns.free ?_
        | refine FR.at N ?_ (fun _ => []) ?_ | refine NewK.at N ?_ ?_ | exact fun i => hN _ (by omega)
        | refine gdD_t (fun h => ?_) (fun h => ?_) | refine gdD_f (fun h => ?_) (fun h => ?_) | refine gdK_split (fun h => ?_) (fun h => ?_)
        | refine fgD_t (fun h => ?_) (fun h => ?_) | refine fgD_f (fun h => ?_) (fun h => ?_) | refine fgK_split (fun h => ?_) (fun h => ?_)
        | refine SRuns.condNil rfl (fun h => ?_) ?_ | refine SRuns.condT rfl ?_ | refine SRuns.condF rfl ?_ | refine SRuns.condD rfl (fun h => ?_) (fun h => ?_) | refine SRuns.cond rfl (fun h => ?_) (fun h => ?_)
        | simp (disch := omega) only [go_sem, vIs, vBox, hN, hv, ↓reduceIte, Nat.reduceAdd, Nat.reduceMul, Nat.reduceEqDiff, Nat.reduceLT, Nat.reduceLeDiff, Nat.reduceBEq, Int.toNat_natCast, true_or, or_true, Int.toNat_zero, Int.toNat_one, Bool.true_or, Bool.or_true, Bool.or_false, Bool.false_or, List.size_toArray, not_true_eq_false, not_false_eq_true, decide_true, decide_false, and_self]
        | (refine DoneF.rawv N hN ?_ ⟨?_, rfl⟩; (focus ((first | exact fun _ _ => rfl | (intro g hg; simp (disch := omega) only [go_sem])); done)))
        | (refine DoneF.done (Done.keep N hN ?_ ?_ ⟨rfl, rfl⟩); (focus ((first | exact fun _ _ => rfl | (intro g hg; simp (disch := omega) only [go_sem])); done)); (focus ((repeat' (first | exact trivial | exact CloL.nil | exact Clo.vIs | exact Clo.vIss | exact Clo.slv | exact CloB.rowI | exact Clo.slI | refine CloL.cons ?_ ?_ | refine Clo.agL ?_ | refine Clo.tupL ?_ | refine Clo.refL ?_ | refine Clo.fnL ?_ | refine CloB.cellsL ?_)); done)))
        | exact DoneF.all ⟨rfl, rfl⟩ | refine And.intro (by omega) ?_ | (exfalso; omega) | contradiction
        | fail)
  · rw [show spR (a, b) k = .tup 3 (lst [vI k, vI (gi a k + (gi (wide (a, b)) k).tdiv 2), vI 0]) from if_neg hz]
    have ht : -2000 ≤ (gi (wide (a, b)) k).tdiv 2 ∧ (gi (wide (a, b)) k).tdiv 2 ≤ 2000 := by
      have h0 : 0 ≤ gi (wide (a, b)) k := by have := hv.2.2.2 k e4; simp only at this; omega
      rw [Int.tdiv_eq_ediv_of_nonneg h0]; omega
    repeat' (first
        | (refine caK.go ?_; refine caK.valL (by (repeat' (first | assumption | exact Le.dead _ | exact Le.mkF | exact LeS.nil | exact Les.refl _ | exact LeL.refl _ | exact Le.refl _ | exact Le.ofI (by omega) | exact Le.nil | refine LeS.cons rfl ?_ ?_ | refine Les.cons ?_ ?_ | refine LeL.cons ?_ ?_ | refine Le.agL ?_ | refine Le.tupL ?_ | refine Le.refL ?_ | refine Le.fnL ?_ | refine Le.lit2 rfl ?_ | refine Le.litI rfl ?_)); done) (f24 _ _ (by omega) (by omega) _) ?_)
        | (refine caF.go ?_; refine caF.valL (by (repeat' (first | assumption | exact Le.dead _ | exact Le.mkF | exact LeS.nil | exact Les.refl _ | exact LeL.refl _ | exact Le.refl _ | exact Le.ofI (by omega) | exact Le.nil | refine LeS.cons rfl ?_ ?_ | refine Les.cons ?_ ?_ | refine LeL.cons ?_ ?_ | refine Le.agL ?_ | refine Le.tupL ?_ | refine Le.refL ?_ | refine Le.fnL ?_ | refine Le.lit2 rfl ?_ | refine Le.litI rfl ?_)); done) (fun M2 => f24 _ _ (by omega) (by omega) M2) ?_)
        | (refine caK.go ?_; refine caK.valL (by (repeat' (first | assumption | exact Le.dead _ | exact Le.mkF | exact LeS.nil | exact Les.refl _ | exact LeL.refl _ | exact Le.refl _ | exact Le.ofI (by omega) | exact Le.nil | refine LeS.cons rfl ?_ ?_ | refine Les.cons ?_ ?_ | refine LeL.cons ?_ ?_ | refine Le.agL ?_ | refine Le.tupL ?_ | refine Le.refL ?_ | refine Le.fnL ?_ | refine Le.lit2 rfl ?_ | refine Le.litI rfl ?_)); done) (H48 _) ?_)
        | (refine caF.go ?_; refine caF.valL (by (repeat' (first | assumption | exact Le.dead _ | exact Le.mkF | exact LeS.nil | exact Les.refl _ | exact LeL.refl _ | exact Le.refl _ | exact Le.ofI (by omega) | exact Le.nil | refine LeS.cons rfl ?_ ?_ | refine Les.cons ?_ ?_ | refine LeL.cons ?_ ?_ | refine Le.agL ?_ | refine Le.tupL ?_ | refine Le.refL ?_ | refine Le.fnL ?_ | refine Le.lit2 rfl ?_ | refine Le.litI rfl ?_)); done) (fun M2 => H48 M2) ?_)
        | (refine caK.go ?_; refine caK.valL (by (repeat' (first | assumption | exact Le.dead _ | exact Le.mkF | exact LeS.nil | exact Les.refl _ | exact LeL.refl _ | exact Le.refl _ | exact Le.ofI (by omega) | exact Le.nil | refine LeS.cons rfl ?_ ?_ | refine Les.cons ?_ ?_ | refine LeL.cons ?_ ?_ | refine Le.agL ?_ | refine Le.tupL ?_ | refine Le.refL ?_ | refine Le.fnL ?_ | refine Le.lit2 rfl ?_ | refine Le.litI rfl ?_)); done) (f51 (wide (a, b)) (by omega) (by omega) _) ?_)
        | (refine caF.go ?_; refine caF.valL (by (repeat' (first | assumption | exact Le.dead _ | exact Le.mkF | exact LeS.nil | exact Les.refl _ | exact LeL.refl _ | exact Le.refl _ | exact Le.ofI (by omega) | exact Le.nil | refine LeS.cons rfl ?_ ?_ | refine Les.cons ?_ ?_ | refine LeL.cons ?_ ?_ | refine Le.agL ?_ | refine Le.tupL ?_ | refine Le.refL ?_ | refine Le.fnL ?_ | refine Le.lit2 rfl ?_ | refine Le.litI rfl ?_)); done) (fun M2 => f51 (wide (a, b)) (by omega) (by omega) M2) ?_)
        | (refine caK.go ?_; refine caK.valL (by (repeat' (first | assumption | exact Le.dead _ | exact Le.mkF | exact LeS.nil | exact Les.refl _ | exact LeL.refl _ | exact Le.refl _ | exact Le.ofI (by omega) | exact Le.nil | refine LeS.cons rfl ?_ ?_ | refine Les.cons ?_ ?_ | refine LeL.cons ?_ ?_ | refine Le.agL ?_ | refine Le.tupL ?_ | refine Le.refL ?_ | refine Le.fnL ?_ | refine Le.lit2 rfl ?_ | refine Le.litI rfl ?_)); done) (f50 (wide (a, b)) _ (by omega) k (by omega) hm (fun i hi e => hk.2.2 i hi (by rw [e, hm])) _) ?_)
        | (refine caF.go ?_; refine caF.valL (by (repeat' (first | assumption | exact Le.dead _ | exact Le.mkF | exact LeS.nil | exact Les.refl _ | exact LeL.refl _ | exact Le.refl _ | exact Le.ofI (by omega) | exact Le.nil | refine LeS.cons rfl ?_ ?_ | refine Les.cons ?_ ?_ | refine LeL.cons ?_ ?_ | refine Le.agL ?_ | refine Le.tupL ?_ | refine Le.refL ?_ | refine Le.fnL ?_ | refine Le.lit2 rfl ?_ | refine Le.litI rfl ?_)); done) (fun M2 => f50 (wide (a, b)) _ (by omega) k (by omega) hm (fun i hi e => hk.2.2 i hi (by rw [e, hm])) M2) ?_)
        | refine KR.go ?_ | refine SRuns.seq ?_ | refine SRuns.reg ?_ | refine SRuns.block ?_ | refine SRuns.skip ?_ | refine SRuns.inBlock ?_ | refine SRuns.exit rfl ?_
        | refine SRuns.ret (EEnd.of rfl ?_) | refine SRuns.fin (EEnd.of rfl ?_)
        | refine SRuns.ret (EEnd.of1 rfl ?_ ?_) | refine SRuns.fin (EEnd.of1 rfl ?_ ?_)
        | refine SRuns.free ?_
        | refine FR.at N ?_ (fun _ => []) ?_ | refine NewK.at N ?_ ?_ | exact fun i => hN _ (by omega)
        | refine gdD_t (fun h => ?_) (fun h => ?_) | refine gdD_f (fun h => ?_) (fun h => ?_) | refine gdK_split (fun h => ?_) (fun h => ?_)
        | refine fgD_t (fun h => ?_) (fun h => ?_) | refine fgD_f (fun h => ?_) (fun h => ?_) | refine fgK_split (fun h => ?_) (fun h => ?_)
        | refine SRuns.condNil rfl (fun h => ?_) ?_ | refine SRuns.condT rfl ?_ | refine SRuns.condF rfl ?_ | refine SRuns.condD rfl (fun h => ?_) (fun h => ?_) | refine SRuns.cond rfl (fun h => ?_) (fun h => ?_)
        | simp (disch := omega) only [go_sem, vIs, vBox, hN, hv, ↓reduceIte, Nat.reduceAdd, Nat.reduceMul, Nat.reduceEqDiff, Nat.reduceLT, Nat.reduceLeDiff, Nat.reduceBEq, Int.toNat_natCast, true_or, or_true, Int.toNat_zero, Int.toNat_one, Bool.true_or, Bool.or_true, Bool.or_false, Bool.false_or, List.size_toArray, not_true_eq_false, not_false_eq_true, decide_true, decide_false, and_self]
        | (refine DoneF.rawv N hN ?_ ⟨?_, rfl⟩; (focus ((first | exact fun _ _ => rfl | (intro g hg; simp (disch := omega) only [go_sem])); done)))
        | (refine DoneF.done (Done.keep N hN ?_ ?_ ⟨rfl, rfl⟩); (focus ((first | exact fun _ _ => rfl | (intro g hg; simp (disch := omega) only [go_sem])); done)); (focus ((repeat' (first | exact trivial | exact CloL.nil | exact Clo.vIs | exact Clo.vIss | exact Clo.slv | exact CloB.rowI | exact Clo.slI | refine CloL.cons ?_ ?_ | refine Clo.agL ?_ | refine Clo.tupL ?_ | refine Clo.refL ?_ | refine Clo.fnL ?_ | refine CloB.cellsL ?_)); done)))
        | exact DoneF.all ⟨rfl, rfl⟩ | refine And.intro (by omega) ?_ | (exfalso; omega) | contradiction
        | fail)
end Go.Proofs.Ytaiinpbaaeemmaa
