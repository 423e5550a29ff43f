import Derived.Test.YtaiinpbaaeemmaaB06c
set_option linter.unusedVariables false
set_option linter.unusedSimpArgs false
set_option maxRecDepth 100000
namespace Go.Proofs.Ytaiinpbaaeemmaa
open Go Go.Av Classical
attribute [local irreducible] SRuns SL FR KR oKS oKF caK caF yaK gdK fgK NewK NewF
theorem f62 (g : Nat) (n d : Int) (hn : 0 ≤ n ∧ n ≤ 1000000000000) (hd : 0 ≤ d ∧ d ≤ 4000) (M : Mem) (hM : M g = some (.cells 3 1 (lst [vI n]))) : ACalls Try.prog 62 [vI d, .ptr g 0] M fun r M' => r = .tup 0 (lst []) ∧ M' = upM M g (.cells 3 1 (lst [vI (n + d)])) := by
  refine a62 (by simp) (SRuns.fresh fun N hN => ?_)
  repeat' (first
      | refine KR.go ?_ | refine SRuns.seq ?_ | refine SRuns.reg ?_ | refine SRuns.block ?_ | refine SRuns.skip ?_ | refine SRuns.inBlock ?_ | refine SRuns.exit rfl ?_
      | refine SRuns.ret (EEnd.of rfl ?_) | refine SRuns.fin (EEnd.of rfl ?_)
      | refine SRuns.ret (EEnd.of1 rfl ?_ ?_) | refine SRuns.fin (EEnd.of1 rfl ?_ ?_)
      | refine SRuns.free ?_
      | refine FR.at N ?_ (fun _ => []) ?_ | refine NewK.at N ?_ ?_ | exact fun i => hN _ (by omega)
      | refine gdD_t (fun h => ?_) (fun h => ?_) | refine gdD_f (fun h => ?_) (fun h => ?_) | refine gdK_split (fun h => ?_) (fun h => ?_)
      | refine fgD_t (fun h => ?_) (fun h => ?_) | refine fgD_f (fun h => ?_) (fun h => ?_) | refine fgK_split (fun h => ?_) (fun h => ?_)
      | refine SRuns.condNil rfl (fun h => ?_) ?_ | refine SRuns.condT rfl ?_ | refine SRuns.condF rfl ?_ | refine SRuns.condD rfl (fun h => ?_) (fun h => ?_) | refine SRuns.cond rfl (fun h => ?_) (fun h => ?_)
      | simp (disch := omega) only [go_sem, hN, hM, ↓reduceIte, Nat.reduceAdd, Nat.reduceMul, Nat.reduceEqDiff, Nat.reduceLT, Nat.reduceLeDiff, Nat.reduceBEq, Int.toNat_natCast, true_or, or_true, Int.toNat_zero, Int.toNat_one, Bool.true_or, Bool.or_true, Bool.or_false, Bool.false_or, List.size_toArray, not_true_eq_false, not_false_eq_true, decide_true, decide_false, and_self]
      | (refine DoneF.rawv N hN ?_ ⟨?_, rfl⟩; (focus ((first | exact fun _ _ => rfl | (intro g hg; simp (disch := omega) only [go_sem])); done)))
      | (refine DoneF.done (Done.keep N hN ?_ ?_ ⟨rfl, rfl⟩); (focus ((first | exact fun _ _ => rfl | (intro g hg; simp (disch := omega) only [go_sem])); done)); (focus ((repeat' (first | exact trivial | exact CloL.nil | exact Clo.vIs | exact Clo.vIss | exact Clo.slv | exact CloB.rowI | exact Clo.slI | refine CloL.cons ?_ ?_ | refine Clo.agL ?_ | refine Clo.tupL ?_ | refine Clo.refL ?_ | refine Clo.fnL ?_ | refine CloB.cellsL ?_)); done)))
      | exact DoneF.all ⟨rfl, rfl⟩ | refine And.intro (by omega) ?_ | (exfalso; omega) | contradiction
      | fail)
theorem f63 (g : Nat) (n d : Int) (hn : 0 ≤ n ∧ n ≤ 1000000000000) (hd : 0 ≤ d ∧ d ≤ 4000) (M : Mem) (hM : M g = some (.cells 3 1 (lst [vI n]))) : ACalls Try.prog 63 [vI d, .ptr g 0] M fun r M' => r = .tup 0 (lst []) ∧ M' = upM M g (.cells 3 1 (lst [vI (n + d * d)])) := by
  refine a63 (by simp) (SRuns.fresh fun N hN => ?_)
  have hq : 0 ≤ d * d ∧ d * d ≤ 16000000 := ⟨Int.mul_nonneg hd.1 hd.1, by
    have := Int.mul_le_mul hd.2 hd.2 hd.1 (by omega : (0 : Int) ≤ 4000)
    omega⟩
  repeat' (first
      | refine KR.go ?_ | refine SRuns.seq ?_ | refine SRuns.reg ?_ | refine SRuns.block ?_ | refine SRuns.skip ?_ | refine SRuns.inBlock ?_ | refine SRuns.exit rfl ?_
      | refine SRuns.ret (EEnd.of rfl ?_) | refine SRuns.fin (EEnd.of rfl ?_)
      | refine SRuns.ret (EEnd.of1 rfl ?_ ?_) | refine SRuns.fin (EEnd.of1 rfl ?_ ?_)
      | refine SRuns.free ?_
      | refine FR.at N ?_ (fun _ => []) ?_ | refine NewK.at N ?_ ?_ | exact fun i => hN _ (by omega)
      | refine gdD_t (fun h => ?_) (fun h => ?_) | refine gdD_f (fun h => ?_) (fun h => ?_) | refine gdK_split (fun h => ?_) (fun h => ?_)
      | refine fgD_t (fun h => ?_) (fun h => ?_) | refine fgD_f (fun h => ?_) (fun h => ?_) | refine fgK_split (fun h => ?_) (fun h => ?_)
      | refine SRuns.condNil rfl (fun h => ?_) ?_ | refine SRuns.condT rfl ?_ | refine SRuns.condF rfl ?_ | refine SRuns.condD rfl (fun h => ?_) (fun h => ?_) | refine SRuns.cond rfl (fun h => ?_) (fun h => ?_)
      | simp (disch := omega) only [go_sem, hN, hM, ↓reduceIte, Nat.reduceAdd, Nat.reduceMul, Nat.reduceEqDiff, Nat.reduceLT, Nat.reduceLeDiff, Nat.reduceBEq, Int.toNat_natCast, true_or, or_true, Int.toNat_zero, Int.toNat_one, Bool.true_or, Bool.or_true, Bool.or_false, Bool.false_or, List.size_toArray, not_true_eq_false, not_false_eq_true, decide_true, decide_false, and_self]
      | (refine DoneF.rawv N hN ?_ ⟨?_, rfl⟩; (focus ((first | exact fun _ _ => rfl | (intro g hg; simp (disch := omega) only [go_sem])); done)))
      | (refine DoneF.done (Done.keep N hN ?_ ?_ ⟨rfl, rfl⟩); (focus ((first | exact fun _ _ => rfl | (intro g hg; simp (disch := omega) only [go_sem])); done)); (focus ((repeat' (first | exact trivial | exact CloL.nil | exact Clo.vIs | exact Clo.vIss | exact Clo.slv | exact CloB.rowI | exact Clo.slI | refine CloL.cons ?_ ?_ | refine Clo.agL ?_ | refine Clo.tupL ?_ | refine Clo.refL ?_ | refine Clo.fnL ?_ | refine CloB.cellsL ?_)); done)))
      | exact DoneF.all ⟨rfl, rfl⟩ | refine And.intro (by omega) ?_ | (exfalso; omega) | contradiction
      | fail)
theorem f64 (g : Nat) (n d : Int) (M : Mem) (hM : M g = some (.cells 3 1 (lst [vI n]))) : ACalls Try.prog 64 [vI d, .ptr g 0] M fun r M' => r = .tup 0 (lst []) ∧ M' = upM M g (.cells 3 1 (lst [vI (max n d)])) := by
  refine a64 (by simp) (SRuns.fresh fun N hN => ?_)
  repeat' (first
      | refine KR.go ?_ | refine SRuns.seq ?_ | refine SRuns.reg ?_ | refine SRuns.block ?_ | refine SRuns.skip ?_ | refine SRuns.inBlock ?_ | refine SRuns.exit rfl ?_
      | refine SRuns.ret (EEnd.of rfl ?_) | refine SRuns.fin (EEnd.of rfl ?_)
      | refine SRuns.ret (EEnd.of1 rfl ?_ ?_) | refine SRuns.fin (EEnd.of1 rfl ?_ ?_)
      | refine SRuns.free ?_
      | refine FR.at N ?_ (fun _ => []) ?_ | refine NewK.at N ?_ ?_ | exact fun i => hN _ (by omega)
      | refine gdD_t (fun h => ?_) (fun h => ?_) | refine gdD_f (fun h => ?_) (fun h => ?_) | refine gdK_split (fun h => ?_) (fun h => ?_)
      | refine fgD_t (fun h => ?_) (fun h => ?_) | refine fgD_f (fun h => ?_) (fun h => ?_) | refine fgK_split (fun h => ?_) (fun h => ?_)
      | refine SRuns.condNil rfl (fun h => ?_) ?_ | refine SRuns.condT rfl ?_ | refine SRuns.condF rfl ?_ | refine SRuns.condD rfl (fun h => ?_) (fun h => ?_) | refine SRuns.cond rfl (fun h => ?_) (fun h => ?_)
      | simp (disch := omega) only [go_sem, hN, hM, ↓reduceIte, Nat.reduceAdd, Nat.reduceMul, Nat.reduceEqDiff, Nat.reduceLT, Nat.reduceLeDiff, Nat.reduceBEq, Int.toNat_natCast, true_or, or_true, Int.toNat_zero, Int.toNat_one, Bool.true_or, Bool.or_true, Bool.or_false, Bool.false_or, List.size_toArray, not_true_eq_false, not_false_eq_true, decide_true, decide_false, and_self]
      | (refine DoneF.rawv N hN ?_ ⟨?_, rfl⟩; (focus ((first | exact fun _ _ => rfl | (intro g hg; simp (disch := omega) only [go_sem])); done)))
      | (refine DoneF.done (Done.keep N hN ?_ ?_ ⟨rfl, rfl⟩); (focus ((first | exact fun _ _ => rfl | (intro g hg; simp (disch := omega) only [go_sem])); done)); (focus ((repeat' (first | exact trivial | exact CloL.nil | exact Clo.vIs | exact Clo.vIss | exact Clo.slv | exact CloB.rowI | exact Clo.slI | refine CloL.cons ?_ ?_ | refine Clo.agL ?_ | refine Clo.tupL ?_ | refine Clo.refL ?_ | refine Clo.fnL ?_ | refine CloB.cellsL ?_)); done)))
      | exact DoneF.all ⟨rfl, rfl⟩ | refine And.intro (by omega) ?_ | (exfalso; omega) | contradiction
      | fail)
def vIB (n : Int) (b : Bool) : AV := .tup 2 (lst [vI n, vB b])
theorem f45no (m : Int) (hm : ¬ (1 ≤ m ∧ m ≤ 3)) (f : AV) (M : Mem) : ACalls Try.prog 45 [vI m, f] M fun r M' => r = vIB 0 false ∧ M' = M := by
  refine a45 (by simp) (SRuns.fresh fun N hN => ?_)
  repeat' (first
      | refine KR.go ?_ | refine SRuns.seq ?_ | refine SRuns.reg ?_ | refine SRuns.block ?_ | refine SRuns.skip ?_ | refine SRuns.inBlock ?_ | refine SRuns.exit rfl ?_
      | refine SRuns.ret (EEnd.of rfl ?_) | refine SRuns.fin (EEnd.of rfl ?_)
      | refine SRuns.ret (EEnd.of1 rfl ?_ ?_) | refine SRuns.fin (EEnd.of1 rfl ?_ ?_)
      | refine SRuns.free ?_
      | refine FR.at N ?_ (fun _ => []) ?_ | refine NewK.at N ?_ ?_ | exact fun i => hN _ (by omega)
      | refine gdD_t (fun h => ?_) (fun h => ?_) | refine gdD_f (fun h => ?_) (fun h => ?_) | refine gdK_split (fun h => ?_) (fun h => ?_)
      | refine fgD_t (fun h => ?_) (fun h => ?_) | refine fgD_f (fun h => ?_) (fun h => ?_) | refine fgK_split (fun h => ?_) (fun h => ?_)
      | refine SRuns.condNil rfl (fun h => ?_) ?_ | refine SRuns.condT rfl ?_ | refine SRuns.condF rfl ?_ | refine SRuns.condD rfl (fun h => ?_) (fun h => ?_) | refine SRuns.cond rfl (fun h => ?_) (fun h => ?_)
      | simp (disch := omega) only [go_sem, hN, ↓reduceIte, Nat.reduceAdd, Nat.reduceMul, Nat.reduceEqDiff, Nat.reduceLT, Nat.reduceLeDiff, Nat.reduceBEq, Int.toNat_natCast, true_or, or_true, Int.toNat_zero, Int.toNat_one, Bool.true_or, Bool.or_true, Bool.or_false, Bool.false_or, List.size_toArray, not_true_eq_false, not_false_eq_true, decide_true, decide_false, and_self]
      | (refine DoneF.rawv N hN ?_ ⟨?_, rfl⟩; (focus ((first | exact fun _ _ => rfl | (intro g hg; simp (disch := omega) only [go_sem])); done)))
      | (refine DoneF.done (Done.keep N hN ?_ ?_ ⟨rfl, rfl⟩); (focus ((first | exact fun _ _ => rfl | (intro g hg; simp (disch := omega) only [go_sem])); done)); (focus ((repeat' (first | exact trivial | exact CloL.nil | exact Clo.vIs | exact Clo.vIss | exact Clo.slv | exact CloB.rowI | exact Clo.slI | refine CloL.cons ?_ ?_ | refine Clo.agL ?_ | refine Clo.tupL ?_ | refine Clo.refL ?_ | refine Clo.fnL ?_ | refine CloB.cellsL ?_)); done)))
      | exact DoneF.all ⟨rfl, rfl⟩ | refine And.intro (by omega) ?_ | (exfalso; omega) | contradiction
      | fail)
theorem f45r (k : Nat) (m : Int) (q n len : Nat) (l : List AV) (D : Nat → Int) (hs : SeqOf Try.prog q n (lst l) len fun i => [vI (D i)]) (hl : len ≤ 40) (hD : ∀ i, i < len → 0 ≤ D i ∧ D i ≤ 4000) (M : Mem) (N : Nat) (hN : ∀ g, N ≤ g → M g = none)
    (hk : ∀ (g : Nat) (n d : Int), 0 ≤ n ∧ n ≤ 1000000000000 → 0 ≤ d ∧ d ≤ 4000 → ∀ M : Mem, M g = some (.cells 3 1 (lst [vI n])) → ACalls Try.prog k [vI d, .ptr g 0] M fun r M' => r = .tup 0 (lst []) ∧ M' = upM M g (.cells 3 1 (lst [vI (acc m n d)]))) :
    SRuns (X45 M) [SI.code c45_22, SI.inBlock 1, SI.code c45_25] (lk [(4, vI 0), (5, vB false), (6, .ptr (N + 6) 0), (7, .ptr (N + 7) 0), (19, .fn (.func q) n (lst l))])
      (upM (upM M (N + 6) (.cells 3 1 (lst [vI 0]))) (N + 7) (.cells 87 1 (lst [.fn (.func k) 1 (lst [.ptr (N + 6) 0])]))) [] fun r M' => r = vIB (keyA m D len) true ∧ M' = M := by
  have bd := keyA_bd m D len hD
  refine SRuns.rangeSeq (fun i => upM (upM M (N + 6) (.cells 3 1 (lst [vI (keyA m D i)]))) (N + 7) (.cells 87 1 (lst [.fn (.func k) 1 (lst [.ptr (N + 6) 0])]))) (fun i => True) (N + 500) (N + 501) hs (tabOf_ok _) rfl rfl (by omega) rfl trivial (fun _ => rfl) rfl ?_ ?_ (fun X1 R B D' E hR i hi hp => ?_) (fun hp E hE => ?_)
  all_goals (try (simp (disch := omega) only [go_sem, hN]; done))
  · have h1 := bd i (by omega)
    have h2 := hD i hi
    repeat' (first
        | refine hR.beg ?_
        | refine hR.fin (.inl ⟨rfl, ?_, ?_⟩)
        | exact hR.fin (.inl ⟨rfl, rfl⟩)
        | refine hR.ret (.inr ⟨rfl, hR.aret ?_⟩)
        | (refine caK.go ?_; refine caK.toL (by (repeat' (first | assumption | exact Le.dead _ | exact Le.mkF | exact LeS.nil | exact Les.refl _ | exact LeL.refl _ | exact Le.refl _ | exact Le.ofI (by omega) | exact Le.nil | refine LeS.cons rfl ?_ ?_ | refine Les.cons ?_ ?_ | refine LeL.cons ?_ ?_ | refine Le.agL ?_ | refine Le.tupL ?_ | refine Le.refL ?_ | refine Le.fnL ?_ | refine Le.lit2 rfl ?_ | refine Le.litI rfl ?_)); done) (by rw [hR.P]; exact hk _ (keyA m D i) _ (by omega) (by omega) _ (by simp (disch := omega) only [go_sem])) ?_; rintro _ _ ⟨rfl, rfl⟩; rw [put_lk])
        | refine KR.go ?_ | refine SRuns.seq ?_ | refine SRuns.reg ?_ | refine SRuns.block ?_ | refine SRuns.skip ?_ | refine SRuns.inBlock ?_ | refine SRuns.exit rfl ?_
        | refine SRuns.ret (EEnd.of rfl ?_) | refine SRuns.fin (EEnd.of rfl ?_)
        | refine SRuns.ret (EEnd.of1 rfl ?_ ?_) | refine SRuns.fin (EEnd.of1 rfl ?_ ?_)
        | refine SRuns.free ?_
        | refine FR.at N ?_ (fun _ => []) ?_ | refine NewK.at N ?_ ?_ | exact fun i => hN _ (by omega)
        | refine gdD_t (fun h => ?_) (fun h => ?_) | refine gdD_f (fun h => ?_) (fun h => ?_) | refine gdK_split (fun h => ?_) (fun h => ?_)
        | refine fgD_t (fun h => ?_) (fun h => ?_) | refine fgD_f (fun h => ?_) (fun h => ?_) | refine fgK_split (fun h => ?_) (fun h => ?_)
        | refine SRuns.condNil rfl (fun h => ?_) ?_ | refine SRuns.condT rfl ?_ | refine SRuns.condF rfl ?_ | refine SRuns.condD rfl (fun h => ?_) (fun h => ?_) | refine SRuns.cond rfl (fun h => ?_) (fun h => ?_)
        | simp (disch := omega) only [go_sem, hN, hR.P, hR.T, hR.N, hR.own, hR.b, hR.e, ↓reduceIte, Nat.reduceAdd, Nat.reduceMul, Nat.reduceEqDiff, Nat.reduceLT, Nat.reduceLeDiff, Nat.reduceBEq, Int.toNat_natCast, true_or, or_true, Int.toNat_zero, Int.toNat_one, Bool.true_or, Bool.or_true, Bool.or_false, Bool.false_or, List.size_toArray, not_true_eq_false, not_false_eq_true, decide_true, decide_false, and_self]
        | (refine DoneF.rawv N hN ?_ ⟨?_, rfl⟩; (focus ((first | exact fun _ _ => rfl | (intro g hg; simp (disch := omega) only [go_sem])); done)))
        | (refine DoneF.done (Done.keep N hN ?_ ?_ ⟨rfl, rfl⟩); (focus ((first | exact fun _ _ => rfl | (intro g hg; simp (disch := omega) only [go_sem])); done)); (focus ((repeat' (first | exact trivial | exact CloL.nil | exact Clo.vIs | exact Clo.vIss | exact Clo.slv | exact CloB.rowI | exact Clo.slI | refine CloL.cons ?_ ?_ | refine Clo.agL ?_ | refine Clo.tupL ?_ | refine Clo.refL ?_ | refine Clo.fnL ?_ | refine CloB.cellsL ?_)); done)))
        | exact DoneF.all ⟨rfl, rfl⟩ | refine And.intro (by omega) ?_ | (exfalso; omega) | contradiction
        | fail)
  · repeat' (first
        | refine KR.go ?_ | refine SRuns.seq ?_ | refine SRuns.reg ?_ | refine SRuns.block ?_ | refine SRuns.skip ?_ | refine SRuns.inBlock ?_ | refine SRuns.exit rfl ?_
        | refine SRuns.ret (EEnd.of rfl ?_) | refine SRuns.fin (EEnd.of rfl ?_)
        | refine SRuns.ret (EEnd.of1 rfl ?_ ?_) | refine SRuns.fin (EEnd.of1 rfl ?_ ?_)
        | refine SRuns.free ?_
        | refine FR.at N ?_ (fun _ => []) ?_ | refine NewK.at N ?_ ?_ | exact fun i => hN _ (by omega)
        | refine gdD_t (fun h => ?_) (fun h => ?_) | refine gdD_f (fun h => ?_) (fun h => ?_) | refine gdK_split (fun h => ?_) (fun h => ?_)
        | refine fgD_t (fun h => ?_) (fun h => ?_) | refine fgD_f (fun h => ?_) (fun h => ?_) | refine fgK_split (fun h => ?_) (fun h => ?_)
        | refine SRuns.condNil rfl (fun h => ?_) ?_ | refine SRuns.condT rfl ?_ | refine SRuns.condF rfl ?_ | refine SRuns.condD rfl (fun h => ?_) (fun h => ?_) | refine SRuns.cond rfl (fun h => ?_) (fun h => ?_)
        | simp (disch := omega) only [go_sem, hN, hE, ↓reduceIte, Nat.reduceAdd, Nat.reduceMul, Nat.reduceEqDiff, Nat.reduceLT, Nat.reduceLeDiff, Nat.reduceBEq, Int.toNat_natCast, true_or, or_true, Int.toNat_zero, Int.toNat_one, Bool.true_or, Bool.or_true, Bool.or_false, Bool.false_or, List.size_toArray, not_true_eq_false, not_false_eq_true, decide_true, decide_false, and_self]
        | (refine DoneF.rawv N hN ?_ ⟨?_, rfl⟩; (focus ((first | exact fun _ _ => rfl | (intro g hg; simp (disch := omega) only [go_sem])); done)))
        | (refine DoneF.done (Done.keep N hN ?_ ?_ ⟨rfl, rfl⟩); (focus ((first | exact fun _ _ => rfl | (intro g hg; simp (disch := omega) only [go_sem])); done)); (focus ((repeat' (first | exact trivial | exact CloL.nil | exact Clo.vIs | exact Clo.vIss | exact Clo.slv | exact CloB.rowI | exact Clo.slI | refine CloL.cons ?_ ?_ | refine Clo.agL ?_ | refine Clo.tupL ?_ | refine Clo.refL ?_ | refine Clo.fnL ?_ | refine CloB.cellsL ?_)); done)))
        | exact DoneF.all ⟨rfl, rfl⟩ | refine And.intro (by omega) ?_ | (exfalso; omega) | contradiction
        | fail)
theorem f45 (m : Int) (hm : 1 ≤ m ∧ m ≤ 3) (q n len : Nat) (l : List AV) (D : Nat → Int) (hs : SeqOf Try.prog q n (lst l) len fun i => [vI (D i)]) (hl : len ≤ 40) (hD : ∀ i, i < len → 0 ≤ D i ∧ D i ≤ 4000) (M : Mem) : ACalls Try.prog 45 [vI m, .fn (.func q) n (lst l)] M fun r M' => r = vIB (keyA m D len) true ∧ M' = M := by
  refine a45 (by simp) (SRuns.fresh fun N hN => ?_)
  by_cases h1 : m = 1
  · subst h1
    repeat' (first
        | exact f45r 62 1 q n len l D hs hl hD M N hN f62
        | refine KR.go ?_ | refine SRuns.seq ?_ | refine SRuns.reg ?_ | refine SRuns.block ?_ | refine SRuns.skip ?_ | refine SRuns.inBlock ?_ | refine SRuns.exit rfl ?_
        | refine SRuns.ret (EEnd.of rfl ?_) | refine SRuns.fin (EEnd.of rfl ?_)
        | refine SRuns.ret (EEnd.of1 rfl ?_ ?_) | refine SRuns.fin (EEnd.of1 rfl ?_ ?_)
        | refine SRuns.free ?_
        | refine FR.at N ?_ (fun _ => []) ?_ | refine NewK.at N ?_ ?_ | exact fun i => hN _ (by omega)
        | refine gdD_t (fun h => ?_) (fun h => ?_) | refine gdD_f (fun h => ?_) (fun h => ?_) | refine gdK_split (fun h => ?_) (fun h => ?_)
        | refine fgD_t (fun h => ?_) (fun h => ?_) | refine fgD_f (fun h => ?_) (fun h => ?_) | refine fgK_split (fun h => ?_) (fun h => ?_)
        | refine SRuns.condNil rfl (fun h => ?_) ?_ | refine SRuns.condT rfl ?_ | refine SRuns.condF rfl ?_ | refine SRuns.condD rfl (fun h => ?_) (fun h => ?_) | refine SRuns.cond rfl (fun h => ?_) (fun h => ?_)
        | simp (disch := omega) only [go_sem, hN, ↓reduceIte, Nat.reduceAdd, Nat.reduceMul, Nat.reduceEqDiff, Nat.reduceLT, Nat.reduceLeDiff, Nat.reduceBEq, Int.toNat_natCast, true_or, or_true, Int.toNat_zero, Int.toNat_one, Bool.true_or, Bool.or_true, Bool.or_false, Bool.false_or, List.size_toArray, not_true_eq_false, not_false_eq_true, decide_true, decide_false, and_self]
        | (refine DoneF.rawv N hN ?_ ⟨?_, rfl⟩; (focus ((first | exact fun _ _ => rfl | (intro g hg; simp (disch := omega) only [go_sem])); done)))
        | (refine DoneF.done (Done.keep N hN ?_ ?_ ⟨rfl, rfl⟩); (focus ((first | exact fun _ _ => rfl | (intro g hg; simp (disch := omega) only [go_sem])); done)); (focus ((repeat' (first | exact trivial | exact CloL.nil | exact Clo.vIs | exact Clo.vIss | exact Clo.slv | exact CloB.rowI | exact Clo.slI | refine CloL.cons ?_ ?_ | refine Clo.agL ?_ | refine Clo.tupL ?_ | refine Clo.refL ?_ | refine Clo.fnL ?_ | refine CloB.cellsL ?_)); done)))
        | exact DoneF.all ⟨rfl, rfl⟩ | refine And.intro (by omega) ?_ | (exfalso; omega) | contradiction
        | fail)
  by_cases h2 : m = 2
  · subst h2
    repeat' (first
        | exact f45r 63 2 q n len l D hs hl hD M N hN f63
        | refine KR.go ?_ | refine SRuns.seq ?_ | refine SRuns.reg ?_ | refine SRuns.block ?_ | refine SRuns.skip ?_ | refine SRuns.inBlock ?_ | refine SRuns.exit rfl ?_
        | refine SRuns.ret (EEnd.of rfl ?_) | refine SRuns.fin (EEnd.of rfl ?_)
        | refine SRuns.ret (EEnd.of1 rfl ?_ ?_) | refine SRuns.fin (EEnd.of1 rfl ?_ ?_)
        | refine SRuns.free ?_
        | refine FR.at N ?_ (fun _ => []) ?_ | refine NewK.at N ?_ ?_ | exact fun i => hN _ (by omega)
        | refine gdD_t (fun h => ?_) (fun h => ?_) | refine gdD_f (fun h => ?_) (fun h => ?_) | refine gdK_split (fun h => ?_) (fun h => ?_)
        | refine fgD_t (fun h => ?_) (fun h => ?_) | refine fgD_f (fun h => ?_) (fun h => ?_) | refine fgK_split (fun h => ?_) (fun h => ?_)
        | refine SRuns.condNil rfl (fun h => ?_) ?_ | refine SRuns.condT rfl ?_ | refine SRuns.condF rfl ?_ | refine SRuns.condD rfl (fun h => ?_) (fun h => ?_) | refine SRuns.cond rfl (fun h => ?_) (fun h => ?_)
        | simp (disch := omega) only [go_sem, hN, ↓reduceIte, Nat.reduceAdd, Nat.reduceMul, Nat.reduceEqDiff, Nat.reduceLT, Nat.reduceLeDiff, Nat.reduceBEq, Int.toNat_natCast, true_or, or_true, Int.toNat_zero, Int.toNat_one, Bool.true_or, Bool.or_true, Bool.or_false, Bool.false_or, List.size_toArray, not_true_eq_false, not_false_eq_true, decide_true, decide_false, and_self]
        | (refine DoneF.rawv N hN ?_ ⟨?_, rfl⟩; (focus ((first | exact fun _ _ => rfl | (intro g hg; simp (disch := omega) only [go_sem])); done)))
        | (refine DoneF.done (Done.keep N hN ?_ ?_ ⟨rfl, rfl⟩); (focus ((first | exact fun _ _ => rfl | (intro g hg; simp (disch := omega) only [go_sem])); done)); (focus ((repeat' (first | exact trivial | exact CloL.nil | exact Clo.vIs | exact Clo.vIss | exact Clo.slv | exact CloB.rowI | exact Clo.slI | refine CloL.cons ?_ ?_ | refine Clo.agL ?_ | refine Clo.tupL ?_ | refine Clo.refL ?_ | refine Clo.fnL ?_ | refine CloB.cellsL ?_)); done)))
        | exact DoneF.all ⟨rfl, rfl⟩ | refine And.intro (by omega) ?_ | (exfalso; omega) | contradiction
        | fail)
  · obtain rfl : m = 3 := by omega
    repeat' (first
        | exact f45r 64 3 q n len l D hs hl hD M N hN (fun g n d _ _ => f64 g n d)
        | refine KR.go ?_ | refine SRuns.seq ?_ | refine SRuns.reg ?_ | refine SRuns.block ?_ | refine SRuns.skip ?_ | refine SRuns.inBlock ?_ | refine SRuns.exit rfl ?_
        | refine SRuns.ret (EEnd.of rfl ?_) | refine SRuns.fin (EEnd.of rfl ?_)
        | refine SRuns.ret (EEnd.of1 rfl ?_ ?_) | refine SRuns.fin (EEnd.of1 rfl ?_ ?_)
        | refine SRuns.free ?_
        | refine FR.at N ?_ (fun _ => []) ?_ | refine NewK.at N ?_ ?_ | exact fun i => hN _ (by omega)
        | refine gdD_t (fun h => ?_) (fun h => ?_) | refine gdD_f (fun h => ?_) (fun h => ?_) | refine gdK_split (fun h => ?_) (fun h => ?_)
        | refine fgD_t (fun h => ?_) (fun h => ?_) | refine fgD_f (fun h => ?_) (fun h => ?_) | refine fgK_split (fun h => ?_) (fun h => ?_)
        | refine SRuns.condNil rfl (fun h => ?_) ?_ | refine SRuns.condT rfl ?_ | refine SRuns.condF rfl ?_ | refine SRuns.condD rfl (fun h => ?_) (fun h => ?_) | refine SRuns.cond rfl (fun h => ?_) (fun h => ?_)
        | simp (disch := omega) only [go_sem, hN, ↓reduceIte, Nat.reduceAdd, Nat.reduceMul, Nat.reduceEqDiff, Nat.reduceLT, Nat.reduceLeDiff, Nat.reduceBEq, Int.toNat_natCast, true_or, or_true, Int.toNat_zero, Int.toNat_one, Bool.true_or, Bool.or_true, Bool.or_false, Bool.false_or, List.size_toArray, not_true_eq_false, not_false_eq_true, decide_true, decide_false, and_self]
        | (refine DoneF.rawv N hN ?_ ⟨?_, rfl⟩; (focus ((first | exact fun _ _ => rfl | (intro g hg; simp (disch := omega) only [go_sem])); done)))
        | (refine DoneF.done (Done.keep N hN ?_ ?_ ⟨rfl, rfl⟩); (focus ((first | exact fun _ _ => rfl | (intro g hg; simp (disch := omega) only [go_sem])); done)); (focus ((repeat' (first | exact trivial | exact CloL.nil | exact Clo.vIs | exact Clo.vIss | exact Clo.slv | exact CloB.rowI | exact Clo.slI | refine CloL.cons ?_ ?_ | refine Clo.agL ?_ | refine Clo.tupL ?_ | refine Clo.refL ?_ | refine Clo.fnL ?_ | refine CloB.cellsL ?_)); done)))
        | exact DoneF.all ⟨rfl, rfl⟩ | refine And.intro (by omega) ?_ | (exfalso; omega) | contradiction
        | fail)
theorem f42 (a b x : Int) (ha : -1000 ≤ a ∧ a ≤ 1000) (hb : -1000 ≤ b ∧ b ≤ 1000) (hx : -1000 ≤ x ∧ x ≤ 1000) (M : Mem) : ACalls Try.prog 42 [vI a, vI b, vI x] M fun r M' => r = vI (max (max 0 (a - x)) (x - b)) ∧ M' = M := by
  refine a42 (by simp) (SRuns.fresh fun N hN => ?_)
  repeat' (first
      | refine KR.go ?_ | refine SRuns.seq ?_ | refine SRuns.reg ?_ | refine SRuns.block ?_ | refine SRuns.skip ?_ | refine SRuns.inBlock ?_ | refine SRuns.exit rfl ?_
      | refine SRuns.ret (EEnd.of rfl ?_) | refine SRuns.fin (EEnd.of rfl ?_)
      | refine SRuns.ret (EEnd.of1 rfl ?_ ?_) | refine SRuns.fin (EEnd.of1 rfl ?_ ?_)
      | refine SRuns.free ?_
      | refine FR.at N ?_ (fun _ => []) ?_ | refine NewK.at N ?_ ?_ | exact fun i => hN _ (by omega)
      | refine gdD_t (fun h => ?_) (fun h => ?_) | refine gdD_f (fun h => ?_) (fun h => ?_) | refine gdK_split (fun h => ?_) (fun h => ?_)
      | refine fgD_t (fun h => ?_) (fun h => ?_) | refine fgD_f (fun h => ?_) (fun h => ?_) | refine fgK_split (fun h => ?_) (fun h => ?_)
      | refine SRuns.condNil rfl (fun h => ?_) ?_ | refine SRuns.condT rfl ?_ | refine SRuns.condF rfl ?_ | refine SRuns.condD rfl (fun h => ?_) (fun h => ?_) | refine SRuns.cond rfl (fun h => ?_) (fun h => ?_)
      | simp (disch := omega) only [go_sem, hN, ↓reduceIte, Nat.reduceAdd, Nat.reduceMul, Nat.reduceEqDiff, Nat.reduceLT, Nat.reduceLeDiff, Nat.reduceBEq, Int.toNat_natCast, true_or, or_true, Int.toNat_zero, Int.toNat_one, Bool.true_or, Bool.or_true, Bool.or_false, Bool.false_or, List.size_toArray, not_true_eq_false, not_false_eq_true, decide_true, decide_false, and_self]
      | (refine DoneF.rawv N hN ?_ ⟨?_, rfl⟩; (focus ((first | exact fun _ _ => rfl | (intro g hg; simp (disch := omega) only [go_sem])); done)))
      | (refine DoneF.done (Done.keep N hN ?_ ?_ ⟨rfl, rfl⟩); (focus ((first | exact fun _ _ => rfl | (intro g hg; simp (disch := omega) only [go_sem])); done)); (focus ((repeat' (first | exact trivial | exact CloL.nil | exact Clo.vIs | exact Clo.vIss | exact Clo.slv | exact CloB.rowI | exact Clo.slI | refine CloL.cons ?_ ?_ | refine Clo.agL ?_ | refine Clo.tupL ?_ | refine Clo.refL ?_ | refine Clo.fnL ?_ | refine CloB.cellsL ?_)); done)))
      | exact DoneF.all ⟨rfl, rfl⟩ | refine And.intro (by omega) ?_ | (exfalso; omega) | contradiction
      | fail)
theorem f43 (a b x : Int) (ha : -1000 ≤ a ∧ a ≤ 1000) (hb : -1000 ≤ b ∧ b ≤ 1000) (hx : -1000 ≤ x ∧ x ≤ 1000) (M : Mem) : ACalls Try.prog 43 [vI a, vI b, vI x] M fun r M' => r = vI (max (b - x) (x - a)) ∧ M' = M := by
  refine a43 (by simp) (SRuns.fresh fun N hN => ?_)
  repeat' (first
      | refine KR.go ?_ | refine SRuns.seq ?_ | refine SRuns.reg ?_ | refine SRuns.block ?_ | refine SRuns.skip ?_ | refine SRuns.inBlock ?_ | refine SRuns.exit rfl ?_
      | refine SRuns.ret (EEnd.of rfl ?_) | refine SRuns.fin (EEnd.of rfl ?_)
      | refine SRuns.ret (EEnd.of1 rfl ?_ ?_) | refine SRuns.fin (EEnd.of1 rfl ?_ ?_)
      | refine SRuns.free ?_
      | refine FR.at N ?_ (fun _ => []) ?_ | refine NewK.at N ?_ ?_ | exact fun i => hN _ (by omega)
      | refine gdD_t (fun h => ?_) (fun h => ?_) | refine gdD_f (fun h => ?_) (fun h => ?_) | refine gdK_split (fun h => ?_) (fun h => ?_)
      | refine fgD_t (fun h => ?_) (fun h => ?_) | refine fgD_f (fun h => ?_) (fun h => ?_) | refine fgK_split (fun h => ?_) (fun h => ?_)
      | refine SRuns.condNil rfl (fun h => ?_) ?_ | refine SRuns.condT rfl ?_ | refine SRuns.condF rfl ?_ | refine SRuns.condD rfl (fun h => ?_) (fun h => ?_) | refine SRuns.cond rfl (fun h => ?_) (fun h => ?_)
      | simp (disch := omega) only [go_sem, hN, ↓reduceIte, Nat.reduceAdd, Nat.reduceMul, Nat.reduceEqDiff, Nat.reduceLT, Nat.reduceLeDiff, Nat.reduceBEq, Int.toNat_natCast, true_or, or_true, Int.toNat_zero, Int.toNat_one, Bool.true_or, Bool.or_true, Bool.or_false, Bool.false_or, List.size_toArray, not_true_eq_false, not_false_eq_true, decide_true, decide_false, and_self]
      | (refine DoneF.rawv N hN ?_ ⟨?_, rfl⟩; (focus ((first | exact fun _ _ => rfl | (intro g hg; simp (disch := omega) only [go_sem])); done)))
      | (refine DoneF.done (Done.keep N hN ?_ ?_ ⟨rfl, rfl⟩); (focus ((first | exact fun _ _ => rfl | (intro g hg; simp (disch := omega) only [go_sem])); done)); (focus ((repeat' (first | exact trivial | exact CloL.nil | exact Clo.vIs | exact Clo.vIss | exact Clo.slv | exact CloB.rowI | exact Clo.slI | refine CloL.cons ?_ ?_ | refine Clo.agL ?_ | refine Clo.tupL ?_ | refine Clo.refL ?_ | refine Clo.fnL ?_ | refine CloB.cellsL ?_)); done)))
      | exact DoneF.all ⟨rfl, rfl⟩ | refine And.intro (by omega) ?_ | (exfalso; omega) | contradiction
      | fail)
theorem f61 (k : Nat) (a b v : List Int) (hl : v.length < 2 ^ 40) (h1 : v.length ≤ a.length) (h2 : v.length ≤ b.length) (D : Nat → Int) (hk : ∀ i, i < v.length → ∀ M, ACalls Try.prog k [vI (gi a i), vI (gi b i), vI (gi v i)] M fun r M' => r = vI (D i) ∧ M' = M) :
    SeqOf Try.prog 61 3 (lst [.ref 1 (lst [vIs v]), .ref 1 (lst [.fn (.func k) 0 fun _ => .dead]), .ref 2 (lst [vIs a, vIs b])]) v.length fun i => [vI (D i)] := by
  intro y M I S h0 hy
  refine a61 (by simp [tk]) (SRuns.fresh fun N hN => ?_)
  repeat' (first
      | refine KR.go ?_ | refine SRuns.seq ?_ | refine SRuns.reg ?_ | refine SRuns.block ?_ | refine SRuns.skip ?_ | refine SRuns.inBlock ?_ | refine SRuns.exit rfl ?_
      | refine SRuns.ret (EEnd.of rfl ?_) | refine SRuns.fin (EEnd.of rfl ?_)
      | refine SRuns.ret (EEnd.of1 rfl ?_ ?_) | refine SRuns.fin (EEnd.of1 rfl ?_ ?_)
      | refine SRuns.free ?_
      | refine FR.at N ?_ (fun _ => []) ?_ | refine NewK.at N ?_ ?_ | exact fun i => hN _ (by omega)
      | refine gdD_t (fun h => ?_) (fun h => ?_) | refine gdD_f (fun h => ?_) (fun h => ?_) | refine gdK_split (fun h => ?_) (fun h => ?_)
      | refine fgD_t (fun h => ?_) (fun h => ?_) | refine fgD_f (fun h => ?_) (fun h => ?_) | refine fgK_split (fun h => ?_) (fun h => ?_)
      | refine SRuns.condNil rfl (fun h => ?_) ?_ | refine SRuns.condT rfl ?_ | refine SRuns.condF rfl ?_ | refine SRuns.condD rfl (fun h => ?_) (fun h => ?_) | refine SRuns.cond rfl (fun h => ?_) (fun h => ?_)
      | simp (disch := omega) only [go_sem, vIs, ↓reduceIte, Nat.reduceAdd, Nat.reduceMul, Nat.reduceEqDiff, Nat.reduceLT, Nat.reduceLeDiff, Nat.reduceBEq, Int.toNat_natCast, true_or, or_true, Int.toNat_zero, Int.toNat_one, Bool.true_or, Bool.or_true, Bool.or_false, Bool.false_or, List.size_toArray, not_true_eq_false, not_false_eq_true, decide_true, decide_false, and_self]
      | (refine DoneF.rawv N hN ?_ ⟨?_, rfl⟩; (focus ((first | exact fun _ _ => rfl | (intro g hg; simp (disch := omega) only [go_sem])); done)))
      | (refine DoneF.done (Done.keep N hN ?_ ?_ ⟨rfl, rfl⟩); (focus ((first | exact fun _ _ => rfl | (intro g hg; simp (disch := omega) only [go_sem])); done)); (focus ((repeat' (first | exact trivial | exact CloL.nil | exact Clo.vIs | exact Clo.vIss | exact Clo.slv | exact CloB.rowI | exact Clo.slI | refine CloL.cons ?_ ?_ | refine Clo.agL ?_ | refine Clo.tupL ?_ | refine Clo.refL ?_ | refine Clo.fnL ?_ | refine CloB.cellsL ?_)); done)))
      | exact DoneF.all ⟨rfl, rfl⟩ | refine And.intro (by omega) ?_ | (exfalso; omega) | contradiction
      | fail)
  refine SRuns.loopS (σ := Nat × Mem) (fun s => v.length - s.1) (fun s => [(0, .yl y), (2, .ref 1 (lst [.fn (.func k) 0 fun _ => .dead])), (3, .ref 2 (lst [vIs a, vIs b])), (7, vIs v), (8, vI v.length), (9, vI s.1)]) (fun s => s.2) (fun s => s.1 ≤ v.length ∧ I s.1 s.2) (0, M) (by (repeat' (first | assumption | exact Le.dead _ | exact Le.mkF | exact LeS.nil | exact Les.refl _ | exact LeL.refl _ | exact Le.refl _ | exact Le.ofI (by omega) | exact Le.nil | refine LeS.cons rfl ?_ ?_ | refine Les.cons ?_ ?_ | refine LeL.cons ?_ ?_ | refine Le.agL ?_ | refine Le.tupL ?_ | refine Le.refL ?_ | refine Le.fnL ?_ | refine Le.lit2 rfl ?_ | refine Le.litI rfl ?_)); done) rfl ⟨by omega, h0⟩ ?_
  rintro ⟨i, M1⟩ ⟨hi, hI⟩ IH
  simp only at hi hI ⊢
  by_cases hlt : i < v.length
  · repeat' (first
        | refine FR.go fun gs hgs hgi => ⟨fun _ => [], ?_⟩
        | (refine caK.go ?_; refine caK.valL (by (repeat' (first | assumption | exact Le.dead _ | exact Le.mkF | exact LeS.nil | exact Les.refl _ | exact LeL.refl _ | exact Le.refl _ | exact Le.ofI (by omega) | exact Le.nil | refine LeS.cons rfl ?_ ?_ | refine Les.cons ?_ ?_ | refine LeL.cons ?_ ?_ | refine Le.agL ?_ | refine Le.tupL ?_ | refine Le.refL ?_ | refine Le.fnL ?_ | refine Le.lit2 rfl ?_ | refine Le.litI rfl ?_)); done) (hk i hlt _) ?_)
        | (refine caF.go ?_; refine caF.valL (by (repeat' (first | assumption | exact Le.dead _ | exact Le.mkF | exact LeS.nil | exact Les.refl _ | exact LeL.refl _ | exact Le.refl _ | exact Le.ofI (by omega) | exact Le.nil | refine LeS.cons rfl ?_ ?_ | refine Les.cons ?_ ?_ | refine LeL.cons ?_ ?_ | refine Le.agL ?_ | refine Le.tupL ?_ | refine Le.refL ?_ | refine Le.fnL ?_ | refine Le.lit2 rfl ?_ | refine Le.litI rfl ?_)); done) (fun M2 => hk i hlt M2) ?_)
        | (refine yaK.go ?_; refine yaK.of (hy i M1 (by omega) hI) ?_; rintro _ M2 ⟨c, rfl, hc1, hc2⟩)
        | (refine SRuns.goL ?_; refine SRuns.weakL (by (repeat' (first | assumption | exact Le.dead _ | exact Le.mkF | exact LeS.nil | exact Les.refl _ | exact LeL.refl _ | exact Le.refl _ | exact Le.ofI (by omega) | exact Le.nil | refine LeS.cons rfl ?_ ?_ | refine Les.cons ?_ ?_ | refine LeL.cons ?_ ?_ | refine Le.agL ?_ | refine Le.tupL ?_ | refine Le.refL ?_ | refine Le.fnL ?_ | refine Le.lit2 rfl ?_ | refine Le.litI rfl ?_)); done) (IH (i + 1, _) (by simp only; omega) ⟨by simp only; omega, ?_⟩))
        | refine KR.go ?_ | refine SRuns.seq ?_ | refine SRuns.reg ?_ | refine SRuns.block ?_ | refine SRuns.skip ?_ | refine SRuns.inBlock ?_ | refine SRuns.exit rfl ?_
        | refine SRuns.ret (EEnd.of rfl ?_) | refine SRuns.fin (EEnd.of rfl ?_)
        | refine SRuns.ret (EEnd.of1 rfl ?_ ?_) | refine SRuns.fin (EEnd.of1 rfl ?_ ?_)
        | refine SRuns.free ?_
        | refine FR.at N ?_ (fun _ => []) ?_ | refine NewK.at N ?_ ?_ | exact fun i => hN _ (by omega)
        | refine gdD_t (fun h => ?_) (fun h => ?_) | refine gdD_f (fun h => ?_) (fun h => ?_) | refine gdK_split (fun h => ?_) (fun h => ?_)
        | refine fgD_t (fun h => ?_) (fun h => ?_) | refine fgD_f (fun h => ?_) (fun h => ?_) | refine fgK_split (fun h => ?_) (fun h => ?_)
        | refine SRuns.condNil rfl (fun h => ?_) ?_ | refine SRuns.condT rfl ?_ | refine SRuns.condF rfl ?_ | refine SRuns.condD rfl (fun h => ?_) (fun h => ?_) | refine SRuns.cond rfl (fun h => ?_) (fun h => ?_)
        | simp (disch := omega) only [go_sem, vIs, ↓reduceIte, Nat.reduceAdd, Nat.reduceMul, Nat.reduceEqDiff, Nat.reduceLT, Nat.reduceLeDiff, Nat.reduceBEq, Int.toNat_natCast, true_or, or_true, Int.toNat_zero, Int.toNat_one, Bool.true_or, Bool.or_true, Bool.or_false, Bool.false_or, List.size_toArray, not_true_eq_false, not_false_eq_true, decide_true, decide_false, and_self]
        | (refine DoneF.rawv N hN ?_ ⟨?_, rfl⟩; (focus ((first | exact fun _ _ => rfl | (intro g hg; simp (disch := omega) only [go_sem])); done)))
        | (refine DoneF.done (Done.keep N hN ?_ ?_ ⟨rfl, rfl⟩); (focus ((first | exact fun _ _ => rfl | (intro g hg; simp (disch := omega) only [go_sem])); done)); (focus ((repeat' (first | exact trivial | exact CloL.nil | exact Clo.vIs | exact Clo.vIss | exact Clo.slv | exact CloB.rowI | exact Clo.slI | refine CloL.cons ?_ ?_ | refine Clo.agL ?_ | refine Clo.tupL ?_ | refine Clo.refL ?_ | refine Clo.fnL ?_ | refine CloB.cellsL ?_)); done)))
        | exact DoneF.all ⟨rfl, rfl⟩ | refine And.intro (by omega) ?_ | (exfalso; omega) | contradiction
        | fail)
    · exact .all (.inr (hc2 (by simpa using h)))
    · exact hc1 (by simpa using h)
  · obtain rfl : i = v.length := by omega
    repeat' (first
        | refine KR.go ?_ | refine SRuns.seq ?_ | refine SRuns.reg ?_ | refine SRuns.block ?_ | refine SRuns.skip ?_ | refine SRuns.inBlock ?_ | refine SRuns.exit rfl ?_
        | refine SRuns.ret (EEnd.of rfl ?_) | refine SRuns.fin (EEnd.of rfl ?_)
        | refine SRuns.ret (EEnd.of1 rfl ?_ ?_) | refine SRuns.fin (EEnd.of1 rfl ?_ ?_)
        | refine SRuns.free ?_
        | refine FR.at N ?_ (fun _ => []) ?_ | refine NewK.at N ?_ ?_ | exact fun i => hN _ (by omega)
        | refine gdD_t (fun h => ?_) (fun h => ?_) | refine gdD_f (fun h => ?_) (fun h => ?_) | refine gdK_split (fun h => ?_) (fun h => ?_)
        | refine fgD_t (fun h => ?_) (fun h => ?_) | refine fgD_f (fun h => ?_) (fun h => ?_) | refine fgK_split (fun h => ?_) (fun h => ?_)
        | refine SRuns.condNil rfl (fun h => ?_) ?_ | refine SRuns.condT rfl ?_ | refine SRuns.condF rfl ?_ | refine SRuns.condD rfl (fun h => ?_) (fun h => ?_) | refine SRuns.cond rfl (fun h => ?_) (fun h => ?_)
        | simp (disch := omega) only [go_sem, vIs, ↓reduceIte, Nat.reduceAdd, Nat.reduceMul, Nat.reduceEqDiff, Nat.reduceLT, Nat.reduceLeDiff, Nat.reduceBEq, Int.toNat_natCast, true_or, or_true, Int.toNat_zero, Int.toNat_one, Bool.true_or, Bool.or_true, Bool.or_false, Bool.false_or, List.size_toArray, not_true_eq_false, not_false_eq_true, decide_true, decide_false, and_self]
        | (refine DoneF.rawv N hN ?_ ⟨?_, rfl⟩; (focus ((first | exact fun _ _ => rfl | (intro g hg; simp (disch := omega) only [go_sem])); done)))
        | (refine DoneF.done (Done.keep N hN ?_ ?_ ⟨rfl, rfl⟩); (focus ((first | exact fun _ _ => rfl | (intro g hg; simp (disch := omega) only [go_sem])); done)); (focus ((repeat' (first | exact trivial | exact CloL.nil | exact Clo.vIs | exact Clo.vIss | exact Clo.slv | exact CloB.rowI | exact Clo.slI | refine CloL.cons ?_ ?_ | refine Clo.agL ?_ | refine Clo.tupL ?_ | refine Clo.refL ?_ | refine Clo.fnL ?_ | refine CloB.cellsL ?_)); done)))
        | exact DoneF.all ⟨rfl, rfl⟩ | refine And.intro (by omega) ?_ | (exfalso; omega) | contradiction
        | fail)
    exact .all (.inl hI)
def D46 (x y : Bx) (i : Nat) : Int := max (max 0 (gi x.1 i - gi y.2 i)) (gi y.1 i - gi x.2 i)
theorem f46 (a b c d : List Int) (hl : a.length < 2 ^ 40) (h1 : a.length ≤ b.length) (h2 : a.length ≤ c.length) (h3 : a.length ≤ d.length) (bd : ∀ i, i < a.length → (-1000 ≤ gi a i ∧ gi a i ≤ 1000) ∧ (-1000 ≤ gi b i ∧ gi b i ≤ 1000) ∧ (-1000 ≤ gi c i ∧ gi c i ≤ 1000) ∧ (-1000 ≤ gi d i ∧ gi d i ≤ 1000)) :
    SeqOf Try.prog 46 2 (lst [.ref 2 (lst [vIs a, vIs b]), .ref 2 (lst [vIs c, vIs d])]) a.length fun i => [vI (D46 (a, b) (c, d) i)] := by
  intro y M I S h0 hy
  refine a46 (by simp [tk]) (SRuns.fresh fun N hN => ?_)
  repeat' (first
      | refine KR.go ?_ | refine SRuns.seq ?_ | refine SRuns.reg ?_ | refine SRuns.block ?_ | refine SRuns.skip ?_ | refine SRuns.inBlock ?_ | refine SRuns.exit rfl ?_
      | refine SRuns.ret (EEnd.of rfl ?_) | refine SRuns.fin (EEnd.of rfl ?_)
      | refine SRuns.ret (EEnd.of1 rfl ?_ ?_) | refine SRuns.fin (EEnd.of1 rfl ?_ ?_)
      | refine SRuns.free ?_
      | refine FR.at N ?_ (fun _ => []) ?_ | refine NewK.at N ?_ ?_ | exact fun i => hN _ (by omega)
      | refine gdD_t (fun h => ?_) (fun h => ?_) | refine gdD_f (fun h => ?_) (fun h => ?_) | refine gdK_split (fun h => ?_) (fun h => ?_)
      | refine fgD_t (fun h => ?_) (fun h => ?_) | refine fgD_f (fun h => ?_) (fun h => ?_) | refine fgK_split (fun h => ?_) (fun h => ?_)
      | refine SRuns.condNil rfl (fun h => ?_) ?_ | refine SRuns.condT rfl ?_ | refine SRuns.condF rfl ?_ | refine SRuns.condD rfl (fun h => ?_) (fun h => ?_) | refine SRuns.cond rfl (fun h => ?_) (fun h => ?_)
      | simp (disch := omega) only [go_sem, vIs, ↓reduceIte, Nat.reduceAdd, Nat.reduceMul, Nat.reduceEqDiff, Nat.reduceLT, Nat.reduceLeDiff, Nat.reduceBEq, Int.toNat_natCast, true_or, or_true, Int.toNat_zero, Int.toNat_one, Bool.true_or, Bool.or_true, Bool.or_false, Bool.false_or, List.size_toArray, not_true_eq_false, not_false_eq_true, decide_true, decide_false, and_self]
      | (refine DoneF.rawv N hN ?_ ⟨?_, rfl⟩; (focus ((first | exact fun _ _ => rfl | (intro g hg; simp (disch := omega) only [go_sem])); done)))
      | (refine DoneF.done (Done.keep N hN ?_ ?_ ⟨rfl, rfl⟩); (focus ((first | exact fun _ _ => rfl | (intro g hg; simp (disch := omega) only [go_sem])); done)); (focus ((repeat' (first | exact trivial | exact CloL.nil | exact Clo.vIs | exact Clo.vIss | exact Clo.slv | exact CloB.rowI | exact Clo.slI | refine CloL.cons ?_ ?_ | refine Clo.agL ?_ | refine Clo.tupL ?_ | refine Clo.refL ?_ | refine Clo.fnL ?_ | refine CloB.cellsL ?_)); done)))
      | exact DoneF.all ⟨rfl, rfl⟩ | refine And.intro (by omega) ?_ | (exfalso; omega) | contradiction
      | fail)
  refine SRuns.loopS (σ := Nat × Mem) (fun s => a.length - s.1) (fun s => [(0, .yl y), (1, .ref 2 (lst [vIs a, vIs b])), (2, .ref 2 (lst [vIs c, vIs d])), (7, vI a.length), (8, vI s.1)]) (fun s => s.2) (fun s => s.1 ≤ a.length ∧ I s.1 s.2) (0, M) (by (repeat' (first | assumption | exact Le.dead _ | exact Le.mkF | exact LeS.nil | exact Les.refl _ | exact LeL.refl _ | exact Le.refl _ | exact Le.ofI (by omega) | exact Le.nil | refine LeS.cons rfl ?_ ?_ | refine Les.cons ?_ ?_ | refine LeL.cons ?_ ?_ | refine Le.agL ?_ | refine Le.tupL ?_ | refine Le.refL ?_ | refine Le.fnL ?_ | refine Le.lit2 rfl ?_ | refine Le.litI rfl ?_)); done) rfl ⟨by omega, h0⟩ ?_
  rintro ⟨i, M1⟩ ⟨hi, hI⟩ IH
  simp only at hi hI ⊢
  by_cases hlt : i < a.length
  · have := bd i hlt
    repeat' (first
        | refine FR.go fun gs hgs hgi => ⟨fun _ => [], ?_⟩
        | (refine yaK.go ?_; refine yaK.of (hy i M1 (by omega) hI) ?_; rintro _ M2 ⟨c, rfl, hc1, hc2⟩)
        | (refine SRuns.goL ?_; refine SRuns.weakL (by (repeat' (first | assumption | exact Le.dead _ | exact Le.mkF | exact LeS.nil | exact Les.refl _ | exact LeL.refl _ | exact Le.refl _ | exact Le.ofI (by omega) | exact Le.nil | refine LeS.cons rfl ?_ ?_ | refine Les.cons ?_ ?_ | refine LeL.cons ?_ ?_ | refine Le.agL ?_ | refine Le.tupL ?_ | refine Le.refL ?_ | refine Le.fnL ?_ | refine Le.lit2 rfl ?_ | refine Le.litI rfl ?_)); done) (IH (i + 1, _) (by simp only; omega) ⟨by simp only; omega, ?_⟩))
        | refine KR.go ?_ | refine SRuns.seq ?_ | refine SRuns.reg ?_ | refine SRuns.block ?_ | refine SRuns.skip ?_ | refine SRuns.inBlock ?_ | refine SRuns.exit rfl ?_
        | refine SRuns.ret (EEnd.of rfl ?_) | refine SRuns.fin (EEnd.of rfl ?_)
        | refine SRuns.ret (EEnd.of1 rfl ?_ ?_) | refine SRuns.fin (EEnd.of1 rfl ?_ ?_)
        | refine SRuns.free ?_
        | refine FR.at N ?_ (fun _ => []) ?_ | refine NewK.at N ?_ ?_ | exact fun i => hN _ (by omega)
        | refine gdD_t (fun h => ?_) (fun h => ?_) | refine gdD_f (fun h => ?_) (fun h => ?_) | refine gdK_split (fun h => ?_) (fun h => ?_)
        | refine fgD_t (fun h => ?_) (fun h => ?_) | refine fgD_f (fun h => ?_) (fun h => ?_) | refine fgK_split (fun h => ?_) (fun h => ?_)
        | refine SRuns.condNil rfl (fun h => ?_) ?_ | refine SRuns.condT rfl ?_ | refine SRuns.condF rfl ?_ | refine SRuns.condD rfl (fun h => ?_) (fun h => ?_) | refine SRuns.cond rfl (fun h => ?_) (fun h => ?_)
        | simp (disch := omega) only [go_sem, vIs, ↓reduceIte, Nat.reduceAdd, Nat.reduceMul, Nat.reduceEqDiff, Nat.reduceLT, Nat.reduceLeDiff, Nat.reduceBEq, Int.toNat_natCast, true_or, or_true, Int.toNat_zero, Int.toNat_one, Bool.true_or, Bool.or_true, Bool.or_false, Bool.false_or, List.size_toArray, not_true_eq_false, not_false_eq_true, decide_true, decide_false, and_self]
        | (refine DoneF.rawv N hN ?_ ⟨?_, rfl⟩; (focus ((first | exact fun _ _ => rfl | (intro g hg; simp (disch := omega) only [go_sem])); done)))
        | (refine DoneF.done (Done.keep N hN ?_ ?_ ⟨rfl, rfl⟩); (focus ((first | exact fun _ _ => rfl | (intro g hg; simp (disch := omega) only [go_sem])); done)); (focus ((repeat' (first | exact trivial | exact CloL.nil | exact Clo.vIs | exact Clo.vIss | exact Clo.slv | exact CloB.rowI | exact Clo.slI | refine CloL.cons ?_ ?_ | refine Clo.agL ?_ | refine Clo.tupL ?_ | refine Clo.refL ?_ | refine Clo.fnL ?_ | refine CloB.cellsL ?_)); done)))
        | exact DoneF.all ⟨rfl, rfl⟩ | refine And.intro (by omega) ?_ | (exfalso; omega) | contradiction
        | fail)
    · exact .all (.inr (hc2 (by simpa using h)))
    · exact hc1 (by simpa using h)
  · obtain rfl : i = a.length := by omega
    repeat' (first
        | refine KR.go ?_ | refine SRuns.seq ?_ | refine SRuns.reg ?_ | refine SRuns.block ?_ | refine SRuns.skip ?_ | refine SRuns.inBlock ?_ | refine SRuns.exit rfl ?_
        | refine SRuns.ret (EEnd.of rfl ?_) | refine SRuns.fin (EEnd.of rfl ?_)
        | refine SRuns.ret (EEnd.of1 rfl ?_ ?_) | refine SRuns.fin (EEnd.of1 rfl ?_ ?_)
        | refine SRuns.free ?_
        | refine FR.at N ?_ (fun _ => []) ?_ | refine NewK.at N ?_ ?_ | exact fun i => hN _ (by omega)
        | refine gdD_t (fun h => ?_) (fun h => ?_) | refine gdD_f (fun h => ?_) (fun h => ?_) | refine gdK_split (fun h => ?_) (fun h => ?_)
        | refine fgD_t (fun h => ?_) (fun h => ?_) | refine fgD_f (fun h => ?_) (fun h => ?_) | refine fgK_split (fun h => ?_) (fun h => ?_)
        | refine SRuns.condNil rfl (fun h => ?_) ?_ | refine SRuns.condT rfl ?_ | refine SRuns.condF rfl ?_ | refine SRuns.condD rfl (fun h => ?_) (fun h => ?_) | refine SRuns.cond rfl (fun h => ?_) (fun h => ?_)
        | simp (disch := omega) only [go_sem, vIs, ↓reduceIte, Nat.reduceAdd, Nat.reduceMul, Nat.reduceEqDiff, Nat.reduceLT, Nat.reduceLeDiff, Nat.reduceBEq, Int.toNat_natCast, true_or, or_true, Int.toNat_zero, Int.toNat_one, Bool.true_or, Bool.or_true, Bool.or_false, Bool.false_or, List.size_toArray, not_true_eq_false, not_false_eq_true, decide_true, decide_false, and_self]
        | (refine DoneF.rawv N hN ?_ ⟨?_, rfl⟩; (focus ((first | exact fun _ _ => rfl | (intro g hg; simp (disch := omega) only [go_sem])); done)))
        | (refine DoneF.done (Done.keep N hN ?_ ?_ ⟨rfl, rfl⟩); (focus ((first | exact fun _ _ => rfl | (intro g hg; simp (disch := omega) only [go_sem])); done)); (focus ((repeat' (first | exact trivial | exact CloL.nil | exact Clo.vIs | exact Clo.vIss | exact Clo.slv | exact CloB.rowI | exact Clo.slI | refine CloL.cons ?_ ?_ | refine Clo.agL ?_ | refine Clo.tupL ?_ | refine Clo.refL ?_ | refine Clo.fnL ?_ | refine CloB.cellsL ?_)); done)))
        | exact DoneF.all ⟨rfl, rfl⟩ | refine And.intro (by omega) ?_ | (exfalso; omega) | contradiction
        | fail)
    exact .all (.inl hI)
def vNE (p : Int × Int) : AV := .tup 2 (lst [vI p.1, vI p.2])
noncomputable def mS (m : Int) (x : Bx) (v : List Int) (D : Nat → Int) : Int × Int := if Asked m x v then (keyA m D v.length, 0) else (0, 1)
theorem f41 (k : Nat) (m : Int) (a b v : List Int) (h1 : a.length < 2 ^ 40) (h2 : b.length < 2 ^ 40) (h3 : v.length < 2 ^ 40) (D : Nat → Int) (hk : Valid (a, b) → Vec v → v.length = a.length → ∀ i, i < v.length → (0 ≤ D i ∧ D i ≤ 4000) ∧ ∀ M, ACalls Try.prog k [vI (gi a i), vI (gi b i), vI (gi v i)] M fun r M' => r = vI (D i) ∧ M' = M) (M : Mem) : ACalls Try.prog 41 [vI m, vBox (a, b), vIs v, .fn (.func k) 0 fun _ => .dead] M fun r M' => r = vNE (mS m (a, b) v D) ∧ M' = M := by
  refine a41 (by simp) (SRuns.fresh fun N hN => ?_)
  by_cases c1 : Valid (a, b)
  · by_cases c2 : Vec v
    · by_cases c3 : v.length = a.length
      · have e1 : a.length = b.length := c1.2.2.1
        have e3 : v.length ≤ 32 := c2.2.2
        by_cases c4 : 1 ≤ m ∧ m ≤ 3
        · rw [show mS m (a, b) v D = (keyA m D v.length, 0) from if_pos ⟨c4, c1, c2, c3⟩]
          repeat' (first
              | (refine caK.go ?_; refine caK.valL (by (repeat' (first | assumption | exact Le.dead _ | exact Le.mkF | exact LeS.nil | exact Les.refl _ | exact LeL.refl _ | exact Le.refl _ | exact Le.ofI (by omega) | exact Le.nil | refine LeS.cons rfl ?_ ?_ | refine Les.cons ?_ ?_ | refine LeL.cons ?_ ?_ | refine Le.agL ?_ | refine Le.tupL ?_ | refine Le.refL ?_ | refine Le.fnL ?_ | refine Le.lit2 rfl ?_ | refine Le.litI rfl ?_)); done) (f24 _ _ (by omega) (by omega) _) ?_)
              | (refine caF.go ?_; refine caF.valL (by (repeat' (first | assumption | exact Le.dead _ | exact Le.mkF | exact LeS.nil | exact Les.refl _ | exact LeL.refl _ | exact Le.refl _ | exact Le.ofI (by omega) | exact Le.nil | refine LeS.cons rfl ?_ ?_ | refine Les.cons ?_ ?_ | refine LeL.cons ?_ ?_ | refine Le.agL ?_ | refine Le.tupL ?_ | refine Le.refL ?_ | refine Le.fnL ?_ | refine Le.lit2 rfl ?_ | refine Le.litI rfl ?_)); done) (fun M2 => f24 _ _ (by omega) (by omega) M2) ?_)
              | (refine caK.go ?_; refine caK.valL (by (repeat' (first | assumption | exact Le.dead _ | exact Le.mkF | exact LeS.nil | exact Les.refl _ | exact LeL.refl _ | exact Le.refl _ | exact Le.ofI (by omega) | exact Le.nil | refine LeS.cons rfl ?_ ?_ | refine Les.cons ?_ ?_ | refine LeL.cons ?_ ?_ | refine Le.agL ?_ | refine Le.tupL ?_ | refine Le.refL ?_ | refine Le.fnL ?_ | refine Le.lit2 rfl ?_ | refine Le.litI rfl ?_)); done) (f55 _ (by omega) _) ?_)
              | (refine caF.go ?_; refine caF.valL (by (repeat' (first | assumption | exact Le.dead _ | exact Le.mkF | exact LeS.nil | exact Les.refl _ | exact LeL.refl _ | exact Le.refl _ | exact Le.ofI (by omega) | exact Le.nil | refine LeS.cons rfl ?_ ?_ | refine Les.cons ?_ ?_ | refine LeL.cons ?_ ?_ | refine Le.agL ?_ | refine Le.tupL ?_ | refine Le.refL ?_ | refine Le.fnL ?_ | refine Le.lit2 rfl ?_ | refine Le.litI rfl ?_)); done) (fun M2 => f55 _ (by omega) M2) ?_)
              | (refine caK.go ?_; refine caK.valL (by (repeat' (first | assumption | exact Le.dead _ | exact Le.mkF | exact LeS.nil | exact Les.refl _ | exact LeL.refl _ | exact Le.refl _ | exact Le.ofI (by omega) | exact Le.nil | refine LeS.cons rfl ?_ ?_ | refine Les.cons ?_ ?_ | refine LeL.cons ?_ ?_ | refine Le.agL ?_ | refine Le.tupL ?_ | refine Le.refL ?_ | refine Le.fnL ?_ | refine Le.lit2 rfl ?_ | refine Le.litI rfl ?_)); done) (f45 m c4 61 3 v.length _ D (f61 k a b v (by omega) (by omega) (by omega) D (fun i hi => (hk c1 c2 c3 i hi).2)) (by omega) (fun i hi => (hk c1 c2 c3 i hi).1) _) ?_)
              | (refine caF.go ?_; refine caF.valL (by (repeat' (first | assumption | exact Le.dead _ | exact Le.mkF | exact LeS.nil | exact Les.refl _ | exact LeL.refl _ | exact Le.refl _ | exact Le.ofI (by omega) | exact Le.nil | refine LeS.cons rfl ?_ ?_ | refine Les.cons ?_ ?_ | refine LeL.cons ?_ ?_ | refine Le.agL ?_ | refine Le.tupL ?_ | refine Le.refL ?_ | refine Le.fnL ?_ | refine Le.lit2 rfl ?_ | refine Le.litI rfl ?_)); done) (fun M2 => f45 m c4 61 3 v.length _ D (f61 k a b v (by omega) (by omega) (by omega) D (fun i hi => (hk c1 c2 c3 i hi).2)) (by omega) (fun i hi => (hk c1 c2 c3 i hi).1) M2) ?_)
              | refine KR.go ?_ | refine SRuns.seq ?_ | refine SRuns.reg ?_ | refine SRuns.block ?_ | refine SRuns.skip ?_ | refine SRuns.inBlock ?_ | refine SRuns.exit rfl ?_
              | refine SRuns.ret (EEnd.of rfl ?_) | refine SRuns.fin (EEnd.of rfl ?_)
              | refine SRuns.ret (EEnd.of1 rfl ?_ ?_) | refine SRuns.fin (EEnd.of1 rfl ?_ ?_)
              | refine SRuns.free ?_
              | refine FR.at N ?_ (fun _ => []) ?_ | refine NewK.at N ?_ ?_ | exact fun i => hN _ (by omega)
              | refine gdD_t (fun h => ?_) (fun h => ?_) | refine gdD_f (fun h => ?_) (fun h => ?_) | refine gdK_split (fun h => ?_) (fun h => ?_)
              | refine fgD_t (fun h => ?_) (fun h => ?_) | refine fgD_f (fun h => ?_) (fun h => ?_) | refine fgK_split (fun h => ?_) (fun h => ?_)
              | refine SRuns.condNil rfl (fun h => ?_) ?_ | refine SRuns.condT rfl ?_ | refine SRuns.condF rfl ?_ | refine SRuns.condD rfl (fun h => ?_) (fun h => ?_) | refine SRuns.cond rfl (fun h => ?_) (fun h => ?_)
              | simp (disch := omega) only [go_sem, vIs, vBox, hN, c1, c2, vIB, ↓reduceIte, Nat.reduceAdd, Nat.reduceMul, Nat.reduceEqDiff, Nat.reduceLT, Nat.reduceLeDiff, Nat.reduceBEq, Int.toNat_natCast, true_or, or_true, Int.toNat_zero, Int.toNat_one, Bool.true_or, Bool.or_true, Bool.or_false, Bool.false_or, List.size_toArray, not_true_eq_false, not_false_eq_true, decide_true, decide_false, and_self]
              | (refine DoneF.rawv N hN ?_ ⟨?_, rfl⟩; (focus ((first | exact fun _ _ => rfl | (intro g hg; simp (disch := omega) only [go_sem])); done)))
              | (refine DoneF.done (Done.keep N hN ?_ ?_ ⟨rfl, rfl⟩); (focus ((first | exact fun _ _ => rfl | (intro g hg; simp (disch := omega) only [go_sem])); done)); (focus ((repeat' (first | exact trivial | exact CloL.nil | exact Clo.vIs | exact Clo.vIss | exact Clo.slv | exact CloB.rowI | exact Clo.slI | refine CloL.cons ?_ ?_ | refine Clo.agL ?_ | refine Clo.tupL ?_ | refine Clo.refL ?_ | refine Clo.fnL ?_ | refine CloB.cellsL ?_)); done)))
              | exact DoneF.all ⟨rfl, rfl⟩ | refine And.intro (by omega) ?_ | (exfalso; omega) | contradiction
              | fail)
        · rw [show mS m (a, b) v D = (0, 1) from if_neg fun h => c4 h.1]
          repeat' (first
              | (refine caK.go ?_; refine caK.valL (by (repeat' (first | assumption | exact Le.dead _ | exact Le.mkF | exact LeS.nil | exact Les.refl _ | exact LeL.refl _ | exact Le.refl _ | exact Le.ofI (by omega) | exact Le.nil | refine LeS.cons rfl ?_ ?_ | refine Les.cons ?_ ?_ | refine LeL.cons ?_ ?_ | refine Le.agL ?_ | refine Le.tupL ?_ | refine Le.refL ?_ | refine Le.fnL ?_ | refine Le.lit2 rfl ?_ | refine Le.litI rfl ?_)); done) (f24 _ _ (by omega) (by omega) _) ?_)
              | (refine caF.go ?_; refine caF.valL (by (repeat' (first | assumption | exact Le.dead _ | exact Le.mkF | exact LeS.nil | exact Les.refl _ | exact LeL.refl _ | exact Le.refl _ | exact Le.ofI (by omega) | exact Le.nil | refine LeS.cons rfl ?_ ?_ | refine Les.cons ?_ ?_ | refine LeL.cons ?_ ?_ | refine Le.agL ?_ | refine Le.tupL ?_ | refine Le.refL ?_ | refine Le.fnL ?_ | refine Le.lit2 rfl ?_ | refine Le.litI rfl ?_)); done) (fun M2 => f24 _ _ (by omega) (by omega) M2) ?_)
              | (refine caK.go ?_; refine caK.valL (by (repeat' (first | assumption | exact Le.dead _ | exact Le.mkF | exact LeS.nil | exact Les.refl _ | exact LeL.refl _ | exact Le.refl _ | exact Le.ofI (by omega) | exact Le.nil | refine LeS.cons rfl ?_ ?_ | refine Les.cons ?_ ?_ | refine LeL.cons ?_ ?_ | refine Le.agL ?_ | refine Le.tupL ?_ | refine Le.refL ?_ | refine Le.fnL ?_ | refine Le.lit2 rfl ?_ | refine Le.litI rfl ?_)); done) (f55 _ (by omega) _) ?_)
              | (refine caF.go ?_; refine caF.valL (by (repeat' (first | assumption | exact Le.dead _ | exact Le.mkF | exact LeS.nil | exact Les.refl _ | exact LeL.refl _ | exact Le.refl _ | exact Le.ofI (by omega) | exact Le.nil | refine LeS.cons rfl ?_ ?_ | refine Les.cons ?_ ?_ | refine LeL.cons ?_ ?_ | refine Le.agL ?_ | refine Le.tupL ?_ | refine Le.refL ?_ | refine Le.fnL ?_ | refine Le.lit2 rfl ?_ | refine Le.litI rfl ?_)); done) (fun M2 => f55 _ (by omega) M2) ?_)
              | (refine caK.go ?_; refine caK.valL (by (repeat' (first | assumption | exact Le.dead _ | exact Le.mkF | exact LeS.nil | exact Les.refl _ | exact LeL.refl _ | exact Le.refl _ | exact Le.ofI (by omega) | exact Le.nil | refine LeS.cons rfl ?_ ?_ | refine Les.cons ?_ ?_ | refine LeL.cons ?_ ?_ | refine Le.agL ?_ | refine Le.tupL ?_ | refine Le.refL ?_ | refine Le.fnL ?_ | refine Le.lit2 rfl ?_ | refine Le.litI rfl ?_)); done) (f45no m c4 _ _) ?_)
              | (refine caF.go ?_; refine caF.valL (by (repeat' (first | assumption | exact Le.dead _ | exact Le.mkF | exact LeS.nil | exact Les.refl _ | exact LeL.refl _ | exact Le.refl _ | exact Le.ofI (by omega) | exact Le.nil | refine LeS.cons rfl ?_ ?_ | refine Les.cons ?_ ?_ | refine LeL.cons ?_ ?_ | refine Le.agL ?_ | refine Le.tupL ?_ | refine Le.refL ?_ | refine Le.fnL ?_ | refine Le.lit2 rfl ?_ | refine Le.litI rfl ?_)); done) (fun M2 => f45no m c4 _ M2) ?_)
              | refine KR.go ?_ | refine SRuns.seq ?_ | refine SRuns.reg ?_ | refine SRuns.block ?_ | refine SRuns.skip ?_ | refine SRuns.inBlock ?_ | refine SRuns.exit rfl ?_
              | refine SRuns.ret (EEnd.of rfl ?_) | refine SRuns.fin (EEnd.of rfl ?_)
              | refine SRuns.ret (EEnd.of1 rfl ?_ ?_) | refine SRuns.fin (EEnd.of1 rfl ?_ ?_)
              | refine SRuns.free ?_
              | refine FR.at N ?_ (fun _ => []) ?_ | refine NewK.at N ?_ ?_ | exact fun i => hN _ (by omega)
              | refine gdD_t (fun h => ?_) (fun h => ?_) | refine gdD_f (fun h => ?_) (fun h => ?_) | refine gdK_split (fun h => ?_) (fun h => ?_)
              | refine fgD_t (fun h => ?_) (fun h => ?_) | refine fgD_f (fun h => ?_) (fun h => ?_) | refine fgK_split (fun h => ?_) (fun h => ?_)
              | refine SRuns.condNil rfl (fun h => ?_) ?_ | refine SRuns.condT rfl ?_ | refine SRuns.condF rfl ?_ | refine SRuns.condD rfl (fun h => ?_) (fun h => ?_) | refine SRuns.cond rfl (fun h => ?_) (fun h => ?_)
              | simp (disch := omega) only [go_sem, vIs, vBox, hN, c1, c2, vIB, ↓reduceIte, Nat.reduceAdd, Nat.reduceMul, Nat.reduceEqDiff, Nat.reduceLT, Nat.reduceLeDiff, Nat.reduceBEq, Int.toNat_natCast, true_or, or_true, Int.toNat_zero, Int.toNat_one, Bool.true_or, Bool.or_true, Bool.or_false, Bool.false_or, List.size_toArray, not_true_eq_false, not_false_eq_true, decide_true, decide_false, and_self]
              | (refine DoneF.rawv N hN ?_ ⟨?_, rfl⟩; (focus ((first | exact fun _ _ => rfl | (intro g hg; simp (disch := omega) only [go_sem])); done)))
              | (refine DoneF.done (Done.keep N hN ?_ ?_ ⟨rfl, rfl⟩); (focus ((first | exact fun _ _ => rfl | (intro g hg; simp (disch := omega) only [go_sem])); done)); (focus ((repeat' (first | exact trivial | exact CloL.nil | exact Clo.vIs | exact Clo.vIss | exact Clo.slv | exact CloB.rowI | exact Clo.slI | refine CloL.cons ?_ ?_ | refine Clo.agL ?_ | refine Clo.tupL ?_ | refine Clo.refL ?_ | refine Clo.fnL ?_ | refine CloB.cellsL ?_)); done)))
              | exact DoneF.all ⟨rfl, rfl⟩ | refine And.intro (by omega) ?_ | (exfalso; omega) | contradiction
              | fail)
      · rw [show mS m (a, b) v D = (0, 1) from if_neg fun h => c3 h.2.2.2]
        repeat' (first
            | (refine caK.go ?_; refine caK.valL (by (repeat' (first | assumption | exact Le.dead _ | exact Le.mkF | exact LeS.nil | exact Les.refl _ | exact LeL.refl _ | exact Le.refl _ | exact Le.ofI (by omega) | exact Le.nil | refine LeS.cons rfl ?_ ?_ | refine Les.cons ?_ ?_ | refine LeL.cons ?_ ?_ | refine Le.agL ?_ | refine Le.tupL ?_ | refine Le.refL ?_ | refine Le.fnL ?_ | refine Le.lit2 rfl ?_ | refine Le.litI rfl ?_)); done) (f24 _ _ (by omega) (by omega) _) ?_)
            | (refine caF.go ?_; refine caF.valL (by (repeat' (first | assumption | exact Le.dead _ | exact Le.mkF | exact LeS.nil | exact Les.refl _ | exact LeL.refl _ | exact Le.refl _ | exact Le.ofI (by omega) | exact Le.nil | refine LeS.cons rfl ?_ ?_ | refine Les.cons ?_ ?_ | refine LeL.cons ?_ ?_ | refine Le.agL ?_ | refine Le.tupL ?_ | refine Le.refL ?_ | refine Le.fnL ?_ | refine Le.lit2 rfl ?_ | refine Le.litI rfl ?_)); done) (fun M2 => f24 _ _ (by omega) (by omega) M2) ?_)
            | (refine caK.go ?_; refine caK.valL (by (repeat' (first | assumption | exact Le.dead _ | exact Le.mkF | exact LeS.nil | exact Les.refl _ | exact LeL.refl _ | exact Le.refl _ | exact Le.ofI (by omega) | exact Le.nil | refine LeS.cons rfl ?_ ?_ | refine Les.cons ?_ ?_ | refine LeL.cons ?_ ?_ | refine Le.agL ?_ | refine Le.tupL ?_ | refine Le.refL ?_ | refine Le.fnL ?_ | refine Le.lit2 rfl ?_ | refine Le.litI rfl ?_)); done) (f55 _ (by omega) _) ?_)
            | (refine caF.go ?_; refine caF.valL (by (repeat' (first | assumption | exact Le.dead _ | exact Le.mkF | exact LeS.nil | exact Les.refl _ | exact LeL.refl _ | exact Le.refl _ | exact Le.ofI (by omega) | exact Le.nil | refine LeS.cons rfl ?_ ?_ | refine Les.cons ?_ ?_ | refine LeL.cons ?_ ?_ | refine Le.agL ?_ | refine Le.tupL ?_ | refine Le.refL ?_ | refine Le.fnL ?_ | refine Le.lit2 rfl ?_ | refine Le.litI rfl ?_)); done) (fun M2 => f55 _ (by omega) M2) ?_)
            | refine KR.go ?_ | refine SRuns.seq ?_ | refine SRuns.reg ?_ | refine SRuns.block ?_ | refine SRuns.skip ?_ | refine SRuns.inBlock ?_ | refine SRuns.exit rfl ?_
            | refine SRuns.ret (EEnd.of rfl ?_) | refine SRuns.fin (EEnd.of rfl ?_)
            | refine SRuns.ret (EEnd.of1 rfl ?_ ?_) | refine SRuns.fin (EEnd.of1 rfl ?_ ?_)
            | refine SRuns.free ?_
            | refine FR.at N ?_ (fun _ => []) ?_ | refine NewK.at N ?_ ?_ | exact fun i => hN _ (by omega)
            | refine gdD_t (fun h => ?_) (fun h => ?_) | refine gdD_f (fun h => ?_) (fun h => ?_) | refine gdK_split (fun h => ?_) (fun h => ?_)
            | refine fgD_t (fun h => ?_) (fun h => ?_) | refine fgD_f (fun h => ?_) (fun h => ?_) | refine fgK_split (fun h => ?_) (fun h => ?_)
            | refine SRuns.condNil rfl (fun h => ?_) ?_ | refine SRuns.condT rfl ?_ | refine SRuns.condF rfl ?_ | refine SRuns.condD rfl (fun h => ?_) (fun h => ?_) | refine SRuns.cond rfl (fun h => ?_) (fun h => ?_)
            | simp (disch := omega) only [go_sem, vIs, vBox, hN, c1, c2, ↓reduceIte, Nat.reduceAdd, Nat.reduceMul, Nat.reduceEqDiff, Nat.reduceLT, Nat.reduceLeDiff, Nat.reduceBEq, Int.toNat_natCast, true_or, or_true, Int.toNat_zero, Int.toNat_one, Bool.true_or, Bool.or_true, Bool.or_false, Bool.false_or, List.size_toArray, not_true_eq_false, not_false_eq_true, decide_true, decide_false, and_self]
            | (refine DoneF.rawv N hN ?_ ⟨?_, rfl⟩; (focus ((first | exact fun _ _ => rfl | (intro g hg; simp (disch := omega) only [go_sem])); done)))
            | (refine DoneF.done (Done.keep N hN ?_ ?_ ⟨rfl, rfl⟩); (focus ((first | exact fun _ _ => rfl | (intro g hg; simp (disch := omega) only [go_sem])); done)); (focus ((repeat' (first | exact trivial | exact CloL.nil | exact Clo.vIs | exact Clo.vIss | exact Clo.slv | exact CloB.rowI | exact Clo.slI | refine CloL.cons ?_ ?_ | refine Clo.agL ?_ | refine Clo.tupL ?_ | refine Clo.refL ?_ | refine Clo.fnL ?_ | refine CloB.cellsL ?_)); done)))
            | exact DoneF.all ⟨rfl, rfl⟩ | refine And.intro (by omega) ?_ | (exfalso; omega) | contradiction
            | fail)
    · rw [show mS m (a, b) v D = (0, 1) from if_neg fun h => c2 h.2.2.1]
      repeat' (first
          | (refine caK.go ?_; refine caK.valL (by (repeat' (first | assumption | exact Le.dead _ | exact Le.mkF | exact LeS.nil | exact Les.refl _ | exact LeL.refl _ | exact Le.refl _ | exact Le.ofI (by omega) | exact Le.nil | refine LeS.cons rfl ?_ ?_ | refine Les.cons ?_ ?_ | refine LeL.cons ?_ ?_ | refine Le.agL ?_ | refine Le.tupL ?_ | refine Le.refL ?_ | refine Le.fnL ?_ | refine Le.lit2 rfl ?_ | refine Le.litI rfl ?_)); done) (f24 _ _ (by omega) (by omega) _) ?_)
          | (refine caF.go ?_; refine caF.valL (by (repeat' (first | assumption | exact Le.dead _ | exact Le.mkF | exact LeS.nil | exact Les.refl _ | exact LeL.refl _ | exact Le.refl _ | exact Le.ofI (by omega) | exact Le.nil | refine LeS.cons rfl ?_ ?_ | refine Les.cons ?_ ?_ | refine LeL.cons ?_ ?_ | refine Le.agL ?_ | refine Le.tupL ?_ | refine Le.refL ?_ | refine Le.fnL ?_ | refine Le.lit2 rfl ?_ | refine Le.litI rfl ?_)); done) (fun M2 => f24 _ _ (by omega) (by omega) M2) ?_)
          | (refine caK.go ?_; refine caK.valL (by (repeat' (first | assumption | exact Le.dead _ | exact Le.mkF | exact LeS.nil | exact Les.refl _ | exact LeL.refl _ | exact Le.refl _ | exact Le.ofI (by omega) | exact Le.nil | refine LeS.cons rfl ?_ ?_ | refine Les.cons ?_ ?_ | refine LeL.cons ?_ ?_ | refine Le.agL ?_ | refine Le.tupL ?_ | refine Le.refL ?_ | refine Le.fnL ?_ | refine Le.lit2 rfl ?_ | refine Le.litI rfl ?_)); done) (f55 _ (by omega) _) ?_)
          | (refine caF.go ?_; refine caF.valL (by (repeat' (first | assumption | exact Le.dead _ | exact Le.mkF | exact LeS.nil | exact Les.refl _ | exact LeL.refl _ | exact Le.refl _ | exact Le.ofI (by omega) | exact Le.nil | refine LeS.cons rfl ?_ ?_ | refine Les.cons ?_ ?_ | refine LeL.cons ?_ ?_ | refine Le.agL ?_ | refine Le.tupL ?_ | refine Le.refL ?_ | refine Le.fnL ?_ | refine Le.lit2 rfl ?_ | refine Le.litI rfl ?_)); done) (fun M2 => f55 _ (by omega) M2) ?_)
          | refine KR.go ?_ | refine SRuns.seq ?_ | refine SRuns.reg ?_ | refine SRuns.block ?_ | refine SRuns.skip ?_ | refine SRuns.inBlock ?_ | refine SRuns.exit rfl ?_
          | refine SRuns.ret (EEnd.of rfl ?_) | refine SRuns.fin (EEnd.of rfl ?_)
          | refine SRuns.ret (EEnd.of1 rfl ?_ ?_) | refine SRuns.fin (EEnd.of1 rfl ?_ ?_)
          | refine SRuns.free ?_
          | refine FR.at N ?_ (fun _ => []) ?_ | refine NewK.at N ?_ ?_ | exact fun i => hN _ (by omega)
          | refine gdD_t (fun h => ?_) (fun h => ?_) | refine gdD_f (fun h => ?_) (fun h => ?_) | refine gdK_split (fun h => ?_) (fun h => ?_)
          | refine fgD_t (fun h => ?_) (fun h => ?_) | refine fgD_f (fun h => ?_) (fun h => ?_) | refine fgK_split (fun h => ?_) (fun h => ?_)
          | refine SRuns.condNil rfl (fun h => ?_) ?_ | refine SRuns.condT rfl ?_ | refine SRuns.condF rfl ?_ | refine SRuns.condD rfl (fun h => ?_) (fun h => ?_) | refine SRuns.cond rfl (fun h => ?_) (fun h => ?_)
          | simp (disch := omega) only [go_sem, vIs, vBox, hN, c1, c2, ↓reduceIte, Nat.reduceAdd, Nat.reduceMul, Nat.reduceEqDiff, Nat.reduceLT, Nat.reduceLeDiff, Nat.reduceBEq, Int.toNat_natCast, true_or, or_true, Int.toNat_zero, Int.toNat_one, Bool.true_or, Bool.or_true, Bool.or_false, Bool.false_or, List.size_toArray, not_true_eq_false, not_false_eq_true, decide_true, decide_false, and_self]
          | (refine DoneF.rawv N hN ?_ ⟨?_, rfl⟩; (focus ((first | exact fun _ _ => rfl | (intro g hg; simp (disch := omega) only [go_sem])); done)))
          | (refine DoneF.done (Done.keep N hN ?_ ?_ ⟨rfl, rfl⟩); (focus ((first | exact fun _ _ => rfl | (intro g hg; simp (disch := omega) only [go_sem])); done)); (focus ((repeat' (first | exact trivial | exact CloL.nil | exact Clo.vIs | exact Clo.vIss | exact Clo.slv | exact CloB.rowI | exact Clo.slI | refine CloL.cons ?_ ?_ | refine Clo.agL ?_ | refine Clo.tupL ?_ | refine Clo.refL ?_ | refine Clo.fnL ?_ | refine CloB.cellsL ?_)); done)))
          | exact DoneF.all ⟨rfl, rfl⟩ | refine And.intro (by omega) ?_ | (exfalso; omega) | contradiction
          | fail)
  · rw [show mS m (a, b) v D = (0, 1) from if_neg fun h => c1 h.2.1]
    repeat' (first
        | (refine caK.go ?_; refine caK.valL (by (repeat' (first | assumption | exact Le.dead _ | exact Le.mkF | exact LeS.nil | exact Les.refl _ | exact LeL.refl _ | exact Le.refl _ | exact Le.ofI (by omega) | exact Le.nil | refine LeS.cons rfl ?_ ?_ | refine Les.cons ?_ ?_ | refine LeL.cons ?_ ?_ | refine Le.agL ?_ | refine Le.tupL ?_ | refine Le.refL ?_ | refine Le.fnL ?_ | refine Le.lit2 rfl ?_ | refine Le.litI rfl ?_)); done) (f24 _ _ (by omega) (by omega) _) ?_)
        | (refine caF.go ?_; refine caF.valL (by (repeat' (first | assumption | exact Le.dead _ | exact Le.mkF | exact LeS.nil | exact Les.refl _ | exact LeL.refl _ | exact Le.refl _ | exact Le.ofI (by omega) | exact Le.nil | refine LeS.cons rfl ?_ ?_ | refine Les.cons ?_ ?_ | refine LeL.cons ?_ ?_ | refine Le.agL ?_ | refine Le.tupL ?_ | refine Le.refL ?_ | refine Le.fnL ?_ | refine Le.lit2 rfl ?_ | refine Le.litI rfl ?_)); done) (fun M2 => f24 _ _ (by omega) (by omega) M2) ?_)
        | refine KR.go ?_ | refine SRuns.seq ?_ | refine SRuns.reg ?_ | refine SRuns.block ?_ | refine SRuns.skip ?_ | refine SRuns.inBlock ?_ | refine SRuns.exit rfl ?_
        | refine SRuns.ret (EEnd.of rfl ?_) | refine SRuns.fin (EEnd.of rfl ?_)
        | refine SRuns.ret (EEnd.of1 rfl ?_ ?_) | refine SRuns.fin (EEnd.of1 rfl ?_ ?_)
        | refine SRuns.free ?_
        | refine FR.at N ?_ (fun _ => []) ?_ | refine NewK.at N ?_ ?_ | exact fun i => hN _ (by omega)
        | refine gdD_t (fun h => ?_) (fun h => ?_) | refine gdD_f (fun h => ?_) (fun h => ?_) | refine gdK_split (fun h => ?_) (fun h => ?_)
        | refine fgD_t (fun h => ?_) (fun h => ?_) | refine fgD_f (fun h => ?_) (fun h => ?_) | refine fgK_split (fun h => ?_) (fun h => ?_)
        | refine SRuns.condNil rfl (fun h => ?_) ?_ | refine SRuns.condT rfl ?_ | refine SRuns.condF rfl ?_ | refine SRuns.condD rfl (fun h => ?_) (fun h => ?_) | refine SRuns.cond rfl (fun h => ?_) (fun h => ?_)
        | simp (disch := omega) only [go_sem, vIs, vBox, hN, c1, ↓reduceIte, Nat.reduceAdd, Nat.reduceMul, Nat.reduceEqDiff, Nat.reduceLT, Nat.reduceLeDiff, Nat.reduceBEq, Int.toNat_natCast, true_or, or_true, Int.toNat_zero, Int.toNat_one, Bool.true_or, Bool.or_true, Bool.or_false, Bool.false_or, List.size_toArray, not_true_eq_false, not_false_eq_true, decide_true, decide_false, and_self]
        | (refine DoneF.rawv N hN ?_ ⟨?_, rfl⟩; (focus ((first | exact fun _ _ => rfl | (intro g hg; simp (disch := omega) only [go_sem])); done)))
        | (refine DoneF.done (Done.keep N hN ?_ ?_ ⟨rfl, rfl⟩); (focus ((first | exact fun _ _ => rfl | (intro g hg; simp (disch := omega) only [go_sem])); done)); (focus ((repeat' (first | exact trivial | exact CloL.nil | exact Clo.vIs | exact Clo.vIss | exact Clo.slv | exact CloB.rowI | exact Clo.slI | refine CloL.cons ?_ ?_ | refine Clo.agL ?_ | refine Clo.tupL ?_ | refine Clo.refL ?_ | refine Clo.fnL ?_ | refine CloB.cellsL ?_)); done)))
        | exact DoneF.all ⟨rfl, rfl⟩ | refine And.intro (by omega) ?_ | (exfalso; omega) | contradiction
        | fail)
def D42 (a b v : List Int) (i : Nat) : Int := max (max 0 (gi a i - gi v i)) (gi v i - gi b i)
def D43 (a b v : List Int) (i : Nat) : Int := max (gi b i - gi v i) (gi v i - gi a i)
theorem f11 (m : Int) (a b v : List Int) (h1 : a.length < 2 ^ 40) (h2 : b.length < 2 ^ 40) (h3 : v.length < 2 ^ 40) (M : Mem) : ACalls Try.prog 11 [vI m, vBox (a, b), vIs v] M fun r M' => r = vNE (mS m (a, b) v (D42 a b v)) ∧ M' = M := by
  refine a11 (by simp) (SRuns.fresh fun N hN => ?_)
  have hk : Valid (a, b) → Vec v → v.length = a.length → ∀ i, i < v.length → (0 ≤ D42 a b v i ∧ D42 a b v i ≤ 4000) ∧ ∀ M, ACalls Try.prog 42 [vI (gi a i), vI (gi b i), vI (gi v i)] M fun r M' => r = vI (D42 a b v i) ∧ M' = M := fun c1 c2 c3 i hi => by
    have b1 := c2.bd hi
    have b2 : -1000 ≤ gi a i ∧ gi a i ≤ 1000 := c1.1.bd (i := i) (by show i < a.length; omega)
    have b3 : -1000 ≤ gi b i ∧ gi b i ≤ 1000 := c1.2.1.bd (i := i) (by have := c1.2.2.1; simp only at this; show i < b.length; omega)
    have b4 : gi a i ≤ gi b i := c1.2.2.2 i (by show i < a.length; omega)
    exact ⟨by unfold D42; omega, fun M => f42 _ _ _ b2 b3 b1 M⟩
  repeat' (first
      | (refine caK.go ?_; refine caK.valL (by (repeat' (first | assumption | exact Le.dead _ | exact Le.mkF | exact LeS.nil | exact Les.refl _ | exact LeL.refl _ | exact Le.refl _ | exact Le.ofI (by omega) | exact Le.nil | refine LeS.cons rfl ?_ ?_ | refine Les.cons ?_ ?_ | refine LeL.cons ?_ ?_ | refine Le.agL ?_ | refine Le.tupL ?_ | refine Le.refL ?_ | refine Le.fnL ?_ | refine Le.lit2 rfl ?_ | refine Le.litI rfl ?_)); done) (f41 42 m a b v (by omega) (by omega) (by omega) (D42 a b v) hk _) ?_)
      | (refine caF.go ?_; refine caF.valL (by (repeat' (first | assumption | exact Le.dead _ | exact Le.mkF | exact LeS.nil | exact Les.refl _ | exact LeL.refl _ | exact Le.refl _ | exact Le.ofI (by omega) | exact Le.nil | refine LeS.cons rfl ?_ ?_ | refine Les.cons ?_ ?_ | refine LeL.cons ?_ ?_ | refine Le.agL ?_ | refine Le.tupL ?_ | refine Le.refL ?_ | refine Le.fnL ?_ | refine Le.lit2 rfl ?_ | refine Le.litI rfl ?_)); done) (fun M2 => f41 42 m a b v (by omega) (by omega) (by omega) (D42 a b v) hk M2) ?_)
      | refine KR.go ?_ | refine SRuns.seq ?_ | refine SRuns.reg ?_ | refine SRuns.block ?_ | refine SRuns.skip ?_ | refine SRuns.inBlock ?_ | refine SRuns.exit rfl ?_
      | refine SRuns.ret (EEnd.of rfl ?_) | refine SRuns.fin (EEnd.of rfl ?_)
      | refine SRuns.ret (EEnd.of1 rfl ?_ ?_) | refine SRuns.fin (EEnd.of1 rfl ?_ ?_)
      | refine SRuns.free ?_
      | refine FR.at N ?_ (fun _ => []) ?_ | refine NewK.at N ?_ ?_ | exact fun i => hN _ (by omega)
      | refine gdD_t (fun h => ?_) (fun h => ?_) | refine gdD_f (fun h => ?_) (fun h => ?_) | refine gdK_split (fun h => ?_) (fun h => ?_)
      | refine fgD_t (fun h => ?_) (fun h => ?_) | refine fgD_f (fun h => ?_) (fun h => ?_) | refine fgK_split (fun h => ?_) (fun h => ?_)
      | refine SRuns.condNil rfl (fun h => ?_) ?_ | refine SRuns.condT rfl ?_ | refine SRuns.condF rfl ?_ | refine SRuns.condD rfl (fun h => ?_) (fun h => ?_) | refine SRuns.cond rfl (fun h => ?_) (fun h => ?_)
      | simp (disch := omega) only [go_sem, vIs, vBox, hN, vNE, ↓reduceIte, Nat.reduceAdd, Nat.reduceMul, Nat.reduceEqDiff, Nat.reduceLT, Nat.reduceLeDiff, Nat.reduceBEq, Int.toNat_natCast, true_or, or_true, Int.toNat_zero, Int.toNat_one, Bool.true_or, Bool.or_true, Bool.or_false, Bool.false_or, List.size_toArray, not_true_eq_false, not_false_eq_true, decide_true, decide_false, and_self]
      | (refine DoneF.rawv N hN ?_ ⟨?_, rfl⟩; (focus ((first | exact fun _ _ => rfl | (intro g hg; simp (disch := omega) only [go_sem])); done)))
      | (refine DoneF.done (Done.keep N hN ?_ ?_ ⟨rfl, rfl⟩); (focus ((first | exact fun _ _ => rfl | (intro g hg; simp (disch := omega) only [go_sem])); done)); (focus ((repeat' (first | exact trivial | exact CloL.nil | exact Clo.vIs | exact Clo.vIss | exact Clo.slv | exact CloB.rowI | exact Clo.slI | refine CloL.cons ?_ ?_ | refine Clo.agL ?_ | refine Clo.tupL ?_ | refine Clo.refL ?_ | refine Clo.fnL ?_ | refine CloB.cellsL ?_)); done)))
      | exact DoneF.all ⟨rfl, rfl⟩ | refine And.intro (by omega) ?_ | (exfalso; omega) | contradiction
      | fail)
theorem f12 (m : Int) (a b v : List Int) (h1 : a.length < 2 ^ 40) (h2 : b.length < 2 ^ 40) (h3 : v.length < 2 ^ 40) (M : Mem) : ACalls Try.prog 12 [vI m, vBox (a, b), vIs v] M fun r M' => r = vNE (mS m (a, b) v (D43 a b v)) ∧ M' = M := by
  refine a12 (by simp) (SRuns.fresh fun N hN => ?_)
  have hk : Valid (a, b) → Vec v → v.length = a.length → ∀ i, i < v.length → (0 ≤ D43 a b v i ∧ D43 a b v i ≤ 4000) ∧ ∀ M, ACalls Try.prog 43 [vI (gi a i), vI (gi b i), vI (gi v i)] M fun r M' => r = vI (D43 a b v i) ∧ M' = M := fun c1 c2 c3 i hi => by
    have b1 := c2.bd hi
    have b2 : -1000 ≤ gi a i ∧ gi a i ≤ 1000 := c1.1.bd (i := i) (by show i < a.length; omega)
    have b3 : -1000 ≤ gi b i ∧ gi b i ≤ 1000 := c1.2.1.bd (i := i) (by have := c1.2.2.1; simp only at this; show i < b.length; omega)
    have b4 : gi a i ≤ gi b i := c1.2.2.2 i (by show i < a.length; omega)
    exact ⟨by unfold D43; omega, fun M => f43 _ _ _ b2 b3 b1 M⟩
  repeat' (first
      | (refine caK.go ?_; refine caK.valL (by (repeat' (first | assumption | exact Le.dead _ | exact Le.mkF | exact LeS.nil | exact Les.refl _ | exact LeL.refl _ | exact Le.refl _ | exact Le.ofI (by omega) | exact Le.nil | refine LeS.cons rfl ?_ ?_ | refine Les.cons ?_ ?_ | refine LeL.cons ?_ ?_ | refine Le.agL ?_ | refine Le.tupL ?_ | refine Le.refL ?_ | refine Le.fnL ?_ | refine Le.lit2 rfl ?_ | refine Le.litI rfl ?_)); done) (f41 43 m a b v (by omega) (by omega) (by omega) (D43 a b v) hk _) ?_)
      | (refine caF.go ?_; refine caF.valL (by (repeat' (first | assumption | exact Le.dead _ | exact Le.mkF | exact LeS.nil | exact Les.refl _ | exact LeL.refl _ | exact Le.refl _ | exact Le.ofI (by omega) | exact Le.nil | refine LeS.cons rfl ?_ ?_ | refine Les.cons ?_ ?_ | refine LeL.cons ?_ ?_ | refine Le.agL ?_ | refine Le.tupL ?_ | refine Le.refL ?_ | refine Le.fnL ?_ | refine Le.lit2 rfl ?_ | refine Le.litI rfl ?_)); done) (fun M2 => f41 43 m a b v (by omega) (by omega) (by omega) (D43 a b v) hk M2) ?_)
      | refine KR.go ?_ | refine SRuns.seq ?_ | refine SRuns.reg ?_ | refine SRuns.block ?_ | refine SRuns.skip ?_ | refine SRuns.inBlock ?_ | refine SRuns.exit rfl ?_
      | refine SRuns.ret (EEnd.of rfl ?_) | refine SRuns.fin (EEnd.of rfl ?_)
      | refine SRuns.ret (EEnd.of1 rfl ?_ ?_) | refine SRuns.fin (EEnd.of1 rfl ?_ ?_)
      | refine SRuns.free ?_
      | refine FR.at N ?_ (fun _ => []) ?_ | refine NewK.at N ?_ ?_ | exact fun i => hN _ (by omega)
      | refine gdD_t (fun h => ?_) (fun h => ?_) | refine gdD_f (fun h => ?_) (fun h => ?_) | refine gdK_split (fun h => ?_) (fun h => ?_)
      | refine fgD_t (fun h => ?_) (fun h => ?_) | refine fgD_f (fun h => ?_) (fun h => ?_) | refine fgK_split (fun h => ?_) (fun h => ?_)
      | refine SRuns.condNil rfl (fun h => ?_) ?_ | refine SRuns.condT rfl ?_ | refine SRuns.condF rfl ?_ | refine SRuns.condD rfl (fun h => ?_) (fun h => ?_) | refine SRuns.cond rfl (fun h => ?_) (fun h => ?_)
      | simp (disch := omega) only [go_sem, vIs, vBox, hN, vNE, ↓reduceIte, Nat.reduceAdd, Nat.reduceMul, Nat.reduceEqDiff, Nat.reduceLT, Nat.reduceLeDiff, Nat.reduceBEq, Int.toNat_natCast, true_or, or_true, Int.toNat_zero, Int.toNat_one, Bool.true_or, Bool.or_true, Bool.or_false, Bool.false_or, List.size_toArray, not_true_eq_false, not_false_eq_true, decide_true, decide_false, and_self]
      | (refine DoneF.rawv N hN ?_ ⟨?_, rfl⟩; (focus ((first | exact fun _ _ => rfl | (intro g hg; simp (disch := omega) only [go_sem])); done)))
      | (refine DoneF.done (Done.keep N hN ?_ ?_ ⟨rfl, rfl⟩); (focus ((first | exact fun _ _ => rfl | (intro g hg; simp (disch := omega) only [go_sem])); done)); (focus ((repeat' (first | exact trivial | exact CloL.nil | exact Clo.vIs | exact Clo.vIss | exact Clo.slv | exact CloB.rowI | exact Clo.slI | refine CloL.cons ?_ ?_ | refine Clo.agL ?_ | refine Clo.tupL ?_ | refine Clo.refL ?_ | refine Clo.fnL ?_ | refine CloB.cellsL ?_)); done)))
      | exact DoneF.all ⟨rfl, rfl⟩ | refine And.intro (by omega) ?_ | (exfalso; omega) | contradiction
      | fail)
noncomputable def apS (m : Int) (x y : Bx) : Int × Int := if (1 ≤ m ∧ m ≤ 3) ∧ Alike x y then (keyA m (D46 x y) x.1.length, 0) else (0, 1)
theorem f13 (m : Int) (a b c d : List Int) (h1 : a.length < 2 ^ 40) (h2 : b.length < 2 ^ 40) (h3 : c.length < 2 ^ 40) (h4 : d.length < 2 ^ 40) (M : Mem) : ACalls Try.prog 13 [vI m, vBox (a, b), vBox (c, d)] M fun r M' => r = vNE (apS m (a, b) (c, d)) ∧ M' = M := by
  refine a13 (by simp) (SRuns.fresh fun N hN => ?_)
  by_cases hc : Alike (a, b) (c, d)
  · have e1 : a.length = b.length := hc.1.2.2.1
    have e2 : a.length = c.length := hc.2.2
    have e3 : c.length = d.length := hc.2.1.2.2.1
    have e0 : a.length ≤ 32 := hc.1.1.2.2
    have bd : ∀ i, i < a.length → (-1000 ≤ gi a i ∧ gi a i ≤ 1000) ∧ (-1000 ≤ gi b i ∧ gi b i ≤ 1000) ∧ (-1000 ≤ gi c i ∧ gi c i ≤ 1000) ∧ (-1000 ≤ gi d i ∧ gi d i ≤ 1000) := fun i hi =>
      ⟨hc.1.1.bd hi, hc.1.2.1.bd (i := i) (by show i < b.length; omega), hc.2.1.1.bd (i := i) (by show i < c.length; omega), hc.2.1.2.1.bd (i := i) (by show i < d.length; omega)⟩
    by_cases c4 : 1 ≤ m ∧ m ≤ 3
    · rw [show apS m (a, b) (c, d) = (keyA m (D46 (a, b) (c, d)) a.length, 0) from if_pos ⟨c4, hc⟩]
      repeat' (first
          | (refine caK.go ?_; refine caK.valL (by (repeat' (first | assumption | exact Le.dead _ | exact Le.mkF | exact LeS.nil | exact Les.refl _ | exact LeL.refl _ | exact Le.refl _ | exact Le.ofI (by omega) | exact Le.nil | refine LeS.cons rfl ?_ ?_ | refine Les.cons ?_ ?_ | refine LeL.cons ?_ ?_ | refine Le.agL ?_ | refine Le.tupL ?_ | refine Le.refL ?_ | refine Le.fnL ?_ | refine Le.lit2 rfl ?_ | refine Le.litI rfl ?_)); done) (f44 _ _ _ _ (by omega) (by omega) (by omega) (by omega) _) ?_)
          | (refine caF.go ?_; refine caF.valL (by (repeat' (first | assumption | exact Le.dead _ | exact Le.mkF | exact LeS.nil | exact Les.refl _ | exact LeL.refl _ | exact Le.refl _ | exact Le.ofI (by omega) | exact Le.nil | refine LeS.cons rfl ?_ ?_ | refine Les.cons ?_ ?_ | refine LeL.cons ?_ ?_ | refine Le.agL ?_ | refine Le.tupL ?_ | refine Le.refL ?_ | refine Le.fnL ?_ | refine Le.lit2 rfl ?_ | refine Le.litI rfl ?_)); done) (fun M2 => f44 _ _ _ _ (by omega) (by omega) (by omega) (by omega) M2) ?_)
          | (refine caK.go ?_; refine caK.valL (by (repeat' (first | assumption | exact Le.dead _ | exact Le.mkF | exact LeS.nil | exact Les.refl _ | exact LeL.refl _ | exact Le.refl _ | exact Le.ofI (by omega) | exact Le.nil | refine LeS.cons rfl ?_ ?_ | refine Les.cons ?_ ?_ | refine LeL.cons ?_ ?_ | refine Le.agL ?_ | refine Le.tupL ?_ | refine Le.refL ?_ | refine Le.fnL ?_ | refine Le.lit2 rfl ?_ | refine Le.litI rfl ?_)); done) (f45 m c4 46 2 a.length _ (D46 (a, b) (c, d)) (f46 a b c d (by omega) (by omega) (by omega) (by omega) bd) (by omega) (fun i hi => by have := bd i hi; unfold D46; simp only; omega) _) ?_)
          | (refine caF.go ?_; refine caF.valL (by (repeat' (first | assumption | exact Le.dead _ | exact Le.mkF | exact LeS.nil | exact Les.refl _ | exact LeL.refl _ | exact Le.refl _ | exact Le.ofI (by omega) | exact Le.nil | refine LeS.cons rfl ?_ ?_ | refine Les.cons ?_ ?_ | refine LeL.cons ?_ ?_ | refine Le.agL ?_ | refine Le.tupL ?_ | refine Le.refL ?_ | refine Le.fnL ?_ | refine Le.lit2 rfl ?_ | refine Le.litI rfl ?_)); done) (fun M2 => f45 m c4 46 2 a.length _ (D46 (a, b) (c, d)) (f46 a b c d (by omega) (by omega) (by omega) (by omega) bd) (by omega) (fun i hi => by have := bd i hi; unfold D46; simp only; omega) M2) ?_)
          | refine KR.go ?_ | refine SRuns.seq ?_ | refine SRuns.reg ?_ | refine SRuns.block ?_ | refine SRuns.skip ?_ | refine SRuns.inBlock ?_ | refine SRuns.exit rfl ?_
          | refine SRuns.ret (EEnd.of rfl ?_) | refine SRuns.fin (EEnd.of rfl ?_)
          | refine SRuns.ret (EEnd.of1 rfl ?_ ?_) | refine SRuns.fin (EEnd.of1 rfl ?_ ?_)
          | refine SRuns.free ?_
          | refine FR.at N ?_ (fun _ => []) ?_ | refine NewK.at N ?_ ?_ | exact fun i => hN _ (by omega)
          | refine gdD_t (fun h => ?_) (fun h => ?_) | refine gdD_f (fun h => ?_) (fun h => ?_) | refine gdK_split (fun h => ?_) (fun h => ?_)
          | refine fgD_t (fun h => ?_) (fun h => ?_) | refine fgD_f (fun h => ?_) (fun h => ?_) | refine fgK_split (fun h => ?_) (fun h => ?_)
          | refine SRuns.condNil rfl (fun h => ?_) ?_ | refine SRuns.condT rfl ?_ | refine SRuns.condF rfl ?_ | refine SRuns.condD rfl (fun h => ?_) (fun h => ?_) | refine SRuns.cond rfl (fun h => ?_) (fun h => ?_)
          | simp (disch := omega) only [go_sem, vIs, vBox, hN, hc, vIB, ↓reduceIte, Nat.reduceAdd, Nat.reduceMul, Nat.reduceEqDiff, Nat.reduceLT, Nat.reduceLeDiff, Nat.reduceBEq, Int.toNat_natCast, true_or, or_true, Int.toNat_zero, Int.toNat_one, Bool.true_or, Bool.or_true, Bool.or_false, Bool.false_or, List.size_toArray, not_true_eq_false, not_false_eq_true, decide_true, decide_false, and_self]
          | (refine DoneF.rawv N hN ?_ ⟨?_, rfl⟩; (focus ((first | exact fun _ _ => rfl | (intro g hg; simp (disch := omega) only [go_sem])); done)))
          | (refine DoneF.done (Done.keep N hN ?_ ?_ ⟨rfl, rfl⟩); (focus ((first | exact fun _ _ => rfl | (intro g hg; simp (disch := omega) only [go_sem])); done)); (focus ((repeat' (first | exact trivial | exact CloL.nil | exact Clo.vIs | exact Clo.vIss | exact Clo.slv | exact CloB.rowI | exact Clo.slI | refine CloL.cons ?_ ?_ | refine Clo.agL ?_ | refine Clo.tupL ?_ | refine Clo.refL ?_ | refine Clo.fnL ?_ | refine CloB.cellsL ?_)); done)))
          | exact DoneF.all ⟨rfl, rfl⟩ | refine And.intro (by omega) ?_ | (exfalso; omega) | contradiction
          | fail)
    · rw [show apS m (a, b) (c, d) = (0, 1) from if_neg fun h => c4 h.1]
      repeat' (first
          | (refine caK.go ?_; refine caK.valL (by (repeat' (first | assumption | exact Le.dead _ | exact Le.mkF | exact LeS.nil | exact Les.refl _ | exact LeL.refl _ | exact Le.refl _ | exact Le.ofI (by omega) | exact Le.nil | refine LeS.cons rfl ?_ ?_ | refine Les.cons ?_ ?_ | refine LeL.cons ?_ ?_ | refine Le.agL ?_ | refine Le.tupL ?_ | refine Le.refL ?_ | refine Le.fnL ?_ | refine Le.lit2 rfl ?_ | refine Le.litI rfl ?_)); done) (f44 _ _ _ _ (by omega) (by omega) (by omega) (by omega) _) ?_)
          | (refine caF.go ?_; refine caF.valL (by (repeat' (first | assumption | exact Le.dead _ | exact Le.mkF | exact LeS.nil | exact Les.refl _ | exact LeL.refl _ | exact Le.refl _ | exact Le.ofI (by omega) | exact Le.nil | refine LeS.cons rfl ?_ ?_ | refine Les.cons ?_ ?_ | refine LeL.cons ?_ ?_ | refine Le.agL ?_ | refine Le.tupL ?_ | refine Le.refL ?_ | refine Le.fnL ?_ | refine Le.lit2 rfl ?_ | refine Le.litI rfl ?_)); done) (fun M2 => f44 _ _ _ _ (by omega) (by omega) (by omega) (by omega) M2) ?_)
          | (refine caK.go ?_; refine caK.valL (by (repeat' (first | assumption | exact Le.dead _ | exact Le.mkF | exact LeS.nil | exact Les.refl _ | exact LeL.refl _ | exact Le.refl _ | exact Le.ofI (by omega) | exact Le.nil | refine LeS.cons rfl ?_ ?_ | refine Les.cons ?_ ?_ | refine LeL.cons ?_ ?_ | refine Le.agL ?_ | refine Le.tupL ?_ | refine Le.refL ?_ | refine Le.fnL ?_ | refine Le.lit2 rfl ?_ | refine Le.litI rfl ?_)); done) (f45no m c4 _ _) ?_)
          | (refine caF.go ?_; refine caF.valL (by (repeat' (first | assumption | exact Le.dead _ | exact Le.mkF | exact LeS.nil | exact Les.refl _ | exact LeL.refl _ | exact Le.refl _ | exact Le.ofI (by omega) | exact Le.nil | refine LeS.cons rfl ?_ ?_ | refine Les.cons ?_ ?_ | refine LeL.cons ?_ ?_ | refine Le.agL ?_ | refine Le.tupL ?_ | refine Le.refL ?_ | refine Le.fnL ?_ | refine Le.lit2 rfl ?_ | refine Le.litI rfl ?_)); done) (fun M2 => f45no m c4 _ M2) ?_)
          | refine KR.go ?_ | refine SRuns.seq ?_ | refine SRuns.reg ?_ | refine SRuns.block ?_ | refine SRuns.skip ?_ | refine SRuns.inBlock ?_ | refine SRuns.exit rfl ?_
          | refine SRuns.ret (EEnd.of rfl ?_) | refine SRuns.fin (EEnd.of rfl ?_)
          | refine SRuns.ret (EEnd.of1 rfl ?_ ?_) | refine SRuns.fin (EEnd.of1 rfl ?_ ?_)
          | refine SRuns.free ?_
          | refine FR.at N ?_ (fun _ => []) ?_ | refine NewK.at N ?_ ?_ | exact fun i => hN _ (by omega)
          | refine gdD_t (fun h => ?_) (fun h => ?_) | refine gdD_f (fun h => ?_) (fun h => ?_) | refine gdK_split (fun h => ?_) (fun h => ?_)
          | refine fgD_t (fun h => ?_) (fun h => ?_) | refine fgD_f (fun h => ?_) (fun h => ?_) | refine fgK_split (fun h => ?_) (fun h => ?_)
          | refine SRuns.condNil rfl (fun h => ?_) ?_ | refine SRuns.condT rfl ?_ | refine SRuns.condF rfl ?_ | refine SRuns.condD rfl (fun h => ?_) (fun h => ?_) | refine SRuns.cond rfl (fun h => ?_) (fun h => ?_)
          | simp (disch := omega) only [go_sem, vIs, vBox, hN, hc, vIB, ↓reduceIte, Nat.reduceAdd, Nat.reduceMul, Nat.reduceEqDiff, Nat.reduceLT, Nat.reduceLeDiff, Nat.reduceBEq, Int.toNat_natCast, true_or, or_true, Int.toNat_zero, Int.toNat_one, Bool.true_or, Bool.or_true, Bool.or_false, Bool.false_or, List.size_toArray, not_true_eq_false, not_false_eq_true, decide_true, decide_false, and_self]
          | (refine DoneF.rawv N hN ?_ ⟨?_, rfl⟩; (focus ((first | exact fun _ _ => rfl | (intro g hg; simp (disch := omega) only [go_sem])); done)))
          | (refine DoneF.done (Done.keep N hN ?_ ?_ ⟨rfl, rfl⟩); (focus ((first | exact fun _ _ => rfl | (intro g hg; simp (disch := omega) only [go_sem])); done)); (focus ((repeat' (first | exact trivial | exact CloL.nil | exact Clo.vIs | exact Clo.vIss | exact Clo.slv | exact CloB.rowI | exact Clo.slI | refine CloL.cons ?_ ?_ | refine Clo.agL ?_ | refine Clo.tupL ?_ | refine Clo.refL ?_ | refine Clo.fnL ?_ | refine CloB.cellsL ?_)); done)))
          | exact DoneF.all ⟨rfl, rfl⟩ | refine And.intro (by omega) ?_ | (exfalso; omega) | contradiction
          | fail)
  · rw [show apS m (a, b) (c, d) = (0, 1) from if_neg fun h => hc h.2]
    repeat' (first
        | (refine caK.go ?_; refine caK.valL (by (repeat' (first | assumption | exact Le.dead _ | exact Le.mkF | exact LeS.nil | exact Les.refl _ | exact LeL.refl _ | exact Le.refl _ | exact Le.ofI (by omega) | exact Le.nil | refine LeS.cons rfl ?_ ?_ | refine Les.cons ?_ ?_ | refine LeL.cons ?_ ?_ | refine Le.agL ?_ | refine Le.tupL ?_ | refine Le.refL ?_ | refine Le.fnL ?_ | refine Le.lit2 rfl ?_ | refine Le.litI rfl ?_)); done) (f44 _ _ _ _ (by omega) (by omega) (by omega) (by omega) _) ?_)
        | (refine caF.go ?_; refine caF.valL (by (repeat' (first | assumption | exact Le.dead _ | exact Le.mkF | exact LeS.nil | exact Les.refl _ | exact LeL.refl _ | exact Le.refl _ | exact Le.ofI (by omega) | exact Le.nil | refine LeS.cons rfl ?_ ?_ | refine Les.cons ?_ ?_ | refine LeL.cons ?_ ?_ | refine Le.agL ?_ | refine Le.tupL ?_ | refine Le.refL ?_ | refine Le.fnL ?_ | refine Le.lit2 rfl ?_ | refine Le.litI rfl ?_)); done) (fun M2 => f44 _ _ _ _ (by omega) (by omega) (by omega) (by omega) M2) ?_)
        | refine KR.go ?_ | refine SRuns.seq ?_ | refine SRuns.reg ?_ | refine SRuns.block ?_ | refine SRuns.skip ?_ | refine SRuns.inBlock ?_ | refine SRuns.exit rfl ?_
        | refine SRuns.ret (EEnd.of rfl ?_) | refine SRuns.fin (EEnd.of rfl ?_)
        | refine SRuns.ret (EEnd.of1 rfl ?_ ?_) | refine SRuns.fin (EEnd.of1 rfl ?_ ?_)
        | refine SRuns.free ?_
        | refine FR.at N ?_ (fun _ => []) ?_ | refine NewK.at N ?_ ?_ | exact fun i => hN _ (by omega)
        | refine gdD_t (fun h => ?_) (fun h => ?_) | refine gdD_f (fun h => ?_) (fun h => ?_) | refine gdK_split (fun h => ?_) (fun h => ?_)
        | refine fgD_t (fun h => ?_) (fun h => ?_) | refine fgD_f (fun h => ?_) (fun h => ?_) | refine fgK_split (fun h => ?_) (fun h => ?_)
        | refine SRuns.condNil rfl (fun h => ?_) ?_ | refine SRuns.condT rfl ?_ | refine SRuns.condF rfl ?_ | refine SRuns.condD rfl (fun h => ?_) (fun h => ?_) | refine SRuns.cond rfl (fun h => ?_) (fun h => ?_)
        | simp (disch := omega) only [go_sem, vIs, vBox, hN, hc, ↓reduceIte, Nat.reduceAdd, Nat.reduceMul, Nat.reduceEqDiff, Nat.reduceLT, Nat.reduceLeDiff, Nat.reduceBEq, Int.toNat_natCast, true_or, or_true, Int.toNat_zero, Int.toNat_one, Bool.true_or, Bool.or_true, Bool.or_false, Bool.false_or, List.size_toArray, not_true_eq_false, not_false_eq_true, decide_true, decide_false, and_self]
        | (refine DoneF.rawv N hN ?_ ⟨?_, rfl⟩; (focus ((first | exact fun _ _ => rfl | (intro g hg; simp (disch := omega) only [go_sem])); done)))
        | (refine DoneF.done (Done.keep N hN ?_ ?_ ⟨rfl, rfl⟩); (focus ((first | exact fun _ _ => rfl | (intro g hg; simp (disch := omega) only [go_sem])); done)); (focus ((repeat' (first | exact trivial | exact CloL.nil | exact Clo.vIs | exact Clo.vIss | exact Clo.slv | exact CloB.rowI | exact Clo.slI | refine CloL.cons ?_ ?_ | refine Clo.agL ?_ | refine Clo.tupL ?_ | refine Clo.refL ?_ | refine Clo.fnL ?_ | refine CloB.cellsL ?_)); done)))
        | exact DoneF.all ⟨rfl, rfl⟩ | refine And.intro (by omega) ?_ | (exfalso; omega) | contradiction
        | fail)
end Go.Proofs.Ytaiinpbaaeemmaa
