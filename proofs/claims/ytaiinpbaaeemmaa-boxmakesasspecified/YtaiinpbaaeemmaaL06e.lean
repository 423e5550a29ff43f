import Derived.Test.YtaiinpbaaeemmaaL06d
import Derived.Test.YtaiinpbaaeemmaaB06e
set_option linter.unusedVariables false
set_option linter.unusedSimpArgs false
set_option maxRecDepth 100000
namespace Go.Proofs.Ytaiinpbaaeemmaa
open Go Go.Av Classical
attribute [local irreducible] SRuns SL FR KR oKS oKF caK caF yaK gdK fgK NewK NewF
theorem f33w (l : List (List Int)) (hl : l.length < 2 ^ 63) (hv : ∀ i, (gl l i).length < 2 ^ 63) (M : Mem) : ACalls Try.prog 33 [vIss l] M fun r M' => r = vP (l.length ≤ 20 ∧ ∀ i, i < l.length → (gl l i).length ≤ 40) ∧ M' = M := by
  refine a33 (by simp) (SRuns.fresh fun N hN => ?_)
  repeat' (first
      | refine KR.go ?_ | refine SRuns.seq ?_ | refine SRuns.reg ?_ | refine SRuns.block ?_ | refine SRuns.skip ?_ | refine SRuns.inBlock ?_ | refine SRuns.exit rfl ?_
      | refine SRuns.ret (EEnd.of rfl ?_) | refine SRuns.fin (EEnd.of rfl ?_)
      | refine SRuns.ret (EEnd.of1 rfl ?_ ?_) | refine SRuns.fin (EEnd.of1 rfl ?_ ?_)
      | refine SRuns.free ?_
      | refine FR.at N ?_ (fun _ => []) ?_ | refine NewK.at N ?_ ?_ | exact fun i => hN _ (by omega)
      | refine gdD_t (fun h => ?_) (fun h => ?_) | refine gdD_f (fun h => ?_) (fun h => ?_) | refine gdK_split (fun h => ?_) (fun h => ?_)
      | refine fgD_t (fun h => ?_) (fun h => ?_) | refine fgD_f (fun h => ?_) (fun h => ?_) | refine fgK_split (fun h => ?_) (fun h => ?_)
      | refine SRuns.condNil rfl (fun h => ?_) ?_ | refine SRuns.condT rfl ?_ | refine SRuns.condF rfl ?_ | refine SRuns.condD rfl (fun h => ?_) (fun h => ?_) | refine SRuns.cond rfl (fun h => ?_) (fun h => ?_)
      | simp (disch := omega) only [go_sem, hN, ↓reduceIte, Nat.reduceAdd, Nat.reduceMul, Nat.reduceEqDiff, Nat.reduceLT, Nat.reduceLeDiff, Nat.reduceBEq, Int.toNat_natCast, true_or, or_true, Int.toNat_zero, Int.toNat_one, Bool.true_or, Bool.or_true, Bool.or_false, Bool.false_or, List.size_toArray, not_true_eq_false, not_false_eq_true, decide_true, decide_false, and_self]
      | (refine DoneF.rawv N hN ?_ ⟨?_, rfl⟩; (focus ((first | exact fun _ _ => rfl | (intro g hg; simp (disch := omega) only [go_sem])); done)))
      | (refine DoneF.done (Done.keep N hN ?_ ?_ ⟨rfl, rfl⟩); (focus ((first | exact fun _ _ => rfl | (intro g hg; simp (disch := omega) only [go_sem])); done)); (focus ((repeat' (first | exact trivial | exact CloL.nil | exact Clo.vIs | exact Clo.vIss | exact Clo.slv | exact CloB.rowI | exact Clo.slI | refine CloL.cons ?_ ?_ | refine Clo.agL ?_ | refine Clo.tupL ?_ | refine Clo.refL ?_ | refine Clo.fnL ?_ | refine CloB.cellsL ?_)); done)))
      | exact DoneF.all ⟨rfl, rfl⟩ | refine And.intro (by omega) ?_ | (exfalso; omega) | contradiction
      | fail)
  refine SRuns.loopU l.length (fun i => [(0, vIss l), (2, vB false), (3, vI i)]) (fun _ => M) (fun i => ∀ j, j < i → (gl l j).length ≤ 40) (by (repeat' (first | assumption | exact Le.dead _ | exact Le.mkF | exact LeS.nil | exact Les.refl _ | exact LeL.refl _ | exact Le.refl _ | exact Le.ofI (by omega) | exact Le.nil | refine LeS.cons rfl ?_ ?_ | refine Les.cons ?_ ?_ | refine LeL.cons ?_ ?_ | refine Le.agL ?_ | refine Le.tupL ?_ | refine Le.refL ?_ | refine Le.fnL ?_ | refine Le.lit2 rfl ?_ | refine Le.litI rfl ?_)); done) rfl (by simp) fun i hi hp IH => ?_
  have hvi := hv i
  repeat' (first
      | (refine SRuns.goL ?_; refine SRuns.weakL (by (repeat' (first | assumption | exact Le.dead _ | exact Le.mkF | exact LeS.nil | exact Les.refl _ | exact LeL.refl _ | exact Le.refl _ | exact Le.ofI (by omega) | exact Le.nil | refine LeS.cons rfl ?_ ?_ | refine Les.cons ?_ ?_ | refine LeL.cons ?_ ?_ | refine Le.agL ?_ | refine Le.tupL ?_ | refine Le.refL ?_ | refine Le.fnL ?_ | refine Le.lit2 rfl ?_ | refine Le.litI rfl ?_)); done) (IH (by omega) ?_))
      | refine KR.go ?_ | refine SRuns.seq ?_ | refine SRuns.reg ?_ | refine SRuns.block ?_ | refine SRuns.skip ?_ | refine SRuns.inBlock ?_ | refine SRuns.exit rfl ?_
      | refine SRuns.ret (EEnd.of rfl ?_) | refine SRuns.fin (EEnd.of rfl ?_)
      | refine SRuns.ret (EEnd.of1 rfl ?_ ?_) | refine SRuns.fin (EEnd.of1 rfl ?_ ?_)
      | refine SRuns.free ?_
      | refine FR.at N ?_ (fun _ => []) ?_ | refine NewK.at N ?_ ?_ | exact fun i => hN _ (by omega)
      | refine gdD_t (fun h => ?_) (fun h => ?_) | refine gdD_f (fun h => ?_) (fun h => ?_) | refine gdK_split (fun h => ?_) (fun h => ?_)
      | refine fgD_t (fun h => ?_) (fun h => ?_) | refine fgD_f (fun h => ?_) (fun h => ?_) | refine fgK_split (fun h => ?_) (fun h => ?_)
      | refine SRuns.condNil rfl (fun h => ?_) ?_ | refine SRuns.condT rfl ?_ | refine SRuns.condF rfl ?_ | refine SRuns.condD rfl (fun h => ?_) (fun h => ?_) | refine SRuns.cond rfl (fun h => ?_) (fun h => ?_)
      | simp (disch := omega) only [go_sem, hN, ↓reduceIte, Nat.reduceAdd, Nat.reduceMul, Nat.reduceEqDiff, Nat.reduceLT, Nat.reduceLeDiff, Nat.reduceBEq, Int.toNat_natCast, true_or, or_true, Int.toNat_zero, Int.toNat_one, Bool.true_or, Bool.or_true, Bool.or_false, Bool.false_or, List.size_toArray, not_true_eq_false, not_false_eq_true, decide_true, decide_false, and_self]
      | (refine DoneF.rawv N hN ?_ ⟨?_, rfl⟩; (focus ((first | exact fun _ _ => rfl | (intro g hg; simp (disch := omega) only [go_sem])); done)))
      | (refine DoneF.done (Done.keep N hN ?_ ?_ ⟨rfl, rfl⟩); (focus ((first | exact fun _ _ => rfl | (intro g hg; simp (disch := omega) only [go_sem])); done)); (focus ((repeat' (first | exact trivial | exact CloL.nil | exact Clo.vIs | exact Clo.vIss | exact Clo.slv | exact CloB.rowI | exact Clo.slI | refine CloL.cons ?_ ?_ | refine Clo.agL ?_ | refine Clo.tupL ?_ | refine Clo.refL ?_ | refine Clo.fnL ?_ | refine CloB.cellsL ?_)); done)))
      | exact DoneF.all ⟨rfl, rfl⟩ | refine And.intro (by omega) ?_ | (exfalso; omega) | contradiction
      | fail)
  · exact vPf fun h => by have := h.2 i (by omega); omega
  · intro j hj
    by_cases e : j = i
    · subst e; omega
    · exact hp j (by omega)
  · exact vPd ⟨fun h => ⟨by omega, fun j hj => hp j (by omega)⟩, fun h => by have := h.1; omega⟩
def vOfI (p : Bx × Int) (ok : Bool) : AV := vOf4 p.1.1 p.1.2 ok p.2
theorem rOf_eq (l : List (List Int)) : ∃ ok, rOf l = vOfI (ofS l) ok := by
  unfold rOf ofS
  by_cases h : OfOk l
  · rw [if_pos h, if_pos h]; exact ⟨true, rfl⟩
  · rw [if_neg h, if_neg h]; exact ⟨false, rfl⟩
theorem join_of {x y : Bx} (h : Alike x y) : ofS [x.1, x.2, y.1, y.2] = joinS x y := by
  have e1 : x.1.length = x.2.length := h.1.2.2.1
  have e2 : x.1.length = y.1.length := h.2.2
  have e3 : y.1.length = y.2.length := h.2.1.2.2.1
  have ho : OfOk [x.1, x.2, y.1, y.2] := ⟨by simp, fun i hi => by
    have hi : i < 4 := hi
    obtain rfl | rfl | rfl | rfl : i = 0 ∨ i = 1 ∨ i = 2 ∨ i = 3 := by omega
    · exact ⟨h.1.1, rfl⟩
    · exact ⟨h.1.2.1, e1.symm⟩
    · exact ⟨h.2.1.1, e2.symm⟩
    · exact ⟨h.2.1.2.1, by show y.2.length = x.1.length; omega⟩⟩
  unfold ofS joinS
  rw [if_pos ho, if_pos h]
  have a1 : loA [x.1, x.2, y.1, y.2] 3 = zipS min x.1 y.1 := mkL_congr fun k hk => by
    have b1 := h.1.2.2.2 k hk
    have b2 := h.2.1.2.2.2 k (by have : k < x.1.length := hk; omega)
    show min (min (min (gi x.1 k) (gi x.2 k)) (gi y.1 k)) (gi y.2 k) = min (gi x.1 k) (gi y.1 k)
    omega
  have a2 : hiA [x.1, x.2, y.1, y.2] 3 = zipS max x.2 y.2 := by
    unfold hiA zipS
    rw [← e1]
    exact mkL_congr fun k hk => by
      have b1 := h.1.2.2.2 k hk
      have b2 := h.2.1.2.2.2 k (by have : k < x.1.length := hk; omega)
      show max (max (max (gi x.1 k) (gi x.2 k)) (gi y.1 k)) (gi y.2 k) = max (gi x.2 k) (gi y.2 k)
      omega
  show ((loA [x.1, x.2, y.1, y.2] 3, hiA [x.1, x.2, y.1, y.2] 3), (0 : Int)) = _
  rw [a1, a2]
theorem rJoin_eq (x y : Bx) : ∃ ok, rJoin x y = vOfI (joinS x y) ok := by
  unfold rJoin
  by_cases h : Alike x y
  · rw [if_pos h, ← join_of h]; exact rOf_eq _
  · rw [if_neg h]; unfold joinS; rw [if_neg h]; exact ⟨false, rfl⟩
theorem ofS_len {l : List (List Int)} (h : ∀ i, i < l.length → (gl l i).length ≤ 40) : (ofS l).1.1.length ≤ 40 ∧ (ofS l).1.2.length ≤ 40 := by
  unfold ofS
  split
  · rename_i ho; have := h 0 ho.1; simp [loA, hiA]; omega
  · simp
theorem joinS_len {x y : Bx} (h1 : x.1.length ≤ 40) (h2 : x.2.length ≤ 40) : (joinS x y).1.1.length ≤ 40 ∧ (joinS x y).1.2.length ≤ 40 := by
  unfold joinS
  split
  · simp [zipS]; omega
  · simp
theorem meetS_len {x y : Bx} (h1 : x.1.length ≤ 40) (h2 : x.2.length ≤ 40) : (meetS x y).1.1.length ≤ 40 ∧ (meetS x y).1.2.length ≤ 40 := by
  unfold meetS
  split
  · split
    · simp [zipS]; omega
    · simp
  · simp
theorem f7 (l : List (List Int)) (a b c d : List Int) (hl : l.length < 2 ^ 63) (hv : ∀ i, (gl l i).length < 2 ^ 63) (M : Mem) : ACalls Try.prog 7 [vIss l, vBox (a, b), vBox (c, d)] M fun r M' => r = vB true ∧ M' = M := by
  refine a7 (by simp) (SRuns.fresh fun N hN => ?_)
  by_cases c0 : l.length ≤ 20 ∧ ∀ i, i < l.length → (gl l i).length ≤ 40
  · by_cases c1 : few a b
    · by_cases c2 : few c d
      · obtain ⟨p1, p2⟩ := c1
        obtain ⟨p3, p4⟩ := c2
        have g1 : few a b := ⟨p1, p2⟩
        have g2 : few c d := ⟨p3, p4⟩
        have hv' : ∀ i, (gl l i).length < 2 ^ 50 := fun i => by
          by_cases h : i < l.length
          · have := c0.2 i h; omega
          · rw [show gl l i = [] by unfold gl; rw [List.getD_eq_getElem?_getD, List.getElem?_eq_none (by omega)]; rfl]; decide
        have hl0 := c0.1
        have H33 := f33w l hl hv
        have H34 := f34 l (by omega) hv'
        have H35 := f35 a b c d (by omega) (by omega) (by omega) (by omega)
        have H29 := f29 a b c d (by omega) (by omega) (by omega) (by omega)
        have H36 := f36 l (by omega) hv'
        have H37 := f37 a b c d (by omega) (by omega) (by omega) (by omega)
        have H38 := f38 a b c d (by omega) (by omega) (by omega) (by omega)
        have H24 := f24 a b (by omega) (by omega)
        have H39 := f39 a b (by omega) (by omega)
        have H32 := f32 a b c d (by omega) (by omega) (by omega) (by omega)
        have H40 := f40 a b c d (by omega) (by omega) (by omega) (by omega)
        have l1 := ofS_len c0.2
        have l2 := joinS_len (x := (a, b)) (y := (c, d)) p1 p2
        have l3 := meetS_len (x := (a, b)) (y := (c, d)) p1 p2
        obtain ⟨ok1, k1⟩ := rOf_eq l
        obtain ⟨ok2, k2⟩ := rJoin_eq (a, b) (c, d)
        rw [k1] at H36
        rw [k2] at H37
        rw [show vP (l.length ≤ 20 ∧ ∀ i, i < l.length → (gl l i).length ≤ 40) = vB true from (vPt c0).symm] at H33
        clear k1 k2
        generalize ofS l = q1 at *
        generalize joinS (a, b) (c, d) = q2 at *
        generalize meetS (a, b) (c, d) = q3 at *
        generalize (Valid (a, b) ∧ Valid (c, d) ∧ a.length = c.length ∧ InB c d a ∧ InB c d b) = q4 at H32 H40
        generalize Valid (a, b) = q5 at H24 H39
        obtain ⟨⟨u1, u2⟩, u3⟩ := q1
        obtain ⟨⟨u4, u5⟩, u6⟩ := q2
        obtain ⟨⟨u7, u8⟩, u9, u10⟩ := q3
        simp only at l1 l2 l3
        have S1 := f21 u1 u2 u1 u2 (by omega) (by omega) (by omega) (by omega)
        have S2 := f21 u4 u5 u4 u5 (by omega) (by omega) (by omega) (by omega)
        have S3 := f21 u7 u8 u7 u8 (by omega) (by omega) (by omega) (by omega)
        simp only [vBE, vBPE, vOfI, vOf4, vOfP, vBox, vP_t] at H34 H35 H29 H36 H37 H38 H24 H39 H32 H40 S1 S2 S3
        repeat' (first
            | (refine caK.go ?_; refine caK.valL (by (repeat' (first | assumption | exact Le.dead _ | exact Le.mkF | exact LeS.nil | exact Les.refl _ | exact LeL.refl _ | exact Le.refl _ | exact Le.ofI (by omega) | exact Le.nil | refine LeS.cons rfl ?_ ?_ | refine Les.cons ?_ ?_ | refine LeL.cons ?_ ?_ | refine Le.agL ?_ | refine Le.tupL ?_ | refine Le.refL ?_ | refine Le.fnL ?_ | refine Le.lit2 rfl ?_ | refine Le.litI rfl ?_)); done) (f9 _ _ _) ?_)
            | (refine caF.go ?_; refine caF.valL (by (repeat' (first | assumption | exact Le.dead _ | exact Le.mkF | exact LeS.nil | exact Les.refl _ | exact LeL.refl _ | exact Le.refl _ | exact Le.ofI (by omega) | exact Le.nil | refine LeS.cons rfl ?_ ?_ | refine Les.cons ?_ ?_ | refine LeL.cons ?_ ?_ | refine Le.agL ?_ | refine Le.tupL ?_ | refine Le.refL ?_ | refine Le.fnL ?_ | refine Le.lit2 rfl ?_ | refine Le.litI rfl ?_)); done) (fun M2 => f9 _ _ M2) ?_)
            | (refine caK.go ?_; refine caK.val (H33 _) (Les.refl _) ?_)
            | (refine caF.go ?_; refine caF.val (fun M2 => H33 M2) (Les.refl _) ?_)
            | (refine caK.go ?_; refine caK.val (H34 _) (Les.refl _) ?_)
            | (refine caF.go ?_; refine caF.val (fun M2 => H34 M2) (Les.refl _) ?_)
            | (refine caK.go ?_; refine caK.val (H35 _) (Les.refl _) ?_)
            | (refine caF.go ?_; refine caF.val (fun M2 => H35 M2) (Les.refl _) ?_)
            | (refine caK.go ?_; refine caK.val (H29 _) (Les.refl _) ?_)
            | (refine caF.go ?_; refine caF.val (fun M2 => H29 M2) (Les.refl _) ?_)
            | (refine caK.go ?_; refine caK.val (H36 _) (Les.refl _) ?_)
            | (refine caF.go ?_; refine caF.val (fun M2 => H36 M2) (Les.refl _) ?_)
            | (refine caK.go ?_; refine caK.val (H37 _) (Les.refl _) ?_)
            | (refine caF.go ?_; refine caF.val (fun M2 => H37 M2) (Les.refl _) ?_)
            | (refine caK.go ?_; refine caK.val (H38 _) (Les.refl _) ?_)
            | (refine caF.go ?_; refine caF.val (fun M2 => H38 M2) (Les.refl _) ?_)
            | (refine caK.go ?_; refine caK.val (H24 _) (Les.refl _) ?_)
            | (refine caF.go ?_; refine caF.val (fun M2 => H24 M2) (Les.refl _) ?_)
            | (refine caK.go ?_; refine caK.val (H39 _) (Les.refl _) ?_)
            | (refine caF.go ?_; refine caF.val (fun M2 => H39 M2) (Les.refl _) ?_)
            | (refine caK.go ?_; refine caK.val (H32 _) (Les.refl _) ?_)
            | (refine caF.go ?_; refine caF.val (fun M2 => H32 M2) (Les.refl _) ?_)
            | (refine caK.go ?_; refine caK.val (H40 _) (Les.refl _) ?_)
            | (refine caF.go ?_; refine caF.val (fun M2 => H40 M2) (Les.refl _) ?_)
            | (refine caK.go ?_; refine caK.val (S1 _) (Les.refl _) ?_)
            | (refine caF.go ?_; refine caF.val (fun M2 => S1 M2) (Les.refl _) ?_)
            | (refine caK.go ?_; refine caK.val (S2 _) (Les.refl _) ?_)
            | (refine caF.go ?_; refine caF.val (fun M2 => S2 M2) (Les.refl _) ?_)
            | (refine caK.go ?_; refine caK.val (S3 _) (Les.refl _) ?_)
            | (refine caF.go ?_; refine caF.val (fun M2 => S3 M2) (Les.refl _) ?_)
            | (refine caK.go ?_; refine caK.val (f10 _) (Les.refl _) ?_)
            | (refine caF.go ?_; refine caF.val (fun M2 => f10 M2) (Les.refl _) ?_)
            | refine KR.go ?_ | refine SRuns.seq ?_ | refine SRuns.reg ?_ | refine SRuns.block ?_ | refine SRuns.skip ?_ | refine SRuns.inBlock ?_ | refine SRuns.exit rfl ?_
            | refine SRuns.ret (EEnd.of rfl ?_) | refine SRuns.fin (EEnd.of rfl ?_)
            | refine SRuns.ret (EEnd.of1 rfl ?_ ?_) | refine SRuns.fin (EEnd.of1 rfl ?_ ?_)
            | refine SRuns.free ?_
            | refine FR.at N ?_ (fun _ => []) ?_ | refine NewK.at N ?_ ?_ | exact fun i => hN _ (by omega)
            | refine gdD_t (fun h => ?_) (fun h => ?_) | refine gdD_f (fun h => ?_) (fun h => ?_) | refine gdK_split (fun h => ?_) (fun h => ?_)
            | refine fgD_t (fun h => ?_) (fun h => ?_) | refine fgD_f (fun h => ?_) (fun h => ?_) | refine fgK_split (fun h => ?_) (fun h => ?_)
            | refine SRuns.condNil rfl (fun h => ?_) ?_ | refine SRuns.condT rfl ?_ | refine SRuns.condF rfl ?_ | refine SRuns.condD rfl (fun h => ?_) (fun h => ?_) | refine SRuns.cond rfl (fun h => ?_) (fun h => ?_)
            | simp (disch := omega) only [go_sem, vBox, hN, g1, g2, eq_self, beq_self_eq_true, ↓reduceIte, Nat.reduceAdd, Nat.reduceMul, Nat.reduceEqDiff, Nat.reduceLT, Nat.reduceLeDiff, Nat.reduceBEq, Int.toNat_natCast, true_or, or_true, Int.toNat_zero, Int.toNat_one, Bool.true_or, Bool.or_true, Bool.or_false, Bool.false_or, List.size_toArray, not_true_eq_false, not_false_eq_true, decide_true, decide_false, and_self]
            | (refine DoneF.rawv N hN ?_ ⟨?_, rfl⟩; (focus ((first | exact fun _ _ => rfl | (intro g hg; simp (disch := omega) only [go_sem])); done)))
            | (refine DoneF.done (Done.keep N hN ?_ ?_ ⟨rfl, rfl⟩); (focus ((first | exact fun _ _ => rfl | (intro g hg; simp (disch := omega) only [go_sem])); done)); (focus ((repeat' (first | exact trivial | exact CloL.nil | exact Clo.vIs | exact Clo.vIss | exact Clo.slv | exact CloB.rowI | exact Clo.slI | refine CloL.cons ?_ ?_ | refine Clo.agL ?_ | refine Clo.tupL ?_ | refine Clo.refL ?_ | refine Clo.fnL ?_ | refine CloB.cellsL ?_)); done)))
            | exact DoneF.all ⟨rfl, rfl⟩ | refine And.intro (by omega) ?_ | (exfalso; omega) | contradiction
            | fail)
      · repeat' (first
            | (refine caK.go ?_; refine caK.valL (by (repeat' (first | assumption | exact Le.dead _ | exact Le.mkF | exact LeS.nil | exact Les.refl _ | exact LeL.refl _ | exact Le.refl _ | exact Le.ofI (by omega) | exact Le.nil | refine LeS.cons rfl ?_ ?_ | refine Les.cons ?_ ?_ | refine LeL.cons ?_ ?_ | refine Le.agL ?_ | refine Le.tupL ?_ | refine Le.refL ?_ | refine Le.fnL ?_ | refine Le.lit2 rfl ?_ | refine Le.litI rfl ?_)); done) (f9 _ _ _) ?_)
            | (refine caF.go ?_; refine caF.valL (by (repeat' (first | assumption | exact Le.dead _ | exact Le.mkF | exact LeS.nil | exact Les.refl _ | exact LeL.refl _ | exact Le.refl _ | exact Le.ofI (by omega) | exact Le.nil | refine LeS.cons rfl ?_ ?_ | refine Les.cons ?_ ?_ | refine LeL.cons ?_ ?_ | refine Le.agL ?_ | refine Le.tupL ?_ | refine Le.refL ?_ | refine Le.fnL ?_ | refine Le.lit2 rfl ?_ | refine Le.litI rfl ?_)); done) (fun M2 => f9 _ _ M2) ?_)
            | (refine caK.go ?_; refine caK.val (f33w l hl hv _) (Les.refl _) ?_)
            | (refine caF.go ?_; refine caF.val (fun M2 => f33w l hl hv M2) (Les.refl _) ?_)
            | (refine caK.go ?_; refine caK.val (f10 _) (Les.refl _) ?_)
            | (refine caF.go ?_; refine caF.val (fun M2 => f10 M2) (Les.refl _) ?_)
            | refine KR.go ?_ | refine SRuns.seq ?_ | refine SRuns.reg ?_ | refine SRuns.block ?_ | refine SRuns.skip ?_ | refine SRuns.inBlock ?_ | refine SRuns.exit rfl ?_
            | refine SRuns.ret (EEnd.of rfl ?_) | refine SRuns.fin (EEnd.of rfl ?_)
            | refine SRuns.ret (EEnd.of1 rfl ?_ ?_) | refine SRuns.fin (EEnd.of1 rfl ?_ ?_)
            | refine SRuns.free ?_
            | refine FR.at N ?_ (fun _ => []) ?_ | refine NewK.at N ?_ ?_ | exact fun i => hN _ (by omega)
            | refine gdD_t (fun h => ?_) (fun h => ?_) | refine gdD_f (fun h => ?_) (fun h => ?_) | refine gdK_split (fun h => ?_) (fun h => ?_)
            | refine fgD_t (fun h => ?_) (fun h => ?_) | refine fgD_f (fun h => ?_) (fun h => ?_) | refine fgK_split (fun h => ?_) (fun h => ?_)
            | refine SRuns.condNil rfl (fun h => ?_) ?_ | refine SRuns.condT rfl ?_ | refine SRuns.condF rfl ?_ | refine SRuns.condD rfl (fun h => ?_) (fun h => ?_) | refine SRuns.cond rfl (fun h => ?_) (fun h => ?_)
            | simp (disch := omega) only [go_sem, vBox, hN, c1, c2, ↓reduceIte, Nat.reduceAdd, Nat.reduceMul, Nat.reduceEqDiff, Nat.reduceLT, Nat.reduceLeDiff, Nat.reduceBEq, Int.toNat_natCast, true_or, or_true, Int.toNat_zero, Int.toNat_one, Bool.true_or, Bool.or_true, Bool.or_false, Bool.false_or, List.size_toArray, not_true_eq_false, not_false_eq_true, decide_true, decide_false, and_self]
            | (refine DoneF.rawv N hN ?_ ⟨?_, rfl⟩; (focus ((first | exact fun _ _ => rfl | (intro g hg; simp (disch := omega) only [go_sem])); done)))
            | (refine DoneF.done (Done.keep N hN ?_ ?_ ⟨rfl, rfl⟩); (focus ((first | exact fun _ _ => rfl | (intro g hg; simp (disch := omega) only [go_sem])); done)); (focus ((repeat' (first | exact trivial | exact CloL.nil | exact Clo.vIs | exact Clo.vIss | exact Clo.slv | exact CloB.rowI | exact Clo.slI | refine CloL.cons ?_ ?_ | refine Clo.agL ?_ | refine Clo.tupL ?_ | refine Clo.refL ?_ | refine Clo.fnL ?_ | refine CloB.cellsL ?_)); done)))
            | exact DoneF.all ⟨rfl, rfl⟩ | refine And.intro (by omega) ?_ | (exfalso; omega) | contradiction
            | fail)
    · repeat' (first
          | (refine caK.go ?_; refine caK.valL (by (repeat' (first | assumption | exact Le.dead _ | exact Le.mkF | exact LeS.nil | exact Les.refl _ | exact LeL.refl _ | exact Le.refl _ | exact Le.ofI (by omega) | exact Le.nil | refine LeS.cons rfl ?_ ?_ | refine Les.cons ?_ ?_ | refine LeL.cons ?_ ?_ | refine Le.agL ?_ | refine Le.tupL ?_ | refine Le.refL ?_ | refine Le.fnL ?_ | refine Le.lit2 rfl ?_ | refine Le.litI rfl ?_)); done) (f9 _ _ _) ?_)
          | (refine caF.go ?_; refine caF.valL (by (repeat' (first | assumption | exact Le.dead _ | exact Le.mkF | exact LeS.nil | exact Les.refl _ | exact LeL.refl _ | exact Le.refl _ | exact Le.ofI (by omega) | exact Le.nil | refine LeS.cons rfl ?_ ?_ | refine Les.cons ?_ ?_ | refine LeL.cons ?_ ?_ | refine Le.agL ?_ | refine Le.tupL ?_ | refine Le.refL ?_ | refine Le.fnL ?_ | refine Le.lit2 rfl ?_ | refine Le.litI rfl ?_)); done) (fun M2 => f9 _ _ M2) ?_)
          | (refine caK.go ?_; refine caK.val (f33w l hl hv _) (Les.refl _) ?_)
          | (refine caF.go ?_; refine caF.val (fun M2 => f33w l hl hv M2) (Les.refl _) ?_)
          | (refine caK.go ?_; refine caK.val (f10 _) (Les.refl _) ?_)
          | (refine caF.go ?_; refine caF.val (fun M2 => f10 M2) (Les.refl _) ?_)
          | refine KR.go ?_ | refine SRuns.seq ?_ | refine SRuns.reg ?_ | refine SRuns.block ?_ | refine SRuns.skip ?_ | refine SRuns.inBlock ?_ | refine SRuns.exit rfl ?_
          | refine SRuns.ret (EEnd.of rfl ?_) | refine SRuns.fin (EEnd.of rfl ?_)
          | refine SRuns.ret (EEnd.of1 rfl ?_ ?_) | refine SRuns.fin (EEnd.of1 rfl ?_ ?_)
          | refine SRuns.free ?_
          | refine FR.at N ?_ (fun _ => []) ?_ | refine NewK.at N ?_ ?_ | exact fun i => hN _ (by omega)
          | refine gdD_t (fun h => ?_) (fun h => ?_) | refine gdD_f (fun h => ?_) (fun h => ?_) | refine gdK_split (fun h => ?_) (fun h => ?_)
          | refine fgD_t (fun h => ?_) (fun h => ?_) | refine fgD_f (fun h => ?_) (fun h => ?_) | refine fgK_split (fun h => ?_) (fun h => ?_)
          | refine SRuns.condNil rfl (fun h => ?_) ?_ | refine SRuns.condT rfl ?_ | refine SRuns.condF rfl ?_ | refine SRuns.condD rfl (fun h => ?_) (fun h => ?_) | refine SRuns.cond rfl (fun h => ?_) (fun h => ?_)
          | simp (disch := omega) only [go_sem, vBox, hN, c1, ↓reduceIte, Nat.reduceAdd, Nat.reduceMul, Nat.reduceEqDiff, Nat.reduceLT, Nat.reduceLeDiff, Nat.reduceBEq, Int.toNat_natCast, true_or, or_true, Int.toNat_zero, Int.toNat_one, Bool.true_or, Bool.or_true, Bool.or_false, Bool.false_or, List.size_toArray, not_true_eq_false, not_false_eq_true, decide_true, decide_false, and_self]
          | (refine DoneF.rawv N hN ?_ ⟨?_, rfl⟩; (focus ((first | exact fun _ _ => rfl | (intro g hg; simp (disch := omega) only [go_sem])); done)))
          | (refine DoneF.done (Done.keep N hN ?_ ?_ ⟨rfl, rfl⟩); (focus ((first | exact fun _ _ => rfl | (intro g hg; simp (disch := omega) only [go_sem])); done)); (focus ((repeat' (first | exact trivial | exact CloL.nil | exact Clo.vIs | exact Clo.vIss | exact Clo.slv | exact CloB.rowI | exact Clo.slI | refine CloL.cons ?_ ?_ | refine Clo.agL ?_ | refine Clo.tupL ?_ | refine Clo.refL ?_ | refine Clo.fnL ?_ | refine CloB.cellsL ?_)); done)))
          | exact DoneF.all ⟨rfl, rfl⟩ | refine And.intro (by omega) ?_ | (exfalso; omega) | contradiction
          | fail)
  · repeat' (first
        | (refine caK.go ?_; refine caK.valL (by (repeat' (first | assumption | exact Le.dead _ | exact Le.mkF | exact LeS.nil | exact Les.refl _ | exact LeL.refl _ | exact Le.refl _ | exact Le.ofI (by omega) | exact Le.nil | refine LeS.cons rfl ?_ ?_ | refine Les.cons ?_ ?_ | refine LeL.cons ?_ ?_ | refine Le.agL ?_ | refine Le.tupL ?_ | refine Le.refL ?_ | refine Le.fnL ?_ | refine Le.lit2 rfl ?_ | refine Le.litI rfl ?_)); done) (f9 _ _ _) ?_)
        | (refine caF.go ?_; refine caF.valL (by (repeat' (first | assumption | exact Le.dead _ | exact Le.mkF | exact LeS.nil | exact Les.refl _ | exact LeL.refl _ | exact Le.refl _ | exact Le.ofI (by omega) | exact Le.nil | refine LeS.cons rfl ?_ ?_ | refine Les.cons ?_ ?_ | refine LeL.cons ?_ ?_ | refine Le.agL ?_ | refine Le.tupL ?_ | refine Le.refL ?_ | refine Le.fnL ?_ | refine Le.lit2 rfl ?_ | refine Le.litI rfl ?_)); done) (fun M2 => f9 _ _ M2) ?_)
        | (refine caK.go ?_; refine caK.val (f33w l hl hv _) (Les.refl _) ?_)
        | (refine caF.go ?_; refine caF.val (fun M2 => f33w l hl hv M2) (Les.refl _) ?_)
        | (refine caK.go ?_; refine caK.val (f10 _) (Les.refl _) ?_)
        | (refine caF.go ?_; refine caF.val (fun M2 => f10 M2) (Les.refl _) ?_)
        | refine KR.go ?_ | refine SRuns.seq ?_ | refine SRuns.reg ?_ | refine SRuns.block ?_ | refine SRuns.skip ?_ | refine SRuns.inBlock ?_ | refine SRuns.exit rfl ?_
        | refine SRuns.ret (EEnd.of rfl ?_) | refine SRuns.fin (EEnd.of rfl ?_)
        | refine SRuns.ret (EEnd.of1 rfl ?_ ?_) | refine SRuns.fin (EEnd.of1 rfl ?_ ?_)
        | refine SRuns.free ?_
        | refine FR.at N ?_ (fun _ => []) ?_ | refine NewK.at N ?_ ?_ | exact fun i => hN _ (by omega)
        | refine gdD_t (fun h => ?_) (fun h => ?_) | refine gdD_f (fun h => ?_) (fun h => ?_) | refine gdK_split (fun h => ?_) (fun h => ?_)
        | refine fgD_t (fun h => ?_) (fun h => ?_) | refine fgD_f (fun h => ?_) (fun h => ?_) | refine fgK_split (fun h => ?_) (fun h => ?_)
        | refine SRuns.condNil rfl (fun h => ?_) ?_ | refine SRuns.condT rfl ?_ | refine SRuns.condF rfl ?_ | refine SRuns.condD rfl (fun h => ?_) (fun h => ?_) | refine SRuns.cond rfl (fun h => ?_) (fun h => ?_)
        | simp (disch := omega) only [go_sem, vBox, hN, c0, ↓reduceIte, Nat.reduceAdd, Nat.reduceMul, Nat.reduceEqDiff, Nat.reduceLT, Nat.reduceLeDiff, Nat.reduceBEq, Int.toNat_natCast, true_or, or_true, Int.toNat_zero, Int.toNat_one, Bool.true_or, Bool.or_true, Bool.or_false, Bool.false_or, List.size_toArray, not_true_eq_false, not_false_eq_true, decide_true, decide_false, and_self]
        | (refine DoneF.rawv N hN ?_ ⟨?_, rfl⟩; (focus ((first | exact fun _ _ => rfl | (intro g hg; simp (disch := omega) only [go_sem])); done)))
        | (refine DoneF.done (Done.keep N hN ?_ ?_ ⟨rfl, rfl⟩); (focus ((first | exact fun _ _ => rfl | (intro g hg; simp (disch := omega) only [go_sem])); done)); (focus ((repeat' (first | exact trivial | exact CloL.nil | exact Clo.vIs | exact Clo.vIss | exact Clo.slv | exact CloB.rowI | exact Clo.slI | refine CloL.cons ?_ ?_ | refine Clo.agL ?_ | refine Clo.tupL ?_ | refine Clo.refL ?_ | refine Clo.fnL ?_ | refine CloB.cellsL ?_)); done)))
        | exact DoneF.all ⟨rfl, rfl⟩ | refine And.intro (by omega) ?_ | (exfalso; omega) | contradiction
        | fail)
end Go.Proofs.Ytaiinpbaaeemmaa
