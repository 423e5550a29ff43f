import Derived.Test.YtaiinpbaaeemmaaL06k
set_option linter.unusedVariables false
set_option linter.unusedSimpArgs false
set_option maxRecDepth 100000
namespace Go.Proofs.Ytaiinpbaaeemmaa
open Go Go.Av Classical
attribute [local irreducible] SRuns SL FR KR oKS oKF caK caF yaK gdK fgK NewK NewF
@[local go_sem] theorem gdK_ud {X : Fx} {d : Option Tmp} {op : Op} {n : Nat} {want : Bool} {l : List SOp} {L : List (Nat × AV)} {M : Mem} {K : (Nat → AV) → Mem → Prop} : gdK X d op n want l L M K (.raw undef) = oKS X d l L M K (some (.raw undef)) := gdK_un (cs := #[])
set_option maxHeartbeats 2000000 in
theorem g8 (a b c d w u1 u2 : List Int) (p1 : few a b) (p2 : few c d) (lw : w.length < 2 ^ 63) (hw : ∀ i, 0 ≤ gi w i ∧ gi w i < 65536) (M : Mem) (N : Nat) (hN : ∀ g, N ≤ g → M g = none) :
    SRuns (X8 M) [.code c8_89] (lk [(3, vK .u16 w), (5, .ref 2 (lst [vIs a, vIs b])), (6, .ref 2 (lst [vIs c, vIs d])), (8, vB false)]) (upM M (N + 9) (.cells 24 2 (lst [vIs u1, vIs u2]))) [] (fun r M' => r = vB true ∧ M' = M) := by
  obtain ⟨q1, q2⟩ := p1
  obtain ⟨q3, q4⟩ := p2
  by_cases c1 : Valid (a, b)
  · by_cases c2 : Valid (c, d)
    · by_cases c3 : a.length = c.length
      · have al : Alike (a, b) (c, d) := ⟨c1, c2, c3⟩
        have e1 : a.length = b.length := c1.2.2.1
        have e3 : c.length = d.length := c2.2.2.1
        have e0 : 0 < a.length := c1.1.2.1
        have J := join_is al
        have H27 := f27 a b w (by omega) (by omega) lw c1 hw
        have i1 := inn_in (w := w) c1 fun i => (hw i).1
        have lp : (mkL a.length (innF a b w)).length = a.length := by simp
        have H35 := f35 a b c d (by omega) (by omega) (by omega) (by omega)
        have R35 := f35 c d a b (by omega) (by omega) (by omega) (by omega)
        have H29 := f29 a b c d (by omega) (by omega) (by omega) (by omega)
        have R29 := f29 c d a b (by omega) (by omega) (by omega) (by omega)
        rw [show joinS (a, b) (c, d) = ((zipS min a c, zipS max b d), 0) from if_pos al] at H35
        rw [show joinS (c, d) (a, b) = ((zipS min c a, zipS max d b), 0) from if_pos al.symm, zipS_comm Int.min_comm (show c.length = a.length by omega), zipS_comm Int.max_comm (show d.length = b.length by omega)] at R35
        rw [show meetS (c, d) (a, b) = if Valid (zipS max c a, zipS min d b) then ((zipS max c a, zipS min d b), True, 0) else (([], []), False, 0) from if_pos al.symm, zipS_comm Int.max_comm (show c.length = a.length by omega), zipS_comm Int.min_comm (show d.length = b.length by omega)] at R29
        rw [show meetS (a, b) (c, d) = if Valid (zipS max a c, zipS min b d) then ((zipS max a c, zipS min b d), True, 0) else (([], []), False, 0) from if_pos al] at H29
        have lj : (zipS min a c).length = a.length := by simp [zipS]
        have lj2 : (zipS max b d).length = a.length := by simp [zipS, e1]
        have hm := meet_has (p := mkL a.length (innF a b w)) al i1 lp
        have hn := meet_none (p := mkL a.length (innF a b w)) al i1 lp
        have hi := meet_in al
        have lm : (zipS max a c).length = a.length := by simp [zipS]
        have lm2 : (zipS min b d).length = a.length := by simp [zipS, e1]
        generalize zipS min a c = s1 at *
        generalize zipS max b d = s2 at *
        generalize zipS max a c = s3 at *
        generalize zipS min b d = s4 at *
        have Lb := f22 c d (mkL a.length (innF a b w)) (by omega) (by omega) (by omega)
        have Lj := f22 s1 s2 (mkL a.length (innF a b w)) (by omega) (by omega) (by omega)
        have Lm := f22 s3 s4 (mkL a.length (innF a b w)) (by omega) (by omega) (by omega)
        rw [← vPt ⟨J.valid, by omega, fun k hk => ⟨by have := J.l.1 k (by omega); have := i1 k hk; omega, by have := J.l.2 k (by omega); have := i1 k hk; omega⟩⟩] at Lj
        generalize mkL a.length (innF a b w) = p at *
        rw [show vP (Valid (c, d) ∧ p.length = c.length ∧ InB c d p) = vP (InB c d p) from vPd ⟨fun h => h.2.2, fun h => ⟨c2, by omega, h⟩⟩] at Lb
        have I1 := f32 a b s1 s2 (by omega) (by omega) (by omega) (by omega)
        have I2 := f32 c d s1 s2 (by omega) (by omega) (by omega) (by omega)
        rw [← vPt ⟨c1, J.valid, by omega, J.l.1, J.l.2⟩] at I1
        rw [← vPt ⟨c2, J.valid, by omega, J.r.1, J.r.2⟩] at I2
        have S1 := f21 s1 s2 s1 s2 (by omega) (by omega) (by omega) (by omega)
        by_cases c4 : Valid (s3, s4)
        · have hm := hm c4
          have hi := hi c4
          rw [if_pos c4] at H29 R29
          rw [show vP (Valid (s3, s4) ∧ p.length = s3.length ∧ InB s3 s4 p) = vP (InB c d p) from vPd ⟨fun h => hm.1 h.2.2, fun h => ⟨c4, by omega, hm.2 h⟩⟩] at Lm
          have I3 := f32 s3 s4 a b (by omega) (by omega) (by omega) (by omega)
          have I4 := f32 s3 s4 c d (by omega) (by omega) (by omega) (by omega)
          rw [← vPt ⟨c4, c1, by omega, hi.1.1, hi.1.2⟩] at I3
          rw [← vPt ⟨c4, c2, by omega, hi.2.1.1, hi.2.1.2⟩] at I4
          have S2 := f21 s3 s4 s3 s4 (by omega) (by omega) (by omega) (by omega)
          simp only [vBE, vBPE, vBox, vP_t, vP_f] at *
          repeat' (first
              | (refine caK.go ?_; refine caK.valL (by (repeat' (first | assumption | exact Le.dead _ | exact Le.mkF | exact LeS.nil | exact Les.refl _ | exact LeL.refl _ | exact Le.refl _ | exact Le.ofI (by omega) | exact Le.nil | refine LeS.cons rfl ?_ ?_ | refine Les.cons ?_ ?_ | refine LeL.cons ?_ ?_ | refine Le.agL ?_ | refine Le.tupL ?_ | refine Le.refL ?_ | refine Le.fnL ?_ | refine Le.lit2 rfl ?_ | refine Le.litI rfl ?_)); done) (f24 _ _ (by omega) (by omega) _) ?_)
              | (refine caF.go ?_; refine caF.valL (by (repeat' (first | assumption | exact Le.dead _ | exact Le.mkF | exact LeS.nil | exact Les.refl _ | exact LeL.refl _ | exact Le.refl _ | exact Le.ofI (by omega) | exact Le.nil | refine LeS.cons rfl ?_ ?_ | refine Les.cons ?_ ?_ | refine LeL.cons ?_ ?_ | refine Le.agL ?_ | refine Le.tupL ?_ | refine Le.refL ?_ | refine Le.fnL ?_ | refine Le.lit2 rfl ?_ | refine Le.litI rfl ?_)); done) (fun M2 => f24 _ _ (by omega) (by omega) M2) ?_)
              | (refine caK.go ?_; refine caK.val (H35 _) (Les.refl _) ?_)
              | (refine caF.go ?_; refine caF.val (fun M2 => H35 M2) (Les.refl _) ?_)
              | (refine caK.go ?_; refine caK.val (R35 _) (Les.refl _) ?_)
              | (refine caF.go ?_; refine caF.val (fun M2 => R35 M2) (Les.refl _) ?_)
              | (refine caK.go ?_; refine caK.val (H29 _) (Les.refl _) ?_)
              | (refine caF.go ?_; refine caF.val (fun M2 => H29 M2) (Les.refl _) ?_)
              | (refine caK.go ?_; refine caK.val (R29 _) (Les.refl _) ?_)
              | (refine caF.go ?_; refine caF.val (fun M2 => R29 M2) (Les.refl _) ?_)
              | (refine caK.go ?_; refine caK.val (S1 _) (Les.refl _) ?_)
              | (refine caF.go ?_; refine caF.val (fun M2 => S1 M2) (Les.refl _) ?_)
              | (refine caK.go ?_; refine caK.val (S2 _) (Les.refl _) ?_)
              | (refine caF.go ?_; refine caF.val (fun M2 => S2 M2) (Les.refl _) ?_)
              | (refine caK.go ?_; refine caK.val (H27 _) (Les.refl _) ?_)
              | (refine caF.go ?_; refine caF.val (fun M2 => H27 M2) (Les.refl _) ?_)
              | (refine caK.go ?_; refine caK.val (Lb _) (Les.refl _) ?_)
              | (refine caF.go ?_; refine caF.val (fun M2 => Lb M2) (Les.refl _) ?_)
              | (refine caK.go ?_; refine caK.val (Lj _) (Les.refl _) ?_)
              | (refine caF.go ?_; refine caF.val (fun M2 => Lj M2) (Les.refl _) ?_)
              | (refine caK.go ?_; refine caK.val (Lm _) (Les.refl _) ?_)
              | (refine caF.go ?_; refine caF.val (fun M2 => Lm M2) (Les.refl _) ?_)
              | (refine caK.go ?_; refine caK.val (I1 _) (Les.refl _) ?_)
              | (refine caF.go ?_; refine caF.val (fun M2 => I1 M2) (Les.refl _) ?_)
              | (refine caK.go ?_; refine caK.val (I2 _) (Les.refl _) ?_)
              | (refine caF.go ?_; refine caF.val (fun M2 => I2 M2) (Les.refl _) ?_)
              | (refine caK.go ?_; refine caK.val (I3 _) (Les.refl _) ?_)
              | (refine caF.go ?_; refine caF.val (fun M2 => I3 M2) (Les.refl _) ?_)
              | (refine caK.go ?_; refine caK.val (I4 _) (Les.refl _) ?_)
              | (refine caF.go ?_; refine caF.val (fun M2 => I4 M2) (Les.refl _) ?_)
              | (refine caK.go ?_; refine caK.val (f10 _) (Les.refl _) ?_)
              | (refine caF.go ?_; refine caF.val (fun M2 => f10 M2) (Les.refl _) ?_)
              | refine KR.go ?_ | refine SRuns.seq ?_ | refine SRuns.reg ?_ | refine SRuns.block ?_ | refine SRuns.skip ?_ | refine SRuns.inBlock ?_ | refine SRuns.exit rfl ?_
              | refine SRuns.ret (EEnd.of rfl ?_) | refine SRuns.fin (EEnd.of rfl ?_)
              | refine SRuns.ret (EEnd.of1 rfl ?_ ?_) | refine SRuns.fin (EEnd.of1 rfl ?_ ?_)
              | refine SRuns.free ?_
              | refine FR.at N ?_ (fun _ => []) ?_ | refine NewK.at N ?_ ?_ | exact fun i => hN _ (by omega)
              | refine gdD_t (fun h => ?_) (fun h => ?_) | refine gdD_f (fun h => ?_) (fun h => ?_) | refine gdK_split (fun h => ?_) (fun h => ?_)
              | refine fgD_t (fun h => ?_) (fun h => ?_) | refine fgD_f (fun h => ?_) (fun h => ?_) | refine fgK_split (fun h => ?_) (fun h => ?_)
              | refine SRuns.condNil rfl (fun h => ?_) ?_ | refine SRuns.condT rfl ?_ | refine SRuns.condF rfl ?_ | refine SRuns.condD rfl (fun h => ?_) (fun h => ?_) | refine SRuns.cond rfl (fun h => ?_) (fun h => ?_)
              | simp (disch := omega) only [go_sem, vBox, hN, c1, c2, c3, eq_self, beq_self_eq_true, ↓reduceIte, Nat.reduceAdd, Nat.reduceMul, Nat.reduceEqDiff, Nat.reduceLT, Nat.reduceLeDiff, Nat.reduceBEq, Int.toNat_natCast, true_or, or_true, Int.toNat_zero, Int.toNat_one, Bool.true_or, Bool.or_true, Bool.or_false, Bool.false_or, List.size_toArray, not_true_eq_false, not_false_eq_true, decide_true, decide_false, and_self]
              | (refine DoneF.rawv N hN ?_ ⟨?_, rfl⟩; (focus ((first | exact fun _ _ => rfl | (intro g hg; simp (disch := omega) only [go_sem])); done)))
              | (refine DoneF.done (Done.keep N hN ?_ ?_ ⟨rfl, rfl⟩); (focus ((first | exact fun _ _ => rfl | (intro g hg; simp (disch := omega) only [go_sem])); done)); (focus ((repeat' (first | exact trivial | exact CloL.nil | exact Clo.vIs | exact Clo.vIss | exact Clo.slv | exact CloB.rowI | exact Clo.slI | refine CloL.cons ?_ ?_ | refine Clo.agL ?_ | refine Clo.tupL ?_ | refine Clo.refL ?_ | refine Clo.fnL ?_ | refine CloB.cellsL ?_)); done)))
              | exact DoneF.all ⟨rfl, rfl⟩ | refine And.intro (by omega) ?_ | (exfalso; omega) | contradiction
              | fail)
        · have hn := hn c4
          rw [if_neg c4] at H29 R29
          have S2 := f21 [] [] [] [] (by decide) (by decide) (by decide) (by decide)
          simp only [vBE, vBPE, vBox, vP_t, vP_f] at *
          repeat' (first
              | (refine caK.go ?_; refine caK.valL (by (repeat' (first | assumption | exact Le.dead _ | exact Le.mkF | exact LeS.nil | exact Les.refl _ | exact LeL.refl _ | exact Le.refl _ | exact Le.ofI (by omega) | exact Le.nil | refine LeS.cons rfl ?_ ?_ | refine Les.cons ?_ ?_ | refine LeL.cons ?_ ?_ | refine Le.agL ?_ | refine Le.tupL ?_ | refine Le.refL ?_ | refine Le.fnL ?_ | refine Le.lit2 rfl ?_ | refine Le.litI rfl ?_)); done) (f24 _ _ (by omega) (by omega) _) ?_)
              | (refine caF.go ?_; refine caF.valL (by (repeat' (first | assumption | exact Le.dead _ | exact Le.mkF | exact LeS.nil | exact Les.refl _ | exact LeL.refl _ | exact Le.refl _ | exact Le.ofI (by omega) | exact Le.nil | refine LeS.cons rfl ?_ ?_ | refine Les.cons ?_ ?_ | refine LeL.cons ?_ ?_ | refine Le.agL ?_ | refine Le.tupL ?_ | refine Le.refL ?_ | refine Le.fnL ?_ | refine Le.lit2 rfl ?_ | refine Le.litI rfl ?_)); done) (fun M2 => f24 _ _ (by omega) (by omega) M2) ?_)
              | (refine caK.go ?_; refine caK.val (H35 _) (Les.refl _) ?_)
              | (refine caF.go ?_; refine caF.val (fun M2 => H35 M2) (Les.refl _) ?_)
              | (refine caK.go ?_; refine caK.val (R35 _) (Les.refl _) ?_)
              | (refine caF.go ?_; refine caF.val (fun M2 => R35 M2) (Les.refl _) ?_)
              | (refine caK.go ?_; refine caK.val (H29 _) (Les.refl _) ?_)
              | (refine caF.go ?_; refine caF.val (fun M2 => H29 M2) (Les.refl _) ?_)
              | (refine caK.go ?_; refine caK.val (R29 _) (Les.refl _) ?_)
              | (refine caF.go ?_; refine caF.val (fun M2 => R29 M2) (Les.refl _) ?_)
              | (refine caK.go ?_; refine caK.val (S1 _) (Les.refl _) ?_)
              | (refine caF.go ?_; refine caF.val (fun M2 => S1 M2) (Les.refl _) ?_)
              | (refine caK.go ?_; refine caK.val (S2 _) (Les.refl _) ?_)
              | (refine caF.go ?_; refine caF.val (fun M2 => S2 M2) (Les.refl _) ?_)
              | (refine caK.go ?_; refine caK.val (H27 _) (Les.refl _) ?_)
              | (refine caF.go ?_; refine caF.val (fun M2 => H27 M2) (Les.refl _) ?_)
              | (refine caK.go ?_; refine caK.val (Lb _) (Les.refl _) ?_)
              | (refine caF.go ?_; refine caF.val (fun M2 => Lb M2) (Les.refl _) ?_)
              | (refine caK.go ?_; refine caK.val (Lj _) (Les.refl _) ?_)
              | (refine caF.go ?_; refine caF.val (fun M2 => Lj M2) (Les.refl _) ?_)
              | (refine caK.go ?_; refine caK.val (I1 _) (Les.refl _) ?_)
              | (refine caF.go ?_; refine caF.val (fun M2 => I1 M2) (Les.refl _) ?_)
              | (refine caK.go ?_; refine caK.val (I2 _) (Les.refl _) ?_)
              | (refine caF.go ?_; refine caF.val (fun M2 => I2 M2) (Les.refl _) ?_)
              | (refine caK.go ?_; refine caK.val (f10 _) (Les.refl _) ?_)
              | (refine caF.go ?_; refine caF.val (fun M2 => f10 M2) (Les.refl _) ?_)
              | refine KR.go ?_ | refine SRuns.seq ?_ | refine SRuns.reg ?_ | refine SRuns.block ?_ | refine SRuns.skip ?_ | refine SRuns.inBlock ?_ | refine SRuns.exit rfl ?_
              | refine SRuns.ret (EEnd.of rfl ?_) | refine SRuns.fin (EEnd.of rfl ?_)
              | refine SRuns.ret (EEnd.of1 rfl ?_ ?_) | refine SRuns.fin (EEnd.of1 rfl ?_ ?_)
              | refine SRuns.free ?_
              | refine FR.at N ?_ (fun _ => []) ?_ | refine NewK.at N ?_ ?_ | exact fun i => hN _ (by omega)
              | refine gdD_t (fun h => ?_) (fun h => ?_) | refine gdD_f (fun h => ?_) (fun h => ?_) | refine gdK_split (fun h => ?_) (fun h => ?_)
              | refine fgD_t (fun h => ?_) (fun h => ?_) | refine fgD_f (fun h => ?_) (fun h => ?_) | refine fgK_split (fun h => ?_) (fun h => ?_)
              | refine SRuns.condNil rfl (fun h => ?_) ?_ | refine SRuns.condT rfl ?_ | refine SRuns.condF rfl ?_ | refine SRuns.condD rfl (fun h => ?_) (fun h => ?_) | refine SRuns.cond rfl (fun h => ?_) (fun h => ?_)
              | simp (disch := omega) only [go_sem, vBox, hN, c1, c2, c3, hn, eq_self, beq_self_eq_true, ↓reduceIte, Nat.reduceAdd, Nat.reduceMul, Nat.reduceEqDiff, Nat.reduceLT, Nat.reduceLeDiff, Nat.reduceBEq, Int.toNat_natCast, true_or, or_true, Int.toNat_zero, Int.toNat_one, Bool.true_or, Bool.or_true, Bool.or_false, Bool.false_or, List.size_toArray, not_true_eq_false, not_false_eq_true, decide_true, decide_false, and_self]
              | (refine DoneF.rawv N hN ?_ ⟨?_, rfl⟩; (focus ((first | exact fun _ _ => rfl | (intro g hg; simp (disch := omega) only [go_sem])); done)))
              | (refine DoneF.done (Done.keep N hN ?_ ?_ ⟨rfl, rfl⟩); (focus ((first | exact fun _ _ => rfl | (intro g hg; simp (disch := omega) only [go_sem])); done)); (focus ((repeat' (first | exact trivial | exact CloL.nil | exact Clo.vIs | exact Clo.vIss | exact Clo.slv | exact CloB.rowI | exact Clo.slI | refine CloL.cons ?_ ?_ | refine Clo.agL ?_ | refine Clo.tupL ?_ | refine Clo.refL ?_ | refine Clo.fnL ?_ | refine CloB.cellsL ?_)); done)))
              | exact DoneF.all ⟨rfl, rfl⟩ | refine And.intro (by omega) ?_ | (exfalso; omega) | contradiction
              | fail)
      · repeat' (first
            | (refine caK.go ?_; refine caK.valL (by (repeat' (first | assumption | exact Le.dead _ | exact Le.mkF | exact LeS.nil | exact Les.refl _ | exact LeL.refl _ | exact Le.refl _ | exact Le.ofI (by omega) | exact Le.nil | refine LeS.cons rfl ?_ ?_ | refine Les.cons ?_ ?_ | refine LeL.cons ?_ ?_ | refine Le.agL ?_ | refine Le.tupL ?_ | refine Le.refL ?_ | refine Le.fnL ?_ | refine Le.lit2 rfl ?_ | refine Le.litI rfl ?_)); done) (f24 _ _ (by omega) (by omega) _) ?_)
            | (refine caF.go ?_; refine caF.valL (by (repeat' (first | assumption | exact Le.dead _ | exact Le.mkF | exact LeS.nil | exact Les.refl _ | exact LeL.refl _ | exact Le.refl _ | exact Le.ofI (by omega) | exact Le.nil | refine LeS.cons rfl ?_ ?_ | refine Les.cons ?_ ?_ | refine LeL.cons ?_ ?_ | refine Le.agL ?_ | refine Le.tupL ?_ | refine Le.refL ?_ | refine Le.fnL ?_ | refine Le.lit2 rfl ?_ | refine Le.litI rfl ?_)); done) (fun M2 => f24 _ _ (by omega) (by omega) M2) ?_)
            | (refine caK.go ?_; refine caK.val (f10 _) (Les.refl _) ?_)
            | (refine caF.go ?_; refine caF.val (fun M2 => f10 M2) (Les.refl _) ?_)
            | refine KR.go ?_ | refine SRuns.seq ?_ | refine SRuns.reg ?_ | refine SRuns.block ?_ | refine SRuns.skip ?_ | refine SRuns.inBlock ?_ | refine SRuns.exit rfl ?_
            | refine SRuns.ret (EEnd.of rfl ?_) | refine SRuns.fin (EEnd.of rfl ?_)
            | refine SRuns.ret (EEnd.of1 rfl ?_ ?_) | refine SRuns.fin (EEnd.of1 rfl ?_ ?_)
            | refine SRuns.free ?_
            | refine FR.at N ?_ (fun _ => []) ?_ | refine NewK.at N ?_ ?_ | exact fun i => hN _ (by omega)
            | refine gdD_t (fun h => ?_) (fun h => ?_) | refine gdD_f (fun h => ?_) (fun h => ?_) | refine gdK_split (fun h => ?_) (fun h => ?_)
            | refine fgD_t (fun h => ?_) (fun h => ?_) | refine fgD_f (fun h => ?_) (fun h => ?_) | refine fgK_split (fun h => ?_) (fun h => ?_)
            | refine SRuns.condNil rfl (fun h => ?_) ?_ | refine SRuns.condT rfl ?_ | refine SRuns.condF rfl ?_ | refine SRuns.condD rfl (fun h => ?_) (fun h => ?_) | refine SRuns.cond rfl (fun h => ?_) (fun h => ?_)
            | simp (disch := omega) only [go_sem, vBox, hN, c1, c2, c3, ↓reduceIte, Nat.reduceAdd, Nat.reduceMul, Nat.reduceEqDiff, Nat.reduceLT, Nat.reduceLeDiff, Nat.reduceBEq, Int.toNat_natCast, true_or, or_true, Int.toNat_zero, Int.toNat_one, Bool.true_or, Bool.or_true, Bool.or_false, Bool.false_or, List.size_toArray, not_true_eq_false, not_false_eq_true, decide_true, decide_false, and_self]
            | (refine DoneF.rawv N hN ?_ ⟨?_, rfl⟩; (focus ((first | exact fun _ _ => rfl | (intro g hg; simp (disch := omega) only [go_sem])); done)))
            | (refine DoneF.done (Done.keep N hN ?_ ?_ ⟨rfl, rfl⟩); (focus ((first | exact fun _ _ => rfl | (intro g hg; simp (disch := omega) only [go_sem])); done)); (focus ((repeat' (first | exact trivial | exact CloL.nil | exact Clo.vIs | exact Clo.vIss | exact Clo.slv | exact CloB.rowI | exact Clo.slI | refine CloL.cons ?_ ?_ | refine Clo.agL ?_ | refine Clo.tupL ?_ | refine Clo.refL ?_ | refine Clo.fnL ?_ | refine CloB.cellsL ?_)); done)))
            | exact DoneF.all ⟨rfl, rfl⟩ | refine And.intro (by omega) ?_ | (exfalso; omega) | contradiction
            | fail)
    · repeat' (first
          | (refine caK.go ?_; refine caK.valL (by (repeat' (first | assumption | exact Le.dead _ | exact Le.mkF | exact LeS.nil | exact Les.refl _ | exact LeL.refl _ | exact Le.refl _ | exact Le.ofI (by omega) | exact Le.nil | refine LeS.cons rfl ?_ ?_ | refine Les.cons ?_ ?_ | refine LeL.cons ?_ ?_ | refine Le.agL ?_ | refine Le.tupL ?_ | refine Le.refL ?_ | refine Le.fnL ?_ | refine Le.lit2 rfl ?_ | refine Le.litI rfl ?_)); done) (f24 _ _ (by omega) (by omega) _) ?_)
          | (refine caF.go ?_; refine caF.valL (by (repeat' (first | assumption | exact Le.dead _ | exact Le.mkF | exact LeS.nil | exact Les.refl _ | exact LeL.refl _ | exact Le.refl _ | exact Le.ofI (by omega) | exact Le.nil | refine LeS.cons rfl ?_ ?_ | refine Les.cons ?_ ?_ | refine LeL.cons ?_ ?_ | refine Le.agL ?_ | refine Le.tupL ?_ | refine Le.refL ?_ | refine Le.fnL ?_ | refine Le.lit2 rfl ?_ | refine Le.litI rfl ?_)); done) (fun M2 => f24 _ _ (by omega) (by omega) M2) ?_)
          | (refine caK.go ?_; refine caK.val (f10 _) (Les.refl _) ?_)
          | (refine caF.go ?_; refine caF.val (fun M2 => f10 M2) (Les.refl _) ?_)
          | refine KR.go ?_ | refine SRuns.seq ?_ | refine SRuns.reg ?_ | refine SRuns.block ?_ | refine SRuns.skip ?_ | refine SRuns.inBlock ?_ | refine SRuns.exit rfl ?_
          | refine SRuns.ret (EEnd.of rfl ?_) | refine SRuns.fin (EEnd.of rfl ?_)
          | refine SRuns.ret (EEnd.of1 rfl ?_ ?_) | refine SRuns.fin (EEnd.of1 rfl ?_ ?_)
          | refine SRuns.free ?_
          | refine FR.at N ?_ (fun _ => []) ?_ | refine NewK.at N ?_ ?_ | exact fun i => hN _ (by omega)
          | refine gdD_t (fun h => ?_) (fun h => ?_) | refine gdD_f (fun h => ?_) (fun h => ?_) | refine gdK_split (fun h => ?_) (fun h => ?_)
          | refine fgD_t (fun h => ?_) (fun h => ?_) | refine fgD_f (fun h => ?_) (fun h => ?_) | refine fgK_split (fun h => ?_) (fun h => ?_)
          | refine SRuns.condNil rfl (fun h => ?_) ?_ | refine SRuns.condT rfl ?_ | refine SRuns.condF rfl ?_ | refine SRuns.condD rfl (fun h => ?_) (fun h => ?_) | refine SRuns.cond rfl (fun h => ?_) (fun h => ?_)
          | simp (disch := omega) only [go_sem, vBox, hN, c1, c2, ↓reduceIte, Nat.reduceAdd, Nat.reduceMul, Nat.reduceEqDiff, Nat.reduceLT, Nat.reduceLeDiff, Nat.reduceBEq, Int.toNat_natCast, true_or, or_true, Int.toNat_zero, Int.toNat_one, Bool.true_or, Bool.or_true, Bool.or_false, Bool.false_or, List.size_toArray, not_true_eq_false, not_false_eq_true, decide_true, decide_false, and_self]
          | (refine DoneF.rawv N hN ?_ ⟨?_, rfl⟩; (focus ((first | exact fun _ _ => rfl | (intro g hg; simp (disch := omega) only [go_sem])); done)))
          | (refine DoneF.done (Done.keep N hN ?_ ?_ ⟨rfl, rfl⟩); (focus ((first | exact fun _ _ => rfl | (intro g hg; simp (disch := omega) only [go_sem])); done)); (focus ((repeat' (first | exact trivial | exact CloL.nil | exact Clo.vIs | exact Clo.vIss | exact Clo.slv | exact CloB.rowI | exact Clo.slI | refine CloL.cons ?_ ?_ | refine Clo.agL ?_ | refine Clo.tupL ?_ | refine Clo.refL ?_ | refine Clo.fnL ?_ | refine CloB.cellsL ?_)); done)))
          | exact DoneF.all ⟨rfl, rfl⟩ | refine And.intro (by omega) ?_ | (exfalso; omega) | contradiction
          | fail)
  · repeat' (first
        | (refine caK.go ?_; refine caK.valL (by (repeat' (first | assumption | exact Le.dead _ | exact Le.mkF | exact LeS.nil | exact Les.refl _ | exact LeL.refl _ | exact Le.refl _ | exact Le.ofI (by omega) | exact Le.nil | refine LeS.cons rfl ?_ ?_ | refine Les.cons ?_ ?_ | refine LeL.cons ?_ ?_ | refine Le.agL ?_ | refine Le.tupL ?_ | refine Le.refL ?_ | refine Le.fnL ?_ | refine Le.lit2 rfl ?_ | refine Le.litI rfl ?_)); done) (f24 _ _ (by omega) (by omega) _) ?_)
        | (refine caF.go ?_; refine caF.valL (by (repeat' (first | assumption | exact Le.dead _ | exact Le.mkF | exact LeS.nil | exact Les.refl _ | exact LeL.refl _ | exact Le.refl _ | exact Le.ofI (by omega) | exact Le.nil | refine LeS.cons rfl ?_ ?_ | refine Les.cons ?_ ?_ | refine LeL.cons ?_ ?_ | refine Le.agL ?_ | refine Le.tupL ?_ | refine Le.refL ?_ | refine Le.fnL ?_ | refine Le.lit2 rfl ?_ | refine Le.litI rfl ?_)); done) (fun M2 => f24 _ _ (by omega) (by omega) M2) ?_)
        | (refine caK.go ?_; refine caK.val (f10 _) (Les.refl _) ?_)
        | (refine caF.go ?_; refine caF.val (fun M2 => f10 M2) (Les.refl _) ?_)
        | refine KR.go ?_ | refine SRuns.seq ?_ | refine SRuns.reg ?_ | refine SRuns.block ?_ | refine SRuns.skip ?_ | refine SRuns.inBlock ?_ | refine SRuns.exit rfl ?_
        | refine SRuns.ret (EEnd.of rfl ?_) | refine SRuns.fin (EEnd.of rfl ?_)
        | refine SRuns.ret (EEnd.of1 rfl ?_ ?_) | refine SRuns.fin (EEnd.of1 rfl ?_ ?_)
        | refine SRuns.free ?_
        | refine FR.at N ?_ (fun _ => []) ?_ | refine NewK.at N ?_ ?_ | exact fun i => hN _ (by omega)
        | refine gdD_t (fun h => ?_) (fun h => ?_) | refine gdD_f (fun h => ?_) (fun h => ?_) | refine gdK_split (fun h => ?_) (fun h => ?_)
        | refine fgD_t (fun h => ?_) (fun h => ?_) | refine fgD_f (fun h => ?_) (fun h => ?_) | refine fgK_split (fun h => ?_) (fun h => ?_)
        | refine SRuns.condNil rfl (fun h => ?_) ?_ | refine SRuns.condT rfl ?_ | refine SRuns.condF rfl ?_ | refine SRuns.condD rfl (fun h => ?_) (fun h => ?_) | refine SRuns.cond rfl (fun h => ?_) (fun h => ?_)
        | simp (disch := omega) only [go_sem, vBox, hN, c1, ↓reduceIte, Nat.reduceAdd, Nat.reduceMul, Nat.reduceEqDiff, Nat.reduceLT, Nat.reduceLeDiff, Nat.reduceBEq, Int.toNat_natCast, true_or, or_true, Int.toNat_zero, Int.toNat_one, Bool.true_or, Bool.or_true, Bool.or_false, Bool.false_or, List.size_toArray, not_true_eq_false, not_false_eq_true, decide_true, decide_false, and_self]
        | (refine DoneF.rawv N hN ?_ ⟨?_, rfl⟩; (focus ((first | exact fun _ _ => rfl | (intro g hg; simp (disch := omega) only [go_sem])); done)))
        | (refine DoneF.done (Done.keep N hN ?_ ?_ ⟨rfl, rfl⟩); (focus ((first | exact fun _ _ => rfl | (intro g hg; simp (disch := omega) only [go_sem])); done)); (focus ((repeat' (first | exact trivial | exact CloL.nil | exact Clo.vIs | exact Clo.vIss | exact Clo.slv | exact CloB.rowI | exact Clo.slI | refine CloL.cons ?_ ?_ | refine Clo.agL ?_ | refine Clo.tupL ?_ | refine Clo.refL ?_ | refine Clo.fnL ?_ | refine CloB.cellsL ?_)); done)))
        | exact DoneF.all ⟨rfl, rfl⟩ | refine And.intro (by omega) ?_ | (exfalso; omega) | contradiction
        | fail)
end Go.Proofs.Ytaiinpbaaeemmaa
