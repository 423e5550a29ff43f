import Derived.Test.YtaiinpbaaeemmaaL06h
set_option linter.unusedVariables false
set_option linter.unusedSimpArgs false
set_option maxRecDepth 100000
namespace Go.Proofs.Ytaiinpbaaeemmaa
open Go Go.Av Classical
attribute [local irreducible] SRuns SL FR KR oKS oKF caK caF yaK gdK fgK NewK NewF
def E6 (N : Nat) : Nat → List Nat
  | 10 => [N + 1011]
  | 11 => [N + 1011, N + 1012]
  | 13 => [N + 1011]
  | _ => []
@[local go_sem] theorem E6_0 (N : Nat) : E6 N 0 = [] := rfl
@[local go_sem] theorem E6_1 (N : Nat) : E6 N 1 = [] := rfl
@[local go_sem] theorem E6_2 (N : Nat) : E6 N 2 = [] := rfl
@[local go_sem] theorem E6_3 (N : Nat) : E6 N 3 = [] := rfl
@[local go_sem] theorem E6_4 (N : Nat) : E6 N 4 = [] := rfl
@[local go_sem] theorem E6_5 (N : Nat) : E6 N 5 = [] := rfl
@[local go_sem] theorem E6_6 (N : Nat) : E6 N 6 = [] := rfl
@[local go_sem] theorem E6_7 (N : Nat) : E6 N 7 = [] := rfl
@[local go_sem] theorem E6_8 (N : Nat) : E6 N 8 = [] := rfl
@[local go_sem] theorem E6_9 (N : Nat) : E6 N 9 = [] := rfl
@[local go_sem] theorem E6_10 (N : Nat) : E6 N 10 = [N + 1011] := rfl
@[local go_sem] theorem E6_11 (N : Nat) : E6 N 11 = [N + 1011, N + 1012] := rfl
@[local go_sem] theorem E6_12 (N : Nat) : E6 N 12 = [] := rfl
@[local go_sem] theorem E6_13 (N : Nat) : E6 N 13 = [N + 1011] := rfl
@[local go_sem] theorem E6_14 (N : Nat) : E6 N 14 = [] := rfl
@[local go_sem] theorem E6_15 (N : Nat) : E6 N 15 = [] := rfl
@[local go_sem] theorem E6_16 (N : Nat) : E6 N 16 = [] := rfl
set_option maxHeartbeats 2000000 in
theorem f6 (a b v w : List Int) (m n t : Int) (hv : v.length < 2 ^ 63) (hw0 : w.length < 2 ^ 63) (hw : ∀ i, 0 ≤ gi w i ∧ gi w i < 65536) (hn : 0 ≤ n ∧ n < 256) (M : Mem) : ACalls Try.prog 6 [vI m, vBox (a, b), vIs v, .raw (.int .u8 n), vI t, vK .u16 w] M fun r M' => r = vB true ∧ M' = M := by
  refine a6 (by simp) (SRuns.fresh fun N hN => ?_)
  by_cases c1 : few a b
  · obtain ⟨p1, p2⟩ := c1
    have g1 : few a b := ⟨p1, p2⟩
    by_cases c2 : Valid (a, b)
    · by_cases c3 : Vec v
      · by_cases c4 : v.length = a.length
        · by_cases c5 : 1 ≤ m ∧ m ≤ 3
          · have e1 : a.length = b.length := c2.2.2.1
            have e0 : 0 < a.length := c2.1.2.1
            obtain ⟨k, hk, _⟩ := axis_ex c2
            have k1 : k < a.length := hk.1
            have H15 := f15 a b (by omega) (by omega) c2 k hk
            have hwk : gi (wide (a, b)) k = gi b k - gi a k := by unfold wide zipS; rw [gi_mkL (by show k < b.length; omega)]
            have ba : -1000 ≤ gi a k ∧ gi a k ≤ 1000 := c2.1.bd k1
            have bb : -1000 ≤ gi b k ∧ gi b k ≤ 1000 := c2.2.1.bd (by simp only; omega)
            have hab : gi a k ≤ gi b k := c2.2.2.2 k k1
            have t1 : 0 ≤ n.tmod (a.length : Int) := Int.tmod_nonneg _ hn.1
            have t2 : n.tmod (a.length : Int) < a.length := Int.tmod_lt_of_pos _ (by omega)
            have H14b := f14 a b (n.tmod (a.length : Int)) t (by omega) (by omega)
            have H27 := f27 a b w (by omega) (by omega) hw0 c2 hw
            have H11 := f11 m a b v (by omega) (by omega) (by omega)
            have H12 := f12 m a b v (by omega) (by omega) (by omega)
            have ha : Asked m (a, b) v := ⟨c5, c2, c3, c4⟩
            rw [show mS m (a, b) v (D42 a b v) = (keyA m (D42 a b v) v.length, 0) from if_pos ha] at H11
            rw [show mS m (a, b) v (D43 a b v) = (keyA m (D43 a b v) v.length, 0) from if_pos ha] at H12
            have t0 : ¬ (a.length : Int) = 0 := by omega
            by_cases hc : CutOk (a, b) (n.tmod (a.length : Int)) t
            · rw [show cutS (a, b) (n.tmod (a.length : Int)) t = ((a, upd b (n.tmod (a.length : Int)).toNat t), (upd a (n.tmod (a.length : Int)).toNat (t + 1), b), 0) from if_pos hc] at H14b
              obtain ⟨_, _, _, q1, q2⟩ := hc
              simp only at q1 q2
              have q0 : (n.tmod (a.length : Int)).toNat < a.length := by omega
              generalize (n.tmod (a.length : Int)).toNat = j at *
              have V1 := cut_low c2 q0 q1 q2
              have V2 := cut_high c2 q0 q1 q2
              have i1 := inn_in (w := w) c2 fun i => (hw i).1
              have lp : (mkL a.length (innF a b w)).length = a.length := by simp
              generalize mkL a.length (innF a b w) = p at *
              have co := cut_one (t := t) e1 i1 lp q0
              have cn := cut_near (v := v) c2 c4 q0 q1 q2 m
              have cf := cut_far (v := v) c2 c4 q0 q1 q2 m
              have u1 := upd_len b j t
              have u2 := upd_len a j (t + 1)
              have I1 : InB a b a := fun i hi => ⟨Int.le_refl _, c2.2.2.2 i hi⟩
              have I2 : InB a b b := fun i hi => ⟨c2.2.2.2 i (by simp only; omega), Int.le_refl _⟩
              have I3 : InB a b (upd b j t) := fun i hi => by
                rw [u1] at hi; have := I2 i hi; rw [upd_gi hi]; split <;> (try subst_vars) <;> omega
              have I4 : InB a b (upd a j (t + 1)) := fun i hi => by
                rw [u2] at hi; have := I1 i hi; rw [upd_gi hi]; split <;> (try subst_vars) <;> omega
              have L11 := f11 m a (upd b j t) v (by omega) (by omega) (by omega)
              have R11 := f11 m (upd a j (t + 1)) b v (by omega) (by omega) (by omega)
              have L12 := f12 m a (upd b j t) v (by omega) (by omega) (by omega)
              have R12 := f12 m (upd a j (t + 1)) b v (by omega) (by omega) (by omega)
              have aL : Asked m (a, upd b j t) v := ⟨c5, V1, c3, c4⟩
              have aR : Asked m (upd a j (t + 1), b) v := ⟨c5, V2, c3, by simp only; omega⟩
              rw [show mS m (a, upd b j t) v (D42 a (upd b j t) v) = (keyA m (D42 a (upd b j t) v) v.length, 0) from if_pos aL] at L11
              rw [show mS m (a, upd b j t) v (D43 a (upd b j t) v) = (keyA m (D43 a (upd b j t) v) v.length, 0) from if_pos aL] at L12
              rw [show mS m (upd a j (t + 1), b) v (D42 (upd a j (t + 1)) b v) = (keyA m (D42 (upd a j (t + 1)) b v) v.length, 0) from if_pos aR] at R11
              rw [show mS m (upd a j (t + 1), b) v (D43 (upd a j (t + 1)) b v) = (keyA m (D43 (upd a j (t + 1)) b v) v.length, 0) from if_pos aR] at R12
              have L22 := f22 a (upd b j t) p (by omega) (by omega) (by omega)
              have R22 := f22 (upd a j (t + 1)) b p (by omega) (by omega) (by omega)
              have x1 : vP (Valid (a, upd b j t) ∧ p.length = a.length ∧ InB a (upd b j t) p) = vP (gi p j ≤ t) := vPd ⟨fun h => co.1.1 h.2.2, fun h => ⟨V1, lp, co.1.2 h⟩⟩
              have x2 : vP (Valid (upd a j (t + 1), b) ∧ p.length = (upd a j (t + 1)).length ∧ InB (upd a j (t + 1)) b p) = vP (¬ gi p j ≤ t) := vPd ⟨fun h => co.2.1 h.2.2, fun h => ⟨V2, by omega, co.2.2 h⟩⟩
              rw [x1] at L22
              rw [x2] at R22
              have L32 := f32 a (upd b j t) a b (by omega) (by omega) (by omega) (by omega)
              have R32 := f32 (upd a j (t + 1)) b a b (by omega) (by omega) (by omega) (by omega)
              rw [← vPt ⟨V1, c2, rfl, I1, I3⟩] at L32
              rw [← vPt ⟨V2, c2, by omega, I4, I2⟩] at R32
              clear x1 x2 co
              rw [← c4] at H14b
              generalize keyA m (D42 a b v) v.length = y1 at *
              generalize keyA m (D43 a b v) v.length = y2 at *
              generalize keyA m (D42 a (upd b j t) v) v.length = y3 at *
              generalize keyA m (D43 a (upd b j t) v) v.length = y4 at *
              generalize keyA m (D42 (upd a j (t + 1)) b v) v.length = y5 at *
              generalize keyA m (D43 (upd a j (t + 1)) b v) v.length = y6 at *
              simp only [vNE, vBBE, vBox] at H11 H12 H14b H27 L11 R11 L12 R12 L22 R22 L32 R32
              by_cases hz : gi (wide (a, b)) k = 0
              · rw [show spR (a, b) k = .tup 3 (lst [vI 0, vI 0, vI 4]) from if_pos hz] at H15
                simp only [vBox] at H15
                repeat' (first
                    | refine FR.at (n := 133) N ?_ (E6 N) ?_
                    | (refine caK.go ?_; refine caK.valL (by (repeat' (first | assumption | exact Le.dead _ | exact Le.mkF | exact LeS.nil | exact Les.refl _ | exact LeL.refl _ | exact Le.refl _ | exact Le.ofI (by omega) | exact Le.nil | refine LeS.cons rfl ?_ ?_ | refine Les.cons ?_ ?_ | refine LeL.cons ?_ ?_ | refine Le.agL ?_ | refine Le.tupL ?_ | refine Le.refL ?_ | refine Le.fnL ?_ | refine Le.lit2 rfl ?_ | refine Le.litI rfl ?_)); done) (f9 _ _ _) ?_)
                    | (refine caF.go ?_; refine caF.valL (by (repeat' (first | assumption | exact Le.dead _ | exact Le.mkF | exact LeS.nil | exact Les.refl _ | exact LeL.refl _ | exact Le.refl _ | exact Le.ofI (by omega) | exact Le.nil | refine LeS.cons rfl ?_ ?_ | refine Les.cons ?_ ?_ | refine LeL.cons ?_ ?_ | refine Le.agL ?_ | refine Le.tupL ?_ | refine Le.refL ?_ | refine Le.fnL ?_ | refine Le.lit2 rfl ?_ | refine Le.litI rfl ?_)); done) (fun M2 => f9 _ _ M2) ?_)
                    | (refine caK.go ?_; refine caK.valL (by (repeat' (first | assumption | exact Le.dead _ | exact Le.mkF | exact LeS.nil | exact Les.refl _ | exact LeL.refl _ | exact Le.refl _ | exact Le.ofI (by omega) | exact Le.nil | refine LeS.cons rfl ?_ ?_ | refine Les.cons ?_ ?_ | refine LeL.cons ?_ ?_ | refine Le.agL ?_ | refine Le.tupL ?_ | refine Le.refL ?_ | refine Le.fnL ?_ | refine Le.lit2 rfl ?_ | refine Le.litI rfl ?_)); done) (f24 _ _ (by omega) (by omega) _) ?_)
                    | (refine caF.go ?_; refine caF.valL (by (repeat' (first | assumption | exact Le.dead _ | exact Le.mkF | exact LeS.nil | exact Les.refl _ | exact LeL.refl _ | exact Le.refl _ | exact Le.ofI (by omega) | exact Le.nil | refine LeS.cons rfl ?_ ?_ | refine Les.cons ?_ ?_ | refine LeL.cons ?_ ?_ | refine Le.agL ?_ | refine Le.tupL ?_ | refine Le.refL ?_ | refine Le.fnL ?_ | refine Le.lit2 rfl ?_ | refine Le.litI rfl ?_)); done) (fun M2 => f24 _ _ (by omega) (by omega) M2) ?_)
                    | (refine caK.go ?_; refine caK.valL (by (repeat' (first | assumption | exact Le.dead _ | exact Le.mkF | exact LeS.nil | exact Les.refl _ | exact LeL.refl _ | exact Le.refl _ | exact Le.ofI (by omega) | exact Le.nil | refine LeS.cons rfl ?_ ?_ | refine Les.cons ?_ ?_ | refine LeL.cons ?_ ?_ | refine Le.agL ?_ | refine Le.tupL ?_ | refine Le.refL ?_ | refine Le.fnL ?_ | refine Le.lit2 rfl ?_ | refine Le.litI rfl ?_)); done) (f25w _ (by omega) _) ?_)
                    | (refine caF.go ?_; refine caF.valL (by (repeat' (first | assumption | exact Le.dead _ | exact Le.mkF | exact LeS.nil | exact Les.refl _ | exact LeL.refl _ | exact Le.refl _ | exact Le.ofI (by omega) | exact Le.nil | refine LeS.cons rfl ?_ ?_ | refine Les.cons ?_ ?_ | refine LeL.cons ?_ ?_ | refine Le.agL ?_ | refine Le.tupL ?_ | refine Le.refL ?_ | refine Le.fnL ?_ | refine Le.lit2 rfl ?_ | refine Le.litI rfl ?_)); done) (fun M2 => f25w _ (by omega) M2) ?_)
                    | (refine caK.go ?_; refine caK.valL (by (repeat' (first | assumption | exact Le.dead _ | exact Le.mkF | exact LeS.nil | exact Les.refl _ | exact LeL.refl _ | exact Le.refl _ | exact Le.ofI (by omega) | exact Le.nil | refine LeS.cons rfl ?_ ?_ | refine Les.cons ?_ ?_ | refine LeL.cons ?_ ?_ | refine Le.agL ?_ | refine Le.tupL ?_ | refine Le.refL ?_ | refine Le.fnL ?_ | refine Le.lit2 rfl ?_ | refine Le.litI rfl ?_)); done) (f26 _ _) ?_)
                    | (refine caF.go ?_; refine caF.valL (by (repeat' (first | assumption | exact Le.dead _ | exact Le.mkF | exact LeS.nil | exact Les.refl _ | exact LeL.refl _ | exact Le.refl _ | exact Le.ofI (by omega) | exact Le.nil | refine LeS.cons rfl ?_ ?_ | refine Les.cons ?_ ?_ | refine LeL.cons ?_ ?_ | refine Le.agL ?_ | refine Le.tupL ?_ | refine Le.refL ?_ | refine Le.fnL ?_ | refine Le.lit2 rfl ?_ | refine Le.litI rfl ?_)); done) (fun M2 => f26 _ M2) ?_)
                    | (refine caK.go ?_; refine caK.val (f10 _) (Les.refl _) ?_)
                    | (refine caF.go ?_; refine caF.val (fun M2 => f10 M2) (Les.refl _) ?_)
                    | (refine caK.go ?_; refine caK.val (H15 _) (Les.refl _) ?_)
                    | (refine caF.go ?_; refine caF.val (fun M2 => H15 M2) (Les.refl _) ?_)
                    | (refine caK.go ?_; refine caK.val (H14b _) (Les.refl _) ?_)
                    | (refine caF.go ?_; refine caF.val (fun M2 => H14b M2) (Les.refl _) ?_)
                    | (refine caK.go ?_; refine caK.val (H27 _) (Les.refl _) ?_)
                    | (refine caF.go ?_; refine caF.val (fun M2 => H27 M2) (Les.refl _) ?_)
                    | (refine caK.go ?_; refine caK.val (H11 _) (Les.refl _) ?_)
                    | (refine caF.go ?_; refine caF.val (fun M2 => H11 M2) (Les.refl _) ?_)
                    | (refine caK.go ?_; refine caK.val (H12 _) (Les.refl _) ?_)
                    | (refine caF.go ?_; refine caF.val (fun M2 => H12 M2) (Les.refl _) ?_)
                    | (refine caK.go ?_; refine caK.val (L11 _) (Les.refl _) ?_)
                    | (refine caF.go ?_; refine caF.val (fun M2 => L11 M2) (Les.refl _) ?_)
                    | (refine caK.go ?_; refine caK.val (R11 _) (Les.refl _) ?_)
                    | (refine caF.go ?_; refine caF.val (fun M2 => R11 M2) (Les.refl _) ?_)
                    | (refine caK.go ?_; refine caK.val (L12 _) (Les.refl _) ?_)
                    | (refine caF.go ?_; refine caF.val (fun M2 => L12 M2) (Les.refl _) ?_)
                    | (refine caK.go ?_; refine caK.val (R12 _) (Les.refl _) ?_)
                    | (refine caF.go ?_; refine caF.val (fun M2 => R12 M2) (Les.refl _) ?_)
                    | (refine caK.go ?_; refine caK.val (L22 _) (Les.refl _) ?_)
                    | (refine caF.go ?_; refine caF.val (fun M2 => L22 M2) (Les.refl _) ?_)
                    | (refine caK.go ?_; refine caK.val (R22 _) (Les.refl _) ?_)
                    | (refine caF.go ?_; refine caF.val (fun M2 => R22 M2) (Les.refl _) ?_)
                    | (refine caK.go ?_; refine caK.val (L32 _) (Les.refl _) ?_)
                    | (refine caF.go ?_; refine caF.val (fun M2 => L32 M2) (Les.refl _) ?_)
                    | (refine caK.go ?_; refine caK.val (R32 _) (Les.refl _) ?_)
                    | (refine caF.go ?_; refine caF.val (fun M2 => R32 M2) (Les.refl _) ?_)
                    | refine KR.go ?_ | refine SRuns.seq ?_ | refine SRuns.reg ?_ | refine SRuns.block ?_ | refine SRuns.skip ?_ | refine SRuns.inBlock ?_ | refine SRuns.exit rfl ?_
                    | refine SRuns.ret (EEnd.of rfl ?_) | refine SRuns.fin (EEnd.of rfl ?_)
                    | refine SRuns.ret (EEnd.of1 rfl ?_ ?_) | refine SRuns.fin (EEnd.of1 rfl ?_ ?_)
                    | refine SRuns.free ?_
                    | refine FR.at N ?_ (fun _ => []) ?_ | refine NewK.at N ?_ ?_ | exact fun i => hN _ (by omega)
                    | refine gdD_t (fun h => ?_) (fun h => ?_) | refine gdD_f (fun h => ?_) (fun h => ?_) | refine gdK_split (fun h => ?_) (fun h => ?_)
                    | refine fgD_t (fun h => ?_) (fun h => ?_) | refine fgD_f (fun h => ?_) (fun h => ?_) | refine fgK_split (fun h => ?_) (fun h => ?_)
                    | refine SRuns.condNil rfl (fun h => ?_) ?_ | refine SRuns.condT rfl ?_ | refine SRuns.condF rfl ?_ | refine SRuns.condD rfl (fun h => ?_) (fun h => ?_) | refine SRuns.cond rfl (fun h => ?_) (fun h => ?_)
                    | simp (disch := omega) only [go_sem, vBox, hN, g1, c2, c3, c5, eq_self, beq_self_eq_true, cn, cf, ↓reduceIte, Nat.reduceAdd, Nat.reduceMul, Nat.reduceEqDiff, Nat.reduceLT, Nat.reduceLeDiff, Nat.reduceBEq, Int.toNat_natCast, true_or, or_true, Int.toNat_zero, Int.toNat_one, Bool.true_or, Bool.or_true, Bool.or_false, Bool.false_or, List.size_toArray, not_true_eq_false, not_false_eq_true, decide_true, decide_false, and_self]
                    | (refine DoneF.rawv N hN ?_ ⟨?_, rfl⟩; (focus ((first | exact fun _ _ => rfl | (intro g hg; simp (disch := omega) only [go_sem])); done)))
                    | (refine DoneF.done (Done.keep N hN ?_ ?_ ⟨rfl, rfl⟩); (focus ((first | exact fun _ _ => rfl | (intro g hg; simp (disch := omega) only [go_sem])); done)); (focus ((repeat' (first | exact trivial | exact CloL.nil | exact Clo.vIs | exact Clo.vIss | exact Clo.slv | exact CloB.rowI | exact Clo.slI | refine CloL.cons ?_ ?_ | refine Clo.agL ?_ | refine Clo.tupL ?_ | refine Clo.refL ?_ | refine Clo.fnL ?_ | refine CloB.cellsL ?_)); done)))
                    | exact DoneF.all ⟨rfl, rfl⟩ | refine And.intro (by omega) ?_ | (exfalso; omega) | contradiction
                    | fail)
                all_goals (exfalso; by_cases e : gi p j ≤ t <;> simp [e] at h)
              · rw [show spR (a, b) k = .tup 3 (lst [vI k, vI (gi a k + (gi (wide (a, b)) k).tdiv 2), vI 0]) from if_neg hz] at H15
                have ht : (gi (wide (a, b)) k).tdiv 2 = (gi b k - gi a k) / 2 := by rw [hwk, Int.tdiv_eq_ediv_of_nonneg (by omega)]
                rw [ht] at H15
                generalize hT : gi a k + (gi b k - gi a k) / 2 = T at *
                have H14 := f14 a b (k : Int) T (by omega) (by omega)
                rw [show cutS (a, b) (k : Int) T = ((a, upd b k T), (upd a k (T + 1), b), 0) from if_pos ⟨c2, by omega, by simp only; omega, by simp only [Int.toNat_natCast]; omega, by simp only [Int.toNat_natCast]; omega⟩] at H14
                have z1 : gi (upd b k T) k = T := by rw [upd_gi (by omega), if_pos rfl]
                have z2 : gi (upd a k (T + 1)) k = T + 1 := by rw [upd_gi (by omega), if_pos rfl]
                have z3 := upd_len b k T
                have z4 := upd_len a k (T + 1)
                simp only [vBox, vBBE] at H15 H14
                repeat' (first
                    | refine FR.at (n := 133) N ?_ (E6 N) ?_
                    | (refine caK.go ?_; refine caK.valL (by (repeat' (first | assumption | exact Le.dead _ | exact Le.mkF | exact LeS.nil | exact Les.refl _ | exact LeL.refl _ | exact Le.refl _ | exact Le.ofI (by omega) | exact Le.nil | refine LeS.cons rfl ?_ ?_ | refine Les.cons ?_ ?_ | refine LeL.cons ?_ ?_ | refine Le.agL ?_ | refine Le.tupL ?_ | refine Le.refL ?_ | refine Le.fnL ?_ | refine Le.lit2 rfl ?_ | refine Le.litI rfl ?_)); done) (f9 _ _ _) ?_)
                    | (refine caF.go ?_; refine caF.valL (by (repeat' (first | assumption | exact Le.dead _ | exact Le.mkF | exact LeS.nil | exact Les.refl _ | exact LeL.refl _ | exact Le.refl _ | exact Le.ofI (by omega) | exact Le.nil | refine LeS.cons rfl ?_ ?_ | refine Les.cons ?_ ?_ | refine LeL.cons ?_ ?_ | refine Le.agL ?_ | refine Le.tupL ?_ | refine Le.refL ?_ | refine Le.fnL ?_ | refine Le.lit2 rfl ?_ | refine Le.litI rfl ?_)); done) (fun M2 => f9 _ _ M2) ?_)
                    | (refine caK.go ?_; refine caK.valL (by (repeat' (first | assumption | exact Le.dead _ | exact Le.mkF | exact LeS.nil | exact Les.refl _ | exact LeL.refl _ | exact Le.refl _ | exact Le.ofI (by omega) | exact Le.nil | refine LeS.cons rfl ?_ ?_ | refine Les.cons ?_ ?_ | refine LeL.cons ?_ ?_ | refine Le.agL ?_ | refine Le.tupL ?_ | refine Le.refL ?_ | refine Le.fnL ?_ | refine Le.lit2 rfl ?_ | refine Le.litI rfl ?_)); done) (f24 _ _ (by omega) (by omega) _) ?_)
                    | (refine caF.go ?_; refine caF.valL (by (repeat' (first | assumption | exact Le.dead _ | exact Le.mkF | exact LeS.nil | exact Les.refl _ | exact LeL.refl _ | exact Le.refl _ | exact Le.ofI (by omega) | exact Le.nil | refine LeS.cons rfl ?_ ?_ | refine Les.cons ?_ ?_ | refine LeL.cons ?_ ?_ | refine Le.agL ?_ | refine Le.tupL ?_ | refine Le.refL ?_ | refine Le.fnL ?_ | refine Le.lit2 rfl ?_ | refine Le.litI rfl ?_)); done) (fun M2 => f24 _ _ (by omega) (by omega) M2) ?_)
                    | (refine caK.go ?_; refine caK.valL (by (repeat' (first | assumption | exact Le.dead _ | exact Le.mkF | exact LeS.nil | exact Les.refl _ | exact LeL.refl _ | exact Le.refl _ | exact Le.ofI (by omega) | exact Le.nil | refine LeS.cons rfl ?_ ?_ | refine Les.cons ?_ ?_ | refine LeL.cons ?_ ?_ | refine Le.agL ?_ | refine Le.tupL ?_ | refine Le.refL ?_ | refine Le.fnL ?_ | refine Le.lit2 rfl ?_ | refine Le.litI rfl ?_)); done) (f25w _ (by omega) _) ?_)
                    | (refine caF.go ?_; refine caF.valL (by (repeat' (first | assumption | exact Le.dead _ | exact Le.mkF | exact LeS.nil | exact Les.refl _ | exact LeL.refl _ | exact Le.refl _ | exact Le.ofI (by omega) | exact Le.nil | refine LeS.cons rfl ?_ ?_ | refine Les.cons ?_ ?_ | refine LeL.cons ?_ ?_ | refine Le.agL ?_ | refine Le.tupL ?_ | refine Le.refL ?_ | refine Le.fnL ?_ | refine Le.lit2 rfl ?_ | refine Le.litI rfl ?_)); done) (fun M2 => f25w _ (by omega) M2) ?_)
                    | (refine caK.go ?_; refine caK.valL (by (repeat' (first | assumption | exact Le.dead _ | exact Le.mkF | exact LeS.nil | exact Les.refl _ | exact LeL.refl _ | exact Le.refl _ | exact Le.ofI (by omega) | exact Le.nil | refine LeS.cons rfl ?_ ?_ | refine Les.cons ?_ ?_ | refine LeL.cons ?_ ?_ | refine Le.agL ?_ | refine Le.tupL ?_ | refine Le.refL ?_ | refine Le.fnL ?_ | refine Le.lit2 rfl ?_ | refine Le.litI rfl ?_)); done) (f26 _ _) ?_)
                    | (refine caF.go ?_; refine caF.valL (by (repeat' (first | assumption | exact Le.dead _ | exact Le.mkF | exact LeS.nil | exact Les.refl _ | exact LeL.refl _ | exact Le.refl _ | exact Le.ofI (by omega) | exact Le.nil | refine LeS.cons rfl ?_ ?_ | refine Les.cons ?_ ?_ | refine LeL.cons ?_ ?_ | refine Le.agL ?_ | refine Le.tupL ?_ | refine Le.refL ?_ | refine Le.fnL ?_ | refine Le.lit2 rfl ?_ | refine Le.litI rfl ?_)); done) (fun M2 => f26 _ M2) ?_)
                    | (refine caK.go ?_; refine caK.val (f10 _) (Les.refl _) ?_)
                    | (refine caF.go ?_; refine caF.val (fun M2 => f10 M2) (Les.refl _) ?_)
                    | (refine caK.go ?_; refine caK.val (H15 _) (Les.refl _) ?_)
                    | (refine caF.go ?_; refine caF.val (fun M2 => H15 M2) (Les.refl _) ?_)
                    | (refine caK.go ?_; refine caK.val (H14 _) (Les.refl _) ?_)
                    | (refine caF.go ?_; refine caF.val (fun M2 => H14 M2) (Les.refl _) ?_)
                    | (refine caK.go ?_; refine caK.val (H14b _) (Les.refl _) ?_)
                    | (refine caF.go ?_; refine caF.val (fun M2 => H14b M2) (Les.refl _) ?_)
                    | (refine caK.go ?_; refine caK.val (H27 _) (Les.refl _) ?_)
                    | (refine caF.go ?_; refine caF.val (fun M2 => H27 M2) (Les.refl _) ?_)
                    | (refine caK.go ?_; refine caK.val (H11 _) (Les.refl _) ?_)
                    | (refine caF.go ?_; refine caF.val (fun M2 => H11 M2) (Les.refl _) ?_)
                    | (refine caK.go ?_; refine caK.val (H12 _) (Les.refl _) ?_)
                    | (refine caF.go ?_; refine caF.val (fun M2 => H12 M2) (Les.refl _) ?_)
                    | (refine caK.go ?_; refine caK.val (L11 _) (Les.refl _) ?_)
                    | (refine caF.go ?_; refine caF.val (fun M2 => L11 M2) (Les.refl _) ?_)
                    | (refine caK.go ?_; refine caK.val (R11 _) (Les.refl _) ?_)
                    | (refine caF.go ?_; refine caF.val (fun M2 => R11 M2) (Les.refl _) ?_)
                    | (refine caK.go ?_; refine caK.val (L12 _) (Les.refl _) ?_)
                    | (refine caF.go ?_; refine caF.val (fun M2 => L12 M2) (Les.refl _) ?_)
                    | (refine caK.go ?_; refine caK.val (R12 _) (Les.refl _) ?_)
                    | (refine caF.go ?_; refine caF.val (fun M2 => R12 M2) (Les.refl _) ?_)
                    | (refine caK.go ?_; refine caK.val (L22 _) (Les.refl _) ?_)
                    | (refine caF.go ?_; refine caF.val (fun M2 => L22 M2) (Les.refl _) ?_)
                    | (refine caK.go ?_; refine caK.val (R22 _) (Les.refl _) ?_)
                    | (refine caF.go ?_; refine caF.val (fun M2 => R22 M2) (Les.refl _) ?_)
                    | (refine caK.go ?_; refine caK.val (L32 _) (Les.refl _) ?_)
                    | (refine caF.go ?_; refine caF.val (fun M2 => L32 M2) (Les.refl _) ?_)
                    | (refine caK.go ?_; refine caK.val (R32 _) (Les.refl _) ?_)
                    | (refine caF.go ?_; refine caF.val (fun M2 => R32 M2) (Les.refl _) ?_)
                    | refine KR.go ?_ | refine SRuns.seq ?_ | refine SRuns.reg ?_ | refine SRuns.block ?_ | refine SRuns.skip ?_ | refine SRuns.inBlock ?_ | refine SRuns.exit rfl ?_
                    | refine SRuns.ret (EEnd.of rfl ?_) | refine SRuns.fin (EEnd.of rfl ?_)
                    | refine SRuns.ret (EEnd.of1 rfl ?_ ?_) | refine SRuns.fin (EEnd.of1 rfl ?_ ?_)
                    | refine SRuns.free ?_
                    | refine FR.at N ?_ (fun _ => []) ?_ | refine NewK.at N ?_ ?_ | exact fun i => hN _ (by omega)
                    | refine gdD_t (fun h => ?_) (fun h => ?_) | refine gdD_f (fun h => ?_) (fun h => ?_) | refine gdK_split (fun h => ?_) (fun h => ?_)
                    | refine fgD_t (fun h => ?_) (fun h => ?_) | refine fgD_f (fun h => ?_) (fun h => ?_) | refine fgK_split (fun h => ?_) (fun h => ?_)
                    | refine SRuns.condNil rfl (fun h => ?_) ?_ | refine SRuns.condT rfl ?_ | refine SRuns.condF rfl ?_ | refine SRuns.condD rfl (fun h => ?_) (fun h => ?_) | refine SRuns.cond rfl (fun h => ?_) (fun h => ?_)
                    | simp (disch := omega) only [go_sem, vBox, hN, g1, c2, c3, c5, eq_self, beq_self_eq_true, z1, z2, z3, z4, cn, cf, ↓reduceIte, Nat.reduceAdd, Nat.reduceMul, Nat.reduceEqDiff, Nat.reduceLT, Nat.reduceLeDiff, Nat.reduceBEq, Int.toNat_natCast, true_or, or_true, Int.toNat_zero, Int.toNat_one, Bool.true_or, Bool.or_true, Bool.or_false, Bool.false_or, List.size_toArray, not_true_eq_false, not_false_eq_true, decide_true, decide_false, and_self]
                    | (refine DoneF.rawv N hN ?_ ⟨?_, rfl⟩; (focus ((first | exact fun _ _ => rfl | (intro g hg; simp (disch := omega) only [go_sem])); done)))
                    | (refine DoneF.done (Done.keep N hN ?_ ?_ ⟨rfl, rfl⟩); (focus ((first | exact fun _ _ => rfl | (intro g hg; simp (disch := omega) only [go_sem])); done)); (focus ((repeat' (first | exact trivial | exact CloL.nil | exact Clo.vIs | exact Clo.vIss | exact Clo.slv | exact CloB.rowI | exact Clo.slI | refine CloL.cons ?_ ?_ | refine Clo.agL ?_ | refine Clo.tupL ?_ | refine Clo.refL ?_ | refine Clo.fnL ?_ | refine CloB.cellsL ?_)); done)))
                    | exact DoneF.all ⟨rfl, rfl⟩ | refine And.intro (by omega) ?_ | (exfalso; omega) | contradiction
                    | fail)
                all_goals (exfalso; by_cases e : gi p j ≤ t <;> simp [e] at h)
            · rw [show cutS (a, b) (n.tmod (a.length : Int)) t = (([], []), ([], []), 1) from if_neg hc] at H14b
              rw [← c4] at H14b
              simp only [vBBE, vBox] at H14b
              by_cases hz : gi (wide (a, b)) k = 0
              · rw [show spR (a, b) k = .tup 3 (lst [vI 0, vI 0, vI 4]) from if_pos hz] at H15
                simp only [vBox] at H15
                repeat' (first
                    | (refine caK.go ?_; refine caK.valL (by (repeat' (first | assumption | exact Le.dead _ | exact Le.mkF | exact LeS.nil | exact Les.refl _ | exact LeL.refl _ | exact Le.refl _ | exact Le.ofI (by omega) | exact Le.nil | refine LeS.cons rfl ?_ ?_ | refine Les.cons ?_ ?_ | refine LeL.cons ?_ ?_ | refine Le.agL ?_ | refine Le.tupL ?_ | refine Le.refL ?_ | refine Le.fnL ?_ | refine Le.lit2 rfl ?_ | refine Le.litI rfl ?_)); done) (f9 _ _ _) ?_)
                    | (refine caF.go ?_; refine caF.valL (by (repeat' (first | assumption | exact Le.dead _ | exact Le.mkF | exact LeS.nil | exact Les.refl _ | exact LeL.refl _ | exact Le.refl _ | exact Le.ofI (by omega) | exact Le.nil | refine LeS.cons rfl ?_ ?_ | refine Les.cons ?_ ?_ | refine LeL.cons ?_ ?_ | refine Le.agL ?_ | refine Le.tupL ?_ | refine Le.refL ?_ | refine Le.fnL ?_ | refine Le.lit2 rfl ?_ | refine Le.litI rfl ?_)); done) (fun M2 => f9 _ _ M2) ?_)
                    | (refine caK.go ?_; refine caK.valL (by (repeat' (first | assumption | exact Le.dead _ | exact Le.mkF | exact LeS.nil | exact Les.refl _ | exact LeL.refl _ | exact Le.refl _ | exact Le.ofI (by omega) | exact Le.nil | refine LeS.cons rfl ?_ ?_ | refine Les.cons ?_ ?_ | refine LeL.cons ?_ ?_ | refine Le.agL ?_ | refine Le.tupL ?_ | refine Le.refL ?_ | refine Le.fnL ?_ | refine Le.lit2 rfl ?_ | refine Le.litI rfl ?_)); done) (f24 _ _ (by omega) (by omega) _) ?_)
                    | (refine caF.go ?_; refine caF.valL (by (repeat' (first | assumption | exact Le.dead _ | exact Le.mkF | exact LeS.nil | exact Les.refl _ | exact LeL.refl _ | exact Le.refl _ | exact Le.ofI (by omega) | exact Le.nil | refine LeS.cons rfl ?_ ?_ | refine Les.cons ?_ ?_ | refine LeL.cons ?_ ?_ | refine Le.agL ?_ | refine Le.tupL ?_ | refine Le.refL ?_ | refine Le.fnL ?_ | refine Le.lit2 rfl ?_ | refine Le.litI rfl ?_)); done) (fun M2 => f24 _ _ (by omega) (by omega) M2) ?_)
                    | (refine caK.go ?_; refine caK.valL (by (repeat' (first | assumption | exact Le.dead _ | exact Le.mkF | exact LeS.nil | exact Les.refl _ | exact LeL.refl _ | exact Le.refl _ | exact Le.ofI (by omega) | exact Le.nil | refine LeS.cons rfl ?_ ?_ | refine Les.cons ?_ ?_ | refine LeL.cons ?_ ?_ | refine Le.agL ?_ | refine Le.tupL ?_ | refine Le.refL ?_ | refine Le.fnL ?_ | refine Le.lit2 rfl ?_ | refine Le.litI rfl ?_)); done) (f25w _ (by omega) _) ?_)
                    | (refine caF.go ?_; refine caF.valL (by (repeat' (first | assumption | exact Le.dead _ | exact Le.mkF | exact LeS.nil | exact Les.refl _ | exact LeL.refl _ | exact Le.refl _ | exact Le.ofI (by omega) | exact Le.nil | refine LeS.cons rfl ?_ ?_ | refine Les.cons ?_ ?_ | refine LeL.cons ?_ ?_ | refine Le.agL ?_ | refine Le.tupL ?_ | refine Le.refL ?_ | refine Le.fnL ?_ | refine Le.lit2 rfl ?_ | refine Le.litI rfl ?_)); done) (fun M2 => f25w _ (by omega) M2) ?_)
                    | (refine caK.go ?_; refine caK.valL (by (repeat' (first | assumption | exact Le.dead _ | exact Le.mkF | exact LeS.nil | exact Les.refl _ | exact LeL.refl _ | exact Le.refl _ | exact Le.ofI (by omega) | exact Le.nil | refine LeS.cons rfl ?_ ?_ | refine Les.cons ?_ ?_ | refine LeL.cons ?_ ?_ | refine Le.agL ?_ | refine Le.tupL ?_ | refine Le.refL ?_ | refine Le.fnL ?_ | refine Le.lit2 rfl ?_ | refine Le.litI rfl ?_)); done) (f26 _ _) ?_)
                    | (refine caF.go ?_; refine caF.valL (by (repeat' (first | assumption | exact Le.dead _ | exact Le.mkF | exact LeS.nil | exact Les.refl _ | exact LeL.refl _ | exact Le.refl _ | exact Le.ofI (by omega) | exact Le.nil | refine LeS.cons rfl ?_ ?_ | refine Les.cons ?_ ?_ | refine LeL.cons ?_ ?_ | refine Le.agL ?_ | refine Le.tupL ?_ | refine Le.refL ?_ | refine Le.fnL ?_ | refine Le.lit2 rfl ?_ | refine Le.litI rfl ?_)); done) (fun M2 => f26 _ M2) ?_)
                    | (refine caK.go ?_; refine caK.val (f10 _) (Les.refl _) ?_)
                    | (refine caF.go ?_; refine caF.val (fun M2 => f10 M2) (Les.refl _) ?_)
                    | (refine caK.go ?_; refine caK.val (H15 _) (Les.refl _) ?_)
                    | (refine caF.go ?_; refine caF.val (fun M2 => H15 M2) (Les.refl _) ?_)
                    | (refine caK.go ?_; refine caK.val (H14 _) (Les.refl _) ?_)
                    | (refine caF.go ?_; refine caF.val (fun M2 => H14 M2) (Les.refl _) ?_)
                    | (refine caK.go ?_; refine caK.val (H14b _) (Les.refl _) ?_)
                    | (refine caF.go ?_; refine caF.val (fun M2 => H14b M2) (Les.refl _) ?_)
                    | refine FR.at (n := 133) N ?_ (E6 N) ?_
                    | refine KR.go ?_ | refine SRuns.seq ?_ | refine SRuns.reg ?_ | refine SRuns.block ?_ | refine SRuns.skip ?_ | refine SRuns.inBlock ?_ | refine SRuns.exit rfl ?_
                    | refine SRuns.ret (EEnd.of rfl ?_) | refine SRuns.fin (EEnd.of rfl ?_)
                    | refine SRuns.ret (EEnd.of1 rfl ?_ ?_) | refine SRuns.fin (EEnd.of1 rfl ?_ ?_)
                    | refine SRuns.free ?_
                    | refine FR.at N ?_ (fun _ => []) ?_ | refine NewK.at N ?_ ?_ | exact fun i => hN _ (by omega)
                    | refine gdD_t (fun h => ?_) (fun h => ?_) | refine gdD_f (fun h => ?_) (fun h => ?_) | refine gdK_split (fun h => ?_) (fun h => ?_)
                    | refine fgD_t (fun h => ?_) (fun h => ?_) | refine fgD_f (fun h => ?_) (fun h => ?_) | refine fgK_split (fun h => ?_) (fun h => ?_)
                    | refine SRuns.condNil rfl (fun h => ?_) ?_ | refine SRuns.condT rfl ?_ | refine SRuns.condF rfl ?_ | refine SRuns.condD rfl (fun h => ?_) (fun h => ?_) | refine SRuns.cond rfl (fun h => ?_) (fun h => ?_)
                    | simp (disch := omega) only [go_sem, vBox, hN, g1, c2, c3, c5, eq_self, beq_self_eq_true, ↓reduceIte, Nat.reduceAdd, Nat.reduceMul, Nat.reduceEqDiff, Nat.reduceLT, Nat.reduceLeDiff, Nat.reduceBEq, Int.toNat_natCast, true_or, or_true, Int.toNat_zero, Int.toNat_one, Bool.true_or, Bool.or_true, Bool.or_false, Bool.false_or, List.size_toArray, not_true_eq_false, not_false_eq_true, decide_true, decide_false, and_self]
                    | (refine DoneF.rawv N hN ?_ ⟨?_, rfl⟩; (focus ((first | exact fun _ _ => rfl | (intro g hg; simp (disch := omega) only [go_sem])); done)))
                    | (refine DoneF.done (Done.keep N hN ?_ ?_ ⟨rfl, rfl⟩); (focus ((first | exact fun _ _ => rfl | (intro g hg; simp (disch := omega) only [go_sem])); done)); (focus ((repeat' (first | exact trivial | exact CloL.nil | exact Clo.vIs | exact Clo.vIss | exact Clo.slv | exact CloB.rowI | exact Clo.slI | refine CloL.cons ?_ ?_ | refine Clo.agL ?_ | refine Clo.tupL ?_ | refine Clo.refL ?_ | refine Clo.fnL ?_ | refine CloB.cellsL ?_)); done)))
                    | exact DoneF.all ⟨rfl, rfl⟩ | refine And.intro (by omega) ?_ | (exfalso; omega) | contradiction
                    | fail)
              · rw [show spR (a, b) k = .tup 3 (lst [vI k, vI (gi a k + (gi (wide (a, b)) k).tdiv 2), vI 0]) from if_neg hz] at H15
                have ht : (gi (wide (a, b)) k).tdiv 2 = (gi b k - gi a k) / 2 := by rw [hwk, Int.tdiv_eq_ediv_of_nonneg (by omega)]
                rw [ht] at H15
                generalize hT : gi a k + (gi b k - gi a k) / 2 = T at *
                have H14 := f14 a b (k : Int) T (by omega) (by omega)
                rw [show cutS (a, b) (k : Int) T = ((a, upd b k T), (upd a k (T + 1), b), 0) from if_pos ⟨c2, by omega, by simp only; omega, by simp only [Int.toNat_natCast]; omega, by simp only [Int.toNat_natCast]; omega⟩] at H14
                have z1 : gi (upd b k T) k = T := by rw [upd_gi (by omega), if_pos rfl]
                have z2 : gi (upd a k (T + 1)) k = T + 1 := by rw [upd_gi (by omega), if_pos rfl]
                have z3 := upd_len b k T
                have z4 := upd_len a k (T + 1)
                simp only [vBox, vBBE] at H15 H14
                repeat' (first
                    | (refine caK.go ?_; refine caK.valL (by (repeat' (first | assumption | exact Le.dead _ | exact Le.mkF | exact LeS.nil | exact Les.refl _ | exact LeL.refl _ | exact Le.refl _ | exact Le.ofI (by omega) | exact Le.nil | refine LeS.cons rfl ?_ ?_ | refine Les.cons ?_ ?_ | refine LeL.cons ?_ ?_ | refine Le.agL ?_ | refine Le.tupL ?_ | refine Le.refL ?_ | refine Le.fnL ?_ | refine Le.lit2 rfl ?_ | refine Le.litI rfl ?_)); done) (f9 _ _ _) ?_)
                    | (refine caF.go ?_; refine caF.valL (by (repeat' (first | assumption | exact Le.dead _ | exact Le.mkF | exact LeS.nil | exact Les.refl _ | exact LeL.refl _ | exact Le.refl _ | exact Le.ofI (by omega) | exact Le.nil | refine LeS.cons rfl ?_ ?_ | refine Les.cons ?_ ?_ | refine LeL.cons ?_ ?_ | refine Le.agL ?_ | refine Le.tupL ?_ | refine Le.refL ?_ | refine Le.fnL ?_ | refine Le.lit2 rfl ?_ | refine Le.litI rfl ?_)); done) (fun M2 => f9 _ _ M2) ?_)
                    | (refine caK.go ?_; refine caK.valL (by (repeat' (first | assumption | exact Le.dead _ | exact Le.mkF | exact LeS.nil | exact Les.refl _ | exact LeL.refl _ | exact Le.refl _ | exact Le.ofI (by omega) | exact Le.nil | refine LeS.cons rfl ?_ ?_ | refine Les.cons ?_ ?_ | refine LeL.cons ?_ ?_ | refine Le.agL ?_ | refine Le.tupL ?_ | refine Le.refL ?_ | refine Le.fnL ?_ | refine Le.lit2 rfl ?_ | refine Le.litI rfl ?_)); done) (f24 _ _ (by omega) (by omega) _) ?_)
                    | (refine caF.go ?_; refine caF.valL (by (repeat' (first | assumption | exact Le.dead _ | exact Le.mkF | exact LeS.nil | exact Les.refl _ | exact LeL.refl _ | exact Le.refl _ | exact Le.ofI (by omega) | exact Le.nil | refine LeS.cons rfl ?_ ?_ | refine Les.cons ?_ ?_ | refine LeL.cons ?_ ?_ | refine Le.agL ?_ | refine Le.tupL ?_ | refine Le.refL ?_ | refine Le.fnL ?_ | refine Le.lit2 rfl ?_ | refine Le.litI rfl ?_)); done) (fun M2 => f24 _ _ (by omega) (by omega) M2) ?_)
                    | (refine caK.go ?_; refine caK.valL (by (repeat' (first | assumption | exact Le.dead _ | exact Le.mkF | exact LeS.nil | exact Les.refl _ | exact LeL.refl _ | exact Le.refl _ | exact Le.ofI (by omega) | exact Le.nil | refine LeS.cons rfl ?_ ?_ | refine Les.cons ?_ ?_ | refine LeL.cons ?_ ?_ | refine Le.agL ?_ | refine Le.tupL ?_ | refine Le.refL ?_ | refine Le.fnL ?_ | refine Le.lit2 rfl ?_ | refine Le.litI rfl ?_)); done) (f25w _ (by omega) _) ?_)
                    | (refine caF.go ?_; refine caF.valL (by (repeat' (first | assumption | exact Le.dead _ | exact Le.mkF | exact LeS.nil | exact Les.refl _ | exact LeL.refl _ | exact Le.refl _ | exact Le.ofI (by omega) | exact Le.nil | refine LeS.cons rfl ?_ ?_ | refine Les.cons ?_ ?_ | refine LeL.cons ?_ ?_ | refine Le.agL ?_ | refine Le.tupL ?_ | refine Le.refL ?_ | refine Le.fnL ?_ | refine Le.lit2 rfl ?_ | refine Le.litI rfl ?_)); done) (fun M2 => f25w _ (by omega) M2) ?_)
                    | (refine caK.go ?_; refine caK.valL (by (repeat' (first | assumption | exact Le.dead _ | exact Le.mkF | exact LeS.nil | exact Les.refl _ | exact LeL.refl _ | exact Le.refl _ | exact Le.ofI (by omega) | exact Le.nil | refine LeS.cons rfl ?_ ?_ | refine Les.cons ?_ ?_ | refine LeL.cons ?_ ?_ | refine Le.agL ?_ | refine Le.tupL ?_ | refine Le.refL ?_ | refine Le.fnL ?_ | refine Le.lit2 rfl ?_ | refine Le.litI rfl ?_)); done) (f26 _ _) ?_)
                    | (refine caF.go ?_; refine caF.valL (by (repeat' (first | assumption | exact Le.dead _ | exact Le.mkF | exact LeS.nil | exact Les.refl _ | exact LeL.refl _ | exact Le.refl _ | exact Le.ofI (by omega) | exact Le.nil | refine LeS.cons rfl ?_ ?_ | refine Les.cons ?_ ?_ | refine LeL.cons ?_ ?_ | refine Le.agL ?_ | refine Le.tupL ?_ | refine Le.refL ?_ | refine Le.fnL ?_ | refine Le.lit2 rfl ?_ | refine Le.litI rfl ?_)); done) (fun M2 => f26 _ M2) ?_)
                    | (refine caK.go ?_; refine caK.val (f10 _) (Les.refl _) ?_)
                    | (refine caF.go ?_; refine caF.val (fun M2 => f10 M2) (Les.refl _) ?_)
                    | (refine caK.go ?_; refine caK.val (H15 _) (Les.refl _) ?_)
                    | (refine caF.go ?_; refine caF.val (fun M2 => H15 M2) (Les.refl _) ?_)
                    | (refine caK.go ?_; refine caK.val (H14 _) (Les.refl _) ?_)
                    | (refine caF.go ?_; refine caF.val (fun M2 => H14 M2) (Les.refl _) ?_)
                    | (refine caK.go ?_; refine caK.val (H14b _) (Les.refl _) ?_)
                    | (refine caF.go ?_; refine caF.val (fun M2 => H14b M2) (Les.refl _) ?_)
                    | refine FR.at (n := 133) N ?_ (E6 N) ?_
                    | refine KR.go ?_ | refine SRuns.seq ?_ | refine SRuns.reg ?_ | refine SRuns.block ?_ | refine SRuns.skip ?_ | refine SRuns.inBlock ?_ | refine SRuns.exit rfl ?_
                    | refine SRuns.ret (EEnd.of rfl ?_) | refine SRuns.fin (EEnd.of rfl ?_)
                    | refine SRuns.ret (EEnd.of1 rfl ?_ ?_) | refine SRuns.fin (EEnd.of1 rfl ?_ ?_)
                    | refine SRuns.free ?_
                    | refine FR.at N ?_ (fun _ => []) ?_ | refine NewK.at N ?_ ?_ | exact fun i => hN _ (by omega)
                    | refine gdD_t (fun h => ?_) (fun h => ?_) | refine gdD_f (fun h => ?_) (fun h => ?_) | refine gdK_split (fun h => ?_) (fun h => ?_)
                    | refine fgD_t (fun h => ?_) (fun h => ?_) | refine fgD_f (fun h => ?_) (fun h => ?_) | refine fgK_split (fun h => ?_) (fun h => ?_)
                    | refine SRuns.condNil rfl (fun h => ?_) ?_ | refine SRuns.condT rfl ?_ | refine SRuns.condF rfl ?_ | refine SRuns.condD rfl (fun h => ?_) (fun h => ?_) | refine SRuns.cond rfl (fun h => ?_) (fun h => ?_)
                    | simp (disch := omega) only [go_sem, vBox, hN, g1, c2, c3, c5, eq_self, beq_self_eq_true, z1, z2, z3, z4, ↓reduceIte, Nat.reduceAdd, Nat.reduceMul, Nat.reduceEqDiff, Nat.reduceLT, Nat.reduceLeDiff, Nat.reduceBEq, Int.toNat_natCast, true_or, or_true, Int.toNat_zero, Int.toNat_one, Bool.true_or, Bool.or_true, Bool.or_false, Bool.false_or, List.size_toArray, not_true_eq_false, not_false_eq_true, decide_true, decide_false, and_self]
                    | (refine DoneF.rawv N hN ?_ ⟨?_, rfl⟩; (focus ((first | exact fun _ _ => rfl | (intro g hg; simp (disch := omega) only [go_sem])); done)))
                    | (refine DoneF.done (Done.keep N hN ?_ ?_ ⟨rfl, rfl⟩); (focus ((first | exact fun _ _ => rfl | (intro g hg; simp (disch := omega) only [go_sem])); done)); (focus ((repeat' (first | exact trivial | exact CloL.nil | exact Clo.vIs | exact Clo.vIss | exact Clo.slv | exact CloB.rowI | exact Clo.slI | refine CloL.cons ?_ ?_ | refine Clo.agL ?_ | refine Clo.tupL ?_ | refine Clo.refL ?_ | refine Clo.fnL ?_ | refine CloB.cellsL ?_)); done)))
                    | exact DoneF.all ⟨rfl, rfl⟩ | refine And.intro (by omega) ?_ | (exfalso; omega) | contradiction
                    | fail)
          · repeat' (first
                | (refine caK.go ?_; refine caK.valL (by (repeat' (first | assumption | exact Le.dead _ | exact Le.mkF | exact LeS.nil | exact Les.refl _ | exact LeL.refl _ | exact Le.refl _ | exact Le.ofI (by omega) | exact Le.nil | refine LeS.cons rfl ?_ ?_ | refine Les.cons ?_ ?_ | refine LeL.cons ?_ ?_ | refine Le.agL ?_ | refine Le.tupL ?_ | refine Le.refL ?_ | refine Le.fnL ?_ | refine Le.lit2 rfl ?_ | refine Le.litI rfl ?_)); done) (f9 _ _ _) ?_)
                | (refine caF.go ?_; refine caF.valL (by (repeat' (first | assumption | exact Le.dead _ | exact Le.mkF | exact LeS.nil | exact Les.refl _ | exact LeL.refl _ | exact Le.refl _ | exact Le.ofI (by omega) | exact Le.nil | refine LeS.cons rfl ?_ ?_ | refine Les.cons ?_ ?_ | refine LeL.cons ?_ ?_ | refine Le.agL ?_ | refine Le.tupL ?_ | refine Le.refL ?_ | refine Le.fnL ?_ | refine Le.lit2 rfl ?_ | refine Le.litI rfl ?_)); done) (fun M2 => f9 _ _ M2) ?_)
                | (refine caK.go ?_; refine caK.valL (by (repeat' (first | assumption | exact Le.dead _ | exact Le.mkF | exact LeS.nil | exact Les.refl _ | exact LeL.refl _ | exact Le.refl _ | exact Le.ofI (by omega) | exact Le.nil | refine LeS.cons rfl ?_ ?_ | refine Les.cons ?_ ?_ | refine LeL.cons ?_ ?_ | refine Le.agL ?_ | refine Le.tupL ?_ | refine Le.refL ?_ | refine Le.fnL ?_ | refine Le.lit2 rfl ?_ | refine Le.litI rfl ?_)); done) (f24 _ _ (by omega) (by omega) _) ?_)
                | (refine caF.go ?_; refine caF.valL (by (repeat' (first | assumption | exact Le.dead _ | exact Le.mkF | exact LeS.nil | exact Les.refl _ | exact LeL.refl _ | exact Le.refl _ | exact Le.ofI (by omega) | exact Le.nil | refine LeS.cons rfl ?_ ?_ | refine Les.cons ?_ ?_ | refine LeL.cons ?_ ?_ | refine Le.agL ?_ | refine Le.tupL ?_ | refine Le.refL ?_ | refine Le.fnL ?_ | refine Le.lit2 rfl ?_ | refine Le.litI rfl ?_)); done) (fun M2 => f24 _ _ (by omega) (by omega) M2) ?_)
                | (refine caK.go ?_; refine caK.valL (by (repeat' (first | assumption | exact Le.dead _ | exact Le.mkF | exact LeS.nil | exact Les.refl _ | exact LeL.refl _ | exact Le.refl _ | exact Le.ofI (by omega) | exact Le.nil | refine LeS.cons rfl ?_ ?_ | refine Les.cons ?_ ?_ | refine LeL.cons ?_ ?_ | refine Le.agL ?_ | refine Le.tupL ?_ | refine Le.refL ?_ | refine Le.fnL ?_ | refine Le.lit2 rfl ?_ | refine Le.litI rfl ?_)); done) (f25w _ (by omega) _) ?_)
                | (refine caF.go ?_; refine caF.valL (by (repeat' (first | assumption | exact Le.dead _ | exact Le.mkF | exact LeS.nil | exact Les.refl _ | exact LeL.refl _ | exact Le.refl _ | exact Le.ofI (by omega) | exact Le.nil | refine LeS.cons rfl ?_ ?_ | refine Les.cons ?_ ?_ | refine LeL.cons ?_ ?_ | refine Le.agL ?_ | refine Le.tupL ?_ | refine Le.refL ?_ | refine Le.fnL ?_ | refine Le.lit2 rfl ?_ | refine Le.litI rfl ?_)); done) (fun M2 => f25w _ (by omega) M2) ?_)
                | (refine caK.go ?_; refine caK.valL (by (repeat' (first | assumption | exact Le.dead _ | exact Le.mkF | exact LeS.nil | exact Les.refl _ | exact LeL.refl _ | exact Le.refl _ | exact Le.ofI (by omega) | exact Le.nil | refine LeS.cons rfl ?_ ?_ | refine Les.cons ?_ ?_ | refine LeL.cons ?_ ?_ | refine Le.agL ?_ | refine Le.tupL ?_ | refine Le.refL ?_ | refine Le.fnL ?_ | refine Le.lit2 rfl ?_ | refine Le.litI rfl ?_)); done) (f26 _ _) ?_)
                | (refine caF.go ?_; refine caF.valL (by (repeat' (first | assumption | exact Le.dead _ | exact Le.mkF | exact LeS.nil | exact Les.refl _ | exact LeL.refl _ | exact Le.refl _ | exact Le.ofI (by omega) | exact Le.nil | refine LeS.cons rfl ?_ ?_ | refine Les.cons ?_ ?_ | refine LeL.cons ?_ ?_ | refine Le.agL ?_ | refine Le.tupL ?_ | refine Le.refL ?_ | refine Le.fnL ?_ | refine Le.lit2 rfl ?_ | refine Le.litI rfl ?_)); done) (fun M2 => f26 _ M2) ?_)
                | (refine caK.go ?_; refine caK.val (f10 _) (Les.refl _) ?_)
                | (refine caF.go ?_; refine caF.val (fun M2 => f10 M2) (Les.refl _) ?_)
                | refine KR.go ?_ | refine SRuns.seq ?_ | refine SRuns.reg ?_ | refine SRuns.block ?_ | refine SRuns.skip ?_ | refine SRuns.inBlock ?_ | refine SRuns.exit rfl ?_
                | refine SRuns.ret (EEnd.of rfl ?_) | refine SRuns.fin (EEnd.of rfl ?_)
                | refine SRuns.ret (EEnd.of1 rfl ?_ ?_) | refine SRuns.fin (EEnd.of1 rfl ?_ ?_)
                | refine SRuns.free ?_
                | refine FR.at N ?_ (fun _ => []) ?_ | refine NewK.at N ?_ ?_ | exact fun i => hN _ (by omega)
                | refine gdD_t (fun h => ?_) (fun h => ?_) | refine gdD_f (fun h => ?_) (fun h => ?_) | refine gdK_split (fun h => ?_) (fun h => ?_)
                | refine fgD_t (fun h => ?_) (fun h => ?_) | refine fgD_f (fun h => ?_) (fun h => ?_) | refine fgK_split (fun h => ?_) (fun h => ?_)
                | refine SRuns.condNil rfl (fun h => ?_) ?_ | refine SRuns.condT rfl ?_ | refine SRuns.condF rfl ?_ | refine SRuns.condD rfl (fun h => ?_) (fun h => ?_) | refine SRuns.cond rfl (fun h => ?_) (fun h => ?_)
                | simp (disch := omega) only [go_sem, vBox, hN, g1, c2, c3, c5, ↓reduceIte, Nat.reduceAdd, Nat.reduceMul, Nat.reduceEqDiff, Nat.reduceLT, Nat.reduceLeDiff, Nat.reduceBEq, Int.toNat_natCast, true_or, or_true, Int.toNat_zero, Int.toNat_one, Bool.true_or, Bool.or_true, Bool.or_false, Bool.false_or, List.size_toArray, not_true_eq_false, not_false_eq_true, decide_true, decide_false, and_self]
                | (refine DoneF.rawv N hN ?_ ⟨?_, rfl⟩; (focus ((first | exact fun _ _ => rfl | (intro g hg; simp (disch := omega) only [go_sem])); done)))
                | (refine DoneF.done (Done.keep N hN ?_ ?_ ⟨rfl, rfl⟩); (focus ((first | exact fun _ _ => rfl | (intro g hg; simp (disch := omega) only [go_sem])); done)); (focus ((repeat' (first | exact trivial | exact CloL.nil | exact Clo.vIs | exact Clo.vIss | exact Clo.slv | exact CloB.rowI | exact Clo.slI | refine CloL.cons ?_ ?_ | refine Clo.agL ?_ | refine Clo.tupL ?_ | refine Clo.refL ?_ | refine Clo.fnL ?_ | refine CloB.cellsL ?_)); done)))
                | exact DoneF.all ⟨rfl, rfl⟩ | refine And.intro (by omega) ?_ | (exfalso; omega) | contradiction
                | fail)
        · repeat' (first
              | (refine caK.go ?_; refine caK.valL (by (repeat' (first | assumption | exact Le.dead _ | exact Le.mkF | exact LeS.nil | exact Les.refl _ | exact LeL.refl _ | exact Le.refl _ | exact Le.ofI (by omega) | exact Le.nil | refine LeS.cons rfl ?_ ?_ | refine Les.cons ?_ ?_ | refine LeL.cons ?_ ?_ | refine Le.agL ?_ | refine Le.tupL ?_ | refine Le.refL ?_ | refine Le.fnL ?_ | refine Le.lit2 rfl ?_ | refine Le.litI rfl ?_)); done) (f9 _ _ _) ?_)
              | (refine caF.go ?_; refine caF.valL (by (repeat' (first | assumption | exact Le.dead _ | exact Le.mkF | exact LeS.nil | exact Les.refl _ | exact LeL.refl _ | exact Le.refl _ | exact Le.ofI (by omega) | exact Le.nil | refine LeS.cons rfl ?_ ?_ | refine Les.cons ?_ ?_ | refine LeL.cons ?_ ?_ | refine Le.agL ?_ | refine Le.tupL ?_ | refine Le.refL ?_ | refine Le.fnL ?_ | refine Le.lit2 rfl ?_ | refine Le.litI rfl ?_)); done) (fun M2 => f9 _ _ M2) ?_)
              | (refine caK.go ?_; refine caK.valL (by (repeat' (first | assumption | exact Le.dead _ | exact Le.mkF | exact LeS.nil | exact Les.refl _ | exact LeL.refl _ | exact Le.refl _ | exact Le.ofI (by omega) | exact Le.nil | refine LeS.cons rfl ?_ ?_ | refine Les.cons ?_ ?_ | refine LeL.cons ?_ ?_ | refine Le.agL ?_ | refine Le.tupL ?_ | refine Le.refL ?_ | refine Le.fnL ?_ | refine Le.lit2 rfl ?_ | refine Le.litI rfl ?_)); done) (f24 _ _ (by omega) (by omega) _) ?_)
              | (refine caF.go ?_; refine caF.valL (by (repeat' (first | assumption | exact Le.dead _ | exact Le.mkF | exact LeS.nil | exact Les.refl _ | exact LeL.refl _ | exact Le.refl _ | exact Le.ofI (by omega) | exact Le.nil | refine LeS.cons rfl ?_ ?_ | refine Les.cons ?_ ?_ | refine LeL.cons ?_ ?_ | refine Le.agL ?_ | refine Le.tupL ?_ | refine Le.refL ?_ | refine Le.fnL ?_ | refine Le.lit2 rfl ?_ | refine Le.litI rfl ?_)); done) (fun M2 => f24 _ _ (by omega) (by omega) M2) ?_)
              | (refine caK.go ?_; refine caK.valL (by (repeat' (first | assumption | exact Le.dead _ | exact Le.mkF | exact LeS.nil | exact Les.refl _ | exact LeL.refl _ | exact Le.refl _ | exact Le.ofI (by omega) | exact Le.nil | refine LeS.cons rfl ?_ ?_ | refine Les.cons ?_ ?_ | refine LeL.cons ?_ ?_ | refine Le.agL ?_ | refine Le.tupL ?_ | refine Le.refL ?_ | refine Le.fnL ?_ | refine Le.lit2 rfl ?_ | refine Le.litI rfl ?_)); done) (f25w _ (by omega) _) ?_)
              | (refine caF.go ?_; refine caF.valL (by (repeat' (first | assumption | exact Le.dead _ | exact Le.mkF | exact LeS.nil | exact Les.refl _ | exact LeL.refl _ | exact Le.refl _ | exact Le.ofI (by omega) | exact Le.nil | refine LeS.cons rfl ?_ ?_ | refine Les.cons ?_ ?_ | refine LeL.cons ?_ ?_ | refine Le.agL ?_ | refine Le.tupL ?_ | refine Le.refL ?_ | refine Le.fnL ?_ | refine Le.lit2 rfl ?_ | refine Le.litI rfl ?_)); done) (fun M2 => f25w _ (by omega) M2) ?_)
              | (refine caK.go ?_; refine caK.valL (by (repeat' (first | assumption | exact Le.dead _ | exact Le.mkF | exact LeS.nil | exact Les.refl _ | exact LeL.refl _ | exact Le.refl _ | exact Le.ofI (by omega) | exact Le.nil | refine LeS.cons rfl ?_ ?_ | refine Les.cons ?_ ?_ | refine LeL.cons ?_ ?_ | refine Le.agL ?_ | refine Le.tupL ?_ | refine Le.refL ?_ | refine Le.fnL ?_ | refine Le.lit2 rfl ?_ | refine Le.litI rfl ?_)); done) (f26 _ _) ?_)
              | (refine caF.go ?_; refine caF.valL (by (repeat' (first | assumption | exact Le.dead _ | exact Le.mkF | exact LeS.nil | exact Les.refl _ | exact LeL.refl _ | exact Le.refl _ | exact Le.ofI (by omega) | exact Le.nil | refine LeS.cons rfl ?_ ?_ | refine Les.cons ?_ ?_ | refine LeL.cons ?_ ?_ | refine Le.agL ?_ | refine Le.tupL ?_ | refine Le.refL ?_ | refine Le.fnL ?_ | refine Le.lit2 rfl ?_ | refine Le.litI rfl ?_)); done) (fun M2 => f26 _ M2) ?_)
              | (refine caK.go ?_; refine caK.val (f10 _) (Les.refl _) ?_)
              | (refine caF.go ?_; refine caF.val (fun M2 => f10 M2) (Les.refl _) ?_)
              | refine KR.go ?_ | refine SRuns.seq ?_ | refine SRuns.reg ?_ | refine SRuns.block ?_ | refine SRuns.skip ?_ | refine SRuns.inBlock ?_ | refine SRuns.exit rfl ?_
              | refine SRuns.ret (EEnd.of rfl ?_) | refine SRuns.fin (EEnd.of rfl ?_)
              | refine SRuns.ret (EEnd.of1 rfl ?_ ?_) | refine SRuns.fin (EEnd.of1 rfl ?_ ?_)
              | refine SRuns.free ?_
              | refine FR.at N ?_ (fun _ => []) ?_ | refine NewK.at N ?_ ?_ | exact fun i => hN _ (by omega)
              | refine gdD_t (fun h => ?_) (fun h => ?_) | refine gdD_f (fun h => ?_) (fun h => ?_) | refine gdK_split (fun h => ?_) (fun h => ?_)
              | refine fgD_t (fun h => ?_) (fun h => ?_) | refine fgD_f (fun h => ?_) (fun h => ?_) | refine fgK_split (fun h => ?_) (fun h => ?_)
              | refine SRuns.condNil rfl (fun h => ?_) ?_ | refine SRuns.condT rfl ?_ | refine SRuns.condF rfl ?_ | refine SRuns.condD rfl (fun h => ?_) (fun h => ?_) | refine SRuns.cond rfl (fun h => ?_) (fun h => ?_)
              | simp (disch := omega) only [go_sem, vBox, hN, g1, c2, c3, ↓reduceIte, Nat.reduceAdd, Nat.reduceMul, Nat.reduceEqDiff, Nat.reduceLT, Nat.reduceLeDiff, Nat.reduceBEq, Int.toNat_natCast, true_or, or_true, Int.toNat_zero, Int.toNat_one, Bool.true_or, Bool.or_true, Bool.or_false, Bool.false_or, List.size_toArray, not_true_eq_false, not_false_eq_true, decide_true, decide_false, and_self]
              | (refine DoneF.rawv N hN ?_ ⟨?_, rfl⟩; (focus ((first | exact fun _ _ => rfl | (intro g hg; simp (disch := omega) only [go_sem])); done)))
              | (refine DoneF.done (Done.keep N hN ?_ ?_ ⟨rfl, rfl⟩); (focus ((first | exact fun _ _ => rfl | (intro g hg; simp (disch := omega) only [go_sem])); done)); (focus ((repeat' (first | exact trivial | exact CloL.nil | exact Clo.vIs | exact Clo.vIss | exact Clo.slv | exact CloB.rowI | exact Clo.slI | refine CloL.cons ?_ ?_ | refine Clo.agL ?_ | refine Clo.tupL ?_ | refine Clo.refL ?_ | refine Clo.fnL ?_ | refine CloB.cellsL ?_)); done)))
              | exact DoneF.all ⟨rfl, rfl⟩ | refine And.intro (by omega) ?_ | (exfalso; omega) | contradiction
              | fail)
      · repeat' (first
            | (refine caK.go ?_; refine caK.valL (by (repeat' (first | assumption | exact Le.dead _ | exact Le.mkF | exact LeS.nil | exact Les.refl _ | exact LeL.refl _ | exact Le.refl _ | exact Le.ofI (by omega) | exact Le.nil | refine LeS.cons rfl ?_ ?_ | refine Les.cons ?_ ?_ | refine LeL.cons ?_ ?_ | refine Le.agL ?_ | refine Le.tupL ?_ | refine Le.refL ?_ | refine Le.fnL ?_ | refine Le.lit2 rfl ?_ | refine Le.litI rfl ?_)); done) (f9 _ _ _) ?_)
            | (refine caF.go ?_; refine caF.valL (by (repeat' (first | assumption | exact Le.dead _ | exact Le.mkF | exact LeS.nil | exact Les.refl _ | exact LeL.refl _ | exact Le.refl _ | exact Le.ofI (by omega) | exact Le.nil | refine LeS.cons rfl ?_ ?_ | refine Les.cons ?_ ?_ | refine LeL.cons ?_ ?_ | refine Le.agL ?_ | refine Le.tupL ?_ | refine Le.refL ?_ | refine Le.fnL ?_ | refine Le.lit2 rfl ?_ | refine Le.litI rfl ?_)); done) (fun M2 => f9 _ _ M2) ?_)
            | (refine caK.go ?_; refine caK.valL (by (repeat' (first | assumption | exact Le.dead _ | exact Le.mkF | exact LeS.nil | exact Les.refl _ | exact LeL.refl _ | exact Le.refl _ | exact Le.ofI (by omega) | exact Le.nil | refine LeS.cons rfl ?_ ?_ | refine Les.cons ?_ ?_ | refine LeL.cons ?_ ?_ | refine Le.agL ?_ | refine Le.tupL ?_ | refine Le.refL ?_ | refine Le.fnL ?_ | refine Le.lit2 rfl ?_ | refine Le.litI rfl ?_)); done) (f24 _ _ (by omega) (by omega) _) ?_)
            | (refine caF.go ?_; refine caF.valL (by (repeat' (first | assumption | exact Le.dead _ | exact Le.mkF | exact LeS.nil | exact Les.refl _ | exact LeL.refl _ | exact Le.refl _ | exact Le.ofI (by omega) | exact Le.nil | refine LeS.cons rfl ?_ ?_ | refine Les.cons ?_ ?_ | refine LeL.cons ?_ ?_ | refine Le.agL ?_ | refine Le.tupL ?_ | refine Le.refL ?_ | refine Le.fnL ?_ | refine Le.lit2 rfl ?_ | refine Le.litI rfl ?_)); done) (fun M2 => f24 _ _ (by omega) (by omega) M2) ?_)
            | (refine caK.go ?_; refine caK.valL (by (repeat' (first | assumption | exact Le.dead _ | exact Le.mkF | exact LeS.nil | exact Les.refl _ | exact LeL.refl _ | exact Le.refl _ | exact Le.ofI (by omega) | exact Le.nil | refine LeS.cons rfl ?_ ?_ | refine Les.cons ?_ ?_ | refine LeL.cons ?_ ?_ | refine Le.agL ?_ | refine Le.tupL ?_ | refine Le.refL ?_ | refine Le.fnL ?_ | refine Le.lit2 rfl ?_ | refine Le.litI rfl ?_)); done) (f25w _ (by omega) _) ?_)
            | (refine caF.go ?_; refine caF.valL (by (repeat' (first | assumption | exact Le.dead _ | exact Le.mkF | exact LeS.nil | exact Les.refl _ | exact LeL.refl _ | exact Le.refl _ | exact Le.ofI (by omega) | exact Le.nil | refine LeS.cons rfl ?_ ?_ | refine Les.cons ?_ ?_ | refine LeL.cons ?_ ?_ | refine Le.agL ?_ | refine Le.tupL ?_ | refine Le.refL ?_ | refine Le.fnL ?_ | refine Le.lit2 rfl ?_ | refine Le.litI rfl ?_)); done) (fun M2 => f25w _ (by omega) M2) ?_)
            | (refine caK.go ?_; refine caK.valL (by (repeat' (first | assumption | exact Le.dead _ | exact Le.mkF | exact LeS.nil | exact Les.refl _ | exact LeL.refl _ | exact Le.refl _ | exact Le.ofI (by omega) | exact Le.nil | refine LeS.cons rfl ?_ ?_ | refine Les.cons ?_ ?_ | refine LeL.cons ?_ ?_ | refine Le.agL ?_ | refine Le.tupL ?_ | refine Le.refL ?_ | refine Le.fnL ?_ | refine Le.lit2 rfl ?_ | refine Le.litI rfl ?_)); done) (f26 _ _) ?_)
            | (refine caF.go ?_; refine caF.valL (by (repeat' (first | assumption | exact Le.dead _ | exact Le.mkF | exact LeS.nil | exact Les.refl _ | exact LeL.refl _ | exact Le.refl _ | exact Le.ofI (by omega) | exact Le.nil | refine LeS.cons rfl ?_ ?_ | refine Les.cons ?_ ?_ | refine LeL.cons ?_ ?_ | refine Le.agL ?_ | refine Le.tupL ?_ | refine Le.refL ?_ | refine Le.fnL ?_ | refine Le.lit2 rfl ?_ | refine Le.litI rfl ?_)); done) (fun M2 => f26 _ M2) ?_)
            | (refine caK.go ?_; refine caK.val (f10 _) (Les.refl _) ?_)
            | (refine caF.go ?_; refine caF.val (fun M2 => f10 M2) (Les.refl _) ?_)
            | refine KR.go ?_ | refine SRuns.seq ?_ | refine SRuns.reg ?_ | refine SRuns.block ?_ | refine SRuns.skip ?_ | refine SRuns.inBlock ?_ | refine SRuns.exit rfl ?_
            | refine SRuns.ret (EEnd.of rfl ?_) | refine SRuns.fin (EEnd.of rfl ?_)
            | refine SRuns.ret (EEnd.of1 rfl ?_ ?_) | refine SRuns.fin (EEnd.of1 rfl ?_ ?_)
            | refine SRuns.free ?_
            | refine FR.at N ?_ (fun _ => []) ?_ | refine NewK.at N ?_ ?_ | exact fun i => hN _ (by omega)
            | refine gdD_t (fun h => ?_) (fun h => ?_) | refine gdD_f (fun h => ?_) (fun h => ?_) | refine gdK_split (fun h => ?_) (fun h => ?_)
            | refine fgD_t (fun h => ?_) (fun h => ?_) | refine fgD_f (fun h => ?_) (fun h => ?_) | refine fgK_split (fun h => ?_) (fun h => ?_)
            | refine SRuns.condNil rfl (fun h => ?_) ?_ | refine SRuns.condT rfl ?_ | refine SRuns.condF rfl ?_ | refine SRuns.condD rfl (fun h => ?_) (fun h => ?_) | refine SRuns.cond rfl (fun h => ?_) (fun h => ?_)
            | simp (disch := omega) only [go_sem, vBox, hN, g1, c2, c3, ↓reduceIte, Nat.reduceAdd, Nat.reduceMul, Nat.reduceEqDiff, Nat.reduceLT, Nat.reduceLeDiff, Nat.reduceBEq, Int.toNat_natCast, true_or, or_true, Int.toNat_zero, Int.toNat_one, Bool.true_or, Bool.or_true, Bool.or_false, Bool.false_or, List.size_toArray, not_true_eq_false, not_false_eq_true, decide_true, decide_false, and_self]
            | (refine DoneF.rawv N hN ?_ ⟨?_, rfl⟩; (focus ((first | exact fun _ _ => rfl | (intro g hg; simp (disch := omega) only [go_sem])); done)))
            | (refine DoneF.done (Done.keep N hN ?_ ?_ ⟨rfl, rfl⟩); (focus ((first | exact fun _ _ => rfl | (intro g hg; simp (disch := omega) only [go_sem])); done)); (focus ((repeat' (first | exact trivial | exact CloL.nil | exact Clo.vIs | exact Clo.vIss | exact Clo.slv | exact CloB.rowI | exact Clo.slI | refine CloL.cons ?_ ?_ | refine Clo.agL ?_ | refine Clo.tupL ?_ | refine Clo.refL ?_ | refine Clo.fnL ?_ | refine CloB.cellsL ?_)); done)))
            | exact DoneF.all ⟨rfl, rfl⟩ | refine And.intro (by omega) ?_ | (exfalso; omega) | contradiction
            | fail)
    · repeat' (first
          | (refine caK.go ?_; refine caK.valL (by (repeat' (first | assumption | exact Le.dead _ | exact Le.mkF | exact LeS.nil | exact Les.refl _ | exact LeL.refl _ | exact Le.refl _ | exact Le.ofI (by omega) | exact Le.nil | refine LeS.cons rfl ?_ ?_ | refine Les.cons ?_ ?_ | refine LeL.cons ?_ ?_ | refine Le.agL ?_ | refine Le.tupL ?_ | refine Le.refL ?_ | refine Le.fnL ?_ | refine Le.lit2 rfl ?_ | refine Le.litI rfl ?_)); done) (f9 _ _ _) ?_)
          | (refine caF.go ?_; refine caF.valL (by (repeat' (first | assumption | exact Le.dead _ | exact Le.mkF | exact LeS.nil | exact Les.refl _ | exact LeL.refl _ | exact Le.refl _ | exact Le.ofI (by omega) | exact Le.nil | refine LeS.cons rfl ?_ ?_ | refine Les.cons ?_ ?_ | refine LeL.cons ?_ ?_ | refine Le.agL ?_ | refine Le.tupL ?_ | refine Le.refL ?_ | refine Le.fnL ?_ | refine Le.lit2 rfl ?_ | refine Le.litI rfl ?_)); done) (fun M2 => f9 _ _ M2) ?_)
          | (refine caK.go ?_; refine caK.valL (by (repeat' (first | assumption | exact Le.dead _ | exact Le.mkF | exact LeS.nil | exact Les.refl _ | exact LeL.refl _ | exact Le.refl _ | exact Le.ofI (by omega) | exact Le.nil | refine LeS.cons rfl ?_ ?_ | refine Les.cons ?_ ?_ | refine LeL.cons ?_ ?_ | refine Le.agL ?_ | refine Le.tupL ?_ | refine Le.refL ?_ | refine Le.fnL ?_ | refine Le.lit2 rfl ?_ | refine Le.litI rfl ?_)); done) (f24 _ _ (by omega) (by omega) _) ?_)
          | (refine caF.go ?_; refine caF.valL (by (repeat' (first | assumption | exact Le.dead _ | exact Le.mkF | exact LeS.nil | exact Les.refl _ | exact LeL.refl _ | exact Le.refl _ | exact Le.ofI (by omega) | exact Le.nil | refine LeS.cons rfl ?_ ?_ | refine Les.cons ?_ ?_ | refine LeL.cons ?_ ?_ | refine Le.agL ?_ | refine Le.tupL ?_ | refine Le.refL ?_ | refine Le.fnL ?_ | refine Le.lit2 rfl ?_ | refine Le.litI rfl ?_)); done) (fun M2 => f24 _ _ (by omega) (by omega) M2) ?_)
          | (refine caK.go ?_; refine caK.valL (by (repeat' (first | assumption | exact Le.dead _ | exact Le.mkF | exact LeS.nil | exact Les.refl _ | exact LeL.refl _ | exact Le.refl _ | exact Le.ofI (by omega) | exact Le.nil | refine LeS.cons rfl ?_ ?_ | refine Les.cons ?_ ?_ | refine LeL.cons ?_ ?_ | refine Le.agL ?_ | refine Le.tupL ?_ | refine Le.refL ?_ | refine Le.fnL ?_ | refine Le.lit2 rfl ?_ | refine Le.litI rfl ?_)); done) (f25w _ (by omega) _) ?_)
          | (refine caF.go ?_; refine caF.valL (by (repeat' (first | assumption | exact Le.dead _ | exact Le.mkF | exact LeS.nil | exact Les.refl _ | exact LeL.refl _ | exact Le.refl _ | exact Le.ofI (by omega) | exact Le.nil | refine LeS.cons rfl ?_ ?_ | refine Les.cons ?_ ?_ | refine LeL.cons ?_ ?_ | refine Le.agL ?_ | refine Le.tupL ?_ | refine Le.refL ?_ | refine Le.fnL ?_ | refine Le.lit2 rfl ?_ | refine Le.litI rfl ?_)); done) (fun M2 => f25w _ (by omega) M2) ?_)
          | (refine caK.go ?_; refine caK.valL (by (repeat' (first | assumption | exact Le.dead _ | exact Le.mkF | exact LeS.nil | exact Les.refl _ | exact LeL.refl _ | exact Le.refl _ | exact Le.ofI (by omega) | exact Le.nil | refine LeS.cons rfl ?_ ?_ | refine Les.cons ?_ ?_ | refine LeL.cons ?_ ?_ | refine Le.agL ?_ | refine Le.tupL ?_ | refine Le.refL ?_ | refine Le.fnL ?_ | refine Le.lit2 rfl ?_ | refine Le.litI rfl ?_)); done) (f26 _ _) ?_)
          | (refine caF.go ?_; refine caF.valL (by (repeat' (first | assumption | exact Le.dead _ | exact Le.mkF | exact LeS.nil | exact Les.refl _ | exact LeL.refl _ | exact Le.refl _ | exact Le.ofI (by omega) | exact Le.nil | refine LeS.cons rfl ?_ ?_ | refine Les.cons ?_ ?_ | refine LeL.cons ?_ ?_ | refine Le.agL ?_ | refine Le.tupL ?_ | refine Le.refL ?_ | refine Le.fnL ?_ | refine Le.lit2 rfl ?_ | refine Le.litI rfl ?_)); done) (fun M2 => f26 _ M2) ?_)
          | (refine caK.go ?_; refine caK.val (f10 _) (Les.refl _) ?_)
          | (refine caF.go ?_; refine caF.val (fun M2 => f10 M2) (Les.refl _) ?_)
          | refine KR.go ?_ | refine SRuns.seq ?_ | refine SRuns.reg ?_ | refine SRuns.block ?_ | refine SRuns.skip ?_ | refine SRuns.inBlock ?_ | refine SRuns.exit rfl ?_
          | refine SRuns.ret (EEnd.of rfl ?_) | refine SRuns.fin (EEnd.of rfl ?_)
          | refine SRuns.ret (EEnd.of1 rfl ?_ ?_) | refine SRuns.fin (EEnd.of1 rfl ?_ ?_)
          | refine SRuns.free ?_
          | refine FR.at N ?_ (fun _ => []) ?_ | refine NewK.at N ?_ ?_ | exact fun i => hN _ (by omega)
          | refine gdD_t (fun h => ?_) (fun h => ?_) | refine gdD_f (fun h => ?_) (fun h => ?_) | refine gdK_split (fun h => ?_) (fun h => ?_)
          | refine fgD_t (fun h => ?_) (fun h => ?_) | refine fgD_f (fun h => ?_) (fun h => ?_) | refine fgK_split (fun h => ?_) (fun h => ?_)
          | refine SRuns.condNil rfl (fun h => ?_) ?_ | refine SRuns.condT rfl ?_ | refine SRuns.condF rfl ?_ | refine SRuns.condD rfl (fun h => ?_) (fun h => ?_) | refine SRuns.cond rfl (fun h => ?_) (fun h => ?_)
          | simp (disch := omega) only [go_sem, vBox, hN, g1, c2, ↓reduceIte, Nat.reduceAdd, Nat.reduceMul, Nat.reduceEqDiff, Nat.reduceLT, Nat.reduceLeDiff, Nat.reduceBEq, Int.toNat_natCast, true_or, or_true, Int.toNat_zero, Int.toNat_one, Bool.true_or, Bool.or_true, Bool.or_false, Bool.false_or, List.size_toArray, not_true_eq_false, not_false_eq_true, decide_true, decide_false, and_self]
          | (refine DoneF.rawv N hN ?_ ⟨?_, rfl⟩; (focus ((first | exact fun _ _ => rfl | (intro g hg; simp (disch := omega) only [go_sem])); done)))
          | (refine DoneF.done (Done.keep N hN ?_ ?_ ⟨rfl, rfl⟩); (focus ((first | exact fun _ _ => rfl | (intro g hg; simp (disch := omega) only [go_sem])); done)); (focus ((repeat' (first | exact trivial | exact CloL.nil | exact Clo.vIs | exact Clo.vIss | exact Clo.slv | exact CloB.rowI | exact Clo.slI | refine CloL.cons ?_ ?_ | refine Clo.agL ?_ | refine Clo.tupL ?_ | refine Clo.refL ?_ | refine Clo.fnL ?_ | refine CloB.cellsL ?_)); done)))
          | exact DoneF.all ⟨rfl, rfl⟩ | refine And.intro (by omega) ?_ | (exfalso; omega) | contradiction
          | fail)
  · repeat' (first
        | (refine caK.go ?_; refine caK.valL (by (repeat' (first | assumption | exact Le.dead _ | exact Le.mkF | exact LeS.nil | exact Les.refl _ | exact LeL.refl _ | exact Le.refl _ | exact Le.ofI (by omega) | exact Le.nil | refine LeS.cons rfl ?_ ?_ | refine Les.cons ?_ ?_ | refine LeL.cons ?_ ?_ | refine Le.agL ?_ | refine Le.tupL ?_ | refine Le.refL ?_ | refine Le.fnL ?_ | refine Le.lit2 rfl ?_ | refine Le.litI rfl ?_)); done) (f9 _ _ _) ?_)
        | (refine caF.go ?_; refine caF.valL (by (repeat' (first | assumption | exact Le.dead _ | exact Le.mkF | exact LeS.nil | exact Les.refl _ | exact LeL.refl _ | exact Le.refl _ | exact Le.ofI (by omega) | exact Le.nil | refine LeS.cons rfl ?_ ?_ | refine Les.cons ?_ ?_ | refine LeL.cons ?_ ?_ | refine Le.agL ?_ | refine Le.tupL ?_ | refine Le.refL ?_ | refine Le.fnL ?_ | refine Le.lit2 rfl ?_ | refine Le.litI rfl ?_)); done) (fun M2 => f9 _ _ M2) ?_)
        | (refine caK.go ?_; refine caK.valL (by (repeat' (first | assumption | exact Le.dead _ | exact Le.mkF | exact LeS.nil | exact Les.refl _ | exact LeL.refl _ | exact Le.refl _ | exact Le.ofI (by omega) | exact Le.nil | refine LeS.cons rfl ?_ ?_ | refine Les.cons ?_ ?_ | refine LeL.cons ?_ ?_ | refine Le.agL ?_ | refine Le.tupL ?_ | refine Le.refL ?_ | refine Le.fnL ?_ | refine Le.lit2 rfl ?_ | refine Le.litI rfl ?_)); done) (f24 _ _ (by omega) (by omega) _) ?_)
        | (refine caF.go ?_; refine caF.valL (by (repeat' (first | assumption | exact Le.dead _ | exact Le.mkF | exact LeS.nil | exact Les.refl _ | exact LeL.refl _ | exact Le.refl _ | exact Le.ofI (by omega) | exact Le.nil | refine LeS.cons rfl ?_ ?_ | refine Les.cons ?_ ?_ | refine LeL.cons ?_ ?_ | refine Le.agL ?_ | refine Le.tupL ?_ | refine Le.refL ?_ | refine Le.fnL ?_ | refine Le.lit2 rfl ?_ | refine Le.litI rfl ?_)); done) (fun M2 => f24 _ _ (by omega) (by omega) M2) ?_)
        | (refine caK.go ?_; refine caK.valL (by (repeat' (first | assumption | exact Le.dead _ | exact Le.mkF | exact LeS.nil | exact Les.refl _ | exact LeL.refl _ | exact Le.refl _ | exact Le.ofI (by omega) | exact Le.nil | refine LeS.cons rfl ?_ ?_ | refine Les.cons ?_ ?_ | refine LeL.cons ?_ ?_ | refine Le.agL ?_ | refine Le.tupL ?_ | refine Le.refL ?_ | refine Le.fnL ?_ | refine Le.lit2 rfl ?_ | refine Le.litI rfl ?_)); done) (f25w _ (by omega) _) ?_)
        | (refine caF.go ?_; refine caF.valL (by (repeat' (first | assumption | exact Le.dead _ | exact Le.mkF | exact LeS.nil | exact Les.refl _ | exact LeL.refl _ | exact Le.refl _ | exact Le.ofI (by omega) | exact Le.nil | refine LeS.cons rfl ?_ ?_ | refine Les.cons ?_ ?_ | refine LeL.cons ?_ ?_ | refine Le.agL ?_ | refine Le.tupL ?_ | refine Le.refL ?_ | refine Le.fnL ?_ | refine Le.lit2 rfl ?_ | refine Le.litI rfl ?_)); done) (fun M2 => f25w _ (by omega) M2) ?_)
        | (refine caK.go ?_; refine caK.valL (by (repeat' (first | assumption | exact Le.dead _ | exact Le.mkF | exact LeS.nil | exact Les.refl _ | exact LeL.refl _ | exact Le.refl _ | exact Le.ofI (by omega) | exact Le.nil | refine LeS.cons rfl ?_ ?_ | refine Les.cons ?_ ?_ | refine LeL.cons ?_ ?_ | refine Le.agL ?_ | refine Le.tupL ?_ | refine Le.refL ?_ | refine Le.fnL ?_ | refine Le.lit2 rfl ?_ | refine Le.litI rfl ?_)); done) (f26 _ _) ?_)
        | (refine caF.go ?_; refine caF.valL (by (repeat' (first | assumption | exact Le.dead _ | exact Le.mkF | exact LeS.nil | exact Les.refl _ | exact LeL.refl _ | exact Le.refl _ | exact Le.ofI (by omega) | exact Le.nil | refine LeS.cons rfl ?_ ?_ | refine Les.cons ?_ ?_ | refine LeL.cons ?_ ?_ | refine Le.agL ?_ | refine Le.tupL ?_ | refine Le.refL ?_ | refine Le.fnL ?_ | refine Le.lit2 rfl ?_ | refine Le.litI rfl ?_)); done) (fun M2 => f26 _ M2) ?_)
        | (refine caK.go ?_; refine caK.val (f10 _) (Les.refl _) ?_)
        | (refine caF.go ?_; refine caF.val (fun M2 => f10 M2) (Les.refl _) ?_)
        | refine KR.go ?_ | refine SRuns.seq ?_ | refine SRuns.reg ?_ | refine SRuns.block ?_ | refine SRuns.skip ?_ | refine SRuns.inBlock ?_ | refine SRuns.exit rfl ?_
        | refine SRuns.ret (EEnd.of rfl ?_) | refine SRuns.fin (EEnd.of rfl ?_)
        | refine SRuns.ret (EEnd.of1 rfl ?_ ?_) | refine SRuns.fin (EEnd.of1 rfl ?_ ?_)
        | refine SRuns.free ?_
        | refine FR.at N ?_ (fun _ => []) ?_ | refine NewK.at N ?_ ?_ | exact fun i => hN _ (by omega)
        | refine gdD_t (fun h => ?_) (fun h => ?_) | refine gdD_f (fun h => ?_) (fun h => ?_) | refine gdK_split (fun h => ?_) (fun h => ?_)
        | refine fgD_t (fun h => ?_) (fun h => ?_) | refine fgD_f (fun h => ?_) (fun h => ?_) | refine fgK_split (fun h => ?_) (fun h => ?_)
        | refine SRuns.condNil rfl (fun h => ?_) ?_ | refine SRuns.condT rfl ?_ | refine SRuns.condF rfl ?_ | refine SRuns.condD rfl (fun h => ?_) (fun h => ?_) | refine SRuns.cond rfl (fun h => ?_) (fun h => ?_)
        | simp (disch := omega) only [go_sem, vBox, hN, c1, ↓reduceIte, Nat.reduceAdd, Nat.reduceMul, Nat.reduceEqDiff, Nat.reduceLT, Nat.reduceLeDiff, Nat.reduceBEq, Int.toNat_natCast, true_or, or_true, Int.toNat_zero, Int.toNat_one, Bool.true_or, Bool.or_true, Bool.or_false, Bool.false_or, List.size_toArray, not_true_eq_false, not_false_eq_true, decide_true, decide_false, and_self]
        | (refine DoneF.rawv N hN ?_ ⟨?_, rfl⟩; (focus ((first | exact fun _ _ => rfl | (intro g hg; simp (disch := omega) only [go_sem])); done)))
        | (refine DoneF.done (Done.keep N hN ?_ ?_ ⟨rfl, rfl⟩); (focus ((first | exact fun _ _ => rfl | (intro g hg; simp (disch := omega) only [go_sem])); done)); (focus ((repeat' (first | exact trivial | exact CloL.nil | exact Clo.vIs | exact Clo.vIss | exact Clo.slv | exact CloB.rowI | exact Clo.slI | refine CloL.cons ?_ ?_ | refine Clo.agL ?_ | refine Clo.tupL ?_ | refine Clo.refL ?_ | refine Clo.fnL ?_ | refine CloB.cellsL ?_)); done)))
        | exact DoneF.all ⟨rfl, rfl⟩ | refine And.intro (by omega) ?_ | (exfalso; omega) | contradiction
        | fail)
end Go.Proofs.Ytaiinpbaaeemmaa
