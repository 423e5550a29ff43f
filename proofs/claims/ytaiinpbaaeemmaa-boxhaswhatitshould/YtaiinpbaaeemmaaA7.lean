import Derived.Test.YtaiinpbaaeemmaaA6
set_option linter.unusedVariables false
set_option linter.unusedSimpArgs false
namespace Go.Av
section
variable {X : Fx} {ops : Array Oper} {E : Nat → List Nat} {gs : Nat → Nat} {Γ0 : Nat → AV} {M0 : Mem} {V : Nat → AV} {W : Nat → Option (Nat × Blk)} {b e : Nat}
theorem wid_cases (he : e ≤ ops.size) (hf : ∀ j, b ≤ j → j < e → Fact X ops E gs Γ0 M0 b V W j) {j g : Nat} (hb : b ≤ j) (hj : j < e) (h : wId (W j) = some g) :
    (g = gs j ∧ newOk E j (gs j) (unO ops j)) ∨ (memS ops.size M0 W (seg b (lt j)) g ≠ none ∧ g ∉ E j ∧ oldOk E g (unO ops j)) := by
  obtain ⟨h3, _⟩ := hf j hb hj ops[j] (by simp)
  cases hW : W j with
  | none => rw [hW] at h; simp [wId] at h
  | some p =>
    obtain ⟨g', B⟩ := p
    rw [hW] at h h3
    have hg : g' = g := by simpa [wId] using h
    subst hg
    rcases h3 with ⟨h4, h5⟩ | ⟨h4, h5⟩
    · exact .inl ⟨h4, h5⟩
    · right
      unfold mk at h4
      split at h4
      · exact absurd rfl h4
      · rename_i hn; exact ⟨h4, hn, h5⟩
theorem free_seg (hk : FrOk ops) (hM : ∀ i, M0 (gs i) = none) (hi : ∀ i j, gs i = gs j → i = j) (he : e ≤ ops.size) (hf : ∀ j, b ≤ j → j < e → Fact X ops E gs Γ0 M0 b V W j) (hsolo : ∀ j i, e ≤ j → j < ops.size → i < e → Reach ops j i) {A : List Oper → (Nat → AV) → Mem → Prop} (hA : ∀ o lops Γ M, EG X ops o Γ M (fun Γ' M' => A lops Γ' M') → A (o :: lops) Γ M)
    (hend : ∀ (l : List Nat) (lops : List Oper), Ext ops (lt e) l → l.map (ops[·]?) = lops.map some → A lops (slotsS ops Γ0 V (seg b (lt e))) (memS ops.size M0 W (seg b (lt e)))) :
    ∀ {S : Nat → Bool} {l : List Nat}, Ext ops S l → closed ops S → (∀ j, j < b → S j = true) → (∀ j, e ≤ j → S j = false) → ∀ lops : List Oper, l.map (ops[·]?) = lops.map some → A lops (slotsS ops Γ0 V (seg b S)) (memS ops.size M0 W (seg b S)) := by
  intro S l hx
  induction hx with
  | nil S h =>
    intro _ hlo hhi lops hl
    have hes : e = ops.size := by
      by_cases h1 : e < ops.size
      · have := h e h1; rw [hhi e (Nat.le_refl _)] at this; cases this
      · omega
    have : S = lt e := by
      funext j
      by_cases hj : j < e
      · rw [h j (by omega)]; simp [lt, hj]
      · rw [hhi j (by omega)]; simp [lt]; omega
    subst this
    exact hend [] lops (.nil _ (fun i hi => by simp [lt]; omega)) hl
  | cons S i o l hi' h0 ha hx ih =>
    intro hcl hlo hhi lops hl
    have hlt : i < ops.size := (Array.getElem?_eq_some_iff.1 hi').1
    have ho : ops[i] = o := by simpa [hlt] using hi'
    -- what stands ahead has run; what stands behind has not
    have hpre : ∀ j, Reach ops i j → S j = true := fun j hr => by
      cases hr with
      | one h => obtain ⟨o', ho', e', he', hb', hon⟩ := h; rw [hi'] at ho'; cases ho'; have := ha e' he' hb'; rw [hon] at this; exact this
      | more h k => obtain ⟨o', ho', e', he', hb', hon⟩ := h; rw [hi'] at ho'; cases ho'; have := ha e' he' hb'; rw [hon] at this; exact hcl.reach k this
    have hpost : ∀ j, Reach ops j i → S j = false := fun j hr => by
      cases e : S j with
      | false => rfl
      | true => have := hcl.reach hr e; rw [h0] at this; cases this
    by_cases hie : e ≤ i
    · have : S = lt e := by
        funext j
        by_cases hj : j < e
        · rw [hpre j (hsolo i j hie hlt hj)]; simp [lt, hj]
        · rw [hhi j (by omega)]; simp [lt]; omega
      subst this
      exact hend (i :: l) lops (.cons _ i o l hi' h0 ha hx) hl
    have hie : i < e := by omega
    have hbi : b ≤ i := by
      by_cases h : i < b
      · rw [hlo i h] at h0; cases h0
      · omega
    cases lops with
    | nil => simp at hl
    | cons o' lops =>
      simp only [List.map_cons, List.cons.injEq] at hl
      obtain rfl : o = o' := by rw [hi'] at hl; exact Option.some.inj hl.1
      have hS : ∀ j, b ≤ j → j < e → j ≠ i → (S j = lt i j) ∨ (j < i ∧ ¬ Reach ops i j) ∨ (i < j ∧ ¬ Reach ops j i) := fun j hjb hj hne => by
        rcases Nat.lt_or_gt_of_ne hne with h | h
        · by_cases hr : Reach ops i j
          · exact .inl (by rw [hpre j hr]; simp [lt, h])
          · exact .inr (.inl ⟨h, hr⟩)
        · by_cases hr : Reach ops j i
          · exact .inl (by rw [hpost j hr]; simp [lt]; omega)
          · exact .inr (.inr ⟨h, hr⟩)
      have hii : S i = lt i i := by rw [h0]; simp [lt]
      have nre : ∀ a c, a < c → ¬ Reach ops a c := fun a c h r => by have := r.lt hk.up; omega
      have unl : ∀ j, j < ops.size → j < i → ¬ Reach ops i j → i ∈ unO ops j := fun j hj h1 h2 => mem_un hlt (by omega) (nre _ _ h1) h2
      have ung : ∀ j, j < ops.size → i < j → ¬ Reach ops j i → i ∈ unO ops j := fun j hj h1 h2 => mem_un hlt (by omega) h2 (nre _ _ h1)
      obtain ⟨hw, hrun⟩ := hf i hbi hie o hi'
      have same : ∀ j, (b ≤ j → j < e → S j = lt i j) → seg b S j = seg b (lt i) j := fun j h => by
        by_cases h1 : b ≤ j
        · by_cases h2 : j < e
          · simp only [seg, h h1 h2]
          · simp only [seg, hhi j (by omega), lt]
            rw [Bool.eq_iff_iff]; simp; omega
        · simp [seg, h1]
      have hlook : ∀ t ∈ o.looksAt ops, slotsS ops Γ0 V (seg b (lt i)) t = slotsS ops Γ0 V (seg b S) t := fun t ht => by
        refine slotsS_congr (fun j hj hd => ?_) (fun _ _ _ => rfl)
        refine (same j fun hjb hje => ?_).symm
        by_cases hne : j = i
        · subst hne; exact hii
        · have hdj : ops[j].dst = some t := by simpa [dstOf, hj] using hd
          rcases hS j hjb hje hne with h | ⟨h1, h2⟩ | ⟨h1, h2⟩
          · exact h
          · exact absurd ht ((hk.slots j i ops[j] o h1 h2 (by simp [hj]) hi').1 t hdj).2
          · exact absurd ht ((hk.slots i j o ops[j] h1 h2 hi' (by simp [hj])).2 t hdj)
      have hmem : OffAg (E i) (memS ops.size M0 W (seg b (lt i))) (memS ops.size M0 W (seg b S)) := by
        intro g hg hgE
        refine memS_congr (fun _ _ _ => rfl) (fun j hj hd => ?_)
        have hd : wId (W j) = some g := by rcases hd with h | h <;> exact h
        refine same j fun hjb hje => ?_
        by_cases hne : j = i
        · subst hne; exact hii
        · have hc := wid_cases he hf hjb hje hd
          rcases hS j hjb hje hne with h | ⟨h1, h2⟩ | ⟨h1, h2⟩
          · exact h
          · exfalso
            rcases hc with ⟨h3, h4⟩ | ⟨_, _, h4⟩
            · exact hgE (by rw [h3]; exact h4.2 i (unl j hj h1 h2) h1)
            · exact hgE (h4 i (unl j hj h1 h2))
          · exfalso
            rcases hc with ⟨h3, h4⟩ | ⟨_, _, h4⟩
            · exact hg (by rw [h3]; exact fresh hM hi he hf i j (by omega) (by omega))
            · exact hgE (h4 i (ung j hj h1 h2))
      have hfree : memS ops.size M0 W (seg b S) (gs i) = none := by
        unfold memS
        cases hl2 : lastB (fun q => wId (W q) == some (gs i) && seg b S q) ops.size with
        | none => exact hM i
        | some j =>
          exfalso
          obtain ⟨hj, h2⟩ := lastB_some hl2
          simp at h2
          obtain ⟨h2, hjb, hjS⟩ := h2
          have hje : j < e := by
            by_cases h : j < e
            · exact h
            · rw [hhi j (by omega)] at hjS; cases hjS
          have hne : j ≠ i := fun e => by rw [e, h0] at hjS; cases hjS
          rcases wid_cases he hf hjb hje h2 with ⟨h4, _⟩ | ⟨h4, _, h5⟩
          · exact hne (hi _ _ h4).symm
          · have hij : i < j := by
              by_cases h : j ≤ i
              · exact absurd (fresh hM hi he hf j i h (by omega)) h4
              · omega
            -- i makes its block: the writer stands behind it
            have hki : gs i ∉ E i := by
              cases h : lastB (fun q => wId (W q) == some (gs i) && seg b (lt j) q) ops.size with
              | none => unfold memS at h4; rw [h] at h4; exact absurd (hM i) h4
              | some q =>
                -- the first that names the id is i itself
                have : ∀ q, b ≤ q → q < j → wId (W q) = some (gs i) → gs i ∉ E i := by
                  intro q
                  induction q using Nat.strongRecOn with
                  | _ q ihq =>
                    intro hqb hqj hwq
                    rcases wid_cases he hf hqb (by omega) hwq with ⟨h6, h5⟩ | ⟨h6, _, _⟩
                    · have := hi _ _ h6
                      subst this
                      exact h5.1
                    · cases e2 : lastB (fun q' => wId (W q') == some (gs i) && seg b (lt q) q') ops.size with
                      | none => unfold memS at h6; rw [e2] at h6; exact absurd (hM i) h6
                      | some q' =>
                        obtain ⟨h7, h8⟩ := lastB_some e2
                        simp at h8
                        exact ihq q' h8.2.2 h8.2.1 (by omega) h8.1
                obtain ⟨h7, h8⟩ := lastB_some h
                simp at h8
                exact this q h8.2.1 h8.2.2 h8.1
            by_cases hr : Reach ops j i
            · rw [hpost j hr] at hjS; cases hjS
            · exact hki (h5 i (ung j hj hij hr))
      refine hA _ _ _ _ (hrun _ _ hlook hmem hfree _ ?_)
      show A lops _ _
      have hbeh : ∀ j, i < j → S j = true → ¬ Reach ops j i := fun j _ hs hr => by rw [hpost j hr] at hs; cases hs
      have hseg : (fun j => j == i || seg b S j) = seg b (fun j => j == i || S j) := by
        funext j
        rw [Bool.eq_iff_iff]
        simp only [seg, Bool.or_eq_true, beq_iff_eq, decide_eq_true_eq, Bool.and_eq_true]
        constructor
        · rintro (rfl | h)
          · exact ⟨hbi, .inl rfl⟩
          · exact ⟨h.1, .inr h.2⟩
        · rintro ⟨h1, rfl | h⟩
          · exact .inl rfl
          · exact .inr ⟨h1, h⟩
      rw [slotsS_put hi' (fun j hj hs t hd => ?_), memS_up hlt (fun j hj hjs hs g hg => ?_), hseg]
      · refine ih (fun a c hab hh => ?_) (fun j hj => by simp [hlo j hj]) (fun j hj => by simp [hhi j hj]; omega) lops hl.2
        simp only [Bool.or_eq_true, beq_iff_eq] at hab ⊢
        rcases hab with rfl | hab
        · exact .inr (hpre c (.one hh))
        · exact .inr (hcl a c hab hh)
      · intro hgj
        simp only [seg, Bool.and_eq_true, decide_eq_true_eq] at hs
        have hje : j < e := by
          by_cases h : j < e
          · exact h
          · have := hhi j (by omega); rw [hs.2] at this; cases this
        have hun := ung j hjs hj (hbeh j hj hs.2)
        have c1 := wid_cases he hf hbi hie hg
        have c2 := wid_cases he hf hs.1 hje hgj
        rcases c1 with ⟨a1, a2⟩ | ⟨a1, a2, _⟩
        · rcases c2 with ⟨b1, b2⟩ | ⟨_, _, b2⟩
          · have := hi i j (by rw [← a1, ← b1]); omega
          · exact a2.1 (by rw [← a1]; exact b2 i hun)
        · rcases c2 with ⟨b1, b2⟩ | ⟨_, _, b2⟩
          · exact a1 (by rw [b1]; exact fresh hM hi he hf i j (by omega) (by omega))
          · exact a2 (b2 i hun)
      · by_cases hjs : j < ops.size
        · have hdi : o.dst = some t := by simpa [dstOf, hi'] using hd
          simp only [seg, Bool.and_eq_true, decide_eq_true_eq] at hs
          have := ((hk.slots i j o ops[j] hj (hbeh j hj hs.2) hi' (by simp [hjs])).1 t hdi).1
          simpa [dstOf, hjs] using this
        · simp [dstOf, hjs]
end
end Go.Av
set_option linter.unusedVariables false
set_option linter.unusedSimpArgs false
namespace Go.Av
/-! ## 25. The rule for a region that draws -/
theorem mem_hards {o : Oper} {j : Nat} : j ∈ hards o ↔ ∃ e ∈ o.after, Region.binds .any e = true ∧ e.on = j := by
  unfold hards
  simp only [List.mem_map, List.mem_filter, Array.mem_toList_iff]
  constructor
  · rintro ⟨e, ⟨h1, h2⟩, h3⟩; exact ⟨e, h1, h2, h3⟩
  · rintro ⟨e, h1, h2, h3⟩; exact ⟨e, ⟨h1, h2⟩, h3⟩
theorem freeOk_spec {ops : Array Oper} (h : freeOk ops = true) : FrOk ops := by
  unfold freeOk at h
  simp only [List.all_eq_true, List.mem_range] at h
  have at_ : ∀ j oj, ops[j]? = some oj → (∀ i ∈ hards oj, i < j) ∧ ∀ i oi, i < j → ¬ Reach ops j i → ops[i]? = some oi → ((∀ t, oi.dst = some t → oj.dst ≠ some t ∧ t ∉ looks ops oj) ∧ (∀ t, oj.dst = some t → t ∉ looks ops oi)) := by
    intro j oj hoj
    have hj : j < ops.size := (Array.getElem?_eq_some_iff.1 hoj).1
    have := h j hj
    rw [hoj] at this
    simp only [Bool.and_eq_true, List.all_eq_true, decide_eq_true_eq, List.mem_range] at this
    refine ⟨this.1, fun i oi hij hr hoi => ?_⟩
    have hi := this.2 i hij
    have hb : ((Region.before ops).getD j 0).testBit i = false := by
      cases e : ((Region.before ops).getD j 0).testBit i with
      | false => rfl
      | true => exact absurd (before_reach ops j i e) hr
    rw [hb, hoi] at hi
    simp only [Bool.false_or, Bool.and_eq_true] at hi
    refine ⟨fun t ht => ?_, fun t ht => ?_⟩
    · have := hi.1
      rw [ht] at this
      simpa using this
    · have := hi.2
      rw [ht] at this
      simpa using this
  exact ⟨fun i o ho e he hb => (at_ i o ho).1 _ (mem_hards.2 ⟨e, he, hb, rfl⟩), fun i j oi oj hij hr hi hj => (at_ j oj hj).2 i oi hij hr hi⟩
theorem ext_ops {ops : Array Oper} : ∀ {S : Nat → Bool} {l : List Nat}, Ext ops S l → ∃ lops : List Oper, l.map (ops[·]?) = lops.map some
  | _, _, .nil _ _ => ⟨[], rfl⟩
  | _, _, .cons S i o l hi h0 ha k => by
    obtain ⟨lops, h⟩ := ext_ops k
    exact ⟨o :: lops, by simp [hi, h]⟩
theorem lastB_none {n : Nat} {p : Nat → Bool} (h : ∀ j, p j = false) : lastB p n = none := by
  induction n with
  | zero => rfl
  | succ n ih => simp [lastB, h n, ih]
theorem solo_reach {ops : Array Oper} (hk : FrOk ops) {e : Nat} (he : e < ops.size → unO ops e = []) : ∀ j i, e ≤ j → j < ops.size → i < e → Reach ops j i := by
  intro j i h1 h2 h3
  have hu := he (by omega)
  have r1 : Reach ops e i := (un_nil hu (by omega : i < ops.size) (by omega)).resolve_right fun r => by have := r.lt hk.up; omega
  by_cases h : j = e
  · rw [h]; exact r1
  · have r2 : Reach ops j e := (un_nil hu h2 (fun h' => h h'.symm)).resolve_left fun r => by have := r.lt hk.up; omega
    exact r2.trans r1
section
variable {X : Fx} {k : List It} {Z : List Nat} {Q : AV → Mem → Prop} {ops : Array Oper}
theorem fr_run (hk : FrOk ops) : ∀ (n b : Nat) (Γ : Nat → AV) (M : Mem), ops.size ≤ b + n → FR X none b ((flagged ops).drop b) Γ M (fun Γ' M' => ARuns X k Γ' M' Z Q) → ∀ (l : List Nat) (lops : List Oper), Ext ops (lt b) l → l.map (ops[·]?) = lops.map some → ARuns X (.ops ops lops :: k) Γ M Z Q := by
  intro n
  induction n with
  | zero =>
    intro b Γ M hb h l lops hx hl
    rw [List.drop_of_length_le (by simp [flagged]; omega)] at h
    cases hx with
    | nil _ h' =>
      obtain rfl : lops = [] := by cases lops with
        | nil => rfl
        | cons => simp at hl
      exact ARuns.ops [] Γ M h
    | cons _ i o l hi h0 ha hx =>
      have hlt : i < ops.size := (Array.getElem?_eq_some_iff.1 hi).1
      simp at h0; omega
  | succ n ih =>
    intro b Γ M hb h l lops hx hl
    by_cases hbs : ops.size ≤ b
    · rw [List.drop_of_length_le (by simp [flagged]; omega)] at h
      cases hx with
      | nil _ h' =>
        obtain rfl : lops = [] := by cases lops with
          | nil => rfl
          | cons => simp at hl
        exact ARuns.ops [] Γ M h
      | cons _ i o l hi h0 ha hx =>
        have hlt : i < ops.size := (Array.getElem?_eq_some_iff.1 hi).1
        simp at h0; omega
    have hbs : b < ops.size := by omega
    rw [drop_fl hbs] at h
    cases hu : unO ops b with
    | nil =>
      rw [hu] at h
      have hsolo := solo_reach hk (e := b) (fun _ => hu)
      cases hx with
      | nil _ h' => have := h' b hbs; simp at this
      | cons _ i o l hi h0 ha hx =>
        have hlt : i < ops.size := (Array.getElem?_eq_some_iff.1 hi).1
        have hbi : b ≤ i := by simp at h0; omega
        have hib : i = b := by
          by_cases e : i = b
          · exact e
          · have r := (un_nil hu hlt (fun h' => e h'.symm)).resolve_left fun r => by have := r.lt hk.up; omega
            have : lt b b = true := by
              cases r with
              | one h => obtain ⟨o', ho', e', he', hb', hon⟩ := h; rw [hi] at ho'; cases ho'; have := ha e' he' hb'; rw [hon] at this; exact this
              | more h k' => obtain ⟨o', ho', e', he', hb', hon⟩ := h; rw [hi] at ho'; cases ho'; have := ha e' he' hb'; rw [hon] at this; have := k'.lt hk.up; simp at *; omega
            simp at this
        subst hib
        cases lops with
        | nil => simp at hl
        | cons o' lops =>
          simp only [List.map_cons, List.cons.injEq] at hl
          obtain rfl : o = o' := by rw [hi] at hl; exact Option.some.inj hl.1
          have ho : ops[i] = o := by simpa [hlt] using hi
          rw [ho] at h
          refine ARuns.op (SG.eg (SG.mono (fun Γ' M' h' => ?_) h))
          refine ih (i + 1) Γ' M' (by omega) h' l lops ?_ hl.2
          have e : (fun j => j == i || lt i j) = lt (i + 1) := by
            funext j
            rw [Bool.eq_iff_iff]
            simp only [lt, Bool.or_eq_true, beq_iff_eq, decide_eq_true_eq]
            omega
          rw [← e]; exact hx
    | cons u U =>
      rw [hu] at h
      intro hG items ht C a b' cs hn
      obtain ⟨N, hN⟩ := hn.sim.fin
      have hM := hn.m
      subst hM
      obtain ⟨gs, hM0, hi0, E, hfr⟩ := NewG.get hN h
      have hfr : FR X (some (E, gs)) b ((flagged ops).drop b) Γ C.M (fun Γ' M' => ARuns X k Γ' M' Z Q) := by rw [drop_fl hbs, hu]; exact hfr
      have hs : ∀ V : Nat → AV, slotsS ops Γ V (seg b (lt b)) = Γ := fun V => by
        funext t; unfold slotsS; rw [lastB_none (fun j => by rw [Bool.eq_false_iff]; simp)]
      have hm : ∀ W : Nat → Option (Nat × Blk), memS ops.size C.M W (seg b (lt b)) = C.M := fun W => by
        funext g; unfold memS; rw [lastB_none (fun j => by rw [Bool.eq_false_iff]; simp)]
      obtain ⟨e, V, W, q1, q2, q3, _, h2, h3⟩ := fchain (ops := ops) (Γ0 := Γ) (M0 := C.M) (b := b) (ops.size - b) b (fun _ => .dead) (fun _ => none) (by omega) (Nat.le_refl _) (by rw [hs, hm]; exact hfr)
      have hbe : b < e := by
        by_cases h' : b = e
        · subst h'; have := q3 hbs; rw [hu] at this; cases this
        · omega
      have := free_seg hk hM0 hi0 q2 h3 (solo_reach hk q3) (A := fun lops Γ M => ARuns X (.ops ops lops :: k) Γ M Z Q) (fun o lops Γ M h => ARuns.op h)
        (fun l lops hx hl => ih e _ _ (by omega) h2 l lops hx hl) hx (fun i j hi' hh => by
          have := hard_lt hk.up hh
          simp at hi' ⊢; omega) (fun j hj => by simp [hj]) (fun j hj => by simp; omega) lops hl
      rw [hs, hm] at this
      exact this hG items ht C a b' cs hn
theorem ARuns.free {Γ : Nat → AV} {M : Mem} {id : Nat} (h : FR X none 0 (flagged ops) Γ M fun Γ' M' => ARuns X k Γ' M' Z Q) : ARuns X (.code (.region id ops true) :: k) Γ M Z Q := by
  intro hG items ht C a b cs hn
  match items, ht with
  | .code c :: items, ⟨⟨e, ok⟩, ht⟩ =>
    subst e
    simp only [okC, Bool.not_true, Bool.false_or, Bool.and_eq_true] at ok
    have hk := freeOk_spec ok.2
    have hstep := stepR_region_draw (P := X.P) (b := b) (a := a) (k := items) (cs := cs) (w := C.w) (ops := ops) (id := id)
    rw [ok.1] at hstep
    obtain ⟨st, sm⟩ := grow hn.sim (w' := { C.w with drawn := C.w.drawn + 1 }) rfl rfl rfl (Nat.le_refl _) (fun _ _ => rfl)
    have hx := schedule_ext hk.up (C.w.tape C.w.drawn (.order b.fn id))
    have e0 : (fun _ => false : Nat → Bool) = lt 0 := by funext j; simp
    rw [e0] at hx
    obtain ⟨lops, hl⟩ := ext_ops hx
    have hM := hn.m
    subst hM
    have hn' := hn.step (C' := { C with w := { C.w with drawn := C.w.drawn + 1 } }) (a' := a) st sm (hn.fits.step st) hn.size rfl
    refine .step hstep ?_
    exact (fr_run hk ops.size 0 Γ C.M (by omega) h _ lops hx hl hG (.inRegion ops _ :: items) ⟨⟨rfl, hl⟩, ht⟩ { C with w := { C.w with drawn := C.w.drawn + 1 } } a b cs hn').mono fun v w => Post.step st
end
end Go.Av
set_option linter.unusedVariables false
set_option linter.unusedSimpArgs false
namespace Go.Av
/-! ## 26. Drawn regions in slim code -/
theorem oK_mono {α : Type} {x : Option α} {J J' : α → Prop} (hj : ∀ v, J v → J' v) (hx : oK x J) : oK x J' := by
  cases x with
  | none => exact hx.elim
  | some v => exact hj v hx
section
variable {X : Fx} {E : Nat → List Nat} {i : Nat} {U : List Nat} {g : Nat}
theorem FO.mono {d : Option Tmp} {op : Op} {Γ : Nat → AV} {M : Mem} {K K' : AV → Mem → Prop} (hm : ∀ v M, K v M → K' v M) (h : FO X E i U g d op Γ M K) : FO X E i U g d op Γ M K' := by
  refine ⟨h.1, ?_⟩
  obtain ⟨_, h⟩ := h
  cases op with
  | alloc t => exact oK_mono (fun _ hp => ⟨hp.1, hm _ _ hp.2⟩) h
  | box t x =>
    simp only at h ⊢
    split
    · rename_i e; rw [if_pos e] at h; exact oK_mono (fun _ hp => ⟨hp.1, hm _ _ hp.2⟩) h
    · rename_i e; rw [if_neg e] at h; exact oK_mono (fun v => hm v _) h
  | buildSlice t len ps =>
    simp only at h ⊢
    split
    · rename_i e; rw [if_pos e] at h; exact oK_mono (fun _ hp => ⟨hp.1, hp.2.1, hm _ _ hp.2.2⟩) h
    · rename_i e; rw [if_neg e] at h; exact oK_mono (fun v => hm v _) h
  | store t x v => exact oK_mono (fun _ hp => ⟨hp.1, hm _ _ hp.2⟩) h
  | call c =>
    simp only at h ⊢
    cases hc : c.callee with
    | builtin b =>
      rw [hc] at h
      cases b with
      | append =>
        simp only at h ⊢
        unfold FApp at h ⊢
        split at h
        · refine ⟨h.1, ?_⟩
          obtain ⟨_, h⟩ := h
          split at h
          · split at h
            · obtain ⟨h1, h2, h3, h4⟩ := h
              refine ⟨h1, h2, h3, oK_mono (fun p hp => oK_mono (fun q hq => ⟨hq.1, hq.2.1, ?_⟩) hp) h4⟩
              obtain ⟨_, _, hq⟩ := hq
              split at hq
              · exact ⟨hq.1, hm _ _ hq.2⟩
              · exact ⟨hq.1, hm _ _ hq.2⟩
            · exact h.elim
          · exact h.elim
        · exact h.elim
      | _ => exact oK_mono (fun v => hm v _) h
    | value q =>
      rw [hc] at h
      simp only at h ⊢
      split at h
      · obtain ⟨v, W, h0, h1, h2⟩ := h; exact ⟨v, W, h0, h1, hm v _ h2⟩
      · exact h.elim
    | invoke => rw [hc] at h; exact h
  | _ => exact oK_mono (fun v => hm v _) h
theorem FG.mono {o : SOp} {Γ : Nat → AV} {M : Mem} {K K' : (Nat → AV) → Mem → Prop} (hm : ∀ Γ M, K Γ M → K' Γ M) (h : FG X E i U g o Γ M K) : FG X E i U g o Γ M K' := by
  unfold FG at h ⊢
  split at h
  · exact h.mono fun v M => hm _ M
  · split at h
    · exact ⟨fun e => (h.1 e).mono fun v M => hm _ M, fun e => ⟨(h.2 e).1, hm _ _ (h.2 e).2⟩⟩
    · exact ⟨h.1, hm _ _ h.2⟩
    · exact h.elim
  · exact h.elim
end
theorem FR.mono {X : Fx} {K K' : (Nat → AV) → Mem → Prop} (hm : ∀ Γ M, K Γ M → K' Γ M) : ∀ (l : List (SOp × List Nat)) (m : Option ((Nat → List Nat) × (Nat → Nat))) (i : Nat) (Γ : Nat → AV) (M : Mem), FR X m i l Γ M K → FR X m i l Γ M K'
  | [], m, _, _, _, h => by cases m <;> exact hm _ _ h
  | (o, []) :: l, m, _, _, _, h => by cases m <;> exact SL.mono (fun _ _ h' => FR.mono hm l _ _ _ _ h') h
  | (o, u :: U) :: l, none, _, _, _, h => NewG.mono (fun gs ⟨E, hE⟩ => ⟨E, FG.mono (fun _ _ h' => FR.mono hm l _ _ _ _ h') hE⟩) h
  | (o, u :: U) :: l, some (E, gs), _, _, _, h => FG.mono (fun _ _ h' => FR.mono hm l _ _ _ _ h') h
theorem SRuns.free {X : Fx} {k : List SI} {Γ : Nat → AV} {M : Mem} {Z : List Nat} {Q : AV → Mem → Prop} {l : List (SOp × List Nat)} {ks : List Nat} (h : FR X none 0 l Γ M (KR X k ks Z Q)) : SRuns X (.code (.draw l ks) :: k) Γ M Z Q := by
  intro todo ht
  obtain ⟨c', todo', rfl, h1, hok, h2⟩ := is_code ht
  cases c'
  case region id' ops' d' =>
    cases d' <;> simp only [SC.bare, slim, reduceCtorEq, SC.draw.injEq, and_true] at h1
    refine .free ?_
    rw [← h1]
    exact FR.mono (fun Γ' M' h' => (h' _ h2).weak (le_kp ks Γ')) _ _ _ _ _ h
  all_goals simp only [SC.bare, slim, reduceCtorEq] at h1
end Go.Av
set_option linter.unusedVariables false
set_option linter.unusedSimpArgs false
namespace Go.Av
/-! ## 27. Words for append, and for slices that are written out -/
/-- what append and a slice's literal ask of the types -/
def appT (T : Tab) (t : TypeId) : Option (TypeId × Nat × Nat) :=
  match T.ty t with
  | some (.slice e) => match T.ty e, T.zero e, T.bytes e with
    | some te, some zs, some bt => if 0 < te.cells ∧ zs.length = te.cells ∧ 0 < bt then some (e, te.cells, bt) else none
    | _, _, _ => none
  | _ => none
theorem appT_spec {T : Tab} {t e : TypeId} {sz bt : Nat} (h : appT T t = some (e, sz, bt)) : ∃ te zs, T.ty t = some (.slice e) ∧ T.ty e = some te ∧ T.zero e = some zs ∧ T.bytes e = some bt ∧ te.cells = sz ∧ 0 < te.cells ∧ zs.length = te.cells ∧ 0 < bt := by
  unfold appT at h
  split at h
  · rename_i e' ht
    split at h
    · rename_i te zs bt' h1 h2 h3
      split at h
      · rename_i hc; cases h; exact ⟨te, zs, ht, h1, h2, h3, rfl, hc.1, hc.2.1, hc.2.2⟩
      · cases h
    · cases h
  · cases h
def srO (n sz : Nat) : Option Blk → Option (Nat × (Nat → Nat → AV))
  | some (.row _ m' sz'' f) => if m' = n ∧ sz'' = sz then some (n, f) else none
  | _ => none
def baO (e sz g n : Nat) : Option Blk → Option (Option Nat × Nat × (Nat → Nat → AV))
  | some (.row e' n' sz'' f) => if e' = e ∧ n' = n ∧ sz'' = sz then some (some g, n, f) else none
  | _ => none
section
variable {M : Mem} {e sz n g : Nat} {f : Nat → Nat → AV}
@[go_sem] theorem srcOf_sl : srcOf M sz (.sl n sz f) = some (n, f) := by simp [srcOf]
@[go_sem] theorem srcOf_own : srcOf M sz (.own g n sz) = srO n sz (M g) := by
  unfold srcOf srO; simp only; split <;> simp_all
@[go_sem] theorem srcOf_nil : srcOf M sz (.raw (.slice none 0 0)) = some (0, fun _ _ => .dead) := rfl
@[go_sem] theorem baseOf_nil : baseOf M e sz (.raw (.slice none 0 0)) = some (none, 0, fun _ _ => .dead) := rfl
@[go_sem] theorem baseOf_own : baseOf M e sz (.own g n sz) = baO e sz g n (M g) := by
  unfold baseOf baO; simp only; split <;> simp_all
@[go_sem] theorem srO_row {e n sz : Nat} {f : Nat → Nat → AV} : srO n sz (some (.row e n sz f)) = some (n, f) := by simp [srO]
@[go_sem] theorem baO_row {e n sz g : Nat} {f : Nat → Nat → AV} : baO e sz g n (some (.row e n sz f)) = some (some g, n, f) := by simp [baO]
end
/-- the cells of what is appended are cells of one -/
def ones (M : Mem) (sz : Nat) (p : Nat × (Nat → Nat → AV)) : Prop := ∀ i j, i < p.1 → j < sz → one M (p.2 i j) = true
def oneO (n sz : Nat) : Option Blk → Bool
  | some (.row _ n' sz' _) => n' = n && sz' = sz
  | _ => false
def oneP : Option Blk → Bool
  | some (.cells ..) => true
  | _ => false
@[go_sem] theorem one_own {M : Mem} {g n sz : Nat} : one M (.own g n sz) = oneO n sz (M g) := by
  unfold one oneO; rfl
@[go_sem] theorem one_ptr {M : Mem} {g o : Nat} : one M (.ptr g o) = oneP (M g) := by
  unfold one oneP; rfl
@[go_sem] theorem oneO_row {e n sz : Nat} {f : Nat → Nat → AV} : oneO n sz (some (.row e n sz f)) = true := by simp [oneO]
@[go_sem] theorem oneP_cells {e n : Nat} {f : Nat → AV} : oneP (some (.cells e n f)) = true := rfl
theorem ones_nil {M : Mem} {sz : Nat} {f : Nat → Nat → AV} : ones M sz (0, f) = True := by simp [ones]
attribute [go_sem] ones_nil
/-- one element, written out -/
theorem ones_lst {M : Mem} {sz : Nat} {l : List AV} (h : l.length = sz) : ones M sz (1, fun i j => lst l (i * sz + j)) = (l.all (one M) = true) := by
  apply propext
  unfold ones
  rw [List.all_eq_true]
  constructor
  · intro h1 x hx
    obtain ⟨j, hj, rfl⟩ := List.mem_iff_getElem.1 hx
    have := h1 0 j (by simp) (by omega)
    simpa [lst, List.getD_eq_getElem?_getD, hj] using this
  · intro h1 i j hi hj
    obtain rfl : i = 0 := by simp at hi; omega
    have hj' : j < l.length := by omega
    have := h1 _ (List.getElem_mem hj')
    simpa [lst, List.getD_eq_getElem?_getD, hj'] using this
@[go_sem] theorem ones_one {M : Mem} {a : AV} : ones M 1 (1, fun i j => lst [a] (i * 1 + j)) = (one M a = true) := by
  rw [ones_lst (sz := 1) (l := [a]) rfl]; simp
@[go_sem] theorem ones_two {M : Mem} {a b : AV} : ones M 2 (1, fun i j => lst [a, b] (i * 2 + j)) = (one M a = true ∧ one M b = true) := by
  rw [ones_lst (sz := 2) (l := [a, b]) rfl]; simp
@[go_sem] theorem ones_three {M : Mem} {a b c : AV} : ones M 3 (1, fun i j => lst [a, b, c] (i * 3 + j)) = (one M a = true ∧ one M b = true ∧ one M c = true) := by
  rw [ones_lst (sz := 3) (l := [a, b, c]) rfl]; simp
@[go_sem] theorem ones_four {M : Mem} {a b c d : AV} : ones M 4 (1, fun i j => lst [a, b, c, d] (i * 4 + j)) = (one M a = true ∧ one M b = true ∧ one M c = true ∧ one M d = true) := by
  rw [ones_lst (sz := 4) (l := [a, b, c, d]) rfl]; simp
@[go_sem] theorem cat_zero {f f2 : Nat → Nat → AV} : cat 0 f f2 = f2 := by funext i j; simp [cat]
/-- what is appended, and to what -/
def apP (M : Mem) (e sz : Nat) (s x : AV) : Option ((Nat × (Nat → Nat → AV)) × (Option Nat × Nat × (Nat → Nat → AV))) :=
  match srcOf M sz x, baseOf M e sz s with
  | some p, some q => some (p, q)
  | _, _ => none
def apQ : Option (Nat × (Nat → Nat → AV)) → Option (Option Nat × Nat × (Nat → Nat → AV)) → Option ((Nat × (Nat → Nat → AV)) × (Option Nat × Nat × (Nat → Nat → AV)))
  | some p, some q => some (p, q)
  | _, _ => none
@[go_sem] theorem apP_eq {M : Mem} {e sz : Nat} {s x : AV} : apP M e sz s x = apQ (srcOf M sz x) (baseOf M e sz s) := rfl
@[go_sem] theorem apQ_some {p : Nat × (Nat → Nat → AV)} {q : Option Nat × Nat × (Nat → Nat → AV)} : apQ (some p) (some q) = some (p, q) := rfl
section
variable {X : Fx} {d : Option Tmp} {l : List SOp} {L : List (Nat × AV)} {M : Mem} {K : (Nat → AV) → Mem → Prop}
def apK (X : Fx) (d : Option Tmp) (e sz bt : Nat) (l : List SOp) (L : List (Nat × AV)) (M : Mem) (K : (Nat → AV) → Mem → Prop) : Option ((Nat × (Nat → Nat → AV)) × (Option Nat × Nat × (Nat → Nat → AV))) → Prop
  | some (p, none, n, f) => dOk X.N d ∧ ones M sz p ∧ (n + p.1) * bt ≤ 140737488355328 ∧ NewK X d (fun g => .own g (n + p.1) sz) (.row e (n + p.1) sz (cat n f p.2)) l L M K
  | some (p, some g, n, f) => dOk X.N d ∧ ones M sz p ∧ (n + p.1) * bt ≤ 140737488355328 ∧ SL X l (put (lk L) d (.own g (n + p.1) sz)) (upM M g (.row e (n + p.1) sz (cat n f p.2))) K
  | none => False
@[congr] theorem apK_congr {e sz bt : Nat} {o o' : Option ((Nat × (Nat → Nat → AV)) × (Option Nat × Nat × (Nat → Nat → AV)))} (h : o = o') : apK X d e sz bt l L M K o = apK X d e sz bt l L M K o' := by rw [h]
def apTK (X : Fx) (d : Option Tmp) (s x : AV) (l : List SOp) (L : List (Nat × AV)) (M : Mem) (K : (Nat → AV) → Mem → Prop) : Option (TypeId × Nat × Nat) → Prop
  | some (e, sz, bt) => apK X d e sz bt l L M K (apP M e sz s x)
  | none => False
@[congr] theorem apTK_congr {s s' x x' : AV} {o o' : Option (TypeId × Nat × Nat)} (hs : s = s') (hx : x = x') (h : o = o') : apTK X d s x l L M K o = apTK X d s' x' l L M K o' := by rw [hs, hx, h]
@[go_sem] theorem apTK_some {s x : AV} {e sz bt : Nat} : apTK X d s x l L M K (some (e, sz, bt)) = apK X d e sz bt l L M K (apP M e sz s x) := rfl
@[go_sem] theorem apK_new {t e sz bt m n : Nat} {f2 f : Nat → Nat → AV} : apK X (some t) e sz bt l L M K (some ((m, f2), none, n, f)) = (t < X.N ∧ ones M sz (m, f2) ∧ (n + m) * bt ≤ 140737488355328 ∧ NewK X (some t) (fun g => .own g (n + m) sz) (.row e (n + m) sz (cat n f f2)) l L M K) := rfl
@[go_sem] theorem apK_old {t e sz bt m n g : Nat} {f2 f : Nat → Nat → AV} : apK X (some t) e sz bt l L M K (some ((m, f2), some g, n, f)) = (t < X.N ∧ ones M sz (m, f2) ∧ (n + m) * bt ≤ 140737488355328 ∧ SL X l (lk ((t, .own g (n + m) sz) :: L)) (upM M g (.row e (n + m) sz (cat n f f2))) K) := rfl
theorem eapp_of {ty : TypeId} {s x : AV} {Γ : Nat → AV} {J : (Nat → AV) → Mem → Prop} {e sz bt : Nat} (hT : appT X.T ty = some (e, sz, bt)) {p : Nat × (Nat → Nat → AV)} {q : Option Nat × Nat × (Nat → Nat → AV)} (hs : srcOf M sz x = some p) (hb : baseOf M e sz s = some q) (h1 : ones M sz p) (h2 : (q.2.1 + p.1) * bt ≤ 140737488355328)
    (h3 : NewO (fun g => gOk M g q.1) fun g => J (put Γ d (.own g (q.2.1 + p.1) sz)) (upM M g (.row e (q.2.1 + p.1) sz (cat q.2.1 q.2.2 p.2)))) : EApp X [ty, ty] [s, x] d Γ M J := by
  obtain ⟨te, zs, e1, e2, e3, e4, e5, e6, e7, e8⟩ := appT_spec hT
  unfold EApp
  simp only [e1, e2, e3, e4]
  subst e5
  exact ⟨trivial, e6, e7, e8, oK_intro hs (oK_intro hb ⟨h1, h2, h3⟩)⟩
@[go_sem ↓] theorem sl_append {ty : TypeId} {s x : Operand} : SL X (⟨d, .call { callee := .builtin .append, args := #[s, x], argTypes := #[ty, ty] }, none⟩ :: l) (lk L) M K = apTK X d (opv (lk L) s) (opv (lk L) x) l L M K (appT X.T ty) := by
  apply propext
  constructor
  · rintro ⟨hd, h⟩
    have h : EApp X [ty, ty] [opv (lk L) s, opv (lk L) x] d (lk L) M (fun Γ' M' => SL X l Γ' M' K) := h
    unfold EApp at h
    obtain ⟨_, h⟩ := h
    split at h
    · rename_i e ht
      split at h
      · rename_i te zs bt h1 h2 h3
        obtain ⟨c1, c2, c3, h⟩ := h
        have hT : appT X.T ty = some (e, te.cells, bt) := by unfold appT; simp only [ht, h1, h2, h3]; rw [if_pos ⟨c1, c2, c3⟩]
        obtain ⟨p, hp, h⟩ := oK_some h
        obtain ⟨q, hq, h⟩ := oK_some h
        rw [hT]
        simp only [apTK, apP, hp, hq]
        obtain ⟨k1, k2, k3⟩ := h
        obtain ⟨g?, n, f⟩ := q
        cases g? with
        | none => exact ⟨hd, k1, k2, k3⟩
        | some g =>
          obtain ⟨g', e', k⟩ := NewO.get (H := fun g' => g' = g) (g0 := g) rfl k3
          have e' : g' = g := e'
          subst e'
          exact ⟨hd, k1, k2, k⟩
      · exact h.elim
    · exact h.elim
  · intro h
    show EOp _ _ _ _ _
    cases hT : appT X.T ty with
    | none => rw [hT] at h; exact h.elim
    | some r =>
      obtain ⟨e, sz, bt⟩ := r
      rw [hT] at h
      simp only [apTK, apP] at h
      cases hs : srcOf M sz (opv (lk L) x) with
      | none => rw [hs] at h; exact h.elim
      | some p =>
        cases hb : baseOf M e sz (opv (lk L) s) with
        | none => rw [hs, hb] at h; exact h.elim
        | some q =>
          rw [hs, hb] at h
          obtain ⟨g?, n, f⟩ := q
          cases g? with
          | none => exact ⟨h.1, eapp_of hT hs hb h.2.1 h.2.2.1 h.2.2.2⟩
          | some g => exact ⟨h.1, eapp_of hT hs hb h.2.1 h.2.2.1 (.inr ⟨g, rfl, h.2.2.2⟩)⟩
/-- a literal of a slice -/
def lcO (e sz : Nat) : Option (List AV) → Option (TypeId × Nat × List AV)
  | some l => some (e, sz, l)
  | none => none
@[go_sem] theorem lcO_some {e sz : Nat} {cs : List AV} : lcO e sz (some cs) = some (e, sz, cs) := rfl
def litT (T : Tab) (t : TypeId) : Option (TypeId × Nat) :=
  match T.ty t with
  | some (.slice e) => match T.ty e, T.zero e with
    | some te, some _ => if 0 < te.cells then some (e, te.cells) else none
    | _, _ => none
  | _ => none
def litK (M : Mem) (len : Nat) (ps : List (Nat × AV)) : Option (TypeId × Nat) → Option (TypeId × Nat × List AV)
  | some (e, sz) => if len * sz ≤ 16777216 then lcO e sz (fillA (plE sz) M (List.replicate (len * sz) .dead) ps) else none
  | none => none
@[go_sem] theorem litK_some {e sz : Nat} {len : Nat} {ps : List (Nat × AV)} : litK M len ps (some (e, sz)) = if len * sz ≤ 16777216 then lcO e sz (fillA (plE sz) M (List.replicate (len * sz) .dead) ps) else none := rfl
theorem litCells_eq {T : Tab} {t : TypeId} {len : Nat} {ps : List (Nat × AV)} : litCells T M t len ps = litK M len ps (litT T t) := by
  unfold litCells litT
  cases ht : T.ty t with
  | none => rfl
  | some ty =>
    cases ty with
    | slice e =>
      simp only
      cases h1 : T.ty e with
      | none => rfl
      | some te =>
        cases h2 : T.zero e with
        | none => rfl
        | some zs =>
          simp only
          by_cases h : 0 < te.cells
          · rw [if_pos h]
            simp only [h, true_and, litK]
            split
            · unfold lcO; split <;> simp_all
            · rfl
          · rw [if_neg h, if_neg (fun h' => h h'.1)]; rfl
    | _ => rfl
def faK (pl : Nat → Option (Nat × Nat)) (M : Mem) (l : List AV) (ps : List (Nat × AV)) : Option (Nat × Nat) → Option (List AV) → Option (List AV)
  | some (o, n), some cs => if cs.length = n ∧ o + cs.length ≤ l.length then fillA pl M (spl l o cs) ps else none
  | _, _ => none
@[go_sem] theorem fillA_nil {pl : Nat → Option (Nat × Nat)} {cs : List AV} : fillA pl M cs [] = some cs := by unfold fillA; rfl
@[go_sem] theorem fillA_cons {pl : Nat → Option (Nat × Nat)} {cs : List AV} {k : Nat} {av : AV} {ps : List (Nat × AV)} : fillA pl M cs ((k, av) :: ps) = faK pl M cs ps (pl k) (cellsOf M av) := by
  rw [fillA]; rfl
@[congr] theorem faK_congr {pl : Nat → Option (Nat × Nat)} {cs : List AV} {ps : List (Nat × AV)} {a a' : Option (Nat × Nat)} {b b' : Option (List AV)} (h : a = a') (k : b = b') : faK pl M cs ps a b = faK pl M cs ps a' b' := by rw [h, k]
@[go_sem] theorem faK_some {pl : Nat → Option (Nat × Nat)} {l cs : List AV} {ps : List (Nat × AV)} {o n : Nat} : faK pl M l ps (some (o, n)) (some cs) = if cs.length = n ∧ o + cs.length ≤ l.length then fillA pl M (spl l o cs) ps else none := rfl
@[go_sem] theorem plE_eq {sz k : Nat} : plE sz k = some (k * sz, sz) := rfl
@[go_sem] theorem spl_nil {cs : List AV} : spl cs 0 [] = cs := by cases cs <;> rfl
@[go_sem] theorem spl_zero {x c : AV} {cs ds : List AV} : spl (x :: cs) 0 (c :: ds) = c :: spl cs 0 ds := rfl
@[go_sem] theorem spl_succ {x : AV} {cs ds : List AV} {o : Nat} : spl (x :: cs) (o + 1) ds = x :: spl cs o ds := by cases ds <;> rw [spl]
attribute [go_sem] List.replicate_zero List.replicate_succ
@[go_sem] theorem opvs_eq {Γ : Nat → AV} {ps : Array (Nat × Operand)} : opvs Γ ps = ps.toList.map (fun p => (p.1, opv Γ p.2)) := rfl
def bsK (X : Fx) (d : Option Tmp) (len : Nat) (l : List SOp) (L : List (Nat × AV)) (M : Mem) (K : (Nat → AV) → Mem → Prop) (own : Bool) : Option (TypeId × Nat × List AV) → Prop
  | some (e, sz, cs) => match own with
    | true => dOk X.N d ∧ len ≤ maxLen ∧ NewK X d (fun g => .own g len sz) (.row e len sz (fun i j => lst cs (i * sz + j))) l L M K
    | false => dOk X.N d ∧ SL X l (put (lk L) d (.sl len sz (fun i j => lst cs (i * sz + j)))) M K
  | none => False
@[congr] theorem bsK_congr {len : Nat} {b b' : Bool} {o o' : Option (TypeId × Nat × List AV)} (hb : b = b') (h : o = o') : bsK X d len l L M K b o = bsK X d len l L M K b' o' := by rw [hb, h]
@[go_sem] theorem bsK_sl {n len e sz : Nat} {cs : List AV} : bsK X (some n) len l L M K false (some (e, sz, cs)) = (n < X.N ∧ SL X l (lk ((n, .sl len sz (fun i j => lst cs (i * sz + j))) :: L)) M K) := rfl
@[go_sem] theorem bsK_own {n len e sz : Nat} {cs : List AV} : bsK X (some n) len l L M K true (some (e, sz, cs)) = (n < X.N ∧ len ≤ maxLen ∧ NewK X (some n) (fun g => .own g len sz) (.row e len sz (fun i j => lst cs (i * sz + j))) l L M K) := rfl
@[go_sem ↓] theorem sl_buildSlice {t : TypeId} {len : Nat} {ps : Array (Nat × Operand)} : SL X (⟨d, .buildSlice t len ps, none⟩ :: l) (lk L) M K = bsK X d len l L M K (isOwn X.own d) (litK M len (opvs (lk L) ps) (litT X.T t)) := by
  rw [← litCells_eq]
  show (dOk X.N d ∧ if isOwn X.own d = true then _ else _) = _
  cases ho : isOwn X.own d with
  | true =>
    rw [if_pos rfl]
    cases hc : litCells X.T M t len (opvs (lk L) ps) with
    | none => simp [oK, bsK]
    | some r => rfl
  | false =>
    rw [if_neg (by simp)]
    cases hc : litCells X.T M t len (opvs (lk L) ps) with
    | none => simp [oK, bsK, rd, hc]
    | some r => obtain ⟨e, sz, cs⟩ := r; simp [oK, bsK, rd, hc]
end
end Go.Av
set_option linter.unusedVariables false
set_option linter.unusedSimpArgs false
namespace Go.Av
/-! ## 28. Words by which simp runs regions that draw -/
def FK (X : Fx) (i : Nat) (l : List (SOp × List Nat)) (K : (Nat → AV) → Mem → Prop) (Γ : Nat → AV) (M : Mem) : Prop := FR X none i l Γ M K
def oKF (X : Fx) (E : Nat → List Nat) (gs : Nat → Nat) (pl : Nat) (d : Option Tmp) (l : List (SOp × List Nat)) (L : List (Nat × AV)) (M : Mem) (K : (Nat → AV) → Mem → Prop) : Option AV → Prop
  | some v => dOk X.N d ∧ FR X (some (E, gs)) (pl + 1) l (put (lk L) d v) M K
  | none => False
section
variable {X : Fx} {E : Nat → List Nat} {gs : Nat → Nat} {pl u : Nat} {U : List Nat} {d : Option Tmp} {l : List (SOp × List Nat)} {L : List (Nat × AV)} {M : Mem} {K : (Nat → AV) → Mem → Prop} {m : Option ((Nat → List Nat) × (Nat → Nat))} {o : SOp}
@[go_sem] theorem FK_lk : FK X pl l K (lk L) M = FR X none pl l (lk L) M K := rfl
@[go_sem ↓] theorem fr_nil {Γ : Nat → AV} : FR X m pl [] Γ M K = K Γ M := by cases m <;> rfl
@[go_sem ↓] theorem fr_solo : FR X m pl ((o, []) :: l) (lk L) M K = SL X [o] (lk L) M (FK X (pl + 1) l K) := by cases m <;> rfl
theorem FR.go {Γ : Nat → AV} (h : ∀ gs : Nat → Nat, (∀ i, M (gs i) = none) → (∀ i j, gs i = gs j → i = j) → ∃ E, FR X (some (E, gs)) pl ((o, u :: U) :: l) Γ M K) : FR X none pl ((o, u :: U) :: l) Γ M K := .inl h
/-- the new blocks take ids by the slot that the first operation fills -/
theorem FR.at {Γ : Nat → AV} {n : Nat} {op : Op} {g : Option (Option Tmp × Bool)} (N : Nat) (hM : ∀ i, M (N + (600 + 3 * n) + i) = none) (E : Nat → List Nat) (h : FR X (some (E, fun i => N + (600 + 3 * n) + i)) pl ((⟨some n, op, g⟩, u :: U) :: l) Γ M K) : FR X none pl ((⟨some n, op, g⟩, u :: U) :: l) Γ M K :=
  .inr ⟨_, hM, fun i j e => by omega, E, h⟩
@[go_sem] theorem mk_nil' : mk [] M = M := mk_nil M
@[go_sem] theorem mk_other {g x : Nat} {R : List Nat} (h : g ≠ x) : mk (x :: R) M g = mk R M g := by simp [mk, h]
@[congr] theorem oKF_congr {o o' : Option AV} (h : o = o') : oKF X E gs pl d l L M K o = oKF X E gs pl d l L M K o' := by rw [h]
@[go_sem] theorem oKF_some {n : Nat} {v : AV} : oKF X E gs pl (some n) l L M K (some v) = (n < X.N ∧ FR X (some (E, gs)) (pl + 1) l (lk ((n, v) :: L)) M K) := rfl
@[go_sem] theorem oKF_none {v : AV} : oKF X E gs pl none l L M K (some v) = (True ∧ FR X (some (E, gs)) (pl + 1) l (lk L) M K) := rfl
theorem oK_oKF (o : Option AV) : (dOk X.N d ∧ oK o fun v => FR X (some (E, gs)) (pl + 1) l (put (lk L) d v) M K) = oKF X E gs pl d l L M K o := by
  cases o with
  | none => simp [oK, oKF]
  | some v => rfl
@[go_sem ↓] theorem fr_move {x : Operand} : FR X (some (E, gs)) pl ((⟨d, .move x, none⟩, u :: U) :: l) (lk L) M K = oKF X E gs pl d l L M K (some (opv (lk L) x)) := oK_oKF (some (opv (lk L) x))
@[go_sem ↓] theorem fr_assign {x : Operand} : FR X (some (E, gs)) pl ((⟨d, .assign x, none⟩, u :: U) :: l) (lk L) M K = oKF X E gs pl d l L M K (some (opv (lk L) x)) := oK_oKF (some (opv (lk L) x))
@[go_sem ↓] theorem fr_pick {x y z : Operand} : FR X (some (E, gs)) pl ((⟨d, .pick x y z, none⟩, u :: U) :: l) (lk L) M K = oKF X E gs pl d l L M K (rdPick (opv (lk L) x) (opv (lk L) y) (opv (lk L) z)) := oK_oKF _
@[go_sem ↓] theorem fr_load {t : TypeId} {x : Operand} : FR X (some (E, gs)) pl ((⟨d, .load t x, none⟩, u :: U) :: l) (lk L) M K = oKF X E gs pl d l L M K (rdLoad X.T (mk (E pl) M) t (opv (lk L) x)) := oK_oKF _
@[go_sem ↓] theorem fr_bin {o : BinOp} {t t' : TypeId} {x y : Operand} : FR X (some (E, gs)) pl ((⟨d, .binOp o t x y t', none⟩, u :: U) :: l) (lk L) M K = oKF X E gs pl d l L M K (rdBin X.T o t (opv (lk L) x) (opv (lk L) y)) := oK_oKF _
@[go_sem ↓] theorem fr_un {o : UnOp} {t : TypeId} {x : Operand} : FR X (some (E, gs)) pl ((⟨d, .unOp o t x, none⟩, u :: U) :: l) (lk L) M K = oKF X E gs pl d l L M K (rdUn o (opv (lk L) x)) := oK_oKF _
@[go_sem ↓] theorem fr_conv {s t : TypeId} {x : Operand} : FR X (some (E, gs)) pl ((⟨d, .convert s t x, none⟩, u :: U) :: l) (lk L) M K = oKF X E gs pl d l L M K (rdConv X.T s t (opv (lk L) x)) := oK_oKF _
@[go_sem ↓] theorem fr_func {f : Fn} {cap : Array Operand} : FR X (some (E, gs)) pl ((⟨d, .makeFunc f #[] cap, none⟩, u :: U) :: l) (lk L) M K = oKF X E gs pl d l L M K (some (.fn f cap.size (lst (cap.toList.map (opv (lk L)))))) := oK_oKF (some (.fn f cap.size (lst (cap.toList.map (opv (lk L))))))
@[go_sem ↓] theorem fr_slice {t : TypeId} {x : Operand} {lo hi : Option Operand} : FR X (some (E, gs)) pl ((⟨d, .slice t x lo hi none, none⟩, u :: U) :: l) (lk L) M K = oKF X E gs pl d l L M K (rdSlice X.T t (opv (lk L) x) (lo.map (opv (lk L))) (hi.map (opv (lk L)))) := oK_oKF _
@[go_sem ↓] theorem fr_fieldAddr {s : TypeId} {x : Operand} {f : Nat} : FR X (some (E, gs)) pl ((⟨d, .fieldAddr s x f, none⟩, u :: U) :: l) (lk L) M K = oKF X E gs pl d l L M K (rdFieldAddr X.T (mk (E pl) M) s (opv (lk L) x) f) := oK_oKF _
@[go_sem ↓] theorem fr_field {s : TypeId} {x : Operand} {f : Nat} : FR X (some (E, gs)) pl ((⟨d, .field s x f, none⟩, u :: U) :: l) (lk L) M K = oKF X E gs pl d l L M K (rdField X.T s (opv (lk L) x) f) := oK_oKF _
@[go_sem ↓] theorem fr_indexAddr {t : TypeId} {x i : Operand} : FR X (some (E, gs)) pl ((⟨d, .indexAddr t x i, none⟩, u :: U) :: l) (lk L) M K = oKF X E gs pl d l L M K (rdIndexAddr X.T (mk (E pl) M) t (opv (lk L) x) (opv (lk L) i)) := oK_oKF _
@[go_sem ↓] theorem fr_index {t : TypeId} {x i : Operand} : FR X (some (E, gs)) pl ((⟨d, .index t x i, none⟩, u :: U) :: l) (lk L) M K = oKF X E gs pl d l L M K (rdIndex X.T t (opv (lk L) x) (opv (lk L) i)) := oK_oKF _
@[go_sem ↓] theorem fr_extract {x : Operand} {k : Nat} : FR X (some (E, gs)) pl ((⟨d, .extract x k, none⟩, u :: U) :: l) (lk L) M K = oKF X E gs pl d l L M K (rdExtract (opv (lk L) x) k) := oK_oKF _
@[go_sem ↓] theorem fr_build {t : TypeId} {ps : Array (Nat × Operand)} : FR X (some (E, gs)) pl ((⟨d, .build t ps, none⟩, u :: U) :: l) (lk L) M K = oKF X E gs pl d l L M K (rdBuild X.T (mk (E pl) M) t (opvs (lk L) ps)) := oK_oKF _
@[go_sem ↓] theorem fr_len {x : Operand} {t : TypeId} : FR X (some (E, gs)) pl ((⟨d, .call { callee := .builtin .len, args := #[x], argTypes := #[t] }, none⟩, u :: U) :: l) (lk L) M K = oKF X E gs pl d l L M K (rdLen X.T (mk (E pl) M) t (opv (lk L) x)) := oK_oKF _
@[go_sem ↓] theorem fr_max {xs : Array Operand} {ts : Array TypeId} : FR X (some (E, gs)) pl ((⟨d, .call { callee := .builtin .max, args := xs, argTypes := ts }, none⟩, u :: U) :: l) (lk L) M K = oKF X E gs pl d l L M K (rdMax (xs.toList.map (opv (lk L)))) := oK_oKF _
@[go_sem ↓] theorem fr_min {xs : Array Operand} {ts : Array TypeId} : FR X (some (E, gs)) pl ((⟨d, .call { callee := .builtin .min, args := xs, argTypes := ts }, none⟩, u :: U) :: l) (lk L) M K = oKF X E gs pl d l L M K (rdMin (xs.toList.map (opv (lk L)))) := oK_oKF _
/-! guards -/
def fgK (X : Fx) (E : Nat → List Nat) (gs : Nat → Nat) (pl : Nat) (d : Option Tmp) (op : Op) (u : Nat) (U : List Nat) (n : Nat) (want : Bool) (l : List (SOp × List Nat)) (L : List (Nat × AV)) (M : Mem) (K : (Nat → AV) → Mem → Prop) : AV → Prop
  | .raw (.bool b) => (b = want → FR X (some (E, gs)) pl ((⟨d, op, none⟩, u :: U) :: l) (lk ((n, .raw (.bool want)) :: L)) M K) ∧ (b = (!want) → oKF X E gs pl d l ((n, .raw (.bool (!want))) :: L) M K (some (.raw undef)))
  | .raw (.tuple _) => oKF X E gs pl d l L M K (some (.raw undef))
  | _ => False
@[congr] theorem fgK_congr {op : Op} {n : Nat} {want : Bool} {v v' : AV} (h : v = v') : fgK X E gs pl d op u U n want l L M K v = fgK X E gs pl d op u U n want l L M K v' := by rw [h]
@[go_sem ↓] theorem fr_guard {op : Op} {n : Nat} {want : Bool} : FR X (some (E, gs)) pl ((⟨d, op, some (some n, want)⟩, u :: U) :: l) (lk L) M K = fgK X E gs pl d op u U n want l L M K (lk L n) := by
  show FG X _ _ _ _ _ _ _ _ = _
  unfold FG fgK
  simp only
  cases lk L n with
  | raw u => cases u <;> rfl
  | _ => rfl
@[go_sem] theorem fgK_tt {op : Op} {n : Nat} : fgK X E gs pl d op u U n true l L M K (.raw (.bool true)) = FR X (some (E, gs)) pl ((⟨d, op, none⟩, u :: U) :: l) (lk ((n, .raw (.bool true)) :: L)) M K := by simp [fgK]
@[go_sem] theorem fgK_ff {op : Op} {n : Nat} : fgK X E gs pl d op u U n false l L M K (.raw (.bool false)) = FR X (some (E, gs)) pl ((⟨d, op, none⟩, u :: U) :: l) (lk ((n, .raw (.bool false)) :: L)) M K := by simp [fgK]
@[go_sem] theorem fgK_tf {op : Op} {n : Nat} : fgK X E gs pl d op u U n true l L M K (.raw (.bool false)) = oKF X E gs pl d l ((n, .raw (.bool false)) :: L) M K (some (.raw undef)) := by simp [fgK]
@[go_sem] theorem fgK_ft {op : Op} {n : Nat} : fgK X E gs pl d op u U n false l L M K (.raw (.bool true)) = oKF X E gs pl d l ((n, .raw (.bool true)) :: L) M K (some (.raw undef)) := by simp [fgK]
@[go_sem] theorem fgK_un {op : Op} {n : Nat} {want : Bool} {cs : Array Value} : fgK X E gs pl d op u U n want l L M K (.raw (.tuple cs)) = oKF X E gs pl d l L M K (some (.raw undef)) := rfl
theorem fgD_t {op : Op} {n : Nat} {p : Prop} [Decidable p] (h1 : p → FR X (some (E, gs)) pl ((⟨d, op, none⟩, u :: U) :: l) (lk ((n, .raw (.bool true)) :: L)) M K) (h2 : ¬p → oKF X E gs pl d l ((n, .raw (.bool false)) :: L) M K (some (.raw undef))) : fgK X E gs pl d op u U n true l L M K (.raw (.bool (decide p))) := ⟨fun e => h1 (by simpa using e), fun e => h2 (by simpa using e)⟩
theorem fgD_f {op : Op} {n : Nat} {p : Prop} [Decidable p] (h1 : ¬p → FR X (some (E, gs)) pl ((⟨d, op, none⟩, u :: U) :: l) (lk ((n, .raw (.bool false)) :: L)) M K) (h2 : p → oKF X E gs pl d l ((n, .raw (.bool true)) :: L) M K (some (.raw undef))) : fgK X E gs pl d op u U n false l L M K (.raw (.bool (decide p))) := ⟨fun e => h1 (by simpa using e), fun e => h2 (by simpa using e)⟩
theorem fgK_split {op : Op} {n : Nat} {want b : Bool} (h1 : b = want → FR X (some (E, gs)) pl ((⟨d, op, none⟩, u :: U) :: l) (lk ((n, .raw (.bool want)) :: L)) M K) (h2 : b = (!want) → oKF X E gs pl d l ((n, .raw (.bool (!want))) :: L) M K (some (.raw undef))) : fgK X E gs pl d op u U n want l L M K (.raw (.bool b)) := ⟨h1, h2⟩
/-! operations that turn memory -/
@[go_sem] theorem newOk_eq {g : Nat} : newOk E pl g U = (¬ g ∈ E pl ∧ ∀ j ∈ U, pl < j → g ∈ E j) := rfl
@[go_sem] theorem oldOk_eq {g : Nat} : oldOk E g U = ∀ j ∈ U, g ∈ E j := rfl
/-- a new block -/
def NewF (X : Fx) (E : Nat → List Nat) (gs : Nat → Nat) (pl u : Nat) (U : List Nat) (d : Option Tmp) (v : Nat → AV) (B : Blk) (l : List (SOp × List Nat)) (L : List (Nat × AV)) (M : Mem) (K : (Nat → AV) → Mem → Prop) : Prop := dOk X.N d ∧ newOk E pl (gs pl) (u :: U) ∧ FR X (some (E, gs)) (pl + 1) l (put (lk L) d (v (gs pl))) (upM M (gs pl) B) K
@[go_sem] theorem NewF_eq {n : Nat} {v : Nat → AV} {B : Blk} : NewF X E gs pl u U (some n) v B l L M K = (n < X.N ∧ newOk E pl (gs pl) (u :: U) ∧ FR X (some (E, gs)) (pl + 1) l (lk ((n, v (gs pl)) :: L)) (upM M (gs pl) B) K) := rfl
def bxF (X : Fx) (E : Nat → List Nat) (gs : Nat → Nat) (pl u : Nat) (U : List Nat) (d : Option Tmp) (t : TypeId) (l : List (SOp × List Nat)) (L : List (Nat × AV)) (M : Mem) (K : (Nat → AV) → Mem → Prop) (own : Bool) : Option (List AV) → Prop
  | some cs => match own with
    | true => NewF X E gs pl u U d (fun g => .ptr g 0) (.cells t cs.length (lst cs)) l L M K
    | false => oKF X E gs pl d l L M K (some (.ref cs.length (lst cs)))
  | none => False
@[congr] theorem bxF_congr {t : TypeId} {b b' : Bool} {o o' : Option (List AV)} (hb : b = b') (h : o = o') : bxF X E gs pl u U d t l L M K b o = bxF X E gs pl u U d t l L M K b' o' := by rw [h, hb]
@[go_sem] theorem bxF_ref {t : TypeId} {cs : List AV} : bxF X E gs pl u U d t l L M K false (some cs) = oKF X E gs pl d l L M K (some (.ref cs.length (lst cs))) := rfl
@[go_sem] theorem bxF_own {t : TypeId} {cs : List AV} : bxF X E gs pl u U d t l L M K true (some cs) = NewF X E gs pl u U d (fun g => .ptr g 0) (.cells t cs.length (lst cs)) l L M K := rfl
@[go_sem ↓] theorem fr_box {t : TypeId} {x : Operand} : FR X (some (E, gs)) pl ((⟨d, .box t x, none⟩, u :: U) :: l) (lk L) M K = bxF X E gs pl u U d t l L M K (isOwn X.own d) (cellsOf (mk (E pl) M) (opv (lk L) x)) := by
  show (dOk X.N d ∧ if isOwn X.own d = true then _ else _) = _
  cases hb : isOwn X.own d with
  | true =>
    rw [if_pos rfl]
    cases hc : cellsOf (mk (E pl) M) (opv (lk L) x) with
    | none => simp [oK, bxF]
    | some cs => rfl
  | false =>
    rw [if_neg (by simp)]
    cases hc : cellsOf (mk (E pl) M) (opv (lk L) x) with
    | none => simp [oK, bxF, rd, hc]
    | some cs => simp [oK, bxF, rd, hc, oKF]
def bsF (X : Fx) (E : Nat → List Nat) (gs : Nat → Nat) (pl u : Nat) (U : List Nat) (d : Option Tmp) (len : Nat) (l : List (SOp × List Nat)) (L : List (Nat × AV)) (M : Mem) (K : (Nat → AV) → Mem → Prop) (own : Bool) : Option (TypeId × Nat × List AV) → Prop
  | some (e, sz, cs) => match own with
    | true => len ≤ maxLen ∧ NewF X E gs pl u U d (fun g => .own g len sz) (.row e len sz (fun i j => lst cs (i * sz + j))) l L M K
    | false => oKF X E gs pl d l L M K (some (.sl len sz (fun i j => lst cs (i * sz + j))))
  | none => False
@[congr] theorem bsF_congr {len : Nat} {b b' : Bool} {o o' : Option (TypeId × Nat × List AV)} (hb : b = b') (h : o = o') : bsF X E gs pl u U d len l L M K b o = bsF X E gs pl u U d len l L M K b' o' := by rw [hb, h]
@[go_sem] theorem bsF_sl {len e sz : Nat} {cs : List AV} : bsF X E gs pl u U d len l L M K false (some (e, sz, cs)) = oKF X E gs pl d l L M K (some (.sl len sz (fun i j => lst cs (i * sz + j)))) := rfl
@[go_sem] theorem bsF_own {len e sz : Nat} {cs : List AV} : bsF X E gs pl u U d len l L M K true (some (e, sz, cs)) = (len ≤ maxLen ∧ NewF X E gs pl u U d (fun g => .own g len sz) (.row e len sz (fun i j => lst cs (i * sz + j))) l L M K) := rfl
@[go_sem ↓] theorem fr_buildSlice {t : TypeId} {len : Nat} {ps : Array (Nat × Operand)} : FR X (some (E, gs)) pl ((⟨d, .buildSlice t len ps, none⟩, u :: U) :: l) (lk L) M K = bsF X E gs pl u U d len l L M K (isOwn X.own d) (litK (mk (E pl) M) len (opvs (lk L) ps) (litT X.T t)) := by
  rw [← litCells_eq]
  show (dOk X.N d ∧ if isOwn X.own d = true then _ else _) = _
  cases hb : isOwn X.own d with
  | true =>
    rw [if_pos rfl]
    cases hc : litCells X.T (mk (E pl) M) t len (opvs (lk L) ps) with
    | none => simp [oK, bsF]
    | some r =>
      obtain ⟨e, sz, cs⟩ := r
      simp only [oK, bsF, NewF]
      exact propext ⟨fun ⟨a, b, c, d⟩ => ⟨b, a, c, d⟩, fun ⟨b, a, c, d⟩ => ⟨a, b, c, d⟩⟩
  | false =>
    rw [if_neg (by simp)]
    cases hc : litCells X.T (mk (E pl) M) t len (opvs (lk L) ps) with
    | none => simp [oK, bsF, rd, hc]
    | some r => obtain ⟨e, sz, cs⟩ := r; simp [oK, bsF, rd, hc, oKF]
def alF (X : Fx) (E : Nat → List Nat) (gs : Nat → Nat) (pl u : Nat) (U : List Nat) (d : Option Tmp) (t : TypeId) (l : List (SOp × List Nat)) (L : List (Nat × AV)) (M : Mem) (K : (Nat → AV) → Mem → Prop) : Option (List Value) → Prop
  | some zs => NewF X E gs pl u U d (fun g => .ptr g 0) (.cells t zs.length (lst (zs.map .raw))) l L M K
  | none => False
@[congr] theorem alF_congr {t : TypeId} {o o' : Option (List Value)} (h : o = o') : alF X E gs pl u U d t l L M K o = alF X E gs pl u U d t l L M K o' := by rw [h]
@[go_sem] theorem alF_some {t : TypeId} {zs : List Value} : alF X E gs pl u U d t l L M K (some zs) = NewF X E gs pl u U d (fun g => .ptr g 0) (.cells t zs.length (lst (zs.map .raw))) l L M K := rfl
@[go_sem ↓] theorem fr_alloc {t : TypeId} : FR X (some (E, gs)) pl ((⟨d, .alloc t, none⟩, u :: U) :: l) (lk L) M K = alF X E gs pl u U d t l L M K (X.T.zero t) := by
  show (dOk X.N d ∧ oK _ _) = _
  cases X.T.zero t with
  | none => simp [oK, alF]
  | some zs => rfl
/-- a store -/
def stF (X : Fx) (E : Nat → List Nat) (gs : Nat → Nat) (pl u : Nat) (U : List Nat) (d : Option Tmp) (l : List (SOp × List Nat)) (L : List (Nat × AV)) (M : Mem) (K : (Nat → AV) → Mem → Prop) : Option (Nat × Blk) → Prop
  | some (g, B) => dOk X.N d ∧ oldOk E g (u :: U) ∧ FR X (some (E, gs)) (pl + 1) l (put (lk L) d (.raw undef)) (upM M g B) K
  | none => False
@[congr] theorem stF_congr {o o' : Option (Nat × Blk)} (h : o = o') : stF X E gs pl u U d l L M K o = stF X E gs pl u U d l L M K o' := by rw [h]
@[go_sem] theorem stF_no {g : Nat} {B : Blk} : stF X E gs pl u U none l L M K (some (g, B)) = (oldOk E g (u :: U) ∧ FR X (some (E, gs)) (pl + 1) l (lk L) (upM M g B) K) := by simp [stF, dOk, put]
@[go_sem ↓] theorem fr_store {t : TypeId} {x v : Operand} : FR X (some (E, gs)) pl ((⟨d, .store t x v, none⟩, u :: U) :: l) (lk L) M K = stF X E gs pl u U d l L M K (stW X.T (mk (E pl) M) t (opv (lk L) x) (opv (lk L) v)) := by
  show (dOk X.N d ∧ oK _ _) = _
  cases stW X.T (mk (E pl) M) t (opv (lk L) x) (opv (lk L) v) with
  | none => simp [oK, stF]
  | some p => rfl
def swP (g off : Nat) : Option Ty → Option (List AV) → Option Blk → Option (Nat × Blk)
  | some ty, some l, some (.cells e n cs) => if l.length = ty.cells ∧ off + l.length ≤ n then some (g, .cells e n (ovr cs off l)) else none
  | _, _, _ => none
def swE (g n sz i o : Nat) : Option Ty → Option (List AV) → Option Blk → Option (Nat × Blk)
  | some ty, some l, some (.row e n' sz' f) => if l.length = ty.cells ∧ n' = n ∧ sz' = sz ∧ i < n ∧ o + l.length ≤ sz then some (g, .row e n sz (fun i' j => if i' = i then ovr (f i) o l j else f i' j)) else none
  | _, _, _ => none
@[go_sem] theorem stW_ptr {T : Tab} {t : TypeId} {g off : Nat} {v : AV} : stW T M t (.ptr g off) v = swP g off (T.ty t) (cellsOf M v) (M g) := by
  unfold stW swP
  cases T.ty t <;> cases cellsOf M v <;> simp only []
  · rename_i ty l
    cases hg : M g with
    | none => simp
    | some B => cases B <;> simp <;> split <;> simp_all
@[go_sem] theorem stW_elp {T : Tab} {t : TypeId} {g n sz i o : Nat} {v : AV} : stW T M t (.elp g n sz i o) v = swE g n sz i o (T.ty t) (cellsOf M v) (M g) := by
  unfold stW swE
  cases T.ty t <;> cases cellsOf M v <;> simp only []
  · rename_i ty l
    cases hg : M g with
    | none => simp
    | some B => cases B <;> simp <;> split <;> simp_all
@[go_sem] theorem swE_ok {g n sz i o e : Nat} {f : Nat → Nat → AV} {ty : Ty} {l : List AV} (h : i < n) : swE g n sz i o (some ty) (some l) (some (.row e n sz f)) = if l.length = ty.cells ∧ o + l.length ≤ sz then some (g, .row e n sz (fun i' j => if i' = i then ovr (f i) o l j else f i' j)) else none := by
  simp [swE, h]
attribute [go_sem] swP
/-- append -/
def apF (X : Fx) (E : Nat → List Nat) (gs : Nat → Nat) (pl u : Nat) (U : List Nat) (d : Option Tmp) (e sz bt : Nat) (l : List (SOp × List Nat)) (L : List (Nat × AV)) (M : Mem) (K : (Nat → AV) → Mem → Prop) : Option ((Nat × (Nat → Nat → AV)) × (Option Nat × Nat × (Nat → Nat → AV))) → Prop
  | some (p, none, n, f) => ones (mk (E pl) M) sz p ∧ (n + p.1) * bt ≤ 140737488355328 ∧ NewF X E gs pl u U d (fun g => .own g (n + p.1) sz) (.row e (n + p.1) sz (cat n f p.2)) l L M K
  | some (p, some g, n, f) => dOk X.N d ∧ ones (mk (E pl) M) sz p ∧ (n + p.1) * bt ≤ 140737488355328 ∧ oldOk E g (u :: U) ∧ FR X (some (E, gs)) (pl + 1) l (put (lk L) d (.own g (n + p.1) sz)) (upM M g (.row e (n + p.1) sz (cat n f p.2))) K
  | none => False
@[congr] theorem apF_congr {e sz bt : Nat} {o o' : Option ((Nat × (Nat → Nat → AV)) × (Option Nat × Nat × (Nat → Nat → AV)))} (h : o = o') : apF X E gs pl u U d e sz bt l L M K o = apF X E gs pl u U d e sz bt l L M K o' := by rw [h]
def apTF (X : Fx) (E : Nat → List Nat) (gs : Nat → Nat) (pl u : Nat) (U : List Nat) (d : Option Tmp) (s x : AV) (l : List (SOp × List Nat)) (L : List (Nat × AV)) (M : Mem) (K : (Nat → AV) → Mem → Prop) : Option (TypeId × Nat × Nat) → Prop
  | some (e, sz, bt) => apF X E gs pl u U d e sz bt l L M K (apP (mk (E pl) M) e sz s x)
  | none => False
@[congr] theorem apTF_congr {s s' x x' : AV} {o o' : Option (TypeId × Nat × Nat)} (hs : s = s') (hx : x = x') (h : o = o') : apTF X E gs pl u U d s x l L M K o = apTF X E gs pl u U d s' x' l L M K o' := by rw [hs, hx, h]
@[go_sem] theorem apTF_some {s x : AV} {e sz bt : Nat} : apTF X E gs pl u U d s x l L M K (some (e, sz, bt)) = apF X E gs pl u U d e sz bt l L M K (apP (mk (E pl) M) e sz s x) := rfl
@[go_sem] theorem apF_new {e sz bt m n : Nat} {f2 f : Nat → Nat → AV} : apF X E gs pl u U d e sz bt l L M K (some ((m, f2), none, n, f)) = (ones (mk (E pl) M) sz (m, f2) ∧ (n + m) * bt ≤ 140737488355328 ∧ NewF X E gs pl u U d (fun g => .own g (n + m) sz) (.row e (n + m) sz (cat n f f2)) l L M K) := rfl
@[go_sem] theorem apF_old {t e sz bt m n g : Nat} {f2 f : Nat → Nat → AV} : apF X E gs pl u U (some t) e sz bt l L M K (some ((m, f2), some g, n, f)) = (t < X.N ∧ ones (mk (E pl) M) sz (m, f2) ∧ (n + m) * bt ≤ 140737488355328 ∧ oldOk E g (u :: U) ∧ FR X (some (E, gs)) (pl + 1) l (lk ((t, .own g (n + m) sz) :: L)) (upM M g (.row e (n + m) sz (cat n f f2))) K) := rfl
@[go_sem ↓] theorem fr_append {ty : TypeId} {s x : Operand} : FR X (some (E, gs)) pl ((⟨d, .call { callee := .builtin .append, args := #[s, x], argTypes := #[ty, ty] }, none⟩, u :: U) :: l) (lk L) M K = apTF X E gs pl u U d (opv (lk L) s) (opv (lk L) x) l L M K (appT X.T ty) := by
  show (dOk X.N d ∧ FApp X E pl (u :: U) (gs pl) [ty, ty] [opv (lk L) s, opv (lk L) x] M (fun v M' => FR X (some (E, gs)) (pl + 1) l (put (lk L) d v) M' K)) = _
  apply propext
  constructor
  · rintro ⟨hd, h⟩
    unfold FApp at h
    obtain ⟨_, h⟩ := h
    split at h
    · rename_i e ht
      split at h
      · rename_i te zs bt h1 h2 h3
        obtain ⟨c1, c2, c3, h⟩ := h
        have hT : appT X.T ty = some (e, te.cells, bt) := by unfold appT; simp only [ht, h1, h2, h3]; rw [if_pos ⟨c1, c2, c3⟩]
        obtain ⟨p, hp, h⟩ := oK_some h
        obtain ⟨q, hq, h⟩ := oK_some h
        rw [hT]
        simp only [apTF, apP, hp, hq]
        obtain ⟨k1, k2, k3⟩ := h
        obtain ⟨g?, n, f⟩ := q
        cases g? with
        | none => exact ⟨k1, k2, hd, k3.1, k3.2⟩
        | some g => exact ⟨hd, k1, k2, k3.1, k3.2⟩
      · exact h.elim
    · exact h.elim
  · intro h
    cases hT : appT X.T ty with
    | none => rw [hT] at h; exact h.elim
    | some r =>
      obtain ⟨e, sz, bt⟩ := r
      rw [hT] at h
      obtain ⟨te, zs, e1, e2, e3, e4, e5, e6, e7, e8⟩ := appT_spec hT
      simp only [apTF, apP] at h
      unfold FApp
      simp only [e1, e2, e3, e4]
      subst e5
      cases hs : srcOf (mk (E pl) M) te.cells (opv (lk L) x) with
      | none => rw [hs] at h; exact h.elim
      | some p =>
        cases hb : baseOf (mk (E pl) M) e te.cells (opv (lk L) s) with
        | none => rw [hs, hb] at h; exact h.elim
        | some q =>
          rw [hs, hb] at h
          obtain ⟨g?, n, f⟩ := q
          cases g? with
          | none => obtain ⟨k1, k2, hd, k3, k4⟩ := h; exact ⟨hd, trivial, e6, e7, e8, k1, k2, k3, k4⟩
          | some g => obtain ⟨hd, k1, k2, k3, k4⟩ := h; exact ⟨hd, trivial, e6, e7, e8, k1, k2, k3, k4⟩
/-- a call whose result is told, and what it does to memory -/
def caF (X : Fx) (E : Nat → List Nat) (gs : Nat → Nat) (pl u : Nat) (U : List Nat) (d : Option Tmp) (g : FuncId) (al : List AV) (l : List (SOp × List Nat)) (L : List (Nat × AV)) (M : Mem) (K : (Nat → AV) → Mem → Prop) : Prop :=
  dOk X.N d ∧ ∃ v W, Wok E pl (gs pl) (u :: U) M W ∧ (∀ M2, Ex (mk (E pl) M) M2 → M2 (gs pl) = none → ACalls X.P g al M2 fun r M' => r = v ∧ M' = upW M2 W) ∧ FR X (some (E, gs)) (pl + 1) l (put (lk L) d v) (upW M W) K
@[congr] theorem caF_congr {g : FuncId} {al al' : List AV} (h : al = al') : caF X E gs pl u U d g al l L M K = caF X E gs pl u U d g al' l L M K := by rw [h]
def clF (X : Fx) (E : Nat → List Nat) (gs : Nat → Nat) (pl u : Nat) (U : List Nat) (d : Option Tmp) (al : List AV) (l : List (SOp × List Nat)) (L : List (Nat × AV)) (M : Mem) (K : (Nat → AV) → Mem → Prop) : AV → Prop
  | .fn (.func g) n cap => caF X E gs pl u U d g (al ++ tk n 0 cap) l L M K
  | _ => False
@[congr] theorem clF_congr {al al' : List AV} {v v' : AV} (ha : al = al') (h : v = v') : clF X E gs pl u U d al l L M K v = clF X E gs pl u U d al' l L M K v' := by rw [ha, h]
@[go_sem] theorem clF_fn {g : FuncId} {n : Nat} {al : List AV} {cap : Nat → AV} : clF X E gs pl u U d al l L M K (.fn (.func g) n cap) = caF X E gs pl u U d g (al ++ tk n 0 cap) l L M K := rfl
@[go_sem ↓] theorem fr_call {q : Operand} {xs : Array Operand} {ts : Array TypeId} : FR X (some (E, gs)) pl ((⟨d, .call { callee := .value q, args := xs, argTypes := ts }, none⟩, u :: U) :: l) (lk L) M K = clF X E gs pl u U d (xs.toList.map (opv (lk L))) l L M K (opv (lk L) q) := by
  show (dOk X.N d ∧ _) = _
  simp only
  cases hf : opv (lk L) q with
  | fn k n cap =>
    cases k with
    | func g =>
      simp only [clF, caF, callArgs]
      rw [List.range_eq_range', range_tk]
    | _ => simp [clF]
  | _ => simp [clF]
theorem caF.val {g : FuncId} {al bl : List AV} {v : AV} (h : ∀ M2, ACalls X.P g bl M2 fun r M' => r = v ∧ M' = M2) (hl : Les al bl) (hq : oKF X E gs pl d l L M K (some v)) : caF X E gs pl u U d g al l L M K := ⟨hq.1, v, none, trivial, fun M2 _ _ => (h M2).le hl, hq.2⟩
/-- a call that makes one block -/
theorem caF.new {g n : Nat} {al bl : List AV} {v : Nat → AV} {B : Blk} (h : ∀ M2 g', M2 g' = none → ACalls X.P g bl M2 fun r M' => r = v g' ∧ M' = upM M2 g' B) (hl : Les al bl) (hq : NewF X E gs pl u U d v B l L M K) : caF X E gs pl u U d g al l L M K :=
  ⟨hq.1, v (gs pl), some (gs pl, B), .inl ⟨rfl, hq.2.1⟩, fun M2 _ hn => (h M2 _ hn).le hl, hq.2.2⟩
end
/-! calls: that make one block -/
theorem caK.new {X : Fx} {d : Option Tmp} {l : List SOp} {L : List (Nat × AV)} {M : Mem} {K : (Nat → AV) → Mem → Prop} {g : FuncId} {al bl : List AV} {v : Nat → AV} {B : Blk} (h : ∀ M2 g', M2 g' = none → ACalls X.P g bl M2 fun r M' => r = v g' ∧ M' = upM M2 g' B) (hl : Les al bl) (g' : Nat) (hg : M g' = none) (hq : SL X l (put (lk L) d (v g')) (upM M g' B) K) : caK X d g al l L M K := by
  refine ((h M g' hg).le hl).mono ?_
  rintro r M' ⟨rfl, rfl⟩
  exact hq
attribute [go_sem] List.mem_cons List.not_mem_nil List.mem_singleton or_false false_or not_false_eq_true forall_eq_or_imp forall_eq false_implies implies_true forall_const not_true_eq_false
end Go.Av
