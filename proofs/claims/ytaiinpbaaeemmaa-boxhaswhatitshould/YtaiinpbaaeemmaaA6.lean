import Derived.Test.YtaiinpbaaeemmaaA5
import Derived.Orders
set_option linter.unusedVariables false
set_option linter.unusedSimpArgs false
namespace Go.Av
/-! ## 18. The orders in which a region that draws may run -/
/-- the list is a way on from the operations of S, none before those that it waits for -/
inductive Ext (ops : Array Oper) : (Nat → Bool) → List Nat → Prop where
  | nil (S : Nat → Bool) (h : ∀ i, i < ops.size → S i = true) : Ext ops S []
  | cons (S : Nat → Bool) (i : Nat) (o : Oper) (l : List Nat) (hi : ops[i]? = some o) (h0 : S i = false) (ha : ∀ e ∈ o.after, Region.binds .any e = true → S e.on = true) (k : Ext ops (fun j => j == i || S j) l) : Ext ops S (i :: l)
theorem countP_less {p p' : Nat → Bool} {i : Nat} (hle : ∀ j, p' j = true → p j = true) (hi : p i = true) (hi' : p' i = false) : ∀ l : List Nat, l.countP p' ≤ l.countP p ∧ (i ∈ l → l.countP p' + 1 ≤ l.countP p)
  | [] => ⟨Nat.le_refl _, fun h => by simp at h⟩
  | x :: l => by
    obtain ⟨h1, h2⟩ := countP_less hle hi hi' l
    simp only [List.countP_cons]
    by_cases hx : x = i
    · subst hx
      rw [hi, hi']
      simp only [if_true, Bool.false_eq_true, if_false]
      exact ⟨by omega, fun _ => by omega⟩
    · refine ⟨?_, fun h => ?_⟩
      · cases e : p' x with
        | true => rw [hle x e]; simp; omega
        | false => simp; split <;> omega
      · have := h2 (by simpa [Ne.symm hx] using h)
        cases e : p' x with
        | true => rw [hle x e]; simp; omega
        | false => simp; split <;> omega
def upTo (ops : Array Oper) : Prop := ∀ i o, ops[i]? = some o → ∀ e ∈ o.after, Region.binds .any e = true → e.on < i
theorem ready_none {ops : Array Oper} (hu : upTo ops) {listed : Array Bool} (hs : listed.size = ops.size) (h : Region.ready .any ops listed = []) : ∀ i, i < ops.size → listed.getD i false = true := by
  intro i
  induction i using Nat.strongRecOn with
  | _ i ih =>
    intro hi
    cases hl : listed.getD i false with
    | true => rfl
    | false =>
      exfalso
      have : i ∈ Region.ready .any ops listed := by
        rw [mem_ready]
        refine ⟨?_, ops[i], by simp [hi], fun e he hb => ih e.on (hu i ops[i] (by simp [hi]) e he hb) (by have := hu i ops[i] (by simp [hi]) e he hb; omega)⟩
        rw [Array.getD_eq_getD_getElem?] at hl ⊢
        have : i < listed.size := by omega
        simp [this] at hl ⊢
        exact hl
      rw [h] at this
      simp at this
theorem go_ext {ops : Array Oper} (hu : upTo ops) : ∀ (fuel t : Nat) (listed : Array Bool), listed.size = ops.size → (List.range ops.size).countP (fun i => !listed.getD i false) ≤ fuel → Ext ops (fun i => listed.getD i false) (Region.linearise.go .any ops fuel t listed []) := by
  intro fuel
  induction fuel with
  | zero =>
    intro t listed hs hc
    refine .nil _ fun i hi => ?_
    have : (List.range ops.size).countP (fun i => !listed.getD i false) = 0 := by omega
    rw [List.countP_eq_zero] at this
    have := this i (by simpa using hi)
    simpa using this
  | succ fuel ih =>
    intro t listed hs hc
    simp only [Region.linearise.go]
    change Ext ops _ (match (Region.ready .any ops listed)[t % (Region.ready .any ops listed).length]? with
      | some i => Region.linearise.go .any ops fuel (t / (Region.ready .any ops listed).length) (listed.setIfInBounds i true) [i]
      | none => [].reverse)
    cases hi : (Region.ready .any ops listed)[t % (Region.ready .any ops listed).length]? with
    | none =>
      have hnil : Region.ready .any ops listed = [] := by
        cases hr : Region.ready .any ops listed with
        | nil => rfl
        | cons x xs =>
          rw [hr] at hi
          have hlt : t % (x :: xs).length < (x :: xs).length := Nat.mod_lt _ (by simp)
          simp at hi
          simp at hlt
          omega
      exact .nil _ (ready_none hu hs hnil)
    | some i =>
      simp only []
      rw [linearise_go_acc, List.reverse_singleton, List.singleton_append]
      have hm := List.mem_of_getElem? hi
      rw [mem_ready] at hm
      obtain ⟨h0, o, ho, ha⟩ := hm
      have hlt : i < ops.size := (Array.getElem?_eq_some_iff.1 ho).1
      have h0' : listed.getD i false = false := by
        rw [Array.getD_eq_getD_getElem?] at h0 ⊢
        have : i < listed.size := by omega
        simp [this] at h0 ⊢
        exact h0
      have heq : (fun j => (listed.setIfInBounds i true).getD j false) = (fun j => j == i || listed.getD j false) := by
        funext j
        by_cases e : j = i
        · subst e; simp [Array.getD_eq_getD_getElem?, show j < listed.size by omega]
        · rw [getD_set_ne false (Ne.symm e)]; simp [e]
      refine .cons _ i o _ ho h0' ha ?_
      have := ih (t / (Region.ready .any ops listed).length) (listed.setIfInBounds i true) (by simpa using hs) ?_
      · rw [heq] at this; exact this
      · have hless := (countP_less (p := fun j => !listed.getD j false) (p' := fun j => !(listed.setIfInBounds i true).getD j false) (i := i) (fun j hj => by
          rw [congrFun heq j] at hj
          simp at hj ⊢
          exact hj.2) (by rw [h0']; rfl) (by rw [congrFun heq i]; simp) (List.range ops.size)).2 (by simpa using hlt)
        omega
theorem schedule_ext {ops : Array Oper} (hu : upTo ops) (t : Nat) : Ext ops (fun _ => false) (Region.schedule true ops t) := by
  have := go_ext hu ops.size t (Array.replicate ops.size false) (by simp) (by
    refine Nat.le_trans (List.countP_le_length) (by simp))
  have e : (fun i => (Array.replicate ops.size false).getD i false) = fun _ => false := by
    funext i; simp [Array.getD_eq_getD_getElem?, Array.getElem?_replicate]; split <;> rfl
  rw [e] at this
  simpa [Region.schedule, Region.linearise] using this
end Go.Av
set_option linter.unusedVariables false
set_option linter.unusedSimpArgs false
namespace Go.Av
/-! ## 19. Regions that draw -/
section
variable {Γ Γ2 : Nat → AV}
theorem map_congr' {xs : List Operand} (h : ∀ x ∈ xs, opv Γ x = opv Γ2 x) : xs.map (opv Γ) = xs.map (opv Γ2) := List.map_congr_left h
theorem opvs_congr {ps : Array (Nat × Operand)} (h : ∀ x ∈ (ps.toList.map (·.2)).toArray, opv Γ x = opv Γ2 x) : opvs Γ ps = opvs Γ2 ps := by
  unfold opvs
  exact List.map_congr_left fun p hp => by rw [h p.2 (by simp; exact ⟨p.1, by simpa using hp⟩)]
theorem optmap_congr {o : Option Operand} (h : ∀ x ∈ o.toArray, opv Γ x = opv Γ2 x) : o.map (opv Γ) = o.map (opv Γ2) := by
  cases o with
  | none => rfl
  | some x => simp [h x (by simp)]
theorem rd_congr {T : Tab} {own : List Tmp} {d : Option Tmp} {M : Mem} {op : Op} (h : ∀ x ∈ op.operands, opv Γ x = opv Γ2 x) : rd T own d Γ M op = rd T own d Γ2 M op := by
  cases op with
  | move x => simp only [rd]; rw [h x (by simp [Op.operands])]
  | assign x => simp only [rd]; rw [h x (by simp [Op.operands])]
  | pick c a b => simp only [rd]; rw [h c (by simp [Op.operands]), h a (by simp [Op.operands]), h b (by simp [Op.operands])]
  | load t x => simp only [rd]; rw [h x (by simp [Op.operands])]
  | binOp op t x y b => simp only [rd]; rw [h x (by simp [Op.operands]), h y (by simp [Op.operands])]
  | unOp op t x => simp only [rd]; rw [h x (by simp [Op.operands])]
  | convert s t x => simp only [rd]; rw [h x (by simp [Op.operands])]
  | makeFunc f first cap => simp only [rd]; rw [map_congr' (fun x hx => h x (by simp [Op.operands]; exact .inr (by simpa using hx)))]
  | slice t x lo hi mx =>
    simp only [rd]
    cases mx with
    | none => simp only; rw [h x (by simp [Op.operands]), optmap_congr (o := lo) (fun x hx => h x (by simp [Op.operands] at hx ⊢; simp [hx])), optmap_congr (o := hi) (fun x hx => h x (by simp [Op.operands] at hx ⊢; simp [hx]))]
    | some m => rfl
  | fieldAddr s x f => simp only [rd]; rw [h x (by simp [Op.operands])]
  | field s x f => simp only [rd]; rw [h x (by simp [Op.operands])]
  | indexAddr t x i => simp only [rd]; rw [h x (by simp [Op.operands]), h i (by simp [Op.operands])]
  | index t x i => simp only [rd]; rw [h x (by simp [Op.operands]), h i (by simp [Op.operands])]
  | extract x k => simp only [rd]; rw [h x (by simp [Op.operands])]
  | build t ps => simp only [rd]; rw [opvs_congr h]
  | box t x => simp only [rd]; rw [h x (by simp [Op.operands])]
  | buildSlice t len ps => simp only [rd]; rw [opvs_congr h]
  | call c =>
    simp only [rd]
    rw [map_congr' (xs := c.args.toList) (fun x hx => h x (by simp [Op.operands, Call.operands]; first | exact .inr (by simpa using hx) | exact .inl (by simpa using hx) | simpa using hx))]
  | _ => rfl
end
theorem opv_looks {all : Array Oper} {o : Oper} {Γ Γ2 : Nat → AV} (h : ∀ t ∈ o.looksAt all, Γ t = Γ2 t) : ∀ x ∈ o.op.operands, opv Γ x = opv Γ2 x := by
  intro x hx
  cases x with
  | tmp t => exact h t (by unfold Oper.looksAt; simp only [List.mem_append, List.mem_filterMap]; exact .inl ⟨.tmp t, by simpa using hx, rfl⟩)
  | _ => rfl
def dstOf (ops : Array Oper) (j : Nat) : Option Tmp := (ops[j]?).bind (·.dst)
def hard (ops : Array Oper) (i j : Nat) : Prop := ∃ o, ops[i]? = some o ∧ ∃ e ∈ o.after, Region.binds .any e = true ∧ e.on = j
theorem hard_lt {ops : Array Oper} (hu : upTo ops) {i j : Nat} (h : hard ops i j) : j < i := by
  obtain ⟨o, ho, e, he, hb, rfl⟩ := h
  exact hu i o ho e he hb
end Go.Av
set_option linter.unusedVariables false
set_option linter.unusedSimpArgs false
namespace Go.Av
/-! ## 20. What is read of memory is read of every extension of it -/
def Ex (M M2 : Mem) : Prop := ∀ g B, M g = some B → M2 g = some B
theorem Ex.refl (M : Mem) : Ex M M := fun _ _ h => h
section
variable {T : Tab} {M M2 : Mem}
theorem one_mono (h : Ex M M2) {av : AV} (ho : one M av = true) : one M2 av = true := by
  cases av with
  | own g n sz => simp only [one] at ho ⊢; cases hg : M g with | none => rw [hg] at ho; cases ho | some B => rw [h g B hg]; rw [hg] at ho; exact ho
  | ptr g o => simp only [one] at ho ⊢; cases hg : M g with | none => rw [hg] at ho; cases ho | some B => rw [h g B hg]; rw [hg] at ho; exact ho
  | elp g n sz i o => simp only [one] at ho ⊢; cases hg : M g with | none => rw [hg] at ho; cases ho | some B => rw [h g B hg]; rw [hg] at ho; exact ho
  | mp g => simp only [one] at ho ⊢; cases hg : M g with | none => rw [hg] at ho; cases ho | some B => rw [h g B hg]; rw [hg] at ho; exact ho
  | yl g => simp only [one] at ho ⊢; cases hg : M g with | none => rw [hg] at ho; cases ho | some B => rw [h g B hg]; rw [hg] at ho; exact ho
  | _ => exact ho
theorem cellsOf_mono (h : Ex M M2) {av : AV} {l : List AV} (ho : cellsOf M av = some l) : cellsOf M2 av = some l := by
  have go : ∀ av, (if one M av = true then some [av] else none) = some l → (if one M2 av = true then some [av] else none) = some l := fun av k => by
    split at k
    · rename_i e; rw [if_pos (one_mono h e)]; exact k
    · cases k
  cases av with
  | ag n f =>
    simp only [cellsOf] at ho ⊢
    split at ho
    · rename_i e
      rw [if_pos (by rw [List.all_eq_true] at e ⊢; exact fun x hx => one_mono h (e x hx))]
      exact ho
    · cases ho
  | raw v => exact go (.raw v) ho
  | dead => exact go .dead ho
  | tup n f => exact go (.tup n f) ho
  | nilB n => exact go (.nilB n) ho
  | sl n sz f => exact go (.sl n sz f) ho
  | own g n sz => exact go (.own g n sz) ho
  | ptr g o => exact go (.ptr g o) ho
  | elp g n sz i o => exact go (.elp g n sz i o) ho
  | ref n f => exact go (.ref n f) ho
  | fn k n c => exact go (.fn k n c) ho
  | mp g => exact go (.mp g) ho
  | yl g => exact go (.yl g) ho
theorem rdLoad_mono (h : Ex M M2) {t : TypeId} {x v : AV} (ho : rdLoad T M t x = some v) : rdLoad T M2 t x = some v := by
  unfold rdLoad at ho ⊢
  split at ho
  · cases ho
  · split at ho
    · cases ho
    · rename_i h0
      rw [if_neg h0]
      cases x with
      | ptr g off => simp only at ho ⊢; cases hg : M g with | none => rw [hg] at ho; cases ho | some B => rw [h g B hg]; rw [hg] at ho; exact ho
      | elp g n sz i o => simp only at ho ⊢; cases hg : M g with | none => rw [hg] at ho; cases ho | some B => rw [h g B hg]; rw [hg] at ho; exact ho
      | _ => exact ho
theorem rdFieldAddr_mono (h : Ex M M2) {s : TypeId} {x v : AV} {k : Nat} (ho : rdFieldAddr T M s x k = some v) : rdFieldAddr T M2 s x k = some v := by
  cases x with
  | ptr g off => rw [rdFieldAddr_ptr] at ho ⊢; cases hg : M g with | none => rw [hg] at ho; unfold faP at ho; cases hf : fld T s k <;> rw [hf] at ho <;> cases ho | some B => rw [h g B hg]; rw [hg] at ho; exact ho
  | elp g n sz i o => rw [rdFieldAddr_elp] at ho ⊢; cases hg : M g with | none => rw [hg] at ho; unfold faE at ho; cases hf : fld T s k <;> rw [hf] at ho <;> cases ho | some B => rw [h g B hg]; rw [hg] at ho; exact ho
  | _ => exact ho
theorem rdIndexAddr_mono (h : Ex M M2) {t : TypeId} {x i v : AV} (ho : rdIndexAddr T M t x i = some v) : rdIndexAddr T M2 t x i = some v := by
  unfold rdIndexAddr at ho ⊢
  split at ho
  · split at ho
    · split at ho
      · exact ho
      · rename_i g n sz k j
        cases hg : M g with
        | none => simp [hg] at ho
        | some B => simp only [h g B hg]; simp only [hg] at ho; exact ho
      · cases ho
    · cases ho
  · split at ho
    · split at ho
      · rename_i g off k j
        cases hg : M g with
        | none => simp [hg] at ho
        | some B => simp only [h g B hg]; simp only [hg] at ho; exact ho
      · exact ho
      · cases ho
    · cases ho
  · cases ho
theorem rdLen_mono (h : Ex M M2) {t : TypeId} {x v : AV} (ho : rdLen T M t x = some v) : rdLen T M2 t x = some v := by
  cases x with
  | own g n sz =>
    rw [len_own] at ho ⊢
    cases hg : M g with
    | none => rw [hg] at ho; unfold lnO at ho; cases ht : T.ty t with | none => rw [ht] at ho; cases ho | some ty => rw [ht] at ho; cases ty <;> cases ho
    | some B => rw [h g B hg]; rw [hg] at ho; exact ho
  | raw u =>
    unfold rdLen at ho ⊢
    cases ht : T.ty t with
    | none => rw [ht] at ho; exact ho
    | some ty => rw [ht] at ho; cases ty <;> cases u <;> exact ho
  | _ =>
    unfold rdLen at ho ⊢
    cases ht : T.ty t with
    | none => rw [ht] at ho; exact ho
    | some ty => rw [ht] at ho; cases ty <;> exact ho
theorem fillA_mono (h : Ex M M2) {pl : Nat → Option (Nat × Nat)} : ∀ {ps : List (Nat × AV)} {l l' : List AV}, fillA pl M l ps = some l' → fillA pl M2 l ps = some l'
  | [], _, _, ho => ho
  | (k, av) :: ps, l, l', ho => by
    rw [fillA] at ho ⊢
    split at ho
    · rename_i o n cs e1 e2
      rw [e1, cellsOf_mono h e2]
      simp only
      split at ho
      · rename_i hc; rw [if_pos hc]; exact fillA_mono h ho
      · cases ho
    · cases ho
theorem rdBuild_mono (h : Ex M M2) {t : TypeId} {ps : List (Nat × AV)} {v : AV} (ho : rdBuild T M t ps = some v) : rdBuild T M2 t ps = some v := by
  unfold rdBuild at ho ⊢
  split at ho
  · split at ho
    · rename_i hall
      rw [if_pos hall]
      split at ho
      · rename_i l e; rw [fillA_mono h e]; exact ho
      · cases ho
    · cases ho
  · split at ho
    · split at ho
      · rename_i l e; rw [fillA_mono h e]; exact ho
      · cases ho
    · cases ho
  · cases ho
theorem litCells_mono (h : Ex M M2) {t : TypeId} {len : Nat} {ps : List (Nat × AV)} {v : TypeId × Nat × List AV} (ho : litCells T M t len ps = some v) : litCells T M2 t len ps = some v := by
  unfold litCells at ho ⊢
  split at ho
  · split at ho
    · split at ho
      · rename_i hc
        rw [if_pos hc]
        split at ho
        · rename_i l e; rw [fillA_mono h e]; exact ho
        · cases ho
      · cases ho
    · cases ho
  · cases ho
theorem rdBlt_mono (h : Ex M M2) {b : Builtin} {ts : Array TypeId} {al : List AV} {v : AV} (ho : rdBlt T M b ts al = some v) : rdBlt T M2 b ts al = some v := by
  unfold rdBlt at ho ⊢
  split at ho
  · split at ho
    · exact rdLen_mono h ho
    · cases ho
  · exact ho
  · exact ho
  · cases ho
theorem rd_mono (h : Ex M M2) {own : List Tmp} {d : Option Tmp} {Γ : Nat → AV} {op : Op} {v : AV} (ho : rd T own d Γ M op = some v) : rd T own d Γ M2 op = some v := by
  cases op with
  | load t x => exact rdLoad_mono h ho
  | fieldAddr s x f => exact rdFieldAddr_mono h ho
  | indexAddr t x i => exact rdIndexAddr_mono h ho
  | build t ps => exact rdBuild_mono h ho
  | box t x =>
    simp only [rd] at ho ⊢
    split at ho
    · rename_i l e; rw [cellsOf_mono h e]; exact ho
    · cases ho
  | buildSlice t len ps =>
    simp only [rd] at ho ⊢
    split at ho
    · rename_i a b c e; rw [litCells_mono h e]; exact ho
    · cases ho
  | call c =>
    simp only [rd] at ho ⊢
    split at ho
    · exact rdBlt_mono h ho
    · cases ho
  | _ => exact ho
end
end Go.Av
set_option linter.unusedVariables false
set_option linter.unusedSimpArgs false
namespace Go.Av
/-! ## 21. The order of a region that draws: closure -/
inductive Reach (ops : Array Oper) : Nat → Nat → Prop where
  | one {i j : Nat} (h : hard ops i j) : Reach ops i j
  | more {i j k : Nat} (h : hard ops i j) (r : Reach ops j k) : Reach ops i k
theorem Reach.trans {ops : Array Oper} {i j k : Nat} (h : Reach ops i j) (r : Reach ops j k) : Reach ops i k := by
  induction h with
  | one h => exact .more h r
  | more h _ ih => exact .more h (ih r)
theorem Reach.lt {ops : Array Oper} (hu : upTo ops) {i j : Nat} (h : Reach ops i j) : j < i := by
  induction h with
  | one h => exact hard_lt hu h
  | more h k ih => exact Nat.lt_trans ih (hard_lt hu h)
def closed (ops : Array Oper) (S : Nat → Bool) : Prop := ∀ i j, S i = true → hard ops i j → S j = true
theorem closed.reach {ops : Array Oper} {S : Nat → Bool} (h : closed ops S) {i j : Nat} (k : Reach ops i j) : S i = true → S j = true := by
  induction k with
  | one k => exact fun hi => h _ _ hi k
  | more k _ ih => exact fun hi => ih (h _ _ hi k)
theorem before_reach (ops : Array Oper) : ∀ i k, ((Region.before ops).getD i 0).testBit k = true → Reach ops i k := by
  have key := Array.foldl_induction (as := ops) (motive := fun p (acc : Array Nat) => acc.size = p ∧ ∀ i k, (acc.getD i 0).testBit k = true → Reach ops i k)
    (init := #[]) (f := fun acc o => acc.push (o.after.foldl (fun s e => if Region.binds .any e then s ||| 2 ^ e.on ||| acc.getD e.on 0 else s) 0)) ⟨rfl, fun i k h => by simp at h⟩ (fun p acc ⟨hs, h⟩ => by
      refine ⟨by simp [hs], fun i k hb => ?_⟩
      by_cases hi : i = acc.size
      · have e : (acc.push (ops[p].after.foldl (fun s e => if Region.binds .any e then s ||| 2 ^ e.on ||| acc.getD e.on 0 else s) 0)).getD i 0 = ops[p].after.foldl (fun s e => if Region.binds .any e then s ||| 2 ^ e.on ||| acc.getD e.on 0 else s) 0 := by
          subst hi; simp [Array.getD_eq_getD_getElem?]
        have hb' : (ops[p].after.foldl (fun s e => if Region.binds .any e then s ||| 2 ^ e.on ||| acc.getD e.on 0 else s) 0).testBit k = true := by rw [← e]; exact hb
        have inner := Array.foldl_induction (as := ops[p].after) (motive := fun _ (s : Nat) => ∀ k, s.testBit k = true → Reach ops p k) (init := 0) (f := fun s e => if Region.binds .any e then s ||| 2 ^ e.on ||| acc.getD e.on 0 else s)
          (fun k hk => by simp at hk) (fun q s hq k hk => by
            have hh : Region.binds .any ops[p].after[q] = true → hard ops p ops[p].after[q].on := fun hbi => ⟨ops[p], by simp, _, by simp, hbi, rfl⟩
            split at hk
            · rename_i hbi
              rw [Nat.testBit_or, Nat.testBit_or, Bool.or_eq_true, Bool.or_eq_true] at hk
              rcases hk with (hk | hk) | hk
              · exact hq k hk
              · rw [Nat.testBit_two_pow, decide_eq_true_eq] at hk
                rw [← hk]; exact .one (hh hbi)
              · exact .more (hh hbi) (h _ _ hk)
            · exact hq k hk)
        rw [hi, hs]
        exact inner k hb'
      · refine h i k ?_
        have e : (acc.push (ops[p].after.foldl (fun s e => if Region.binds .any e then s ||| 2 ^ e.on ||| acc.getD e.on 0 else s) 0)).getD i 0 = acc.getD i 0 := by
          simp only [Array.getD_eq_getD_getElem?, Array.getElem?_push, if_neg hi]
        rw [← e]; exact hb)
  exact key.2
/-- the last number below n of which p is true -/
def lastB (p : Nat → Bool) : Nat → Option Nat
  | 0 => none
  | n + 1 => if p n then some n else lastB p n
theorem lastB_congr {p q : Nat → Bool} : ∀ {n : Nat}, (∀ j, j < n → p j = q j) → lastB p n = lastB q n
  | 0, _ => rfl
  | n + 1, h => by simp only [lastB, h n (by omega)]; rw [lastB_congr (fun j hj => h j (by omega))]
theorem lastB_some {p : Nat → Bool} : ∀ {n j : Nat}, lastB p n = some j → j < n ∧ p j = true
  | n + 1, j, h => by
    simp only [lastB] at h
    split at h
    · rename_i hp; cases h; exact ⟨by omega, hp⟩
    · have := lastB_some h; exact ⟨by omega, this.2⟩
theorem lastB_eq {p : Nat → Bool} : ∀ {n i : Nat}, i < n → p i = true → (∀ j, i < j → j < n → p j = false) → lastB p n = some i
  | n + 1, i, hi, hp, h => by
    simp only [lastB]
    by_cases e : i = n
    · subst e; rw [if_pos hp]
    · rw [if_neg (by rw [h n (by omega) (by omega)]; simp)]
      exact lastB_eq (by omega) hp (fun j h1 h2 => h j h1 (by omega))
end Go.Av
set_option linter.unusedVariables false
set_option linter.unusedSimpArgs false
namespace Go.Av
/-! ## 22. One operation of a region that draws -/
/-- memory without some blocks -/
def mk (E : List Nat) (M : Mem) : Mem := fun g => if g ∈ E then none else M g
theorem mk_nil (M : Mem) : mk [] M = M := by funext g; simp [mk]
def OffAg (E : List Nat) (M M2 : Mem) : Prop := ∀ g, M g ≠ none → g ∉ E → M2 g = M g
theorem OffAg.ex {E : List Nat} {M M2 : Mem} (h : OffAg E M M2) : Ex (mk E M) M2 := fun g B hg => by
  unfold mk at hg
  split at hg
  · cases hg
  · rename_i hn; exact (h g (by rw [hg]; simp) hn).trans hg
/-- a new block that later ones beside it do not see -/
def newOk (E : Nat → List Nat) (i g : Nat) (U : List Nat) : Prop := g ∉ E i ∧ ∀ j ∈ U, i < j → g ∈ E j
def oldOk (E : Nat → List Nat) (g : Nat) (U : List Nat) : Prop := ∀ j ∈ U, g ∈ E j
def upW (M : Mem) : Option (Nat × Blk) → Mem
  | none => M
  | some (g, B) => upM M g B
/-- what an operation may write: nothing, its new block, a block that lies -/
def Wok (E : Nat → List Nat) (i g : Nat) (U : List Nat) (M : Mem) : Option (Nat × Blk) → Prop
  | none => True
  | some (g', _) => (g' = g ∧ newOk E i g U) ∨ (mk (E i) M g' ≠ none ∧ oldOk E g' U)
/-- what a store does -/
def stW (T : Tab) (M : Mem) (t : TypeId) (x v : AV) : Option (Nat × Blk) :=
  match T.ty t, cellsOf M v with
  | some ty, some l => if l.length = ty.cells then match x with
    | .ptr g off => match M g with
      | some (.cells e n cs) => if off + l.length ≤ n then some (g, .cells e n (ovr cs off l)) else none
      | _ => none
    | .elp g n sz i o => match M g with
      | some (.row e n' sz' f) => if n' = n ∧ sz' = sz ∧ i < n ∧ o + l.length ≤ sz then some (g, .row e n sz (fun i' j => if i' = i then ovr (f i) o l j else f i' j)) else none
      | _ => none
    | _ => none else none
  | _, _ => none
theorem stW_spec {T : Tab} {M : Mem} {t : TypeId} {x v : AV} {g : Nat} {B : Blk} (h : stW T M t x v = some (g, B)) : M g ≠ none ∧ ∀ M2, Ex M M2 → stMem T M2 t x v = some (upM M2 g B) := by
  unfold stW at h
  split at h
  · rename_i ty l ht hc
    split at h
    · rename_i hl
      split at h
      · rename_i g' off
        split at h
        · rename_i e n cs hg
          split at h
          · rename_i hle
            cases h
            refine ⟨by rw [hg]; simp, fun M2 hx => ?_⟩
            unfold stMem
            simp only [ht, cellsOf_mono hx hc, if_pos hl, hx _ _ hg, if_pos hle]
          · cases h
        · cases h
      · rename_i g' n sz i o
        split at h
        · rename_i e n' sz' f hg
          split at h
          · rename_i hle
            cases h
            refine ⟨by rw [hg]; simp, fun M2 hx => ?_⟩
            unfold stMem
            simp only [ht, cellsOf_mono hx hc, if_pos hl, hx _ _ hg, if_pos hle]
          · cases h
        · cases h
      · cases h
    · cases h
  · cases h
def FApp (X : Fx) (E : Nat → List Nat) (i : Nat) (U : List Nat) (g : Nat) (ts : List TypeId) (as : List AV) (M : Mem) (K : AV → Mem → Prop) : Prop :=
  match ts, as with
  | [t, t'], [s, x] => t' = t ∧ match X.T.ty t with
    | some (.slice e) => match X.T.ty e, X.T.zero e, X.T.bytes e with
      | some te, some zs, some bt => 0 < te.cells ∧ zs.length = te.cells ∧ 0 < bt ∧ oK (srcOf (mk (E i) M) te.cells x) fun p => oK (baseOf (mk (E i) M) e te.cells s) fun q =>
          (∀ i' j, i' < p.1 → j < te.cells → one (mk (E i) M) (p.2 i' j) = true) ∧ (q.2.1 + p.1) * bt ≤ 140737488355328 ∧ match q.1 with
            | none => newOk E i g U ∧ K (.own g (q.2.1 + p.1) te.cells) (upM M g (.row e (q.2.1 + p.1) te.cells (cat q.2.1 q.2.2 p.2)))
            | some g0 => oldOk E g0 U ∧ K (.own g0 (q.2.1 + p.1) te.cells) (upM M g0 (.row e (q.2.1 + p.1) te.cells (cat q.2.1 q.2.2 p.2)))
      | _, _, _ => False
    | _ => False
  | _, _ => False
def FO (X : Fx) (E : Nat → List Nat) (i : Nat) (U : List Nat) (g : Nat) (d : Option Tmp) (op : Op) (Γ : Nat → AV) (M : Mem) (K : AV → Mem → Prop) : Prop :=
  dOk X.N d ∧ match op with
  | .alloc t => oK (X.T.zero t) fun zs => newOk E i g U ∧ K (.ptr g 0) (upM M g (.cells t zs.length (lst (zs.map .raw))))
  | .box t x => if isOwn X.own d = true then oK (cellsOf (mk (E i) M) (opv Γ x)) fun l => newOk E i g U ∧ K (.ptr g 0) (upM M g (.cells t l.length (lst l))) else oK (rd X.T X.own d Γ (mk (E i) M) (.box t x)) fun v => K v M
  | .buildSlice t len ps => if isOwn X.own d = true then oK (litCells X.T (mk (E i) M) t len (opvs Γ ps)) fun p => len ≤ maxLen ∧ newOk E i g U ∧ K (.own g len p.2.1) (upM M g (.row p.1 len p.2.1 (fun i j => lst p.2.2 (i * p.2.1 + j)))) else oK (rd X.T X.own d Γ (mk (E i) M) (.buildSlice t len ps)) fun v => K v M
  | .store t x v => oK (stW X.T (mk (E i) M) t (opv Γ x) (opv Γ v)) fun p => oldOk E p.1 U ∧ K (.raw undef) (upM M p.1 p.2)
  | .call c => match c.callee with
    | .builtin .append => FApp X E i U g c.argTypes.toList (c.args.toList.map (opv Γ)) M K
    | .builtin b => oK (rdBlt X.T (mk (E i) M) b c.argTypes (c.args.toList.map (opv Γ))) fun v => K v M
    | .value h => match opv Γ h with
      | .fn (.func q) n cap => ∃ v W, Wok E i g U M W ∧ (∀ M2, Ex (mk (E i) M) M2 → M2 g = none → ACalls X.P q (callArgs Γ c n cap) M2 fun r M' => r = v ∧ M' = upW M2 W) ∧ K v (upW M W)
      | _ => False
    | .invoke .. => False
  | op => oK (rd X.T X.own d Γ (mk (E i) M) op) fun v => K v M
theorem oK_intro {α : Type} {x : Option α} {v : α} {K : α → Prop} (h : x = some v) (k : K v) : oK x K := by subst h; exact k
theorem srcOf_mono {M M2 : Mem} (h : Ex M M2) {sz : Nat} {x : AV} {p : Nat × (Nat → Nat → AV)} (ho : srcOf M sz x = some p) : srcOf M2 sz x = some p := by
  unfold srcOf at ho ⊢
  split at ho
  · exact ho
  · split at ho
    · rename_i hg; rw [h _ _ hg]; exact ho
    · cases ho
  · exact ho
  · cases ho
theorem baseOf_mono {M M2 : Mem} (h : Ex M M2) {e sz : Nat} {x : AV} {p : Option Nat × Nat × (Nat → Nat → AV)} (ho : baseOf M e sz x = some p) : baseOf M2 e sz x = some p := by
  unfold baseOf at ho ⊢
  split at ho
  · split at ho
    · rename_i hg; rw [h _ _ hg]; exact ho
    · cases ho
  · exact ho
  · cases ho
theorem baseOf_some {M : Mem} {e sz g n : Nat} {x : AV} {f : Nat → Nat → AV} (ho : baseOf M e sz x = some (some g, n, f)) : M g ≠ none := by
  unfold baseOf at ho
  split at ho
  · split at ho
    · rename_i hg
      split at ho
      · cases ho; rw [hg]; simp
      · cases ho
    · cases ho
  · cases ho
  · cases ho
theorem FO.fact {X : Fx} {E : Nat → List Nat} {i : Nat} {U : List Nat} {g : Nat} {o : Oper} {Γ : Nat → AV} {M : Mem} {K : AV → Mem → Prop} (h : FO X E i U g o.dst o.op Γ M K) :
    ∃ v W, K v (upW M W) ∧ Wok E i g U M W ∧ ∀ (Γ2 : Nat → AV) (M2 : Mem), (∀ x ∈ o.op.operands, opv Γ x = opv Γ2 x) → OffAg (E i) M M2 → M2 g = none → ∀ K2 : (Nat → AV) → Mem → Prop, K2 (put Γ2 o.dst v) (upW M2 W) → EOp X o Γ2 M2 K2 := by
  obtain ⟨dst, op, ty, pos, after, guard⟩ := o
  obtain ⟨hd, h⟩ := h
  have R : ∀ op : Op, oK (rd X.T X.own dst Γ (mk (E i) M) op) (fun v => K v M) → (∀ (Γ2 : Nat → AV) (M2 : Mem) (K2 : (Nat → AV) → Mem → Prop), oK (rd X.T X.own dst Γ2 M2 op) (fun v => K2 (put Γ2 dst v) M2) → EOp X ⟨dst, op, ty, pos, after, guard⟩ Γ2 M2 K2) →
      ∃ v W, K v (upW M W) ∧ Wok E i g U M W ∧ ∀ (Γ2 : Nat → AV) (M2 : Mem), (∀ x ∈ op.operands, opv Γ x = opv Γ2 x) → OffAg (E i) M M2 → M2 g = none → ∀ K2 : (Nat → AV) → Mem → Prop, K2 (put Γ2 dst v) (upW M2 W) → EOp X ⟨dst, op, ty, pos, after, guard⟩ Γ2 M2 K2 := by
    intro op hr hop
    obtain ⟨v, h1, h2⟩ := oK_some hr
    refine ⟨v, none, h2, trivial, fun Γ2 M2 hx ho _ K2 hk2 => hop Γ2 M2 K2 ?_⟩
    rw [← rd_congr hx, rd_mono ho.ex h1]
    exact hk2
  cases op with
  | alloc t =>
    obtain ⟨zs, h1, hn, h2⟩ := oK_some h
    refine ⟨_, some (g, _), h2, .inl ⟨rfl, hn⟩, fun Γ2 M2 hx ho hg K2 hk => ⟨hd, ?_⟩⟩
    show oK _ _
    rw [h1]
    exact .inr ⟨g, hg, hk⟩
  | store t x v =>
    obtain ⟨⟨g', B'⟩, h1, hE, h2⟩ := oK_some h
    obtain ⟨e1, e4⟩ := stW_spec h1
    refine ⟨_, some (g', B'), h2, .inr ⟨e1, hE⟩, fun Γ2 M2 hx ho hg K2 hk => ⟨hd, ?_⟩⟩
    show oK _ _
    rw [← hx x (by simp [Op.operands]), ← hx v (by simp [Op.operands]), e4 M2 ho.ex]
    exact hk
  | box t x =>
    simp only at h
    by_cases hown : isOwn X.own dst = true
    · rw [if_pos hown] at h
      obtain ⟨l, h1, hn, h2⟩ := oK_some h
      refine ⟨_, some (g, _), h2, .inl ⟨rfl, hn⟩, fun Γ2 M2 hx ho hg K2 hk => ⟨hd, ?_⟩⟩
      show ite _ _ _
      rw [if_pos hown, ← hx x (by simp [Op.operands]), cellsOf_mono ho.ex h1]
      exact .inr ⟨g, hg, hk⟩
    · rw [if_neg hown] at h
      refine R _ h fun Γ2 M2 K2 hk => ⟨hd, ?_⟩
      show ite _ _ _
      rw [if_neg hown]
      exact hk
  | buildSlice t len ps =>
    simp only at h
    by_cases hown : isOwn X.own dst = true
    · rw [if_pos hown] at h
      obtain ⟨p, h1, hlen, hn, h2⟩ := oK_some h
      refine ⟨_, some (g, _), h2, .inl ⟨rfl, hn⟩, fun Γ2 M2 hx ho hg K2 hk => ⟨hd, ?_⟩⟩
      show ite _ _ _
      rw [if_pos hown, ← opvs_congr hx, litCells_mono ho.ex h1]
      exact ⟨hlen, .inr ⟨g, hg, hk⟩⟩
    · rw [if_neg hown] at h
      refine R _ h fun Γ2 M2 K2 hk => ⟨hd, ?_⟩
      show ite _ _ _
      rw [if_neg hown]
      exact hk
  | call c =>
    simp only at h
    have ea : ∀ Γ2 : Nat → AV, (∀ x ∈ (Op.call c).operands, opv Γ x = opv Γ2 x) → c.args.toList.map (opv Γ) = c.args.toList.map (opv Γ2) := fun Γ2 hx =>
      map_congr' (xs := c.args.toList) (fun x hx' => hx x (by simp [Op.operands, Call.operands]; exact .inr (by simpa using hx')))
    split at h
    · rename_i hcal
      unfold FApp at h
      split at h
      · rename_i t t' s x hts has
        obtain ⟨rfl, h⟩ := h
        split at h
        · rename_i e ht'
          split at h
          · rename_i te zs bt hte hz hb
            obtain ⟨hpos, hzl, hbp, h⟩ := h
            obtain ⟨p, hp, h⟩ := oK_some h
            obtain ⟨q, hq, h⟩ := oK_some h
            obtain ⟨hone, hbytes, h⟩ := h
            have run : ∀ (g' : Nat) (Γ2 : Nat → AV) (M2 : Mem), (∀ x ∈ (Op.call c).operands, opv Γ x = opv Γ2 x) → OffAg (E i) M M2 → gOk M2 g' q.1 → ∀ K2 : (Nat → AV) → Mem → Prop, K2 (put Γ2 dst (.own g' (q.2.1 + p.1) te.cells)) (upM M2 g' (.row e (q.2.1 + p.1) te.cells (cat q.2.1 q.2.2 p.2))) → EOp X ⟨dst, .call c, ty, pos, after, guard⟩ Γ2 M2 K2 := by
              intro g' Γ2 M2 hx ho hgo K2 hk
              refine ⟨hd, ?_⟩
              simp only [hcal]
              unfold EApp
              rw [← ea Γ2 hx]
              simp only [hts, has, ht', hte, hz, hb]
              refine ⟨trivial, hpos, hzl, hbp, oK_intro (srcOf_mono ho.ex hp) (oK_intro (baseOf_mono ho.ex hq) ⟨fun i' j h1 h2 => one_mono ho.ex (hone i' j h1 h2), hbytes, .inr ⟨g', hgo, hk⟩⟩)⟩
            obtain ⟨g?, n, f⟩ := q
            cases g? with
            | none =>
              obtain ⟨hn, h⟩ := h
              exact ⟨_, some (g, _), h, .inl ⟨rfl, hn⟩, fun Γ2 M2 hx ho hg K2 hk => run g Γ2 M2 hx ho hg K2 hk⟩
            | some g0 =>
              obtain ⟨hn, h⟩ := h
              exact ⟨_, some (g0, _), h, .inr ⟨baseOf_some hq, hn⟩, fun Γ2 M2 hx ho hg K2 hk => run g0 Γ2 M2 hx ho rfl K2 hk⟩
          · exact h.elim
        · exact h.elim
      · exact h.elim
    · rename_i b hne hcal
      have e : ∀ (Γ2 : Nat → AV) (M2 : Mem), rd X.T X.own dst Γ2 M2 (.call c) = rdBlt X.T M2 b c.argTypes (c.args.toList.map (opv Γ2)) := fun Γ2 M2 => by simp [rd, hcal]
      refine R (.call c) (by rw [e]; exact h) fun Γ2 M2 K2 hk => ⟨hd, ?_⟩
      rw [e] at hk
      simp only [hcal]
      exact hk
    · rename_i q hcal
      split at h
      · rename_i q' n cap hop
        obtain ⟨v, W, hw, h1, h2⟩ := h
        refine ⟨v, W, h2, hw, fun Γ2 M2 hx ho hg K2 hk => ⟨hd, ?_⟩⟩
        have ef : opv Γ2 q = .fn (.func q') n cap := by rw [← hx q (by simp [Op.operands, Call.operands, hcal])]; exact hop
        have ea : callArgs Γ2 c n cap = callArgs Γ c n cap := by
          unfold callArgs
          rw [ea Γ2 hx]
        simp only [hcal, ef, ea]
        exact (h1 M2 ho.ex hg).mono (by rintro r M' ⟨rfl, rfl⟩; exact hk)
      · exact h.elim
    · exact h.elim
  | _ => exact R _ h fun Γ2 M2 K2 hk => ⟨hd, hk⟩
end Go.Av
set_option linter.unusedVariables false
set_option linter.unusedSimpArgs false
namespace Go.Av
/-! ## 23. Regions that draw: every order gives what the text's order gives -/
/-- the operations of a region that draws, in the order of the text: one that stands beside none runs as any other; of those between two such ones what they do is told ahead -/
def FG (X : Fx) (E : Nat → List Nat) (i : Nat) (U : List Nat) (g : Nat) (o : SOp) (Γ : Nat → AV) (M : Mem) (K : (Nat → AV) → Mem → Prop) : Prop :=
  match o.g with
  | none => FO X E i U g o.d o.op Γ M fun v M' => K (put Γ o.d v) M'
  | some (some d, want) => match Γ d with
    | .raw (.bool b) => (b = want → FO X E i U g o.d o.op (up Γ d (.raw (.bool want))) M fun v M' => K (put (up Γ d (.raw (.bool want))) o.d v) M') ∧ (b = (!want) → dOk X.N o.d ∧ K (put (up Γ d (.raw (.bool (!want)))) o.d (.raw undef)) M)
    | .raw (.tuple _) => dOk X.N o.d ∧ K (put Γ o.d (.raw undef)) M
    | _ => False
  | some (none, _) => False
/-- ids that are free: whichever they are, or ones that are picked -/
def NewG (M : Mem) (J : (Nat → Nat) → Prop) : Prop := (∀ gs : Nat → Nat, (∀ i, M (gs i) = none) → (∀ i j, gs i = gs j → i = j) → J gs) ∨ ∃ gs : Nat → Nat, (∀ i, M (gs i) = none) ∧ (∀ i j, gs i = gs j → i = j) ∧ J gs
theorem NewG.mono {M : Mem} {J J' : (Nat → Nat) → Prop} (hm : ∀ gs, J gs → J' gs) : NewG M J → NewG M J'
  | .inl h => .inl fun gs h1 h2 => hm gs (h gs h1 h2)
  | .inr ⟨gs, h1, h2, h3⟩ => .inr ⟨gs, h1, h2, hm gs h3⟩
theorem NewG.get {M : Mem} {J : (Nat → Nat) → Prop} {N : Nat} (hN : ∀ g, N ≤ g → M g = none) : NewG M J → ∃ gs : Nat → Nat, (∀ i, M (gs i) = none) ∧ (∀ i j, gs i = gs j → i = j) ∧ J gs
  | .inl h => ⟨fun i => N + i, fun i => hN _ (Nat.le_add_right _ _), fun i j e => by simpa using e, h _ (fun i => hN _ (Nat.le_add_right _ _)) (fun i j e => by simpa using e)⟩
  | .inr h => h
def FR (X : Fx) : Option ((Nat → List Nat) × (Nat → Nat)) → Nat → List (SOp × List Nat) → (Nat → AV) → Mem → ((Nat → AV) → Mem → Prop) → Prop
  | _, _, [], Γ, M, K => K Γ M
  | _, i, (o, []) :: l, Γ, M, K => SL X [o] Γ M fun Γ' M' => FR X none (i + 1) l Γ' M' K
  | none, i, (o, u :: U) :: l, Γ, M, K => NewG M fun gs => ∃ E, FG X E i (u :: U) (gs i) o Γ M fun Γ' M' => FR X (some (E, gs)) (i + 1) l Γ' M' K
  | some (E, gs), i, (o, u :: U) :: l, Γ, M, K => FG X E i (u :: U) (gs i) o Γ M fun Γ' M' => FR X (some (E, gs)) (i + 1) l Γ' M' K
theorem FG.fact {X : Fx} {all : Array Oper} {E : Nat → List Nat} {i : Nat} {U : List Nat} {g : Nat} {o : Oper} {Γ : Nat → AV} {M : Mem} {K : (Nat → AV) → Mem → Prop} (h : FG X E i U g (slimOp all o) Γ M K) :
    ∃ v W, K (put Γ o.dst v) (upW M W) ∧ Wok E i g U M W ∧ ∀ (Γ2 : Nat → AV) (M2 : Mem), (∀ t ∈ o.looksAt all, Γ t = Γ2 t) → OffAg (E i) M M2 → M2 g = none → ∀ K2 : (Nat → AV) → Mem → Prop, K2 (put Γ2 o.dst v) (upW M2 W) → EG X all o Γ2 M2 K2 := by
  unfold FG slimOp at h
  simp only at h
  cases hg : o.guard with
  | none =>
    rw [hg] at h
    obtain ⟨v, W, h1, h2, h3⟩ := FO.fact (o := o) h
    refine ⟨v, W, h1, h2, fun Γ2 M2 hl ho hn K2 hk => ?_⟩
    unfold EG guardOf
    rw [hg]
    exact h3 Γ2 M2 (opv_looks hl) ho hn K2 hk
  | some jw =>
    obtain ⟨j, want⟩ := jw
    rw [hg] at h
    simp only [Option.map_some] at h
    cases hd : (all[j]?).bind (·.dst) with
    | none => rw [hd] at h; exact h.elim
    | some d =>
      rw [hd] at h
      simp only at h
      have hdl : d ∈ o.looksAt all := by unfold Oper.looksAt; rw [hg]; simp [hd]
      have skip : dOk X.N o.dst → K (put Γ o.dst (.raw undef)) M → (∀ (Γ2 : Nat → AV) (M2 : Mem), (∀ t ∈ o.looksAt all, Γ t = Γ2 t) → ∀ K2 : (Nat → AV) → Mem → Prop, (dOk X.N o.dst ∧ K2 (put Γ2 o.dst (.raw undef)) M2) → EG X all o Γ2 M2 K2) →
          ∃ v W, K (put Γ o.dst v) (upW M W) ∧ Wok E i g U M W ∧ ∀ (Γ2 : Nat → AV) (M2 : Mem), (∀ t ∈ o.looksAt all, Γ t = Γ2 t) → OffAg (E i) M M2 → M2 g = none → ∀ K2 : (Nat → AV) → Mem → Prop, K2 (put Γ2 o.dst v) (upW M2 W) → EG X all o Γ2 M2 K2 :=
        fun h1 h2 h3 => ⟨_, none, h2, trivial, fun Γ2 M2 hl _ _ K2 hk => h3 Γ2 M2 hl K2 ⟨h1, hk⟩⟩
      cases hΓ : Γ d with
      | raw u =>
        rw [hΓ] at h
        cases u with
        | bool b =>
          simp only at h
          by_cases e : b = want
          · have h' := h.1 e
            rw [up_same (by rw [hΓ, e])] at h'
            obtain ⟨v, W, h1, h2, h3⟩ := FO.fact (o := o) h'
            refine ⟨v, W, h1, h2, fun Γ2 M2 hl ho hn K2 hk => ?_⟩
            unfold EG guardOf
            rw [hg]
            simp only [hd, ← hl d hdl, hΓ]
            exact ⟨fun _ => h3 Γ2 M2 (opv_looks hl) ho hn K2 hk, fun e' => by subst e; cases b <;> simp at e'⟩
          · have e2 : b = !want := by cases b <;> cases want <;> simp_all
            have h' := h.2 e2
            rw [up_same (by rw [hΓ, e2])] at h'
            refine skip h'.1 h'.2 fun Γ2 M2 hl K2 hk => ?_
            unfold EG guardOf
            rw [hg]
            simp only [hd, ← hl d hdl, hΓ]
            exact ⟨fun e' => absurd e' e, fun _ => hk⟩
        | tuple cs =>
          simp only at h
          refine skip h.1 h.2 fun Γ2 M2 hl K2 hk => ?_
          unfold EG guardOf
          rw [hg]
          simp only [hd, ← hl d hdl, hΓ]
          exact hk
        | _ => exact h.elim
      | _ => rw [hΓ] at h; exact h.elim
def slotsS (ops : Array Oper) (Γ0 : Nat → AV) (V : Nat → AV) (S : Nat → Bool) : Nat → AV := fun t =>
  match lastB (fun j => dstOf ops j == some t && S j) ops.size with
  | some j => V j
  | none => Γ0 t
def wId (W : Option (Nat × Blk)) : Option Nat := W.map (·.1)
def memS (n : Nat) (M0 : Mem) (W : Nat → Option (Nat × Blk)) (S : Nat → Bool) : Mem := fun g =>
  match lastB (fun j => wId (W j) == some g && S j) n with
  | some j => (W j).map (·.2)
  | none => M0 g
section
variable {X : Fx} {ops : Array Oper} {Γ0 : Nat → AV} {M0 : Mem} {V V' : Nat → AV} {W W' : Nat → Option (Nat × Blk)} {S S' : Nat → Bool} {n : Nat}
theorem slotsS_congr {t : Nat} (h : ∀ j, j < ops.size → dstOf ops j = some t → S j = S' j) (hV : ∀ j, j < ops.size → S j = true → V j = V' j) : slotsS ops Γ0 V S t = slotsS ops Γ0 V' S' t := by
  unfold slotsS
  have e : lastB (fun j => dstOf ops j == some t && S j) ops.size = lastB (fun j => dstOf ops j == some t && S' j) ops.size := lastB_congr fun j hj => by
    by_cases hd : dstOf ops j = some t
    · rw [h j hj hd]
    · have : (dstOf ops j == some t) = false := by simpa using hd
      rw [this]; rfl
  rw [← e]
  cases hf : lastB (fun j => dstOf ops j == some t && S j) ops.size with
  | none => rfl
  | some j =>
    obtain ⟨h1, h2⟩ := lastB_some hf
    simp at h2
    exact hV j h1 h2.2
theorem memS_congr {g : Nat} (hW : ∀ j, j < n → (S j = true ∨ S' j = true) → W j = W' j) (h : ∀ j, j < n → (wId (W j) = some g ∨ wId (W' j) = some g) → S j = S' j) : memS n M0 W S g = memS n M0 W' S' g := by
  unfold memS
  have e : lastB (fun j => wId (W j) == some g && S j) n = lastB (fun j => wId (W' j) == some g && S' j) n := lastB_congr fun j hj => by
    by_cases hs : S j = true ∨ S' j = true
    · rw [hW j hj hs]
      by_cases hd : wId (W' j) = some g
      · rw [h j hj (.inr hd)]
      · have : (wId (W' j) == some g) = false := by simpa using hd
        rw [this]; rfl
    · have h1 : S j = false := by cases e : S j <;> simp_all
      have h2 : S' j = false := by cases e : S' j <;> simp_all
      rw [h1, h2]; simp
  rw [← e]
  cases hf : lastB (fun j => wId (W j) == some g && S j) n with
  | none => rfl
  | some j =>
    obtain ⟨h1, h2⟩ := lastB_some hf
    simp at h2
    simp only [hW j h1 (.inl h2.2)]
theorem slotsS_put {i : Nat} {o : Oper} (ho : ops[i]? = some o) (h : ∀ j, i < j → S j = true → ∀ t, dstOf ops i = some t → dstOf ops j ≠ some t) : put (slotsS ops Γ0 V S) o.dst (V i) = slotsS ops Γ0 V (fun j => j == i || S j) := by
  have hi : i < ops.size := (Array.getElem?_eq_some_iff.1 ho).1
  have hd : dstOf ops i = o.dst := by simp [dstOf, ho]
  funext t
  have other : dstOf ops i ≠ some t → slotsS ops Γ0 V S t = slotsS ops Γ0 V (fun j => j == i || S j) t := fun hne =>
    slotsS_congr (fun j hj hdj => by
      by_cases e : j = i
      · subst e; exact absurd hdj hne
      · simp [e]) (fun _ _ _ => rfl)
  cases ht : o.dst with
  | none => exact other (by rw [hd, ht]; simp)
  | some d =>
    show up _ d (V i) t = _
    unfold up
    by_cases e : t = d
    · subst e
      rw [if_pos rfl]
      unfold slotsS
      rw [lastB_eq (i := i) hi (by simp [hd, ht]) (fun j h1 h2 => by
        cases hs : S j with
        | false => simp [show j ≠ i by omega, hs]
        | true =>
          have := h j h1 hs t (by rw [hd, ht])
          simp [this])]
    · rw [if_neg e]
      exact other (by rw [hd, ht]; simpa using Ne.symm e)
theorem memS_up {i : Nat} (hi : i < n) (h : ∀ j, i < j → j < n → S j = true → ∀ g, wId (W i) = some g → wId (W j) ≠ some g) : upW (memS n M0 W S) (W i) = memS n M0 W (fun j => j == i || S j) := by
  funext g
  have other : wId (W i) ≠ some g → memS n M0 W S g = memS n M0 W (fun j => j == i || S j) g := fun hne =>
    memS_congr (fun _ _ _ => rfl) (fun j hj hdj => by
      by_cases e : j = i
      · subst e; rcases hdj with hdj | hdj <;> exact absurd hdj hne
      · simp [e])
  cases hW : W i with
  | none => exact other (by rw [hW]; simp [wId])
  | some p =>
    obtain ⟨g', B⟩ := p
    show upM _ g' B g = _
    by_cases e : g = g'
    · subst e
      rw [upM_self]
      unfold memS
      rw [lastB_eq (i := i) hi (by simp [hW, wId]) (fun j h1 h2 => by
        cases hs : S j with
        | false => simp [show j ≠ i by omega, hs]
        | true =>
          have := h j h1 h2 hs g (by simp [hW, wId])
          simp [this])]
      simp [hW]
    · rw [upM_ne _ _ e]
      exact other (by rw [hW]; simpa [wId] using Ne.symm e)
end
end Go.Av
set_option linter.unusedVariables false
set_option linter.unusedSimpArgs false
namespace Go.Av
/-! ## 24. The theorem -/
abbrev unO (ops : Array Oper) (i : Nat) : List Nat := unOf ops (Region.before ops) i
structure FrOk (ops : Array Oper) : Prop where
  up : upTo ops
  slots : ∀ i j oi oj, i < j → ¬ Reach ops j i → ops[i]? = some oi → ops[j]? = some oj → (∀ t, oi.dst = some t → oj.dst ≠ some t ∧ t ∉ oj.looksAt ops) ∧ (∀ t, oj.dst = some t → t ∉ oi.looksAt ops)
theorem mem_un {ops : Array Oper} {i j : Nat} (hj : j < ops.size) (h1 : i ≠ j) (h2 : ¬ Reach ops i j) (h3 : ¬ Reach ops j i) : j ∈ unO ops i := by
  unfold unO unOf
  rw [List.mem_filter]
  refine ⟨by simpa using hj, ?_⟩
  have hb : ((Region.before ops).getD (max i j) 0).testBit (min i j) = false := by
    cases e : ((Region.before ops).getD (max i j) 0).testBit (min i j) with
    | false => rfl
    | true =>
      have := before_reach ops _ _ e
      rcases Nat.lt_or_gt_of_ne h1 with h | h
      · rw [Nat.max_eq_right (by omega), Nat.min_eq_left (by omega)] at this; exact absurd this h3
      · rw [Nat.max_eq_left (by omega), Nat.min_eq_right (by omega)] at this; exact absurd this h2
  rw [hb]
  simp [Ne.symm h1]
theorem un_nil {ops : Array Oper} {i j : Nat} (h : unO ops i = []) (hj : j < ops.size) (h1 : i ≠ j) : Reach ops i j ∨ Reach ops j i := by
  by_cases h2 : Reach ops i j
  · exact .inl h2
  · by_cases h3 : Reach ops j i
    · exact .inr h3
    · have := mem_un hj h1 h2 h3
      rw [h] at this; cases this
section
variable {X : Fx} {ops : Array Oper} {E : Nat → List Nat} {gs : Nat → Nat} {Γ0 : Nat → AV} {M0 : Mem} {V V' : Nat → AV} {W W' : Nat → Option (Nat × Blk)} {S : Nat → Bool} {b e : Nat}
abbrev lt (i : Nat) : Nat → Bool := fun j => decide (j < i)
abbrev seg (b : Nat) (S : Nat → Bool) : Nat → Bool := fun j => decide (b ≤ j) && S j
def Fact (X : Fx) (ops : Array Oper) (E : Nat → List Nat) (gs : Nat → Nat) (Γ0 : Nat → AV) (M0 : Mem) (b : Nat) (V : Nat → AV) (W : Nat → Option (Nat × Blk)) (i : Nat) : Prop :=
  ∀ o, ops[i]? = some o → Wok E i (gs i) (unO ops i) (memS ops.size M0 W (seg b (lt i))) (W i) ∧ ∀ (Γ2 : Nat → AV) (M2 : Mem), (∀ t ∈ o.looksAt ops, slotsS ops Γ0 V (seg b (lt i)) t = Γ2 t) → OffAg (E i) (memS ops.size M0 W (seg b (lt i))) M2 → M2 (gs i) = none → ∀ K2 : (Nat → AV) → Mem → Prop, K2 (put Γ2 o.dst (V i)) (upW M2 (W i)) → EG X ops o Γ2 M2 K2
theorem seg_lt (i : Nat) (h : b ≤ i) : (fun j => j == i || seg b (lt i) j) = seg b (lt (i + 1)) := by
  funext j
  rw [Bool.eq_iff_iff]
  simp only [lt, seg, Bool.or_eq_true, beq_iff_eq, decide_eq_true_eq, Bool.and_eq_true]
  omega
theorem drop_fl {i : Nat} (hlt : i < ops.size) : (flagged ops).drop i = (slimOp ops ops[i], unO ops i) :: (flagged ops).drop (i + 1) := by
  rw [List.drop_eq_getElem_cons (by simp [flagged]; omega)]
  simp [flagged]
theorem fchain {K : (Nat → AV) → Mem → Prop} : ∀ (k i : Nat) (V : Nat → AV) (W : Nat → Option (Nat × Blk)), i + k = ops.size → b ≤ i → FR X (some (E, gs)) i ((flagged ops).drop i) (slotsS ops Γ0 V (seg b (lt i))) (memS ops.size M0 W (seg b (lt i))) K →
    ∃ e V' W', i ≤ e ∧ e ≤ ops.size ∧ (e < ops.size → unO ops e = []) ∧ (∀ j, j < i → V' j = V j ∧ W' j = W j) ∧ FR X none e ((flagged ops).drop e) (slotsS ops Γ0 V' (seg b (lt e))) (memS ops.size M0 W' (seg b (lt e))) K ∧ ∀ j, i ≤ j → j < e → Fact X ops E gs Γ0 M0 b V' W' j
  | 0, i, V, W, h, hb, hp => by
    obtain rfl : i = ops.size := by omega
    rw [List.drop_of_length_le (by simp [flagged])] at hp
    refine ⟨ops.size, V, W, Nat.le_refl _, Nat.le_refl _, fun h => by omega, fun _ _ => ⟨rfl, rfl⟩, ?_, fun j h1 h2 => by omega⟩
    rw [List.drop_of_length_le (by simp [flagged])]
    exact hp
  | k + 1, i, V, W, h, hb, hp => by
    have hlt : i < ops.size := by omega
    cases hu : unO ops i with
    | nil =>
      refine ⟨i, V, W, Nat.le_refl _, by omega, fun _ => hu, fun _ _ => ⟨rfl, rfl⟩, ?_, fun j h1 h2 => by omega⟩
      rw [drop_fl hlt, hu] at hp ⊢
      exact hp
    | cons u U =>
    rw [drop_fl hlt, hu] at hp
    obtain ⟨v, w, h1, h2, h3⟩ := FG.fact (o := ops[i]) hp
    let V1 : Nat → AV := fun j => if j = i then v else V j
    let W1 : Nat → Option (Nat × Blk) := fun j => if j = i then w else W j
    have sV : ∀ V' : Nat → AV, (∀ j, j < i → V' j = V j) → slotsS ops Γ0 V' (seg b (lt i)) = slotsS ops Γ0 V (seg b (lt i)) := fun V' hV => by
      funext t
      exact slotsS_congr (fun _ _ _ => rfl) (fun j _ hj => hV j (by simp at hj; exact hj.2))
    have sW : ∀ W' : Nat → Option (Nat × Blk), (∀ j, j < i → W' j = W j) → memS ops.size M0 W' (seg b (lt i)) = memS ops.size M0 W (seg b (lt i)) := fun W' hW => by
      funext g
      exact memS_congr (fun j _ hj => hW j (by simp at hj; exact hj.2)) (fun _ _ _ => rfl)
    have e1 : put (slotsS ops Γ0 V (seg b (lt i))) ops[i].dst v = slotsS ops Γ0 V1 (seg b (lt (i + 1))) := by
      have := slotsS_put (Γ0 := Γ0) (V := V1) (S := seg b (lt i)) (by simp [hlt] : ops[i]? = some ops[i]) (fun j hj hs => by simp at hs; omega)
      rw [seg_lt i hb] at this
      rw [← this, sV V1 (fun j hj => by simp [V1]; omega)]
      simp [V1]
    have e2 : upW (memS ops.size M0 W (seg b (lt i))) w = memS ops.size M0 W1 (seg b (lt (i + 1))) := by
      have := memS_up (M0 := M0) (W := W1) (S := seg b (lt i)) hlt (fun j hj _ hs => by simp at hs; omega)
      rw [seg_lt i hb] at this
      rw [← this, sW W1 (fun j hj => by simp [W1]; omega)]
      simp [W1]
    rw [e1, e2] at h1
    obtain ⟨e, V', W', q1, q2, q3, k1, k2, k3⟩ := fchain k (i + 1) V1 W1 (by omega) (by omega) h1
    have kV : V' i = v ∧ W' i = w := ⟨by rw [(k1 i (by omega)).1]; simp [V1], by rw [(k1 i (by omega)).2]; simp [W1]⟩
    have kl : ∀ j, j < i → V' j = V j ∧ W' j = W j := fun j hj => ⟨by rw [(k1 j (by omega)).1]; simp [V1]; omega, by rw [(k1 j (by omega)).2]; simp [W1]; omega⟩
    refine ⟨e, V', W', by omega, q2, q3, kl, k2, fun j hj1 hj2 => ?_⟩
    by_cases hji : j = i
    · subst hji
      intro o ho
      obtain rfl : ops[j] = o := by simpa [hlt] using ho
      rw [sV V' (fun x hx => (kl x hx).1), sW W' (fun x hx => (kl x hx).2), kV.1, kV.2, hu]
      exact ⟨h2, h3⟩
    · exact k3 j (by omega) hj2
/-- an id that is picked is free till its operation has run -/
theorem fresh (hM : ∀ i, M0 (gs i) = none) (hi : ∀ i j, gs i = gs j → i = j) (he : e ≤ ops.size) (hf : ∀ j, b ≤ j → j < e → Fact X ops E gs Γ0 M0 b V W j) : ∀ j i, j ≤ i → j ≤ e → memS ops.size M0 W (seg b (lt j)) (gs i) = none := by
  intro j
  induction j using Nat.strongRecOn with
  | _ j ih =>
    intro i hij hj
    unfold memS
    cases hl : lastB (fun q => wId (W q) == some (gs i) && seg b (lt j) q) ops.size with
    | none => exact hM i
    | some q =>
      exfalso
      obtain ⟨h1, h2⟩ := lastB_some hl
      simp at h2
      obtain ⟨h3, _⟩ := hf q h2.2.1 (by omega) ops[q] (by simp [h1])
      cases hW : W q with
      | none => rw [hW] at h2; simp [wId] at h2
      | some p =>
        obtain ⟨g', B⟩ := p
        rw [hW] at h2 h3
        have hg : g' = gs i := by simpa [wId] using h2.1
        rcases h3 with ⟨h4, _⟩ | ⟨h4, _⟩
        · have := hi q i (by rw [← h4, hg]); omega
        · refine h4 ?_
          unfold mk
          split
          · rfl
          · rw [hg]; exact ih q h2.2.2 i (by omega) (by omega)
end
end Go.Av
