import Derived.Test.YtaiinpbaaeemmaaA3
import Derived.Test.YtaiinpbaaeemmaaA2
import Derived.RangeFuncRecord
import Derived.RangeFuncIn
set_option linter.unusedVariables false
set_option linter.unusedSimpArgs false
namespace Go.Av
/-! ## 9. Regions -/
section
variable {P : Program} {b : Frame} {a : Act} {k : List Item} {cs : List Frame} {w w' : World} {ops : Array Oper} {i : Nat} {rest : List Nat} {o : Oper}
theorem fin_at (ho : ops[i]? = some o) (v : Value) : (b.atR a (.inRegion ops (i :: rest) :: k)).finish v = b.atR (a.put o.dst v) (.inRegion ops rest :: k) := by
  rw [Frame.finish_atR, ho]; rfl
theorem op_value (ho : ops[i]? = some o) (hw : Region.wanted o (yielded ops a.tmps) = true) {v : Value} (hr : (o.semAt b.roundOf a.eval).run P w = .ok (.value v) w') :
    step P (lone (b.atR a (.inRegion ops (i :: rest) :: k)) cs w) = .next (lone (b.atR (a.put o.dst v) (.inRegion ops rest :: k)) cs w') := by
  rw [← fin_at ho]
  exact step_lone_go (by rw [stepGR_op ho hw]; simp [stepG.apply, hr])
theorem op_skip (ho : ops[i]? = some o) (hw : Region.wanted o (yielded ops a.tmps) = true) (hr : (o.semAt b.roundOf a.eval).run P w = .ok .skip w') :
    step P (lone (b.atR a (.inRegion ops (i :: rest) :: k)) cs w) = .next (lone (b.atR (a.put o.dst undef) (.inRegion ops rest :: k)) cs w') := by
  rw [← fin_at ho]
  exact step_lone_go (by rw [stepGR_op ho hw]; simp [stepG.apply, hr])
theorem op_enter (ho : ops[i]? = some o) (hw : Region.wanted o (yielded ops a.tmps) = true) {f : FuncId} {args : Array Value} (hr : (o.semAt b.roundOf a.eval).run P w = .ok (.enter f args) w') :
    step P (lone (b.atR a (.inRegion ops (i :: rest) :: k)) cs w) = .next (lone (Frame.enter P f args .normal) (b.atR a (.inRegion ops (i :: rest) :: k) :: cs) w') :=
  step_lone_go (by rw [stepGR_op ho hw]; simp [stepG.apply, hr, Frame.atR])
theorem op_round (ho : ops[i]? = some o) (hw : Region.wanted o (yielded ops a.tmps) = true) {l : Nat} {f : FuncId} {tmps : Array Value} {asg body : Code} (hr : (o.semAt b.roundOf a.eval).run P w = .ok (.round l f tmps asg body) w') :
    step P (lone (b.atR a (.inRegion ops (i :: rest) :: k)) cs w) = .next (lone (Frame.round l f tmps asg body .normal) (b.atR a (.inRegion ops (i :: rest) :: k) :: cs) w') :=
  step_lone_go (by rw [stepGR_op ho hw]; simp [stepG.apply, hr, Frame.atR])
end
theorem put_size (a : Act) (d : Option Tmp) (v : Value) : (a.put d v).tmps.size = a.tmps.size := by cases d <;> simp [Act.put]
theorem put_defers (a : Act) (d : Option Tmp) (v : Value) : (a.put d v).defers = a.defers := by cases d <;> rfl
theorem Fits.put {C : Cx} {Γ : Nat → AV} {a : Act} {N : Nat} (h : Fits C Γ a.tmps) (hz : a.tmps.size = N) {d : Option Tmp} (hd : dOk N d) {v : Value} {av : AV} (hv : Rep C av v) : Fits C (put Γ d av) (a.put d v).tmps := by
  cases d with
  | none => exact h
  | some d => exact Fits.up h (by rw [hz]; exact hd) hv
section
variable {X : Fx} {k : List It} {Z : List Nat} {Q : AV → Mem → Prop} {all : Array Oper} {l : List Oper} {o : Oper} {i : Nat} {idx : List Nat} {items : List Item}
/-- what stands behind the operation, from the state that it leaves -/
theorem go_on {Γ : Nat → AV} {M : Mem} {C C' : Cx} {a : Act} {b : Frame} {cs : List Frame} (hn : Now X Γ M Z C a b) (hG : Good X) (hidx : idx.map (all[·]?) = l.map some) (ht : TodoOk X k items) {v : Value} {av : AV} (st : Step C C') (sm : Sim C') (hv : Rep C' av v) (hd : dOk X.N o.dst)
    (h : ARuns X (.ops all l :: k) (put Γ o.dst av) C'.M Z Q) : Ends X.P b cs (lone (b.atR (a.put o.dst v) (.inRegion all idx :: items)) cs C'.w) (Post X C Q) :=
  (h hG (.inRegion all idx :: items) ⟨⟨rfl, hidx⟩, ht⟩ C' (a.put o.dst v) b cs (hn.step st sm (Fits.put (hn.fits.step st) hn.size hd hv) (by rw [put_size, hn.size]) (put_defers _ _ _))).mono fun v w => Post.step st
theorem value_ends {Γ : Nat → AV} {M : Mem} {C C' : Cx} {a : Act} {b : Frame} {cs : List Frame} (hn : Now X Γ M Z C a b) (hG : Good X) (ho : all[i]? = some o) (hw : Region.wanted o (yielded all a.tmps) = true) (hnd : ∀ c, o.op ≠ .defer c) (hidx : idx.map (all[·]?) = l.map some) (ht : TodoOk X k items) {v : Value} {av : AV}
    (hr : (execOp a.eval o).run X.P C.w = .ok (.value v) C'.w) (st : Step C C') (sm : Sim C') (hv : Rep C' av v) (hd : dOk X.N o.dst) (h : ARuns X (.ops all l :: k) (put Γ o.dst av) C'.M Z Q) :
    Ends X.P b cs (lone (b.atR a (.inRegion all (i :: idx) :: items)) cs C.w) (Post X C Q) :=
  .step (op_value ho hw (by rw [Oper.semAt_eq _ _ _ hnd]; exact hr)) (go_on hn hG hidx ht st sm hv hd h)
theorem oK_some {α : Type} {x : Option α} {K : α → Prop} (h : oK x K) : ∃ v, x = some v ∧ K v := by
  cases x with
  | none => exact h.elim
  | some v => exact ⟨v, rfl, h⟩
theorem rd_ends {Γ : Nat → AV} {M : Mem} {C : Cx} {a : Act} {b : Frame} {cs : List Frame} (hn : Now X Γ M Z C a b) (hG : Good X) (ho : all[i]? = some o) (hw : Region.wanted o (yielded all a.tmps) = true) (hnd : ∀ c, o.op ≠ .defer c) (hidx : idx.map (all[·]?) = l.map some) (ht : TodoOk X k items) (hd : dOk X.N o.dst)
    {K : (Nat → AV) → Mem → Prop} (hK : ∀ Γ' M', K Γ' M' → ARuns X (.ops all l :: k) Γ' M' Z Q) (h : oK (rd X.T X.own o.dst Γ M o.op) fun v => K (put Γ o.dst v) M) :
    Ends X.P b cs (lone (b.atR a (.inRegion all (i :: idx) :: items)) cs C.w) (Post X C Q) := by
  obtain ⟨av, h1, h2⟩ := oK_some h
  have hM := hn.m
  subst hM
  obtain ⟨v, w', hr, st, sm, hv⟩ := rd_sound (o := o) hG.tab hn.sim hn.fits h1
  exact value_ends (C' := { C with w := w' }) hn hG ho hw hnd hidx ht hr st sm hv hd (hK _ _ h2)
theorem call_run {P : Program} {w : World} {ρ : Operand → Value} {c : Call} {ty : TypeId} {f : Operand} {g : FuncId} {cap : Array Value} (hc : c.callee = .value f) (hf : ρ f = .func (.func g) #[] cap) (hb : HasBody P g) :
    (do let d ← resolve ρ c ty; invoke d.target d.args : Sem Next).run P w = .ok (.enter g (c.args.map ρ ++ cap)) w := by
  obtain ⟨fn, body, h1, h2, h3⟩ := hb
  have h3' : ¬ fn.name = "runtime.NumGoroutine" := by simpa using h3
  simp [resolve, hc, hf, Deferred.ofValue, invoke, callFunc, h1, h2, h3']
theorem yield_run {P : Program} {w : World} {ρ : Operand → Value} {c : Call} {ty : TypeId} {f : Operand} {y : Nat} (hc : c.callee = .value f) (hf : ρ f = .func (.yield y) #[] #[]) :
    (do let d ← resolve ρ c ty; invoke d.target d.args : Sem Next).run P w = (Instr.yield y (c.args.map ρ)).run P w := by
  simp [resolve, hc, hf, Deferred.ofValue, invoke]
theorem reps_caps {C : Cx} {n : Nat} {cap : Nat → AV} {cs : Array Value} (hs : cs.size = n) (h : ∀ i, i < n → Rep C (cap i) (cs.getD i undef)) : Reps C ((List.range n).map cap) cs.toList := by
  have := reps_range (C := C) (f := cap) (cs := cs) n 0 (by omega) (fun i hi => h i (by omega))
  rw [List.range_eq_range']
  simpa using this
theorem alloc_run {P : Program} {T : Tab} (hT : TabOk P T) {t : TypeId} {zs : List Value} (h : T.zero t = some zs) (w : World) : ∃ cells : Array Value, (Instr.alloc t true (.tuple #[])).run P w = .ok (.pointer (some ⟨w.heap.size, 0, none⟩)) (w.alloc (.cells cells t)) ∧ cells.toList = zs := by
  obtain ⟨z, h1, h2⟩ := run_zeroValue' (P := P) hT h w
  exact ⟨z.cells, by simp [Instr.alloc, h1, newVar, newRow], h2⟩
theorem ptr_new {C : Cx} {g : Nat} {e : TypeId} {n : Nat} {cs : Nat → AV} {w' : World} {b : Nat} : Rep (C.turn w' g (.cells e n cs) (some b)) (.ptr g 0) (.pointer (some ⟨b, 0, none⟩)) := by
  have hM : (C.turn w' g (.cells e n cs) (some b)).M g = some (.cells e n cs) := upM_self _ _ _
  simp only [Rep, hM]
  exact ⟨b, by simp [Cx.turn], rfl⟩
theorem EOp_ends {Γ : Nat → AV} {M : Mem} {C : Cx} {a : Act} {b : Frame} {cs : List Frame} (hn : Now X Γ M Z C a b) (hG : Good X) (ho : all[i]? = some o) (hw : Region.wanted o (yielded all a.tmps) = true) (hidx : idx.map (all[·]?) = l.map some) (ht : TodoOk X k items)
    {K : (Nat → AV) → Mem → Prop} (hK : ∀ Γ' M', K Γ' M' → ARuns X (.ops all l :: k) Γ' M' Z Q) (h : EOp X o Γ M K) :
    Ends X.P b cs (lone (b.atR a (.inRegion all (i :: idx) :: items)) cs C.w) (Post X C Q) := by
  have hM := hn.m
  obtain ⟨dst, op, ty, pos, after, guard⟩ := o
  obtain ⟨hd, h⟩ := h
  have R : (∀ c, op ≠ .defer c) → oK (rd X.T X.own dst Γ M op) (fun v => K (put Γ dst v) M) → Ends X.P b cs (lone (b.atR a (.inRegion all (i :: idx) :: items)) cs C.w) (Post X C Q) := fun hnd h' => rd_ends (o := ⟨dst, op, ty, pos, after, guard⟩) hn hG ho hw hnd hidx ht hd hK h'
  cases op with
  | alloc t =>
    obtain ⟨zs, h1, h2⟩ := oK_some h
    obtain ⟨N0, hN0⟩ := hn.sim.fin
    obtain ⟨N, hgN, h2⟩ := h2.get (g0 := N0) (by rw [← hM]; exact hN0 N0 (Nat.le_refl _))
    have hg : C.M N = none := by rw [hM]; exact hgN
    obtain ⟨cells, hr, hc⟩ := alloc_run (P := X.P) hG.tab h1 C.w
    obtain ⟨st, sm⟩ := turn_cells hn.sim hg t (zs.map .raw) cells (by rw [hc]; exact Reps.raws C zs)
    refine value_ends (C' := C.turn (C.w.alloc (.cells cells t)) N (.cells t (zs.map AV.raw).length (lst (zs.map .raw))) (some C.w.heap.size)) hn hG ho hw (by simp) hidx ht (by simp [execOp, hr]; rfl) st sm ptr_new hd (hK _ _ ?_)
    simpa [Cx.turn, hM] using h2
  | box t x =>
    simp only at h
    split at h
    · obtain ⟨l', h1, h2⟩ := oK_some h
      obtain ⟨N0, hN0⟩ := hn.sim.fin
      obtain ⟨N, hgN, h2⟩ := h2.get (g0 := N0) (by rw [← hM]; exact hN0 N0 (Nat.le_refl _))
      have hg : C.M N = none := by rw [hM]; exact hgN
      rw [← hM] at h1
      obtain ⟨hr, _⟩ := cellsOf_sound h1 (hn.fits.opv x)
      obtain ⟨st, sm⟩ := turn_cells hn.sim hg t l' (a.eval x).cells hr
      refine value_ends (C' := C.turn (C.w.alloc (.cells (a.eval x).cells t)) N (.cells t l'.length (lst l')) (some C.w.heap.size)) hn hG ho hw (by simp) hidx ht (by simp [execOp, run_newVar']; rfl) st sm ptr_new hd (hK _ _ ?_)
      simpa [Cx.turn, hM] using h2
    · exact R (by simp) h
  | buildSlice t len ps =>
    simp only at h
    split at h
    · obtain ⟨⟨e, sz, l'⟩, h1, hlen, h2⟩ := oK_some h
      obtain ⟨N0, hN0⟩ := hn.sim.fin
      obtain ⟨N, hgN, h2⟩ := h2.get (g0 := N0) (by rw [← hM]; exact hN0 N0 (Nat.le_refl _))
      have hg : C.M N = none := by rw [hM]; exact hgN
      rw [← hM] at h1
      obtain ⟨hpos, hll, cells, hrun, hr⟩ := litCells_sound (P := X.P) hG.tab h1 (opvs_reps hn.fits ps) C.w
      have hcs : cells.size = l'.length := by simpa using Reps.length hr
      obtain ⟨st, sm⟩ := turn_new hn.sim hg (.row e len sz (fun i j => lst l' (i * sz + j))) (.cells cells e) (fun st => ⟨hpos, .inr ⟨C.w.heap.size, cells, len, by simp [Cx.turn], heap_alloc_self _ _, by omega, Nat.le_refl _, hlen, fun i j hi hj => by
        have hb1 : i * sz + sz ≤ len * sz := by rw [← Nat.succ_mul]; exact Nat.mul_le_mul_right _ (by omega)
        have := Reps.get (Reps.step st hr) (i * sz + j) (by omega)
        simpa [lst, Array.getD_eq_getD_getElem?] using this⟩⟩)
      have hM' : (C.turn (C.w.alloc (.cells cells e)) N (.row e len sz (fun i j => lst l' (i * sz + j))) (some C.w.heap.size)).M N = some (.row e len sz (fun i j => lst l' (i * sz + j))) := upM_self _ _ _
      refine value_ends (C' := C.turn (C.w.alloc (.cells cells e)) N (.row e len sz (fun i j => lst l' (i * sz + j))) (some C.w.heap.size)) (v := .slice (some ⟨C.w.heap.size, 0, none⟩) len len) (av := .own N len sz) hn hG ho hw (by simp) hidx ht ?_ st sm ?_ hd (hK _ _ ?_)
      · show Sem.run X.P (do pure (Next.value (← Instr.buildSlice t len _))) C.w = _
        rw [Sem.run_bind]
        exact congrArg (fun r : Result Value => r.andThen fun v w' => (pure (Next.value v) : Sem Next).run X.P w') hrun
      · simp only [Rep, hM']
        refine ⟨Nat.le_refl _, trivial, fun _ => ?_⟩
        unfold OwnAt
        simp only [Cx.turn, if_true]
        exact ⟨cells, e, len, heap_alloc_self _ _, by omega, Nat.le_refl _, rfl⟩
      · simpa [Cx.turn, hM] using h2
    · exact R (by simp) h
  | store t x v =>
    obtain ⟨M', h1, h2⟩ := oK_some h
    rw [← hM] at h1
    obtain ⟨C', rfl, hr, sm, st⟩ := stMem_sound (P := X.P) hG.tab hn.sim h1 (hn.fits.opv x) (hn.fits.opv v)
    refine .step (op_skip ho hw ?_) (go_on (o := ⟨dst, .store t x v, ty, pos, after, guard⟩) (av := .raw undef) hn hG hidx ht st sm rfl hd (hK _ _ h2))
    rw [Oper.semAt_eq _ _ _ (by simp)]
    simp [execOp, hr]
  | call c =>
    simp only at h
    split at h
    · rename_i hcal
      unfold EApp at h
      split at h
      · rename_i t t' s x hts has
        obtain ⟨rfl, h⟩ := h
        split at h
        · rename_i e ht'
          split at h
          · rename_i te zs bt hte hz hb
            obtain ⟨hpos, hzl, hbp, h⟩ := h
            obtain ⟨p, hp, h⟩ := oK_some h
            obtain ⟨q, hq, h⟩ := oK_some h
            obtain ⟨hone, hbytes, h⟩ := h
            obtain ⟨m, f2⟩ := p
            obtain ⟨g?, n, f⟩ := q
            have hrs := opv_reps hn.fits c.args.toList
            rw [has] at hrs
            have hargs : ∃ vs vx, c.args.toList.map a.eval = [vs, vx] ∧ Rep C s vs ∧ Rep C x vx := by
              match hx : c.args.toList.map a.eval, hrs with
              | [vs, vx], ⟨r1, r2, _⟩ => exact ⟨vs, vx, rfl, r1, r2⟩
            obtain ⟨vs, vx, hvals, r1, r2⟩ := hargs
            have hg : ∃ g, gOk M g g? := by
              cases g? with
              | some g0 => exact ⟨g0, rfl⟩
              | none => obtain ⟨N, hN⟩ := hn.sim.fin; exact ⟨N, by rw [← hM]; exact hN N (Nat.le_refl _)⟩
            obtain ⟨g0, hg0⟩ := hg
            obtain ⟨g, hg, h⟩ := h.get hg0
            rw [← hM] at hg
            rw [← hM] at hp hq
            obtain ⟨v, C', hr, hC', sm, st, hv⟩ := append_sound (P := X.P) hG.tab hn.sim ht' hte hz hb hpos hzl hbp hp hq (by rw [hM]; exact hone) hbytes r1 r2 ty g hg
            obtain ⟨consts, hcall⟩ := callOf (ρ := a.eval) (ty := ty) (P := X.P) (w := C.w) hcal
            refine value_ends (C' := C') hn hG ho hw (by simp) hidx ht (v := v) ?_ st sm hv hd (hK _ _ ?_)
            · simp only [execOp]
              rw [hcall]
              have e1 : c.argTypes = #[t', t'] := by apply Array.ext'; simpa using hts
              have e2 : c.args.map a.eval = #[vs, vx] := by apply Array.ext'; simpa using hvals
              rw [e1, e2]
              simp [builtin, hr]
            · rw [hC', hM]
              exact h
          · exact h.elim
        · exact h.elim
      · exact h.elim
    · rename_i bi hne hcal
      refine R (by simp) ?_
      have : rd X.T X.own dst Γ M (.call c) = rdBlt X.T M bi c.argTypes (c.args.toList.map (opv Γ)) := by simp [rd, hcal]
      rw [this]; exact h
    · rename_i f hcal
      have hfv := hn.fits.opv f
      split at h
      · rename_i g n cap hop
        rw [hop] at hfv
        obtain ⟨cv, hev, hsz, hcap⟩ := hfv
        obtain ⟨hbody, hrun⟩ := h
        have hreps : Reps C (callArgs Γ c n cap) (c.args.map a.eval ++ cv).toList := by
          unfold callArgs
          rw [Array.toList_append, Array.toList_map]
          exact Reps.append (opv_reps hn.fits c.args.toList) (reps_caps hsz hcap)
        obtain ⟨v, fr, C', r, h1, h2, h3, h4, h5, h6, h7⟩ := hrun C _ hM hn.sim hreps (b.atR a (.inRegion all (i :: idx) :: items) :: cs)
        have henter := op_enter (P := X.P) (b := b) (a := a) (k := items) (cs := cs) (w := C.w) (rest := idx) ho hw (f := g) (args := c.args.map a.eval ++ cv) (w' := C.w) (by
          rw [Oper.semAt_eq _ _ _ (by simp)]
          simp only [execOp]
          exact call_run hcal hev hbody)
        rw [Array.toArray_toList] at h1
        refine .steps (.head henter (h1.trans (.one (step_leave_returned h3)))) ?_
        rw [fin_at ho]
        exact go_on (o := ⟨dst, .call c, ty, pos, after, guard⟩) hn hG hidx ht h5 h4 h6 hd (hK _ _ h7)
      · rename_i y hop
        rw [hop] at hfv
        have hrs := opv_reps hn.fits c.args.toList
        obtain ⟨⟨st0, pe0, fn0, N0, Γ0, ps0, asg0, body0, d0, hy⟩, h⟩ := h
        obtain ⟨l', fn, tmps, asg, body, hρ, hyr, hgo⟩ := h C _ hM hn.sim hrs
        rw [← hM] at hy
        simp only [Rep, hy] at hfv
        obtain ⟨l2, hρ2, hev⟩ := hfv
        obtain rfl : l2 = l' := by rw [hρ] at hρ2; cases hρ2; rfl
        obtain ⟨v, C', r, h1, h4, h5, h6, h7⟩ := hgo (b.atR a (.inRegion all (i :: idx) :: items)) cs
        have e1 : (c.args.toList.map a.eval).toArray = c.args.map a.eval := by apply Array.ext'; simp
        rw [e1] at hyr
        have henter := op_round (P := X.P) (b := b) (a := a) (k := items) (cs := cs) (w := C.w) (rest := idx) ho hw (l := l2) (f := fn) (tmps := tmps) (asg := asg) (body := body) (w' := C.w) (by
          rw [Oper.semAt_eq _ _ _ (by simp)]
          simp only [execOp]
          rw [yield_run hcal hev]; exact hyr)
        refine .steps (.head henter h1) ?_
        rw [fin_at ho]
        exact go_on (o := ⟨dst, .call c, ty, pos, after, guard⟩) hn hG hidx ht h5 h4 h6 hd (hK _ _ h7)
      · exact h.elim
    · exact h.elim
  | defer c => simp [rd, oK] at h
  | _ => exact R (by simp) h
end
end Go.Av
set_option linter.unusedVariables false
set_option linter.unusedSimpArgs false
namespace Go.Av
/-! ## 5b. A row of the run's own that is written no more is a slice as any other -/
def fzV (g n sz : Nat) (f : Nat → Nat → AV) : AV → AV
  | .own g' n' sz' => if g' = g ∧ n' = n ∧ sz' = sz then .sl n sz f else .own g' n' sz'
  | .ag k h => .ag k (fun i => fzV g n sz f (h i))
  | .tup k h => .tup k (fun i => fzV g n sz f (h i))
  | .sl k s h => .sl k s (fun i j => fzV g n sz f (h i j))
  | .ref k h => .ref k (fun i => fzV g n sz f (h i))
  | .fn q k h => .fn q k (fun i => fzV g n sz f (h i))
  | a => a
/-- the state in which the row is no longer the run's own -/
abbrev Cx.fz (C : Cx) (g : Nat) : Cx := C.turn C.w g .gone (C.ρ g)
theorem fz_st {C : Cx} {g b : Nat} (h : C.st b) : (C.fz g).st b := by
  refine ⟨h.1, fun ⟨g', B, hB, hl, hρ⟩ => h.2 ⟨g', B, ?_, hl, ?_⟩⟩
  · by_cases e : g' = g
    · subst e; rw [show (C.fz g').M g' = some .gone from upM_self _ _ _] at hB; cases hB; exact hl.elim
    · rw [show (C.fz g).M g' = C.M g' from upM_ne _ _ e] at hB; exact hB
  · by_cases e : g' = g
    · subst e; rw [show (C.fz g').M g' = some .gone from upM_self _ _ _] at hB; cases hB; exact hl.elim
    · simpa [Cx.turn, e] using hρ
theorem fz_rep {C : Cx} (hS : Sim C) {g e n sz : Nat} {f : Nat → Nat → AV} (hg : C.M g = some (.row e n sz f)) : ∀ (a : AV) (x : Value), Rep C a x → Rep (C.fz g) (fzV g n sz f a) x := by
  obtain ⟨st, sm⟩ := turn_gone hS g
  intro a
  induction a with
  | raw v => exact fun x h => h
  | dead => exact fun x h => trivial
  | ag n f ih => rintro x ⟨cs, h1, h2, h3⟩; exact ⟨cs, h1, h2, fun i hi => ih i _ (h3 i hi)⟩
  | tup n f ih => rintro x ⟨cs, h1, h2, h3⟩; exact ⟨cs, h1, h2, fun i hi => ih i _ (h3 i hi)⟩
  | nilB n => exact fun x h => h
  | sl n sz f ih =>
    rintro x ⟨A, c, h1, h2, h3⟩
    refine ⟨A, c, h1, h2, fun h0 => ?_⟩
    obtain ⟨ad, ha, hst, hc⟩ := h3 h0
    exact ⟨ad, ha, fz_st hst, fun i j hi hj => by obtain ⟨v, hv, hr⟩ := hc i j hi hj; exact ⟨v, hv, ih i j _ hr⟩⟩
  | ref n f ih =>
    rintro x ⟨ad, h1, hst, h3⟩
    exact ⟨ad, h1, fz_st hst, fun i hi => by obtain ⟨v, hv, hr⟩ := h3 i hi; exact ⟨v, hv, ih i _ hr⟩⟩
  | fn k n c ih => rintro x ⟨cs, h1, h2, h3⟩; exact ⟨cs, h1, h2, fun i hi => ih i _ (h3 i hi)⟩
  | own g' n' sz' =>
    intro x h
    simp only [fzV]
    split
    · rename_i hc
      obtain ⟨rfl, rfl, rfl⟩ := hc
      simp only [Rep, hg] at h
      have ho := h.2.2 trivial
      have hb := hS.blk _ _ hg
      obtain ⟨hpos, hb⟩ := hb
      unfold OwnAt at ho
      rcases hb with ⟨h0, hρ⟩ | ⟨b, arr, cap, hρ, hh, hz, hle, hcap, hr⟩
      · rw [hρ] at ho
        exact ⟨none, 0, by rw [ho.1, ho.2], by omega, fun h => by omega⟩
      · rw [hρ] at ho
        obtain ⟨arr', e', cap', k1, k2, k3, k4⟩ := ho
        rw [hh] at k1
        simp only [Option.some.injEq, Obj.cells.injEq] at k1
        obtain ⟨rfl, rfl, _⟩ := k1
        refine ⟨_, cap', k4, k3, fun h0 => ⟨_, rfl, ⟨heap_lt hh, fun ⟨g2, B, hB, hl, hρ2⟩ => ?_⟩, fun i j hi hj => ?_⟩⟩
        · by_cases e2 : g2 = g'
          · subst e2; rw [show (C.fz g2).M g2 = some .gone from upM_self _ _ _] at hB; cases hB; exact hl.elim
          · rw [show (C.fz g').M g2 = C.M g2 from upM_ne _ _ e2] at hB
            have hρ2' : C.ρ g2 = some b := by simpa [Cx.turn, e2] using hρ2
            exact e2 (hS.inj g2 g' B _ b hB hl hg trivial hρ2' hρ)
        · have hlt : i * sz' + j < arr.size := by
            have : i * sz' + sz' ≤ n' * sz' := by rw [← Nat.succ_mul]; exact Nat.mul_le_mul_right _ (by omega)
            have : n' * sz' ≤ cap' * sz' := Nat.mul_le_mul_right _ k3
            omega
          refine ⟨_, ?_, Rep.step st _ _ (hr i j hi hj)⟩
          have := cell_arr (w := C.w) hh hlt
          have e0 : (⟨b, 0, none⟩ : Addr).add (i * sz' + j) = ⟨b, i * sz' + j, none⟩ := by
            unfold Addr.add
            split
            · rename_i h; simp at h; simp [h.1, h.2]
            · simp
          rw [e0]
          exact this
    · exact Rep.step st _ _ h
  | ptr g off => exact fun x h => Rep.step st _ _ h
  | elp g n sz i o => exact fun x h => Rep.step st _ _ h
  | mp g => exact fun x h => Rep.step st _ _ h
  | yl g => exact fun x h => Rep.step st _ _ h
end Go.Av
set_option linter.unusedVariables false
set_option linter.unusedSimpArgs false
namespace Go.Av
/-! ## 10. Lists of operations; the function's end; its beginning -/
section
variable {X : Fx} {k : List It} {Z : List Nat} {Q : AV → Mem → Prop} {all : Array Oper}
theorem guard_wanted {o : Oper} {Γ : Nat → AV} {C : Cx} {a : Act} (hF : Fits C Γ a.tmps) :
    (∀ w, guardOf all o Γ = (.run, w) → Region.wanted o (yielded all a.tmps) = true) ∧ (∀ w, guardOf all o Γ = (.skip, w) → Region.wanted o (yielded all a.tmps) = false) ∧
    (∀ b want, guardOf all o Γ = (.ask b, want) → Region.wanted o (yielded all a.tmps) = decide (b = want)) := by
  unfold guardOf Region.wanted
  cases hg : o.guard with
  | none => exact ⟨fun _ _ => rfl, fun _ h => by simp at h, fun _ _ h => by simp at h⟩
  | some jw =>
    obtain ⟨j, want⟩ := jw
    simp only
    cases hd : (all[j]?).bind (·.dst) with
    | none => exact ⟨fun _ h => by simp at h, fun _ h => by simp at h, fun _ _ h => by simp at h⟩
    | some d =>
      simp only
      have hv := hF d
      have hy : yielded all a.tmps j = match a.tmps[d]? with
        | some (.bool b) => some b
        | _ => none := by unfold yielded; rw [hd]; rfl
      have hget : ∀ v, a.tmps.getD d undef = v → v ≠ undef → a.tmps[d]? = some v := fun v h hne => by
        rw [Array.getD_eq_getD_getElem?] at h
        cases hx : a.tmps[d]? with
        | none => rw [hx] at h; exact absurd h.symm hne
        | some u => rw [hx] at h; rw [← h]; rfl
      have hund : ∀ cs, a.tmps.getD d undef = .tuple cs → yielded all a.tmps j = none := fun cs h => by
        rw [hy]
        rw [Array.getD_eq_getD_getElem?] at h
        cases hx : a.tmps[d]? with
        | none => rfl
        | some u => rw [hx] at h; simp only [Option.getD_some] at h; rw [h]
      cases hΓ : Γ d with
      | raw u =>
        rw [hΓ] at hv
        have hv' : a.tmps.getD d undef = u := hv
        cases u with
        | bool b =>
          refine ⟨fun _ h => by simp at h, fun _ h => by simp at h, fun b' want' h => ?_⟩
          simp only [Prod.mk.injEq, Gd.ask.injEq] at h
          obtain ⟨rfl, rfl⟩ := h
          rw [hy, hget _ hv' (by simp [undef])]
          by_cases e : b = want <;> simp [e]
        | tuple cs =>
          refine ⟨fun _ h => by simp at h, fun _ h => ?_, fun _ _ h => by simp at h⟩
          rw [hund cs hv']
          rfl
        | _ => exact ⟨fun _ h => by simp at h, fun _ h => by simp at h, fun _ _ h => by simp at h⟩
      | _ => exact ⟨fun _ h => by simp at h, fun _ h => by simp at h, fun _ _ h => by simp at h⟩
theorem ARuns.ops : ∀ (l : List Oper) (Γ : Nat → AV) (M : Mem), EL X all l Γ M (fun Γ' M' => ARuns X k Γ' M' Z Q) → ARuns X (.ops all l :: k) Γ M Z Q
  | [], Γ, M, h => by
    intro hG items ht C a b cs hn
    match items, ht with
    | .inRegion all' [] :: items, ⟨⟨e, _⟩, ht⟩ => exact .step stepR_region_end (h hG items ht C a b cs hn)
    | .inRegion all' (i :: idx) :: items, ⟨⟨e, h2⟩, ht⟩ => simp at h2
  | o :: l, Γ, M, h => by
    intro hG items ht C a b cs hn
    match items, ht with
    | .inRegion all' [] :: items, ⟨⟨e, h2⟩, ht⟩ => simp at h2
    | .inRegion all' (i :: idx) :: items, ⟨⟨e, h2⟩, ht⟩ =>
      have e' := e.symm
      subst e'
      simp only [List.map_cons, List.cons.injEq] at h2
      obtain ⟨ho, hidx⟩ := h2
      have ih : ∀ Γ' M', EL X all l Γ' M' (fun Γ' M' => ARuns X k Γ' M' Z Q) → ARuns X (.ops all l :: k) Γ' M' Z Q := fun Γ' M' h' => ARuns.ops l Γ' M' h'
      obtain ⟨g1, g2, g3⟩ := guard_wanted (all := all) (o := o) hn.fits
      have skip : Region.wanted o (yielded all a.tmps) = false → dOk X.N o.dst → EL X all l (put Γ o.dst (.raw undef)) M (fun Γ' M' => ARuns X k Γ' M' Z Q) → Ends X.P b cs (lone (b.atR a (.inRegion all (i :: idx) :: items)) cs C.w) (Post X C Q) := by
        intro hw hd h'
        have hs := stepR_op_skip (P := X.P) (b := b) (a := a) (k := items) (cs := cs) (w := C.w) (ops := all) (i := i) (rest := idx) (by simp [ho, hw])
        simp only [ho, Option.bind_some] at hs
        have hM := hn.m
        exact .step hs (go_on hn hG hidx ht (av := .raw undef) (Step.refl C) hn.sim rfl hd (by rw [hM]; exact ih _ _ h'))
      simp only [EL, EG] at h
      cases hgd : guardOf all o Γ with
      | mk gd want =>
        rw [hgd] at h
        cases gd with
        | run => exact EOp_ends hn hG ho (g1 _ hgd) hidx ht ih h
        | skip => exact skip (g2 _ hgd) h.1 h.2
        | ask b' =>
          have hw := g3 _ _ hgd
          by_cases e : b' = want
          · exact EOp_ends hn hG ho (by rw [hw]; simp [e]) hidx ht ih (h.1 e)
          · have hne := h.2 (by cases b' <;> cases want <;> simp_all)
            exact skip (by rw [hw]; simp [e]) hne.1 hne.2
        | bad => exact h.elim
theorem ARuns.op {o : Oper} {l : List Oper} {Γ : Nat → AV} {M : Mem} (h : EG X all o Γ M fun Γ' M' => ARuns X (.ops all l :: k) Γ' M' Z Q) : ARuns X (.ops all (o :: l) :: k) Γ M Z Q := by
  intro hG items ht C a b cs hn
  match items, ht with
  | .inRegion all' [] :: items, ⟨⟨e, h2⟩, ht⟩ => simp at h2
  | .inRegion all' (i :: idx) :: items, ⟨⟨e, h2⟩, ht⟩ =>
    have e' := e.symm
    subst e'
    simp only [List.map_cons, List.cons.injEq] at h2
    obtain ⟨ho, hidx⟩ := h2
    have ih : ∀ Γ' M', ARuns X (.ops all l :: k) Γ' M' Z Q → ARuns X (.ops all l :: k) Γ' M' Z Q := fun Γ' M' h' => h'
    obtain ⟨g1, g2, g3⟩ := guard_wanted (all := all) (o := o) hn.fits
    have skip : Region.wanted o (yielded all a.tmps) = false → dOk X.N o.dst → ARuns X (.ops all l :: k) (put Γ o.dst (.raw undef)) M Z Q → Ends X.P b cs (lone (b.atR a (.inRegion all (i :: idx) :: items)) cs C.w) (Post X C Q) := by
      intro hw hd h'
      have hs := stepR_op_skip (P := X.P) (b := b) (a := a) (k := items) (cs := cs) (w := C.w) (ops := all) (i := i) (rest := idx) (by simp [ho, hw])
      simp only [ho, Option.bind_some] at hs
      have hM := hn.m
      exact .step hs (go_on hn hG hidx ht (av := .raw undef) (Step.refl C) hn.sim rfl hd (by rw [hM]; exact ih _ _ h'))
    simp only [EG] at h
    cases hgd : guardOf all o Γ with
    | mk gd want =>
      rw [hgd] at h
      cases gd with
      | run => exact EOp_ends hn hG ho (g1 _ hgd) hidx ht ih h
      | skip => exact skip (g2 _ hgd) h.1 h.2
      | ask b' =>
        have hw := g3 _ _ hgd
        by_cases e : b' = want
        · exact EOp_ends hn hG ho (by rw [hw]; simp [e]) hidx ht ih (h.1 e)
        · have hne := h.2 (by cases b' <;> cases want <;> simp_all)
          exact skip (by rw [hw]; simp [e]) hne.1 hne.2
      | bad => exact h.elim
theorem range_ops (ops : Array Oper) : (List.range ops.size).map (ops[·]?) = ops.toList.map some := by
  apply List.ext_getElem?
  intro i
  by_cases h : i < ops.size
  · simp [List.getElem?_range h, h]
  · simp [show ops.size ≤ i by omega]
theorem ARuns.region {id : Nat} {ops : Array Oper} {Γ : Nat → AV} {M : Mem} (h : EL X ops ops.toList Γ M (fun Γ' M' => ARuns X k Γ' M' Z Q)) : ARuns X (.code (.region id ops false) :: k) Γ M Z Q := by
  intro hG items ht C a b cs hn
  match items, ht with
  | .code c :: items, ⟨⟨e, _⟩, ht⟩ =>
    subst e
    exact .step stepR_region (ARuns.ops _ _ _ h hG (.inRegion ops (List.range ops.size) :: items) ⟨⟨rfl, range_ops ops⟩, ht⟩ C a b cs hn)
/-! the end of a function -/
def resOne (T : Tab) (Γ : Nat → AV) (M : Mem) : ResultVar → Option AV
  | .tmp t => some (Γ t)
  | .cell a t => rdLoad T M t (Γ a)
def resAll (T : Tab) (Γ : Nat → AV) (M : Mem) : List ResultVar → Option (List AV)
  | [] => some []
  | r :: rs => match resOne T Γ M r, resAll T Γ M rs with
    | some v, some vs => some (v :: vs)
    | _, _ => none
def resAV (vs : List AV) : AV :=
  match vs with
  | [v] => v
  | vs => .tup vs.length (lst vs)
/-- what may be said of a result behind the function's end: the ids that it made and that nothing names are forgotten -/
def Done (M0 : Mem) (M : Mem) (r : AV) (Q : AV → Mem → Prop) : Prop :=
  ∃ M' : Mem, (∀ g, M0 g ≠ none → M' g ≠ none ∧ M' g = M g) ∧ (∀ g B, M' g = some B → M g = some B) ∧ Clo M' r ∧ (∀ g B, M' g = some B → (∃ B0, M0 g = some B0 ∧ ∀ M2, CloB M2 B0 → CloB M2 B) ∨ CloB M' B) ∧ Q r M'
/-- the same, where rows of the run's own go out as slices -/
inductive DoneF (M0 : Mem) : Mem → AV → (AV → Mem → Prop) → Prop where
  | done {M : Mem} {r : AV} {Q : AV → Mem → Prop} (h : Done M0 M r Q) : DoneF M0 M r Q
  | frz {M : Mem} {r : AV} {Q : AV → Mem → Prop} (g e n sz : Nat) (f : Nat → Nat → AV) (hg : M g = some (.row e n sz f)) (h : DoneF M0 (upM M g .gone) (fzV g n sz f r) Q) : DoneF M0 M r Q
  | all {M : Mem} {r : AV} {Q : AV → Mem → Prop} (hq : Q r M) : DoneF M0 M r Q
  | le {M : Mem} {r : AV} {Q : AV → Mem → Prop} (r' : AV) (hl : Le r r') (h : DoneF M0 M r' Q) : DoneF M0 M r Q
def zGone (M : Mem) : List Nat → Mem
  | [] => M
  | z :: Z => zGone (upM M z .gone) Z
def zOk (M : Mem) : List Nat → Prop
  | [] => True
  | z :: Z => M z = some .defr ∧ zOk (upM M z .gone) Z
def EEnd (X : Fx) (Γ : Nat → AV) (M : Mem) (Z : List Nat) (Q : AV → Mem → Prop) : Prop :=
  X.ro = none ∧ zOk M Z ∧ oK (resAll X.T Γ (zGone M Z) X.rs) fun vs => DoneF X.M0 (zGone M Z) (resAV vs) Q
theorem resOne_sound {P : Program} {T : Tab} (hT : TabOk P T) {C : Cx} (hS : Sim C) {Γ : Nat → AV} {tmps : Array Value} (hF : Fits C Γ tmps) {r : ResultVar} {av : AV} (h : resOne T Γ C.M r = some av) :
    ∃ v, ((fun | .tmp t => pure (tmps.getD t undef) | .cell a t => do loadVar t (← asAddr (tmps.getD a undef)) : ResultVar → Sem Value) r).run P C.w = .ok v C.w ∧ Rep C av v := by
  cases r with
  | tmp t => cases h; exact ⟨_, rfl, hF t⟩
  | cell a t =>
    obtain ⟨v, h1, h2⟩ := rdLoad_sound (P := P) hT hS h (hF a)
    refine ⟨v, ?_, h2⟩
    simp only [Instr.loadAt, Sem.run_bind] at h1 ⊢
    cases hp : tmps.getD a undef with
    | pointer ad =>
      rw [hp] at h1
      cases ad with
      | none => simp [Instr.sureAddr] at h1
      | some ad => simpa [Instr.sureAddr, asAddr] using h1
    | _ => rw [hp] at h1; simp [Instr.sureAddr] at h1
theorem resAll_sound {P : Program} {T : Tab} (hT : TabOk P T) {C : Cx} (hS : Sim C) {Γ : Nat → AV} {tmps : Array Value} (hF : Fits C Γ tmps) : ∀ {rs : List ResultVar} {vs : List AV}, resAll T Γ C.M rs = some vs →
    ∃ us, (rs.mapM (fun | .tmp t => pure (tmps.getD t undef) | .cell a t => do loadVar t (← asAddr (tmps.getD a undef)) : ResultVar → Sem Value)).run P C.w = .ok us C.w ∧ Reps C vs us
  | [], vs, h => by cases h; exact ⟨[], rfl, trivial⟩
  | r :: rs, vs, h => by
    simp only [resAll] at h
    cases h1 : resOne T Γ C.M r with
    | none => rw [h1] at h; cases h
    | some v =>
      cases h2 : resAll T Γ C.M rs with
      | none => rw [h1, h2] at h; cases h
      | some vs' =>
        rw [h1, h2] at h
        cases h
        obtain ⟨u, e1, e2⟩ := resOne_sound (P := P) hT hS hF h1
        obtain ⟨us, f1, f2⟩ := resAll_sound hT hS hF h2
        refine ⟨u :: us, ?_, e2, f2⟩
        rw [List.mapM_cons, Sem.run_bind, e1]
        simp only [Result.andThen_ok, Sem.run_bind, f1, Sem.run_pure]
theorem results_sound {P : Program} {T : Tab} (hT : TabOk P T) {C : Cx} (hS : Sim C) {Γ : Nat → AV} {tmps : Array Value} (hF : Fits C Γ tmps) {fn : Func} {vs : List AV} (h : resAll T Γ C.M fn.results.toList = some vs) :
    ∃ v, (results fn tmps).run P C.w = .ok v C.w ∧ Rep C (resAV vs) v := by
  obtain ⟨us, h1, h2⟩ := resAll_sound (P := P) hT hS hF h
  refine ⟨if h : us.toArray.size = 1 then us.toArray[0] else .tuple us.toArray, ?_, ?_⟩
  · unfold results
    rw [Sem.run_bind, Array.mapM_eq_mapM_toList, Sem.run_map]
    refine (congrArg (fun r : Result (List Value) => (r.andThen fun a w' => .ok a.toArray w').andThen _) h1).trans ?_
    rfl
  · have hl := Reps.length h2
    have tup : us.length ≠ 1 → Rep C (resAV vs) (.tuple us.toArray) := fun hne => by
      have : resAV vs = .tup vs.length (lst vs) := by
        unfold resAV
        split
        · simp at hl; exact absurd hl hne
        · rfl
      rw [this]
      exact ⟨us.toArray, rfl, by simpa using hl, fun i hi => by have := Reps.get h2 i hi; simpa [lst, Array.getD_eq_getD_getElem?] using this⟩
    by_cases h1' : us.length = 1
    · rw [dif_pos (by simpa using h1')]
      match us, vs, h2, h1' with
      | [u], [v], ⟨r, _⟩, _ => exact r
    · rw [dif_neg (by simpa using h1')]
      exact tup h1'
end
end Go.Av
set_option linter.unusedVariables false
set_option linter.unusedSimpArgs false
namespace Go.Av
/-! ## 11. A function's end, its beginning; rounds; the range over a function -/
theorem BlkOk.only {C : Cx} {M' : Mem} (h : ∀ g B, M' g = some B → C.M g = some B) {g : Nat} {B : Blk} (k : BlkOk C g B) (c : CloB M' B) : BlkOk (C.only M') g B := by
  cases B with
  | cells e n cs => obtain ⟨b, arr, e1, h1, h2, h3⟩ := k; exact ⟨b, arr, e1, h1, h2, fun i hi => Rep.only h (h3 i hi) (c i hi)⟩
  | row e n sz f =>
    obtain ⟨h0, ⟨h1, e1⟩ | ⟨b, arr, cap, e1, h1, h2, h3, h4, h5⟩⟩ := k
    · exact ⟨h0, .inl ⟨h1, e1⟩⟩
    · exact ⟨h0, .inr ⟨b, arr, cap, e1, h1, h2, h3, h4, fun i j hi hj => Rep.only h (h5 i j hi hj) (c i j hi hj)⟩⟩
  | loop => obtain ⟨b, tmps, e1, h1, h2, h3⟩ := k; exact ⟨b, tmps, e1, h1, h2, fun i => Rep.only h (h3 i) (c i)⟩
  | _ => exact k
theorem Sim.only {C : Cx} {M' : Mem} (hS : Sim C) (h : ∀ g B, M' g = some B → C.M g = some B) (hc : ∀ g B, M' g = some B → CloB M' B) : Sim (C.only M') := by
  refine ⟨fun g g' B B' b h1 l1 h2 l2 => hS.inj g g' B B' b (h g B h1) l1 (h g' B' h2) l2, ?_, fun g B hg => BlkOk.only h (hS.blk g B (h g B hg)) (hc g B hg)⟩
  obtain ⟨N, hN⟩ := hS.fin
  exact ⟨N, fun g hg => by
    cases e : M' g with
    | none => exact e
    | some B => have := h g B e; rw [hN g hg] at this; cases this⟩
theorem Post.of_done {X : Fx} (hG : Good X) {C C' : Cx} {Q : AV → Mem → Prop} {r : AV} {v : Value} (st : Step C C') (sm : Sim C') (hr : Rep C' r v) (h : Done X.M0 C'.M r Q) : Post X C Q v C'.w := by
  obtain ⟨M', h1, h2, h3, h4, h5⟩ := h
  have hc : ∀ g B, M' g = some B → CloB M' B := fun g B hg => by
    rcases h4 g B hg with ⟨B0, h, hc⟩ | h
    · exact hc _ ((hG.clo g B0 h).mono (fun g' hg' => (h1 g' hg').1))
    · exact h
  refine ⟨C'.only M', r, rfl, sm.only h2 hc, ⟨st.os, st.tape, st.output, st.size, fun b hb => ⟨(st.stable b hb).1, only_st h2 (st.stable b hb).2⟩, fun g B h0 hg => ?_⟩, Rep.only h2 hr h3, h5⟩
  obtain ⟨B', k1, k2⟩ := st.ids g B hg
  refine ⟨B', (h1 g h0).2.trans k1, ?_⟩
  cases B <;> cases B' <;> exact k2
theorem Post.of_doneF {X : Fx} (hG : Good X) {C : Cx} {M : Mem} {Q : AV → Mem → Prop} {r : AV} (h : DoneF X.M0 M r Q) : ∀ {C' : Cx} {v : Value}, C'.M = M → Step C C' → Sim C' → Rep C' r v → Post X C Q v C'.w := by
  induction h with
  | done h => rintro C' v rfl st sm hr; exact Post.of_done hG st sm hr h
  | frz g e n sz f hg h ih =>
    rintro C' v rfl st sm hr
    obtain ⟨st', sm'⟩ := turn_gone sm g
    exact ih (C' := C'.fz g) (v := v) rfl (st.trans st') sm' (fz_rep sm hg _ _ hr)
  | all hq => rintro C' v rfl st sm hr; exact ⟨C', _, rfl, sm, st.on _, hr, hq⟩
  | le r' hl h ih => rintro C' v e st sm hr; exact ih e st sm (hl _ _ hr)
/-- a step that leaves M as it was turns nothing of it -/
theorem Done.pure {M0 M : Mem} {r : AV} {Q : AV → Mem → Prop} (h : ∀ g, M0 g ≠ none → M g = M0 g) (hr : Clo M0 r) (hq : Q r M0) : Done M0 M r Q :=
  ⟨M0, fun g hg => ⟨hg, (h g hg).symm⟩, fun g B hg => (h g (by rw [hg]; simp)).trans hg, hr, fun g B hg => .inl ⟨B, hg, fun _ h => h⟩, hq⟩
section
variable {X : Fx} {k : List It} {Z : List Nat} {Q : AV → Mem → Prop} {Γ : Nat → AV} {M : Mem}
theorem unwind_marks {P : Program} {cs : List Frame} : ∀ {Z : List Nat} {ds : List Deferred} {C : Cx} (fr : Frame), Sim C → MarksOk C Z ds → zOk C.M Z → fr.mode = .returning → fr.defers = ds →
    ∃ C' : Cx, Steps P (lone fr cs C.w) (lone { fr with defers := [] } cs C'.w) ∧ Sim C' ∧ Step C C' ∧ C'.M = zGone C.M Z
  | [], [], C, fr, hS, _, _, hm, hd => ⟨C, by rw [show ({ fr with defers := [] } : Frame) = fr by rw [← hd]]; exact .refl _ _, hS, Step.refl C, rfl⟩
  | [], _ :: _, _, _, _, h, _, _, _ => h.elim
  | _ :: _, [], _, _, _, h, _, _, _ => h.elim
  | z :: Z, d :: ds, C, fr, hS, ⟨⟨h1, b, h2, h3⟩, h4⟩, ⟨hz, hzs⟩, hm, hd => by
    obtain ⟨b', e1, hh⟩ := hS.blk z _ hz
    have hb : C.ρ z = some b := h2 hz
    obtain rfl : b' = b := by rw [hb] at e1; cases e1; rfl
    have htake := run_takeDeferred (P := P) hh
    have hstep := step_collected (P := P) (fr := fr) (cs := cs) (by rw [hm]; simp) hd (by rw [h3]) htake
    have hlt := heap_lt hh
    obtain ⟨st, sm⟩ := turn hS z .gone (C.w.putObj b' (.deferred none)) (C.ρ z) rfl rfl rfl (by simp) (fun b2 hb2 hne => World.putObj_heap_other (fun e => hne _ hz trivial (by rw [e]; exact hb)))
      (fun b2 e => .inr ⟨_, hz, trivial, e⟩) (fun B hB => by cases B <;> trivial) (fun _ => trivial)
    obtain ⟨C', s1, s2, s3, s4⟩ := unwind_marks (P := P) (cs := cs) (Z := Z) (ds := ds) (C := C.turn (C.w.putObj b' (.deferred none)) z .gone (C.ρ z)) { fr with defers := ds } sm (h4.step st) hzs hm rfl
    exact ⟨C', .head hstep s1, s2, st.trans s3, s4⟩
theorem leave_ends (h : EEnd X Γ M Z Q) (hG : Good X) {C : Cx} {a : Act} {b : Frame} {cs : List Frame} (hn : Now X Γ M Z C a b) (items : List Item) :
    Ends X.P b cs (lone { b.atR a items with mode := .returning } cs C.w) (Post X C Q) := by
  obtain ⟨hro, hz, hres⟩ := h
  have hb : b.roundOf = none := by have := hn.ro; rw [hro] at this; exact this
  obtain ⟨fn, hf, hrs⟩ := hG.res hro
  obtain ⟨vs, e1, e2⟩ := oK_some hres
  have hM := hn.m
  obtain ⟨C', s1, s2, s3, s4⟩ := unwind_marks (P := X.P) (cs := cs) { b.atR a items with mode := .returning } hn.sim hn.marks (by rw [hM]; exact hz) rfl rfl
  rw [← hrs, ← hM, ← s4] at e1
  obtain ⟨v, h1, h2⟩ := results_sound (P := X.P) hG.tab s2 (hn.fits.step s3) e1
  unfold Ends
  rw [hb]
  refine ⟨v, C'.w, _, s1, rfl, ⟨rfl, rfl, hn.kind, fn, by rw [← hf]; exact congrArg (X.P.funcs[·]?) hn.fn, h1⟩, Post.of_doneF hG e2 (by rw [s4, hM]) s3 s2 h2⟩
theorem ARuns.ret (h : EEnd X Γ M Z Q) : ARuns X (.code .ret :: k) Γ M Z Q := by
  intro hG items ht C a b cs hn
  match items, ht with
  | .code c :: items, ⟨⟨e, _⟩, ht⟩ =>
    subst e
    have hb : b.roundOf = none := by have := hn.ro; rw [h.1] at this; exact this
    exact .step (stepR_ret hb) (leave_ends h hG hn _)
theorem ARuns.fin (h : EEnd X Γ M Z Q) : ARuns X [] Γ M Z Q := by
  intro hG items ht C a b cs hn
  match items, ht with
  | [], _ =>
    have hb : b.roundOf = none := by have := hn.ro; rw [h.1] at this; exact this
    exact .step (stepR_end hb) (leave_ends h hG hn _)
end
/-! the beginning -/
def lk : List (Nat × AV) → Nat → AV
  | [], _ => .dead
  | (j, v) :: L, i => if i = j then v else lk L i
def num : Nat → List AV → List (Nat × AV)
  | _, [] => []
  | n, a :: l => (n, a) :: num (n + 1) l
theorem lk_num : ∀ (l : List AV) (n i : Nat), lk (num n l) (n + i) = l.getD i .dead
  | [], _, _ => rfl
  | a :: l, n, 0 => by simp [num, lk]
  | a :: l, n, i + 1 => by
    simp only [num, lk]
    rw [if_neg (by omega), show n + (i + 1) = n + 1 + i by omega, lk_num l (n + 1) i]
    simp
theorem fits_num {C : Cx} {as : List AV} {vs : Array Value} (h : Reps C as vs.toList) (m : Nat) : Fits C (lk (num 0 as)) (vs ++ Array.replicate m undef) := by
  intro i
  have e := lk_num as 0 i
  rw [Nat.zero_add] at e
  rw [e]
  by_cases hi : i < vs.size
  · have hl := Reps.length h
    have := Reps.get h i (by simp at hl; omega)
    rw [Array.getD_eq_getD_getElem?, Array.getElem?_append_left hi]
    rw [← Array.getElem?_toList, ← List.getD_eq_getElem?_getD]
    exact this
  · have hl := Reps.length h
    have : as.getD i .dead = .dead := by
      rw [List.getD_eq_getElem?_getD, List.getElem?_eq_none (by simp at hl; omega)]; rfl
    rw [this]; trivial
theorem ACalls.of_body {P : Program} {T : Tab} {f : FuncId} {fn : Func} {c : Code} {own : List Tmp} {ord : List (Nat × Nat)} {as : List AV} {M : Mem} {Q : AV → Mem → Prop} (hT : TabOk P T) (hf : P.funcs[f]? = some fn) (hb : fn.body = some c) (hnm : (fn.name == "runtime.NumGoroutine") = false) (hN : as.length ≤ fn.ntmps)
    (hok : okC ⟨P, T, fn.ntmps, f, fn.results.toList, own, ord, M, none⟩ c = true)
    (h : ARuns ⟨P, T, fn.ntmps, f, fn.results.toList, own, ord, M, none⟩ [.code c] (lk (num 0 as)) M [] Q) : ACalls P f as M Q := by
  refine ⟨⟨fn, c, hf, hb, hnm⟩, fun C vs hM hS hr cs => ?_⟩
  let b : Frame := { (default : Frame) with fn := f, kind := .normal, roundOf := none }
  have hl : vs.length = as.length := Reps.length hr
  have henter : Frame.enter P f vs.toArray .normal = b.atR { tmps := vs.toArray ++ Array.replicate (fn.ntmps - vs.toArray.size) undef, defers := [] } [.code c] := by
    simp [Frame.enter, Frame.atR, b, hf, hb]
  have hG : Good ⟨P, T, fn.ntmps, f, fn.results.toList, own, ord, M, none⟩ := ⟨hT, fun g B hg => by subst hM; exact (hS.blk g B hg).clo, fun _ => ⟨fn, hf, rfl⟩⟩
  have hn : Now ⟨P, T, fn.ntmps, f, fn.results.toList, own, ord, M, none⟩ (lk (num 0 as)) M [] C { tmps := vs.toArray ++ Array.replicate (fn.ntmps - vs.toArray.size) undef, defers := [] } b :=
    ⟨hM, hS, fits_num (by simpa using hr) _, by simp; omega, trivial, rfl, rfl, rfl⟩
  obtain ⟨v, w', fr, s1, s2, s3, C', r, e1, e2, e3, e4, e5⟩ := h hG [.code c] ⟨⟨rfl, hok⟩, trivial⟩ C _ b cs hn
  subst e1 hM
  exact ⟨v, fr, C', r, by rw [henter]; exact s1, s2, s3, e2, e3.full, e4, e5⟩
end Go.Av
set_option linter.unusedVariables false
set_option linter.unusedSimpArgs false
namespace Go.Av
/-! ## 12. Slim code: what a run of the code asks, said over lists of slots -/
structure SOp where
  d : Option Tmp
  op : Op
  g : Option (Option Tmp × Bool)
inductive SC where
  | skip | ret
  | exit (id : Nat)
  | reg (ops : List SOp) (keep : List Nat)
  | draw (l : List (SOp × List Nat)) (keep : List Nat)
  | seq (a b : SC)
  | cond (c : Operand) (a b : SC)
  | block (id : Nat) (b : SC)
  | loop (b : SC)
  | range (f : Operand) (ps : Array Tmp) (a b : SC)
  | other
def slimOp (all : Array Oper) (o : Oper) : SOp := ⟨o.dst, o.op, o.guard.map fun p => ((all[p.1]?).bind (·.dst), p.2)⟩
def flagged (ops : Array Oper) : List (SOp × List Nat) := ops.toList.zipIdx.map fun p => (slimOp ops p.1, unOf ops (Region.before ops) p.2)
def slim (X : Fx) : Code → SC
  | .skip => .skip
  | .label _ => .skip
  | .ret => .ret
  | .exit id => .exit id
  | .region _ ops true => .draw (flagged ops) []
  | .region _ ops false => .reg (ops.toList.map (slimOp ops)) []
  | .seq a b => .seq (slim X a) (slim X b)
  | .cond c a b => .cond c (slim X a) (slim X b)
  | .block id b => .block id (slim X b)
  | .loop b => .loop (slim X b)
  | .rangeFunc f ps a b => .range f ps (slim X a) (slim X b)
  | _ => .other
def SC.bare : SC → SC
  | .reg ops _ => .reg ops []
  | .draw l _ => .draw l []
  | .seq a b => .seq a.bare b.bare
  | .cond c a b => .cond c a.bare b.bare
  | .block id b => .block id b.bare
  | .loop b => .loop b.bare
  | .range f ps a b => .range f ps a.bare b.bare
  | c => c
inductive SI where
  | code (c : SC) | inBlock (id : Nat) | inLoop (c : SC) | beginRound
def IsI (X : Fx) : SI → It → Prop
  | .code c, .code c' => c.bare = slim X c' ∧ okC X c' = true
  | .inBlock i, .inBlock j => j = i
  | .inLoop c, .inLoop c' => c.bare = slim X c' ∧ okC X c' = true
  | .beginRound, .beginRound => True
  | _, _ => False
def Is (X : Fx) : List SI → List It → Prop
  | [], [] => True
  | a :: l, b :: m => IsI X a b ∧ Is X l m
  | _, _ => False
def SRuns (X : Fx) (k : List SI) (Γ : Nat → AV) (M : Mem) (Z : List Nat) (Q : AV → Mem → Prop) : Prop := ∀ todo, Is X k todo → ARuns X todo Γ M Z Q
/-- one operation, whose guard is known by its slot -/
def SG (X : Fx) (o : SOp) (Γ : Nat → AV) (M : Mem) (K : (Nat → AV) → Mem → Prop) : Prop :=
  match o.g with
  | none => EOp X ⟨o.d, o.op, 0, "", #[], none⟩ Γ M K
  | some (some d, want) => match Γ d with
    | .raw (.bool b) => (b = want → EOp X ⟨o.d, o.op, 0, "", #[], none⟩ (up Γ d (.raw (.bool want))) M K) ∧ (b = (!want) → dOk X.N o.d ∧ K (put (up Γ d (.raw (.bool (!want)))) o.d (.raw undef)) M)
    | .raw (.tuple _) => dOk X.N o.d ∧ K (put Γ o.d (.raw undef)) M
    | _ => False
  | some (none, _) => False
def SL (X : Fx) : List SOp → (Nat → AV) → Mem → ((Nat → AV) → Mem → Prop) → Prop
  | [], Γ, M, K => K Γ M
  | o :: l, Γ, M, K => SG X o Γ M fun Γ' M' => SL X l Γ' M' K
theorem up_same {Γ : Nat → AV} {d : Nat} {v : AV} (h : Γ d = v) : up Γ d v = Γ := by
  funext i; unfold up; split
  · rename_i e; subst e; exact h.symm
  · rfl
theorem SG.eg {X : Fx} {all : Array Oper} {o : Oper} {Γ : Nat → AV} {M : Mem} {K : (Nat → AV) → Mem → Prop} (h : SG X (slimOp all o) Γ M K) : EG X all o Γ M K := by
  unfold EG guardOf
  unfold SG slimOp at h
  simp only at h
  cases hg : o.guard with
  | none => rw [hg] at h; exact h
  | some jw =>
    obtain ⟨j, want⟩ := jw
    rw [hg] at h
    simp only [Option.map_some] at h ⊢
    cases hd : (all[j]?).bind (·.dst) with
    | none => rw [hd] at h; exact h.elim
    | some d =>
      rw [hd] at h
      simp only at h ⊢
      cases hΓ : Γ d with
      | raw u =>
        rw [hΓ] at h
        cases u with
        | bool b =>
          simp only at h ⊢
          refine ⟨fun e => ?_, fun e => ?_⟩
          · have := h.1 e
            rw [up_same (by rw [hΓ, e])] at this
            exact this
          · have := h.2 e
            rw [up_same (by rw [hΓ, e])] at this
            exact this
        | tuple cs => simpa using h
        | _ => exact h.elim
      | _ => rw [hΓ] at h; exact h.elim
theorem SG.mono {X : Fx} {o : SOp} {Γ : Nat → AV} {M : Mem} {K K' : (Nat → AV) → Mem → Prop} (hm : ∀ Γ M, K Γ M → K' Γ M) (h : SG X o Γ M K) : SG X o Γ M K' := by
  have eop : ∀ (o : Oper) (Γ : Nat → AV), EOp X o Γ M K → EOp X o Γ M K' := by
    intro o Γ h
    have ok : ∀ {α : Type} (x : Option α) (J J' : α → Prop), (∀ v, J v → J' v) → oK x J → oK x J' := fun x J J' hj hx => by
      cases x with
      | none => exact hx.elim
      | some v => exact hj v hx
    refine ⟨h.1, ?_⟩
    obtain ⟨_, h⟩ := h
    cases ho : o.op with
    | alloc t => rw [ho] at h; exact ok _ _ _ (fun zs hz => hz.mono fun g => hm _ _) h
    | box t x =>
      rw [ho] at h
      simp only at h ⊢
      split
      · rename_i e; rw [if_pos e] at h; exact ok _ _ _ (fun l hl => hl.mono fun g => hm _ _) h
      · rename_i e; rw [if_neg e] at h; exact ok _ _ _ (fun v hv => hm _ _ hv) h
    | buildSlice t len ps =>
      rw [ho] at h
      simp only at h ⊢
      split
      · rename_i e; rw [if_pos e] at h; exact ok _ _ _ (fun l hl => ⟨hl.1, hl.2.mono fun g => hm _ _⟩) h
      · rename_i e; rw [if_neg e] at h; exact ok _ _ _ (fun v hv => hm _ _ hv) h
    | store t x v => rw [ho] at h; exact ok _ _ _ (fun M' hv => hm _ _ hv) h
    | call c =>
      rw [ho] at h
      simp only at h ⊢
      cases hc : c.callee with
      | builtin b =>
        rw [hc] at h
        cases b with
        | append =>
          simp only at h ⊢
          unfold EApp at h ⊢
          split at h
          · refine ⟨h.1, ?_⟩
            obtain ⟨_, h⟩ := h
            split at h
            · split at h
              · exact ⟨h.1, h.2.1, h.2.2.1, ok _ _ _ (fun p hp => ok _ _ _ (fun q hq => ⟨hq.1, hq.2.1, hq.2.2.mono fun g => hm _ _⟩) hp) h.2.2.2⟩
              · exact h.elim
            · exact h.elim
          · exact h.elim
        | _ => exact ok _ _ _ (fun v hv => hm _ _ hv) h
      | value f =>
        rw [hc] at h
        simp only at h ⊢
        split at h
        · exact h.mono fun r M' hr => hm _ _ hr
        · exact h.mono fun r M' hr => hm _ _ hr
        · exact h.elim
      | invoke => rw [hc] at h; exact h.elim
    | _ => rw [ho] at h; exact ok _ _ _ (fun v hv => hm _ _ hv) h
  unfold SG at h ⊢
  split at h
  · exact eop _ _ h
  · split at h
    · exact ⟨fun e => eop _ _ (h.1 e), fun e => ⟨(h.2 e).1, hm _ _ (h.2 e).2⟩⟩
    · exact ⟨h.1, hm _ _ h.2⟩
    · exact h.elim
  · exact h.elim
theorem SL.mono {X : Fx} : ∀ {l : List SOp} {Γ : Nat → AV} {M : Mem} {K K' : (Nat → AV) → Mem → Prop}, (∀ Γ M, K Γ M → K' Γ M) → SL X l Γ M K → SL X l Γ M K'
  | [], _, _, _, _, hm, h => hm _ _ h
  | o :: l, _, _, _, _, hm, h => SG.mono (fun _ _ h' => SL.mono hm h') h
theorem SL.el {X : Fx} {all : Array Oper} : ∀ {l : List Oper} {Γ : Nat → AV} {M : Mem} {K : (Nat → AV) → Mem → Prop}, SL X (l.map (slimOp all)) Γ M K → EL X all l Γ M K
  | [], _, _, _, h => h
  | o :: l, _, _, _, h => SG.eg (SG.mono (fun _ _ h' => SL.el h') h)
section
variable {X : Fx} {k : List SI} {Γ Γ' : Nat → AV} {M : Mem} {Z : List Nat} {Q : AV → Mem → Prop}
theorem ARuns.weak {todo : List It} (hl : ∀ i, Le (Γ i) (Γ' i)) (h : ARuns X todo Γ' M Z Q) : ARuns X todo Γ M Z Q :=
  fun hG items ht C a b cs hn => h hG items ht C a b cs ⟨hn.m, hn.sim, fun i => hl i C _ (hn.fits i), hn.size, hn.marks, hn.fn, hn.kind, hn.ro⟩
theorem SRuns.weak (hl : ∀ i, Le (Γ i) (Γ' i)) (h : SRuns X k Γ' M Z Q) : SRuns X k Γ M Z Q := fun todo ht => (h todo ht).weak hl
theorem SRuns.mono {Q' : AV → Mem → Prop} (h : SRuns X k Γ M Z Q) (hq : ∀ r M, Q r M → Q' r M) : SRuns X k Γ M Z Q' := fun todo ht => (h todo ht).mono hq
def kp (ks : List Nat) (Γ : Nat → AV) : List (Nat × AV) := ks.map fun i => (i, Γ i)
theorem lk_kp : ∀ (ks : List Nat) (Γ : Nat → AV) (i : Nat), lk (kp ks Γ) i = Γ i ∨ lk (kp ks Γ) i = .dead
  | [], _, _ => .inr rfl
  | j :: ks, Γ, i => by
    by_cases e : i = j
    · subst e; left; simp [kp, lk]
    · have := lk_kp ks Γ i
      simp only [kp, List.map_cons, lk, if_neg e]
      exact this
theorem Le.dead (a : AV) : Le a .dead := fun _ _ _ => trivial
theorem le_kp (ks : List Nat) (Γ : Nat → AV) (i : Nat) : Le (Γ i) (lk (kp ks Γ) i) := by
  rcases lk_kp ks Γ i with h | h
  · rw [h]; exact Le.refl _
  · rw [h]; exact Le.dead _
theorem is_code {c : SC} {todo : List It} (h : Is X (.code c :: k) todo) : ∃ c' todo', todo = .code c' :: todo' ∧ c.bare = slim X c' ∧ okC X c' = true ∧ Is X k todo' := by
  match todo, h with
  | .code c' :: todo', ⟨h1, h2⟩ => exact ⟨c', todo', rfl, h1.1, h1.2, h2⟩
theorem SRuns.skip (h : SRuns X k Γ M Z Q) : SRuns X (.code .skip :: k) Γ M Z Q := by
  intro todo ht
  obtain ⟨c', todo', rfl, h1, hok, h2⟩ := is_code ht
  cases c'
  case region id' ops' d' => cases d' <;> simp [SC.bare, slim] at h1
  all_goals first | (simp [SC.bare, slim] at h1; done) | exact .skip (h _ h2) | exact .label (h _ h2)
theorem SRuns.seq {a b : SC} (h : SRuns X (.code a :: .code b :: k) Γ M Z Q) : SRuns X (.code (.seq a b) :: k) Γ M Z Q := by
  intro todo ht
  obtain ⟨c', todo', rfl, h1, hok, h2⟩ := is_code ht
  cases c'
  case region id' ops' d' => cases d' <;> simp [SC.bare, slim] at h1
  all_goals simp only [SC.bare, slim, reduceCtorEq, SC.seq.injEq] at h1
  simp only [okC, Bool.and_eq_true] at hok
  exact .seq (h _ ⟨⟨h1.1, hok.1⟩, ⟨h1.2, hok.2⟩, h2⟩)
def kpl (ks : List Nat) (L : List (Nat × AV)) : List (Nat × AV) := ks.map fun i => (i, lk L i)
def KR (X : Fx) (k : List SI) (ks : List Nat) (Z : List Nat) (Q : AV → Mem → Prop) : (Nat → AV) → Mem → Prop := fun Γ' M' => SRuns X k (lk (kp ks Γ')) M' Z Q
theorem SRuns.reg {ops : List SOp} {ks : List Nat} (h : SL X ops Γ M (KR X k ks Z Q)) : SRuns X (.code (.reg ops ks) :: k) Γ M Z Q := by
  intro todo ht
  obtain ⟨c', todo', rfl, h1, hok, h2⟩ := is_code ht
  cases c'
  case region id' ops' d' =>
    cases d' <;> simp only [SC.bare, slim, reduceCtorEq, SC.reg.injEq, and_true] at h1
    refine .region (SL.el ?_)
    rw [← h1]
    exact SL.mono (fun Γ' M' h' => (h' _ h2).weak (le_kp ks Γ')) h
  all_goals simp only [SC.bare, slim, reduceCtorEq] at h1
theorem SRuns.cond {c : Operand} {x y : SC} {t : Bool} (hc : opv Γ c = .raw (.bool t)) (h1 : t = true → SRuns X (.code x :: k) Γ M Z Q) (h2 : t = false → SRuns X (.code y :: k) Γ M Z Q) : SRuns X (.code (.cond c x y) :: k) Γ M Z Q := by
  intro todo ht
  obtain ⟨c', todo', rfl, e1, hok, e2⟩ := is_code ht
  cases c'
  case region id' ops' d' => cases d' <;> simp [SC.bare, slim] at e1
  all_goals simp only [SC.bare, slim, reduceCtorEq, SC.cond.injEq] at e1
  obtain ⟨rfl, e3, e4⟩ := e1
  refine .cond hc ?_
  cases t with
  | true => exact h1 rfl _ ⟨⟨e3, by simp only [okC, Bool.and_eq_true] at hok; exact hok.1⟩, e2⟩
  | false => exact h2 rfl _ ⟨⟨e4, by simp only [okC, Bool.and_eq_true] at hok; exact hok.2⟩, e2⟩
theorem SRuns.condNil {c : Operand} {x y : SC} {m : Nat} (hc : opv Γ c = .nilB m) (h1 : m = 0 → SRuns X (.code x :: k) Γ M Z Q) (h2 : SRuns X (.code y :: k) Γ M Z Q) : SRuns X (.code (.cond c x y) :: k) Γ M Z Q := by
  intro todo ht
  obtain ⟨c', todo', rfl, e1, hok, e2⟩ := is_code ht
  cases c'
  case region id' ops' d' => cases d' <;> simp [SC.bare, slim] at e1
  all_goals simp only [SC.bare, slim, reduceCtorEq, SC.cond.injEq] at e1
  obtain ⟨rfl, e3, e4⟩ := e1
  simp only [okC, Bool.and_eq_true] at hok
  exact .condNil hc (fun h0 => h1 h0 _ ⟨⟨e3, hok.1⟩, e2⟩) (h2 _ ⟨⟨e4, hok.2⟩, e2⟩)
theorem SRuns.block {id : Nat} {x : SC} (h : SRuns X (.code x :: .inBlock id :: k) Γ M Z Q) : SRuns X (.code (.block id x) :: k) Γ M Z Q := by
  intro todo ht
  obtain ⟨c', todo', rfl, e1, hok, e2⟩ := is_code ht
  cases c'
  case region id' ops' d' => cases d' <;> simp [SC.bare, slim] at e1
  all_goals simp only [SC.bare, slim, reduceCtorEq, SC.block.injEq] at e1
  obtain ⟨rfl, e1⟩ := e1
  exact .block (h _ ⟨⟨e1, hok⟩, rfl, e2⟩)
theorem SRuns.inBlock {id : Nat} (h : SRuns X k Γ M Z Q) : SRuns X (.inBlock id :: k) Γ M Z Q := by
  intro todo ht
  match todo, ht with
  | .inBlock j :: todo', ⟨_, h2⟩ => exact .inBlock (h _ h2)
def exitS (id : Nat) : List SI → Option (List SI)
  | .inBlock i :: k => if i = id then some k else exitS id k
  | _ :: k => exitS id k
  | [] => none
theorem exitS_ok {id : Nat} : ∀ {k k' : List SI} {todo : List It}, Is X k todo → exitS id k = some k' → ∃ t', exitIt id todo = some t' ∧ Is X k' t'
  | .inBlock i :: k, k', .inBlock j :: todo, ⟨e, ht⟩, h => by
    have e : j = i := e
    subst e
    simp only [exitS] at h
    simp only [exitIt]
    split at h
    · cases h; rename_i e2; exact ⟨todo, by simp [e2], ht⟩
    · rename_i e2; rw [if_neg e2]; exact exitS_ok ht h
  | .code _ :: k, k', .code _ :: todo, ⟨_, ht⟩, h => by simp only [exitS] at h; simp only [exitIt]; exact exitS_ok ht h
  | .inLoop _ :: k, k', .inLoop _ :: todo, ⟨_, ht⟩, h => by simp only [exitS] at h; simp only [exitIt]; exact exitS_ok ht h
  | .beginRound :: k, k', .beginRound :: todo, ⟨_, ht⟩, h => by simp only [exitS] at h; simp only [exitIt]; exact exitS_ok ht h
theorem exitS_none {id : Nat} : ∀ {k : List SI} {todo : List It}, Is X k todo → exitS id k = none → exitIt id todo = none
  | [], [], _, _ => rfl
  | .inBlock i :: k, .inBlock j :: todo, ⟨e, ht⟩, h => by
    have e : j = i := e
    subst e
    simp only [exitS] at h
    simp only [exitIt]
    split at h
    · cases h
    · rename_i e2; rw [if_neg e2]; exact exitS_none ht h
  | .code _ :: k, .code _ :: todo, ⟨_, ht⟩, h => by simp only [exitS] at h; simp only [exitIt]; exact exitS_none ht h
  | .inLoop _ :: k, .inLoop _ :: todo, ⟨_, ht⟩, h => by simp only [exitS] at h; simp only [exitIt]; exact exitS_none ht h
  | .beginRound :: k, .beginRound :: todo, ⟨_, ht⟩, h => by simp only [exitS] at h; simp only [exitIt]; exact exitS_none ht h
theorem SRuns.exit {id : Nat} {k' : List SI} (he : exitS id k = some k') (h : SRuns X k' Γ M Z Q) : SRuns X (.code (.exit id) :: k) Γ M Z Q := by
  intro todo ht
  obtain ⟨c', todo', rfl, e1, hok, e2⟩ := is_code ht
  cases c'
  case region id' ops' d' => cases d' <;> simp [SC.bare, slim] at e1
  all_goals simp only [SC.bare, slim, reduceCtorEq, SC.exit.injEq] at e1
  subst e1
  obtain ⟨t', e3, e4⟩ := exitS_ok e2 he
  exact .exit e3 (h _ e4)
theorem SRuns.ret (h : EEnd X Γ M Z Q) : SRuns X (.code .ret :: k) Γ M Z Q := by
  intro todo ht
  obtain ⟨c', todo', rfl, e1, hok, e2⟩ := is_code ht
  cases c'
  case region id' ops' d' => cases d' <;> simp [SC.bare, slim] at e1
  all_goals simp only [SC.bare, slim, reduceCtorEq] at e1
  exact .ret h
theorem SRuns.fin (h : EEnd X Γ M Z Q) : SRuns X [] Γ M Z Q := by
  intro todo ht
  match todo, ht with
  | [], _ => exact .fin h
/-- a loop, by what holds when its body begins; n becomes less -/
theorem SRuns.loop {x : SC} (I : Nat → (Nat → AV) → Mem → Prop) (n : Nat) (h0 : I n Γ M)
    (h : ∀ n Γ M, I n Γ M → (∀ m Γ' M', m < n → I m Γ' M' → SRuns X (.inLoop x :: k) Γ' M' Z Q) → SRuns X (.code x :: .inLoop x :: k) Γ M Z Q) : SRuns X (.code (.loop x) :: k) Γ M Z Q := by
  have key : ∀ n Γ M, I n Γ M → SRuns X (.code x :: .inLoop x :: k) Γ M Z Q := by
    intro n
    induction n using Nat.strongRecOn with
    | _ n ih =>
      intro Γ M hI
      refine h n Γ M hI fun m Γ' M' hm hI' => ?_
      have := ih m hm Γ' M' hI'
      intro todo ht
      match todo, ht with
      | .inLoop c' :: todo', ⟨e1, e2⟩ => exact .inLoop (this _ ⟨e1, e1, e2⟩)
  intro todo ht
  obtain ⟨c', todo', rfl, e1, hok, e2⟩ := is_code ht
  cases c'
  case region id' ops' d' => cases d' <;> simp [SC.bare, slim] at e1
  all_goals simp only [SC.bare, slim, reduceCtorEq, SC.loop.injEq] at e1
  exact .loop (key n Γ M h0 _ ⟨⟨e1, hok⟩, ⟨e1, hok⟩, e2⟩)
end
/-- a function's contract, from its slim code -/
theorem ACalls.of_slim {P : Program} {T : Tab} {f : FuncId} {fn : Func} {c : Code} (sc : SC) (own : List Tmp) (ord : List (Nat × Nat)) {as : List AV} {M : Mem} {Q : AV → Mem → Prop} (hT : TabOk P T) (hf : P.funcs[f]? = some fn) (hb : fn.body = some c) (N : Nat) (rs : List ResultVar)
    (hc : (fn.name == "runtime.NumGoroutine") = false ∧ fn.ntmps = N ∧ fn.results.toList = rs ∧ okC ⟨P, T, N, f, rs, own, ord, fun _ => none, none⟩ c = true ∧ sc.bare = slim ⟨P, T, N, f, rs, own, ord, fun _ => none, none⟩ c) (hN : as.length ≤ N)
    (h : SRuns ⟨P, T, N, f, rs, own, ord, M, none⟩ [.code sc] (lk (num 0 as)) M [] Q) : ACalls P f as M Q := by
  obtain ⟨h1, h2, h3, h4, h5⟩ := hc
  subst h2 h3
  have e1 : ∀ c, okC ⟨P, T, fn.ntmps, f, fn.results.toList, own, ord, M, none⟩ c = okC ⟨P, T, fn.ntmps, f, fn.results.toList, own, ord, fun _ => none, none⟩ c := by
    intro c
    induction c with
    | region id ops d => cases d <;> rfl
    | _ => simp_all [okC]
  have e2 : ∀ c, slim ⟨P, T, fn.ntmps, f, fn.results.toList, own, ord, M, none⟩ c = slim ⟨P, T, fn.ntmps, f, fn.results.toList, own, ord, fun _ => none, none⟩ c := by
    intro c
    induction c with
    | region id ops d => cases d <;> rfl
    | _ => simp_all [slim]
  exact ACalls.of_body (own := own) (ord := ord) hT hf hb h1 hN (by rw [e1]; exact h4) (h _ ⟨⟨by show sc.bare = slim _ c; rw [e2]; exact h5, by rw [e1]; exact h4⟩, trivial⟩)
end Go.Av
