import Derived.Test.YtaiinpbaaeemmaaA2
import Derived.Maps.AppendAt
set_option linter.unusedVariables false
set_option linter.unusedSimpArgs false
namespace Go.Av
/-! ## 6. Operations of a region, one after the other -/
def plS (T : Tab) (fs : List (Nat × TypeId)) (k : Nat) : Option (Nat × Nat) :=
  match fs[k]? with
  | some (o, t) => match T.ty t with
    | some ty => some (o, ty.cells)
    | none => none
  | none => none
def plE (sz : Nat) (k : Nat) : Option (Nat × Nat) := some (k * sz, sz)
def opvs (Γ : Nat → AV) (ps : Array (Nat × Operand)) : List (Nat × AV) := ps.toList.map fun p => (p.1, opv Γ p.2)
def rdBuild (T : Tab) (M : Mem) (t : TypeId) (ps : List (Nat × AV)) : Option AV :=
  match T.ty t, T.zero t with
  | some (.struct fs _), some zs => if fs.all (fun p => (T.ty p.2).isSome) then (match fillA (plS T fs) M (zs.map .raw) ps with
    | some l => some (.ag l.length (lst l))
    | none => none) else none
  | some (.arr _ e _), some zs => match T.ty e with
    | some te => (match fillA (plE te.cells) M (zs.map .raw) ps with
      | some l => some (.ag l.length (lst l))
      | none => none)
    | none => none
  | _, _ => none
/-- the cells of a slice that is written out -/
def litCells (T : Tab) (M : Mem) (t : TypeId) (len : Nat) (ps : List (Nat × AV)) : Option (TypeId × Nat × List AV) :=
  match T.ty t with
  | some (.slice e) => match T.ty e, T.zero e with
    | some te, some _ => if 0 < te.cells ∧ len * te.cells ≤ 16777216 then (match fillA (plE te.cells) M (List.replicate (len * te.cells) .dead) ps with
      | some l => some (e, te.cells, l)
      | none => none) else none
    | _, _ => none
  | _ => none
def rdBlt (T : Tab) (M : Mem) (b : Builtin) (ts : Array TypeId) (as : List AV) : Option AV :=
  match b, as with
  | .len, [x] => match ts[0]? with
    | some t => rdLen T M t x
    | none => none
  | .max, as => rdMax as
  | .min, as => rdMin as
  | _, _ => none
def rd (T : Tab) (own : List Tmp) (d : Option Tmp) (Γ : Nat → AV) (M : Mem) (op : Op) : Option AV :=
  match op with
  | .move x | .assign x => some (opv Γ x)
  | .pick c a b => rdPick (opv Γ c) (opv Γ a) (opv Γ b)
  | .load t x => rdLoad T M t (opv Γ x)
  | .binOp op t x y _ => rdBin T op t (opv Γ x) (opv Γ y)
  | .unOp op _ x => rdUn op (opv Γ x)
  | .convert s t x => rdConv T s t (opv Γ x)
  | .makeFunc f first cap => if first.size = 0 then some (.fn f cap.size (lst (cap.toList.map (opv Γ)))) else none
  | .slice t x lo hi mx => match mx with
    | none => rdSlice T t (opv Γ x) (lo.map (opv Γ)) (hi.map (opv Γ))
    | some _ => none
  | .fieldAddr s x f => rdFieldAddr T M s (opv Γ x) f
  | .field s x f => rdField T s (opv Γ x) f
  | .indexAddr t x i => rdIndexAddr T M t (opv Γ x) (opv Γ i)
  | .index t x i => rdIndex T t (opv Γ x) (opv Γ i)
  | .extract x k => rdExtract (opv Γ x) k
  | .build t ps => rdBuild T M t (opvs Γ ps)
  | .box t x => match cellsOf M (opv Γ x) with
    | some l => some (.ref l.length (lst l))
    | none => none
  | .buildSlice t len ps => match litCells T M t len (opvs Γ ps) with
    | some (_, sz, l) => some (.sl len sz (fun i j => lst l (i * sz + j)))
    | none => none
  | .call c => match c.callee with
    | .builtin b => rdBlt T M b c.argTypes (c.args.toList.map (opv Γ))
    | _ => none
  | _ => none
theorem opvs_reps {C : Cx} {Γ : Nat → AV} {a : Act} (h : Fits C Γ a.tmps) (ps : Array (Nat × Operand)) : RepsP C (opvs Γ ps) (ps.map fun (i, x) => (i, a.eval x)).toList := by
  rw [Array.toList_map]
  unfold opvs
  induction ps.toList with
  | nil => trivial
  | cons p l ih => exact ⟨rfl, h.opv p.2, ih⟩
theorem opv_reps {C : Cx} {Γ : Nat → AV} {a : Act} (h : Fits C Γ a.tmps) : ∀ xs : List Operand, Reps C (xs.map (opv Γ)) (xs.map a.eval)
  | [] => trivial
  | x :: xs => ⟨h.opv x, opv_reps h xs⟩
theorem mapM_run {P : Program} {α β : Type} (f : α → Sem β) (g : α → β) (w : World) : ∀ (l : List α), (∀ x ∈ l, (f x).run P w = .ok (g x) w) → (l.mapM f).run P w = .ok (l.map g) w
  | [], _ => by simp
  | x :: l, h => by
    have ih := mapM_run f g w l (fun y hy => h y (by simp [hy]))
    simp [List.mapM_cons, h x (by simp), ih]
theorem places_run {P : Program} {T : Tab} (hT : TabOk P T) (fields : Array Field) (h : ∀ f ∈ fields.toList, (T.ty f.type).isSome) (w : World) :
    ∃ places : Array (Nat × Nat), (fields.mapM (fun f => do pure (f.offset, ← sizeOf f.type) : Field → Sem (Nat × Nat))).run P w = .ok places w ∧ ∀ k r, plS T (fields.toList.map fun f => (f.offset, f.type)) k = some r → places[k]? = some r := by
  have hrun : ∀ f ∈ fields.toList, (do pure (f.offset, ← sizeOf f.type) : Sem (Nat × Nat)).run P w = .ok (f.offset, ((T.ty f.type).map Ty.cells).getD 0) w := fun f hf => by
    obtain ⟨ty, ht⟩ := Option.isSome_iff_exists.1 (h f hf)
    simp [run_sizeOf' hT ht, ht]
  have := mapM_run (P := P) (fun f : Field => (do pure (f.offset, ← sizeOf f.type) : Sem (Nat × Nat))) (fun f => (f.offset, ((T.ty f.type).map Ty.cells).getD 0)) w fields.toList hrun
  refine ⟨(fields.toList.map fun f => (f.offset, ((T.ty f.type).map Ty.cells).getD 0)).toArray, ?_, fun k r hk => ?_⟩
  · rw [Array.mapM_eq_mapM_toList, Sem.run_map, this]; rfl
  · unfold plS at hk
    rw [List.getElem?_map] at hk
    cases hf : fields.toList[k]? with
    | none => rw [hf] at hk; cases hk
    | some f =>
      rw [hf] at hk
      simp only [Option.map_some] at hk
      cases ht : T.ty f.type with
      | none => rw [ht] at hk; cases hk
      | some ty =>
        rw [ht] at hk
        cases hk
        simp [hf, ht]
theorem run_zeroValue' {P : Program} {T : Tab} (hT : TabOk P T) {t : TypeId} {zs : List Value} (h : T.zero t = some zs) (w : World) : ∃ z, (zeroValue t).run P w = .ok z w ∧ z.cells.toList = zs := by
  obtain ⟨i, z, h1, h2, h3⟩ := hT.zero t zs h
  exact ⟨z, by simp [zeroValue, typeInfo, h1, h2], h3⟩
theorem ag_of_reps {C : Cx} {l : List AV} {cs : Array Value} (h : Reps C l cs.toList) : Rep C (.ag l.length (lst l)) (.agg cs) :=
  ⟨cs, rfl, by simpa using Reps.length h, fun i hi => by have := Reps.get h i hi; simpa [lst, Array.getD_eq_getD_getElem?] using this⟩
theorem rdBuild_sound {P : Program} {T : Tab} (hT : TabOk P T) {C : Cx} {t : TypeId} {ps : List (Nat × AV)} {parts : Array (Nat × Value)} {av : AV} (h : rdBuild T C.M t ps = some av) (hr : RepsP C ps parts.toList) (w : World) :
    ∃ v, (Instr.build t parts).run P w = .ok v w ∧ Rep C av v := by
  unfold rdBuild at h
  split at h
  · rename_i fs n zs ht hz
    split at h
    · rename_i hall
      split at h
      · rename_i l hf
        cases h
        obtain ⟨fields, hu, hfs⟩ := struct_fields hT ht
        obtain ⟨z, hzr, hzc⟩ := run_zeroValue' (P := P) hT hz w
        obtain ⟨places, hp1, hp2⟩ := places_run (P := P) hT fields (fun f hf' => by
          have := List.all_eq_true.1 hall (f.offset, f.type) (by rw [← hfs]; exact List.mem_map.2 ⟨f, hf', rfl⟩)
          exact this) w
        rw [hfs] at hp2
        obtain ⟨cells', h1, h2⟩ := fillA_sound (C := C) (place := (places[·]?)) hp2 hf (cells := z.cells) (by rw [hzc]; exact Reps.raws C zs) hr
        refine ⟨.agg cells', ?_, ag_of_reps h2⟩
        simp only [Instr.build, Sem.run_bind, hzr, Result.andThen_ok, run_underlying hu, hp1, h1, Sem.run_pure]
      · cases h
    · cases h
  · rename_i len e n zs ht hz
    split at h
    · rename_i te hte
      split at h
      · rename_i l hf
        cases h
        obtain ⟨d, hu, hd⟩ := und hT ht
        have : d = .array len e := by cases d <;> simp_all [DescOk]
        subst this
        obtain ⟨z, hzr, hzc⟩ := run_zeroValue' (P := P) hT hz w
        obtain ⟨cells', h1, h2⟩ := fillA_sound (C := C) (place := fun i => some (i * te.cells, te.cells)) (fun k r hk => hk) hf (cells := z.cells) (by rw [hzc]; exact Reps.raws C zs) hr
        refine ⟨.agg cells', ?_, ag_of_reps h2⟩
        simp only [Instr.build, Sem.run_bind, hzr, Result.andThen_ok, run_underlying hu, run_sizeOf' hT hte, h1, Sem.run_pure]
      · cases h
    · cases h
  · cases h
theorem Reps.deads (C : Cx) : ∀ (vs : List Value), Reps C (List.replicate vs.length .dead) vs
  | [] => trivial
  | v :: vs => ⟨trivial, Reps.deads C vs⟩
theorem litCells_sound {P : Program} {T : Tab} (hT : TabOk P T) {C : Cx} {t e : TypeId} {len sz : Nat} {l : List AV} {ps : List (Nat × AV)} {parts : Array (Nat × Value)} (h : litCells T C.M t len ps = some (e, sz, l)) (hr : RepsP C ps parts.toList) (w : World) :
    0 < sz ∧ l.length = len * sz ∧ ∃ cells : Array Value, (Instr.buildSlice t len parts).run P w = .ok (.slice (some ⟨w.heap.size, 0, none⟩) len len) (w.alloc (.cells cells e)) ∧ Reps C l cells.toList := by
  unfold litCells at h
  split at h
  · rename_i e' ht
    split at h
    · rename_i te zs hte hz
      split at h
      · rename_i hcond
        obtain ⟨hpos, hle⟩ := hcond
        split at h
        · rename_i l' hf
          cases h
          obtain ⟨d, hu, hd⟩ := und hT ht
          have : d = .slice e := by cases d <;> simp_all [DescOk]
          subst this
          obtain ⟨z, hzr, hzc⟩ := run_zeroValue' (P := P) hT hz w
          have go : ∀ zero : Array Value, ∃ cells : Array Value, Instr.fill (fun i => some (i * te.cells, te.cells)) ((Array.range (len * te.cells)).map (zero[· % zero.size]!)) parts.toList = some cells ∧ Reps C l cells.toList := fun zero => by
            refine fillA_sound (C := C) (place := fun i => some (i * te.cells, te.cells)) (fun k r hk => hk) hf (cells := (Array.range (len * te.cells)).map (zero[· % zero.size]!)) ?_ hr
            have := Reps.deads C ((Array.range (len * te.cells)).map (zero[· % zero.size]!)).toList
            simpa using this
          have hlen : l.length = len * te.cells := by
            have key : ∀ (ps : List (Nat × AV)) (a b : List AV), fillA (plE te.cells) C.M a ps = some b → b.length = a.length := by
              intro ps
              induction ps with
              | nil => intro a b h; cases h; rfl
              | cons p ps ih =>
                intro a b h
                obtain ⟨k, av⟩ := p
                rw [fillA] at h
                split at h
                · split at h
                  · rw [ih _ _ h, spl_length]
                  · cases h
                · cases h
            simpa using key ps _ _ hf
          refine ⟨hpos, hlen, ?_⟩
          by_cases h0 : len * te.cells = 0
          · obtain ⟨cells, c1, c2⟩ := go #[]
            refine ⟨cells, ?_, c2⟩
            simp only [Instr.buildSlice, Sem.run_bind, run_underlying hu, Result.andThen_ok, run_sizeOf' hT hte, if_pos h0, Sem.run_pure, c1, newRow, run_newObj]
            rw [if_neg (by omega)]
            simp only [Sem.run_bind, Sem.run_pure, Result.andThen_ok, c1, run_newObj]
            rfl
          · obtain ⟨cells, c1, c2⟩ := go z.cells
            refine ⟨cells, ?_, c2⟩
            simp only [Instr.buildSlice, Sem.run_bind, run_underlying hu, Result.andThen_ok, run_sizeOf' hT hte, if_neg h0, Sem.run_pure, hzr, c1, newRow, run_newObj]
            rw [if_neg (by omega)]
            simp only [Sem.run_bind, Sem.run_pure, Result.andThen_ok, hzr, c1, run_newObj]
            rfl
        · cases h
      · cases h
    · cases h
  · cases h
theorem rdBlt_sound {P : Program} {T : Tab} (hT : TabOk P T) {C : Cx} {b : Builtin} {ts : Array TypeId} {as : List AV} {vs : List Value} {av : AV} (ty : TypeId) (consts : Array Bool) (h : rdBlt T C.M b ts as = some av) (hr : Reps C as vs) (w : World) :
    ∃ v, (builtin b ts ty consts vs.toArray).run P w = .ok (.value v) w ∧ Rep C av v := by
  unfold rdBlt at h
  split at h
  · rename_i x
    split at h
    · rename_i t ht
      match vs, hr with
      | [p], ⟨h1, _⟩ =>
        obtain ⟨v, e1, e2⟩ := rdLen_sound (P := P) (ty := ty) (rest := []) hT ht h h1 w
        exact ⟨v, by simp [builtin, e1], e2⟩
    · cases h
  · obtain ⟨v, e1, e2⟩ := rdMax_sound (P := P) h hr ts ty w
    exact ⟨v, by simp [builtin, e1], e2⟩
  · obtain ⟨v, e1, e2⟩ := rdMin_sound (P := P) h hr ts ty w
    exact ⟨v, by simp [builtin, e1], e2⟩
  · cases h
/-- what lies new is stable -/
theorem st_new {C : Cx} (hS : Sim C) (o : Obj) : ({ C with w := C.w.alloc o } : Cx).st C.w.heap.size :=
  ⟨by simp, fun ⟨g, B, hg, hl, hρ⟩ => by have := hS.lt ⟨g, B, hg, hl, hρ⟩; omega⟩
theorem grow_alloc {C : Cx} (hS : Sim C) (o : Obj) : Step C { C with w := C.w.alloc o } ∧ Sim { C with w := C.w.alloc o } :=
  grow hS rfl rfl rfl (by simp) (fun b hb => heap_alloc_lt _ _ _ hb)
theorem run_newVar' {P : Program} (w : World) (t : TypeId) (v : Value) : (Instr.box t v).run P w = .ok (.pointer (some ⟨w.heap.size, 0, none⟩)) (w.alloc (.cells v.cells t)) := by
  simp [Instr.box, newVar, newRow]
theorem opvO_rep {C : Cx} {Γ : Nat → AV} {a : Act} (h : Fits C Γ a.tmps) : ∀ x : Option Operand, RepO C (x.map (opv Γ)) (x.map a.eval)
  | none => trivial
  | some x => h.opv x
theorem fn_rep {C : Cx} {Γ : Nat → AV} {a : Act} (h : Fits C Γ a.tmps) (f : Fn) (cap : Array Operand) : Rep C (.fn f cap.size (lst (cap.toList.map (opv Γ)))) (.func f #[] (cap.map a.eval)) :=
  ⟨_, rfl, by simp, fun i hi => by
    have := Reps.get (opv_reps h cap.toList) i (by simpa using hi)
    simpa [lst, Array.getD_eq_getD_getElem?] using this⟩
theorem callOf {ρ : Operand → Value} {c : Call} {b : Builtin} {ty : TypeId} {P : Program} {w : World} (h : c.callee = .builtin b) :
    ∃ consts : Array Bool, (do let d ← resolve ρ c ty; invoke d.target d.args : Sem Next).run P w = (builtin b c.argTypes ty consts (c.args.map ρ)).run P w := by
  refine ⟨c.args.map fun | .const _ => true | _ => false, ?_⟩
  simp only [resolve, h, Sem.run_bind, Sem.run_pure, Result.andThen_ok, invoke]
  rfl
theorem rd_sound {P : Program} {T : Tab} (hT : TabOk P T) {C : Cx} (hS : Sim C) {Γ : Nat → AV} {a : Act} (hF : Fits C Γ a.tmps) {own : List Tmp} {o : Oper} {av : AV} (h : rd T own o.dst Γ C.M o.op = some av) :
    ∃ v w', (execOp a.eval o).run P C.w = .ok (.value v) w' ∧ Step C { C with w := w' } ∧ Sim { C with w := w' } ∧ Rep { C with w := w' } av v := by
  have pure' : ∀ (s : Sem Value), (∃ v, s.run P C.w = .ok v C.w ∧ Rep C av v) → execOp a.eval o = (do pure (.value (← s))) → ∃ v w', (execOp a.eval o).run P C.w = .ok (.value v) w' ∧ Step C { C with w := w' } ∧ Sim { C with w := w' } ∧ Rep { C with w := w' } av v := by
    rintro s ⟨v, h1, h2⟩ e
    exact ⟨v, C.w, by rw [e]; simp [h1], Step.refl C, hS, h2⟩
  obtain ⟨dst, op, ty, pos, after, guard⟩ := o
  cases op with
  | move x => cases h; exact ⟨_, _, rfl, Step.refl C, hS, hF.opv x⟩
  | assign x => cases h; exact ⟨_, _, rfl, Step.refl C, hS, hF.opv x⟩
  | pick c x y =>
    obtain ⟨v, h1, h2⟩ := rdPick_sound (P := P) h (hF.opv c) (hF.opv x) (hF.opv y) C.w
    refine ⟨v, C.w, ?_, Step.refl C, hS, h2⟩
    simp only [execOp]
    rw [Sem.run_bind] at h1 ⊢
    cases hb : (asBool (a.eval c)).run P C.w with
    | ok b w1 => rw [hb] at h1; simp only [Result.andThen_ok, Sem.run_pure, Result.ok.injEq] at h1 ⊢; exact ⟨by rw [h1.1], h1.2⟩
    | halt hh w1 => rw [hb] at h1; cases h1
  | load t x => exact pure' _ (rdLoad_sound hT hS h (hF.opv x)) rfl
  | binOp op t x y yt =>
    obtain ⟨v, h1, h2⟩ := rdBin_sound (P := P) hT x y h (hF.opv x) (hF.opv y) C.w
    exact pure' _ ⟨v, h1, h2⟩ rfl
  | unOp op t x =>
    obtain ⟨v, h1, h2⟩ := rdUn_sound (P := P) h (hF.opv x) C.w
    exact pure' _ ⟨v, h1, h2⟩ rfl
  | convert s t x =>
    obtain ⟨v, h1, h2⟩ := rdConv_sound (P := P) hT h (hF.opv x) C.w
    exact pure' _ ⟨v, h1, h2⟩ rfl
  | makeFunc f first cap =>
    simp only [rd] at h
    split at h
    · rename_i h0
      cases h
      have : first = #[] := Array.size_eq_zero_iff.1 h0
      subst this
      exact pure' _ ⟨_, by simp [Instr.makeFunc], fn_rep hF f cap⟩ rfl
    · cases h
  | slice t x lo hi mx =>
    simp only [rd] at h
    cases mx with
    | some m => cases h
    | none =>
      obtain ⟨v, h1, h2⟩ := rdSlice_sound (P := P) hT h (hF.opv x) (opvO_rep hF lo) (opvO_rep hF hi)
      exact pure' _ ⟨v, h1, h2⟩ rfl
  | fieldAddr s x f => exact pure' _ (rdFieldAddr_sound hT h (hF.opv x)) rfl
  | field s x f => exact pure' _ (rdField_sound hT h (hF.opv x)) rfl
  | indexAddr t x i => exact pure' _ (rdIndexAddr_sound hT h (hF.opv x) (hF.opv i)) rfl
  | index t x i => exact pure' _ (rdIndex_sound hT h (hF.opv x) (hF.opv i) C.w) rfl
  | extract x k => exact pure' _ (rdExtract_sound h (hF.opv x) C.w) rfl
  | build t ps => exact pure' _ (rdBuild_sound hT h (opvs_reps hF ps) C.w) rfl
  | box t x =>
    simp only [rd] at h
    split at h
    · rename_i l hc
      cases h
      obtain ⟨hr, _⟩ := cellsOf_sound hc (hF.opv x)
      obtain ⟨st, sm⟩ := grow_alloc hS (.cells (a.eval x).cells t)
      refine ⟨.pointer (some ⟨C.w.heap.size, 0, none⟩), C.w.alloc (.cells (a.eval x).cells t), by simp [execOp, run_newVar'], st, sm, ⟨_, rfl, st_new hS _, fun i hi => ?_⟩⟩
      have hlen : (a.eval x).cells.size = l.length := by simpa using Reps.length hr
      have := Reps.get (Reps.step st hr) i hi
      refine ⟨(a.eval x).cells.getD i undef, ?_, by simpa [lst, Array.getD_eq_getD_getElem?] using this⟩
      rw [Go.Addr.add_lit, Nat.zero_add]
      exact cell_arr (heap_alloc_self _ _) (by omega)
    · cases h
  | buildSlice t len ps =>
    simp only [rd] at h
    split at h
    · rename_i e sz l hl
      cases h
      obtain ⟨hpos, hlen, cells, hrun, hr⟩ := litCells_sound (P := P) hT hl (opvs_reps hF ps) C.w
      obtain ⟨st, sm⟩ := grow_alloc hS (.cells cells e)
      refine ⟨.slice (some ⟨C.w.heap.size, 0, none⟩) len len, C.w.alloc (.cells cells e), ?_, st, sm, ⟨_, _, rfl, Nat.le_refl _, fun h0 => ⟨_, rfl, st_new hS _, fun i j hi hj => ?_⟩⟩⟩
      · show Sem.run P (do pure (Next.value (← Instr.buildSlice t len _))) C.w = _
        rw [Sem.run_bind]
        exact congrArg (fun r : Result Value => r.andThen fun v w' => (pure (Next.value v) : Sem Next).run P w') hrun
      have hcs : cells.size = l.length := by simpa using Reps.length hr
      have hb1 : i * sz + sz ≤ len * sz := by rw [← Nat.succ_mul]; exact Nat.mul_le_mul_right _ (by omega)
      have := Reps.get (Reps.step st hr) (i * sz + j) (by omega)
      refine ⟨cells.getD (i * sz + j) undef, ?_, by simpa [lst, Array.getD_eq_getD_getElem?] using this⟩
      rw [Go.Addr.add_lit, Nat.zero_add]
      exact cell_arr (heap_alloc_self _ _) (by omega)
    · cases h
  | call c =>
    simp only [rd] at h
    split at h
    · rename_i b hb
      have hr := opv_reps hF c.args.toList
      obtain ⟨consts, hcall⟩ := callOf (ρ := a.eval) (ty := ty) (P := P) (w := C.w) hb
      obtain ⟨v, h1, h2⟩ := rdBlt_sound (P := P) hT ty consts h hr C.w
      refine ⟨v, C.w, ?_, Step.refl C, hS, h2⟩
      simp only [execOp]
      rw [hcall, ← h1]
      congr 2
      apply Array.ext'
      simp
    · cases h
  | _ => simp [rd] at h
end Go.Av
set_option linter.unusedVariables false
set_option linter.unusedSimpArgs false
namespace Go.Av
/-! ## 7. append -/
def srcOf (M : Mem) (sz : Nat) (x : AV) : Option (Nat × (Nat → Nat → AV)) :=
  match x with
  | .sl m sz' f => if sz' = sz then some (m, f) else none
  | .own g m sz' => match M g with
    | some (.row _ m' sz'' f) => if m' = m ∧ sz'' = sz' ∧ sz' = sz then some (m, f) else none
    | _ => none
  | .raw (.slice none 0 0) => some (0, fun _ _ => .dead)
  | _ => none
def baseOf (M : Mem) (e sz : Nat) (x : AV) : Option (Option Nat × Nat × (Nat → Nat → AV)) :=
  match x with
  | .own g n sz' => match M g with
    | some (.row e' n' sz'' f) => if e' = e ∧ n' = n ∧ sz'' = sz' ∧ sz' = sz then some (some g, n, f) else none
    | _ => none
  | .raw (.slice none 0 0) => some (none, 0, fun _ _ => .dead)
  | _ => none
def gOk (M : Mem) (g : Nat) : Option Nat → Prop
  | some g0 => g = g0
  | none => M g = none
def cat (n : Nat) (f f2 : Nat → Nat → AV) : Nat → Nat → AV := fun i j => if i < n then f i j else f2 (i - n) j
theorem row_owns {C : Cx} (hS : Sim C) {g : Nat} {e n sz : Nat} {f : Nat → Nat → AV} {x : Value} (hg : C.M g = some (.row e n sz f)) (hx : OwnAt C g n sz x) :
    ∃ xs : List Value, C.w.ownsRow 0 e sz x n xs ∧ (∀ i j, i < n → j < sz → Rep C (f i j) (xs.getD (i * sz + j) undef)) ∧ x.ownBlock = C.ρ g := by
  obtain ⟨hpos, hk⟩ := hS.blk g _ hg
  unfold OwnAt at hx
  rcases hk with ⟨h0, hρ⟩ | ⟨b, arr, cap, hρ, hh, hsz, hcap, hmx, hc⟩
  · rw [hρ] at hx
    obtain ⟨rfl, rfl⟩ := hx
    exact ⟨[], World.ownsRow_nil _ _ _ _, fun i j hi => by omega, by rw [hρ]; rfl⟩
  · rw [hρ] at hx
    obtain ⟨arr', e', cap', hh', hsz', hcap', rfl⟩ := hx
    rw [hh] at hh'; cases hh'
    have hcc : cap = cap' := Nat.eq_of_mul_eq_mul_right hpos (by omega)
    subst hcc
    have hle : n * sz ≤ arr.size := by rw [hsz]; exact Nat.mul_le_mul_right _ hcap
    refine ⟨arr.toList.take (n * sz), ⟨by simp; omega, .inr ⟨b, cap, arr, rfl, Nat.zero_le _, hh, hcap, hmx, hsz, rfl⟩⟩, fun i j hi hj => ?_, by rw [hρ]; rfl⟩
    have hb1 : i * sz + sz ≤ n * sz := by rw [← Nat.succ_mul]; exact Nat.mul_le_mul_right _ (by omega)
    have := hc i j hi hj
    have e1 : (arr.toList.take (n * sz)).getD (i * sz + j) undef = arr.getD (i * sz + j) undef := by
      simp only [List.getD_eq_getElem?_getD, Array.getD_eq_getD_getElem?]
      rw [List.getElem?_take_of_lt (by omega)]
      simp
    rw [e1]; exact this
theorem baseOf_sound {C : Cx} (hS : Sim C) {e sz n : Nat} {g? : Option Nat} {f : Nat → Nat → AV} {s : AV} {v : Value} (h : baseOf C.M e sz s = some (g?, n, f)) (hv : Rep C s v) :
    ∃ xs : List Value, C.w.ownsRow 0 e sz v n xs ∧ (∀ i j, i < n → j < sz → Rep C (f i j) (xs.getD (i * sz + j) undef)) ∧ (∀ g, g? = some g → v.ownBlock = C.ρ g ∧ C.M g = some (.row e n sz f)) ∧ (g? = none → v = .slice none 0 0 ∧ n = 0) := by
  unfold baseOf at h
  split at h
  · rename_i g n' sz'
    split at h
    · rename_i e' n2 sz2 f2 hg
      split at h
      · rename_i hc
        obtain ⟨rfl, rfl, rfl, rfl⟩ := hc
        cases h
        simp only [Rep, hg] at hv
        obtain ⟨xs, h1, h2, h3⟩ := row_owns hS hg (hv.2.2 trivial)
        exact ⟨xs, h1, h2, fun g' e => by cases e; exact ⟨h3, hg⟩, fun e => by cases e⟩
      · cases h
    · cases h
  · cases h
    cases hv
    exact ⟨[], World.ownsRow_nil _ _ _ _, (fun i j hi => by omega), (fun g e => by cases e), fun _ => ⟨rfl, rfl⟩⟩
  · cases h
theorem srcOf_sound {C : Cx} (hS : Sim C) {sz m : Nat} {f : Nat → Nat → AV} {x : AV} {v : Value} (h : srcOf C.M sz x = some (m, f)) (hv : Rep C x v) :
    ∃ A c, v = .slice A m c ∧ (0 < m → ∃ ad, A = some ad ∧ ∀ i j, i < m → j < sz → ∃ u, C.w.cell? (ad.add (i * sz + j)) = some u ∧ Rep C (f i j) u) := by
  unfold srcOf at h
  split at h
  · split at h
    · rename_i hc
      subst hc
      cases h
      obtain ⟨A, c, rfl, _, hm⟩ := hv
      refine ⟨A, c, rfl, fun h0 => ?_⟩
      obtain ⟨ad, ha, _, hcell⟩ := hm h0
      exact ⟨ad, ha, hcell⟩
    · cases h
  · rename_i g m' sz'
    split at h
    · rename_i e n2 sz2 f2 hg
      split at h
      · rename_i hc
        obtain ⟨rfl, rfl, rfl⟩ := hc
        cases h
        simp only [Rep, hg] at hv
        have ho := hv.2.2 trivial
        obtain ⟨hpos, hk⟩ := hS.blk g _ hg
        unfold OwnAt at ho
        rcases hk with ⟨h0, hρ⟩ | ⟨b, arr, cap, hρ, hh, hsz, hcap, hmx, hcell⟩
        · rw [hρ] at ho
          obtain ⟨rfl, _⟩ := ho
          subst h0
          exact ⟨none, 0, rfl, fun h => by omega⟩
        · rw [hρ] at ho
          obtain ⟨arr', e', cap', hh', hsz', hcap', rfl⟩ := ho
          rw [hh] at hh'; cases hh'
          refine ⟨_, _, rfl, fun h0 => ⟨_, rfl, fun i j hi hj => ⟨_, ?_, hcell i j hi hj⟩⟩⟩
          rw [Go.Addr.add_lit, Nat.zero_add]
          have hb1 := Nat.mul_le_mul_right sz2 (show i + 1 ≤ cap by omega)
          rw [Nat.succ_mul] at hb1
          exact cell_arr hh (by omega)
      · cases h
    · cases h
  · cases h
    cases hv
    exact ⟨none, 0, rfl, fun h => by omega⟩
  · cases h
theorem run_append_zero {P : Program} {t ty e : TypeId} {i : TypeInfo} (ht : P.underlying t = some (.slice e)) (hi : P.info? e = some i) (w : World) (base e' : Nat) (sz : Nat) (v : Value) (n : Nat) (xs : List Value) (hown : w.ownsRow base e' sz v n xs) (A : Option Addr) (c : Nat) :
    (Builtin.append_ #[t, t] ty #[v, .slice A 0 c]).run P w = .ok v w := by
  rcases hown.2 with ⟨rfl, rfl⟩ | ⟨g, cap, cur, rfl, _, _, hnc, _⟩
  · cases A <;> simp [Builtin.append_, run_underlying ht, sizeOf, typeInfo, hi, Builtin.lenOf, Builtin.firstCells, loadCells, loadCellsFrom]
  · cases A <;> simp [Builtin.append_, run_underlying ht, sizeOf, typeInfo, hi, Builtin.lenOf, Builtin.firstCells, hnc, storeCells, loadCells, loadCellsFrom]
theorem append_sound {P : Program} {T : Tab} (hT : TabOk P T) {C : Cx} (hS : Sim C) {t e : TypeId} {te : Ty} {zs : List Value} {bt : Nat} (ht : T.ty t = some (.slice e)) (hte : T.ty e = some te) (hz : T.zero e = some zs) (hb : T.bytes e = some bt)
    (hpos : 0 < te.cells) (hzl : zs.length = te.cells) (hbp : 0 < bt) {s x : AV} {m : Nat} {f2 : Nat → Nat → AV} {g? : Option Nat} {n : Nat} {f : Nat → Nat → AV} (hsrc : srcOf C.M te.cells x = some (m, f2)) (hbase : baseOf C.M e te.cells s = some (g?, n, f))
    (hone : ∀ i j, i < m → j < te.cells → one C.M (f2 i j) = true) (hbytes : (n + m) * bt ≤ 140737488355328) {vs vx : Value} (hvs : Rep C s vs) (hvx : Rep C x vx) (ty : TypeId) (g : Nat) (hg : gOk C.M g g?) :
    ∃ (v : Value) (C' : Cx), (Builtin.append_ #[t, t] ty #[vs, vx]).run P C.w = .ok v C'.w ∧ C'.M = upM C.M g (.row e (n + m) te.cells (cat n f f2)) ∧ Sim C' ∧ Step C C' ∧ Rep C' (.own g (n + m) te.cells) v := by
  obtain ⟨d, hu, hd⟩ := und hT ht
  have : d = .slice e := by cases d <;> simp_all [DescOk]
  subst this
  obtain ⟨i, z, hi, hzz, hzc⟩ := hT.zero e zs hz
  obtain ⟨i', hi', hby⟩ := hT.bytes e bt hb
  obtain ⟨i'', d'', hi'', _, hsize, _⟩ := hT.ty e te hte
  rw [hi] at hi' hi''; cases hi'; cases hi''
  obtain ⟨xs, hown, hxs, hsome, hnone⟩ := baseOf_sound hS hbase hvs
  obtain ⟨A, c, rfl, hsc⟩ := srcOf_sound hS hsrc hvx
  have hmax : n + m ≤ maxLen := by
    have : n + m ≤ (n + m) * bt := Nat.le_mul_of_pos_right _ hbp
    simp only [maxLen]; omega
  -- the run
  have hrun : ∃ v w' news, (Builtin.append_ #[t, t] ty #[vs, .slice A m c]).run P C.w = .ok v w' ∧ w'.ownsRow 0 e te.cells v (n + m) (xs ++ news) ∧ C.w.grownBy w' vs.ownBlock ∧ (v.ownBlock = vs.ownBlock ∨ v.ownBlock = some C.w.heap.size) ∧ news.length = m * te.cells ∧ ∀ i j, i < m → j < te.cells → Rep C (f2 i j) (news.getD (i * te.cells + j) undef) := by
    rcases Nat.eq_zero_or_pos m with rfl | h0
    · refine ⟨vs, C.w, [], run_append_zero hu hi C.w 0 e te.cells vs n xs hown A c, by simpa using hown, ⟨rfl, rfl, rfl, Nat.le_refl _, fun _ _ _ => rfl⟩, .inl rfl, by simp, fun i j hi => by omega⟩
    · obtain ⟨ad, rfl, hcell⟩ := hsc h0
      have key : ∃ q : Nat → Value, ∀ k, k < m * te.cells → C.w.cell? (ad.add k) = some (q k) ∧ Rep C (f2 (k / te.cells) (k % te.cells)) (q k) := by
        refine ⟨fun k => (C.w.cell? (ad.add k)).getD undef, fun k hk => ?_⟩
        have hk1 : k / te.cells < m := Nat.div_lt_of_lt_mul (by rw [Nat.mul_comm]; exact hk)
        have hk2 : k % te.cells < te.cells := Nat.mod_lt _ hpos
        obtain ⟨u, hu1, hu2⟩ := hcell (k / te.cells) (k % te.cells) hk1 hk2
        have hk3 : k / te.cells * te.cells + k % te.cells = k := by rw [Nat.mul_comm]; exact Nat.div_add_mod k te.cells
        rw [hk3] at hu1
        simp only [hu1, Option.getD_some]
        exact ⟨trivial, hu2⟩
      obtain ⟨q, hq⟩ := key
      obtain ⟨v', w', hr, h2, h3, _, h5⟩ := run_append_own_at (P := P) C.w 0 t ty e i z te.cells bt hu hi hzz hsize hby (by have := congrArg List.length hzc; simp at this; omega) hpos vs n xs hown ad m c ((List.range (m * te.cells)).map q) (by simp)
        (fun j u hj => by
          rw [List.getElem?_map] at hj
          by_cases hlt : j < m * te.cells
          · rw [List.getElem?_range hlt] at hj; cases hj; exact (hq j hlt).1
          · rw [List.getElem?_eq_none (by simp; omega)] at hj; cases hj)
        (fun u hu' => by
          obtain ⟨k, hk, rfl⟩ := List.mem_map.1 hu'
          have hk' := List.mem_range.1 hk
          exact Rep.one (hone _ _ (Nat.div_lt_of_lt_mul (by rw [Nat.mul_comm]; exact hk')) (Nat.mod_lt _ hpos)) (hq k hk').2)
        hmax hbytes (Nat.zero_le _)
      refine ⟨v', w', _, hr, h2, h3, h5, by simp, fun i j hi hj => ?_⟩
      have hb1 : i * te.cells + te.cells ≤ m * te.cells := by rw [← Nat.succ_mul]; exact Nat.mul_le_mul_right _ (by omega)
      have hlt : i * te.cells + j < m * te.cells := by omega
      have e1 : ((List.range (m * te.cells)).map q).getD (i * te.cells + j) undef = q (i * te.cells + j) := by simp [hlt]
      have e2 : (i * te.cells + j) / te.cells = i := by rw [Nat.mul_comm, Nat.mul_add_div hpos, Nat.div_eq_of_lt hj]; omega
      have e3 : (i * te.cells + j) % te.cells = j := by rw [Nat.mul_comm, Nat.mul_add_mod, Nat.mod_eq_of_lt hj]
      have := (hq _ hlt).2
      rw [e2, e3] at this
      rw [e1]; exact this
  obtain ⟨v, w', news, hr, h2, h3, h5, hnl, hnews⟩ := hrun
  have hxl : xs.length = n * te.cells := hown.1
  -- what the contents are
  have hcont : ∀ i j, i < n + m → j < te.cells → Rep C (cat n f f2 i j) ((xs ++ news).getD (i * te.cells + j) undef) := by
    intro i j hi hj
    unfold cat
    simp only [List.getD_eq_getElem?_getD]
    by_cases hin : i < n
    · have hb1 : i * te.cells + te.cells ≤ n * te.cells := by rw [← Nat.succ_mul]; exact Nat.mul_le_mul_right _ (by omega)
      rw [if_pos hin, List.getElem?_append_left (by omega)]
      have := hxs i j hin hj
      simpa [List.getD_eq_getElem?_getD] using this
    · have e1 : i * te.cells + j - xs.length = (i - n) * te.cells + j := by
        rw [hxl, Nat.sub_mul]
        have : n * te.cells ≤ i * te.cells := Nat.mul_le_mul_right _ (by omega)
        omega
      have hge : xs.length ≤ i * te.cells + j := by
        have : n * te.cells ≤ i * te.cells := Nat.mul_le_mul_right _ (by omega)
        omega
      rw [if_neg hin, List.getElem?_append_right hge, e1]
      have := hnews (i - n) j (by omega) hj
      simpa [List.getD_eq_getElem?_getD] using this
  have hvsb : ∀ b, vs.ownBlock = some b → ∃ g0, g? = some g0 ∧ C.ρ g0 = some b := by
    intro b hb'
    cases hgq : g? with
    | none => obtain ⟨rfl, _⟩ := hnone hgq; cases hb'
    | some g0 => exact ⟨g0, rfl, (hsome g0 hgq).1 ▸ hb'⟩
  have hgM : ∀ B, C.M g = some B → ∃ g0, g? = some g0 ∧ g0 = g ∧ B = .row e n te.cells f := by
    intro B hB
    cases hgq : g? with
    | none => rw [hgq] at hg; simp only [gOk] at hg; rw [hg] at hB; cases hB
    | some g0 => rw [hgq] at hg; simp only [gOk] at hg; subst hg; have := (hsome g hgq).2; rw [hB] at this; cases this; exact ⟨g, rfl, rfl, rfl⟩
  have hfin : ∀ b, v.ownBlock = some b → C.w.heap.size ≤ b ∨ ∃ B, C.M g = some B ∧ B.live ∧ C.ρ g = some b := by
    intro b hb'
    rcases h5 with h5 | h5
    · rw [h5] at hb'
      obtain ⟨g0, hg0, hρ⟩ := hvsb b hb'
      rw [hg0] at hg; simp only [gOk] at hg; subst hg
      exact .inr ⟨_, (hsome g hg0).2, trivial, hρ⟩
    · rw [h5] at hb'; cases hb'; exact .inl (Nat.le_refl _)
  obtain ⟨st, sm⟩ := turn hS g (.row e (n + m) te.cells (cat n f f2)) w' v.ownBlock h3.os h3.tape h3.output h3.size
    (fun b hlt hb' => h3.block b hlt (fun e1 => by
      obtain ⟨g0, hg0, hρ⟩ := hvsb b e1.symm
      rw [hg0] at hg; simp only [gOk] at hg; subst hg
      exact hb' _ (hsome g hg0).2 trivial hρ))
    hfin
    (fun B hB => by
      obtain ⟨g0, hg0, rfl, rfl⟩ := hgM B hB
      refine ⟨rfl, rfl, Nat.le_add_right _ _, fun hnm => ?_⟩
      have hm0 : m = 0 := by omega
      subst hm0
      obtain ⟨hb0, hM0⟩ := hsome g0 hg0
      -- nothing was appended: the value is the same
      have hz0 := run_append_zero (ty := ty) hu hi C.w 0 e te.cells vs n xs hown A c
      rw [hr] at hz0
      cases hz0
      exact ⟨by simp [Cx.turn, hb0], fun b arr e1 fr hb1 hh1 => ⟨arr, e1, hh1, rfl⟩⟩)
    (fun st => by
      refine ⟨hpos, ?_⟩
      rcases h2.2 with ⟨rfl, h00⟩ | ⟨b, cap, cur, rfl, _, hh, hcap, hmx, hsz, htake⟩
      · exact .inl ⟨h00, by simp [Cx.turn, Value.ownBlock]⟩
      · refine .inr ⟨b, cur, cap, by simp [Cx.turn, Value.ownBlock], hh, hsz, hcap, hmx, fun i j hi hj => ?_⟩
        have := hcont i j hi hj
        rw [← htake] at this
        have hb1 : i * te.cells + te.cells ≤ (n + m) * te.cells := by rw [← Nat.succ_mul]; exact Nat.mul_le_mul_right _ (by omega)
        have e1 : (cur.toList.take ((n + m) * te.cells)).getD (i * te.cells + j) undef = cur.getD (i * te.cells + j) undef := by
          simp only [List.getD_eq_getElem?_getD, Array.getD_eq_getD_getElem?]
          rw [List.getElem?_take_of_lt (by omega)]
          simp
        rw [e1] at this
        exact this.step st _ _)
  refine ⟨v, _, hr, rfl, sm, st, ?_⟩
  have hM' : (C.turn w' g (.row e (n + m) te.cells (cat n f f2)) v.ownBlock).M g = some (.row e (n + m) te.cells (cat n f f2)) := upM_self _ _ _
  simp only [Rep, hM']
  refine ⟨Nat.le_refl _, trivial, fun _ => ?_⟩
  unfold OwnAt
  rcases h2.2 with ⟨rfl, h00⟩ | ⟨b, cap, cur, rfl, _, hh, hcap, hmx, hsz, htake⟩
  · simp [Cx.turn, Value.ownBlock, h00]
  · simp only [Cx.turn, if_true, Value.ownBlock]
    exact ⟨cur, e, cap, hh, hsz, hcap, rfl⟩
end Go.Av
set_option linter.unusedVariables false
set_option linter.unusedSimpArgs false
namespace Go.Av
/-! ## 8. Runs of a todo list -/
def dOk (N : Nat) : Option Tmp → Prop
  | some d => d < N
  | none => True
def put (Γ : Nat → AV) : Option Tmp → AV → (Nat → AV)
  | some d, v => up Γ d v
  | none, _ => Γ
def oK {α : Type} (o : Option α) (K : α → Prop) : Prop :=
  match o with
  | some v => K v
  | none => False
def isOwn (own : List Tmp) : Option Tmp → Bool
  | some d => own.contains d
  | none => false
/-- the arguments of a call, a closure's captured values behind them -/
def callArgs (Γ : Nat → AV) (c : Call) (n : Nat) (cap : Nat → AV) : List AV := c.args.toList.map (opv Γ) ++ (List.range n).map cap
/-- a new id: whichever it is, or one that is picked -/
def NewO (H : Nat → Prop) (J : Nat → Prop) : Prop := (∀ g, H g → J g) ∨ ∃ g, H g ∧ J g
theorem NewO.mono {H J J' : Nat → Prop} (hm : ∀ g, J g → J' g) : NewO H J → NewO H J'
  | .inl h => .inl fun g hg => hm g (h g hg)
  | .inr ⟨g, h1, h2⟩ => .inr ⟨g, h1, hm g h2⟩
theorem NewO.get {H J : Nat → Prop} {g0 : Nat} (h : H g0) : NewO H J → ∃ g, H g ∧ J g
  | .inl k => ⟨g0, h, k g0 h⟩
  | .inr k => k
def EApp (X : Fx) (ts : List TypeId) (as : List AV) (d : Option Tmp) (Γ : Nat → AV) (M : Mem) (K : (Nat → AV) → Mem → Prop) : Prop :=
  match ts, as with
  | [t, t'], [s, x] => t' = t ∧ match X.T.ty t with
    | some (.slice e) => match X.T.ty e, X.T.zero e, X.T.bytes e with
      | some te, some zs, some bt => 0 < te.cells ∧ zs.length = te.cells ∧ 0 < bt ∧ oK (srcOf M te.cells x) fun p => oK (baseOf M e te.cells s) fun q =>
          (∀ i j, i < p.1 → j < te.cells → one M (p.2 i j) = true) ∧ (q.2.1 + p.1) * bt ≤ 140737488355328 ∧
          NewO (fun g => gOk M g q.1) fun g => K (put Γ d (.own g (q.2.1 + p.1) te.cells)) (upM M g (.row e (q.2.1 + p.1) te.cells (cat q.2.1 q.2.2 p.2)))
      | _, _, _ => False
    | _ => False
  | _, _ => False
/-- one operation -/
def EOp (X : Fx) (o : Oper) (Γ : Nat → AV) (M : Mem) (K : (Nat → AV) → Mem → Prop) : Prop :=
  dOk X.N o.dst ∧ match o.op with
  | .alloc t => oK (X.T.zero t) fun zs => NewO (fun g => M g = none) fun g => K (put Γ o.dst (.ptr g 0)) (upM M g (.cells t zs.length (lst (zs.map .raw))))
  | .box t x => if isOwn X.own o.dst = true then oK (cellsOf M (opv Γ x)) fun l => NewO (fun g => M g = none) fun g => K (put Γ o.dst (.ptr g 0)) (upM M g (.cells t l.length (lst l)))
    else oK (rd X.T X.own o.dst Γ M (.box t x)) fun v => K (put Γ o.dst v) M
  | .buildSlice t len ps => if isOwn X.own o.dst = true then oK (litCells X.T M t len (opvs Γ ps)) fun p => len ≤ maxLen ∧ NewO (fun g => M g = none) fun g => K (put Γ o.dst (.own g len p.2.1)) (upM M g (.row p.1 len p.2.1 (fun i j => lst p.2.2 (i * p.2.1 + j))))
    else oK (rd X.T X.own o.dst Γ M (.buildSlice t len ps)) fun v => K (put Γ o.dst v) M
  | .store t x v => oK (stMem X.T M t (opv Γ x) (opv Γ v)) fun M' => K (put Γ o.dst (.raw undef)) M'
  | .call c => match c.callee with
    | .builtin .append => EApp X c.argTypes.toList (c.args.toList.map (opv Γ)) o.dst Γ M K
    | .builtin b => oK (rdBlt X.T M b c.argTypes (c.args.toList.map (opv Γ))) fun v => K (put Γ o.dst v) M
    | .value f => match opv Γ f with
      | .fn (.func g) n cap => ACalls X.P g (callArgs Γ c n cap) M fun r M' => K (put Γ o.dst r) M'
      | .yl y => AYield X.P y (c.args.toList.map (opv Γ)) M fun r M' => K (put Γ o.dst r) M'
      | _ => False
    | .invoke .. => False
  | op => oK (rd X.T X.own o.dst Γ M op) fun v => K (put Γ o.dst v) M
/-- is a guarded operation carried out? -/
inductive Gd where
  | run | skip | ask (b : Bool) | bad
def guardOf (all : Array Oper) (o : Oper) (Γ : Nat → AV) : Gd × Bool :=
  match o.guard with
  | none => (.run, true)
  | some (j, want) => match (all[j]?).bind (·.dst) with
    | some d => match Γ d with
      | .raw (.bool b) => (.ask b, want)
      | .raw (.tuple _) => (.skip, want)
      | _ => (.bad, want)
    | none => (.bad, want)
def EG (X : Fx) (all : Array Oper) (o : Oper) (Γ : Nat → AV) (M : Mem) (K : (Nat → AV) → Mem → Prop) : Prop :=
  match guardOf all o Γ with
  | (.run, _) => EOp X o Γ M K
  | (.skip, _) => dOk X.N o.dst ∧ K (put Γ o.dst (.raw undef)) M
  | (.ask b, want) => (b = want → EOp X o Γ M K) ∧ (b = (!want) → dOk X.N o.dst ∧ K (put Γ o.dst (.raw undef)) M)
  | (.bad, _) => False
def EL (X : Fx) (all : Array Oper) : List Oper → (Nat → AV) → Mem → ((Nat → AV) → Mem → Prop) → Prop
  | [], Γ, M, K => K Γ M
  | o :: l, Γ, M, K => EG X all o Γ M fun Γ' M' => EL X all l Γ' M' K
def hards (o : Oper) : List Nat := (o.after.toList.filter (Region.binds .any)).map (·.on)
def looks (all : Array Oper) (o : Oper) : List Tmp := (o.op.operands.toList.filterMap fun | .tmp t => some t | _ => none) ++ (match o.guard with
  | some (g, _) => ((all[g]?).bind (·.dst)).toList
  | none => [])
/-- the operations that stand beside this one, in no order -/
def unOf (ops : Array Oper) (b : Array Nat) (i : Nat) : List Nat := (List.range ops.size).filter fun j => !(j == i) && !((b.getD (max i j) 0).testBit (min i j))
/-- what is asked of a region that draws: operations in no order look at no slot that the other fills -/
def freeOk (ops : Array Oper) : Bool :=
  (List.range ops.size).all fun j => match ops[j]? with
    | none => true
    | some oj => (hards oj).all (fun i => decide (i < j)) && (List.range j).all fun i => ((Region.before ops).getD j 0).testBit i || match ops[i]? with
      | none => true
      | some oi => (match oi.dst with
          | none => true
          | some t => !(oj.dst == some t) && !((looks ops oj).contains t)) && (match oj.dst with
          | none => true
          | some t => !((looks ops oi).contains t))
def okC (X : Fx) : Code → Bool
  | .region id ops d => !d || (X.P.follows .mixedOrders && freeOk ops)
  | .seq a b => okC X a && okC X b
  | .cond _ a b => okC X a && okC X b
  | .block _ b => okC X b
  | .loop b => okC X b
  | .rangeFunc _ _ a b => okC X a && okC X b
  | .scope b => okC X b
  | _ => true
def ItOk (X : Fx) : It → Item → Prop
  | .code c, .code c' => c' = c ∧ okC X c = true
  | .inBlock i, .inBlock j => j = i
  | .inLoop c, .inLoop c' => c' = c ∧ okC X c = true
  | .ops all l, .inRegion all' idx => all' = all ∧ idx.map (all[·]?) = l.map some
  | .beginRound, .beginRound => True
  | _, _ => False
def TodoOk (X : Fx) : List It → List Item → Prop
  | [], [] => True
  | a :: l, b :: m => ItOk X a b ∧ TodoOk X l m
  | _, _ => False
def MarksOk (C : Cx) : List Nat → List Deferred → Prop
  | [], [] => True
  | z :: Z, d :: ds => (C.M z ≠ none ∧ ∃ b, (C.M z = some .defr → C.ρ z = some b) ∧ d = { target := .collected b, args := #[] }) ∧ MarksOk C Z ds
  | _, _ => False
def RoOk (C : Cx) (b : Frame) : Option Nat → Prop
  | none => b.roundOf = none
  | some y => C.M y ≠ none ∧ ∃ l, b.roundOf = some l ∧ (∀ st pe fn N Γ ps asg body d, C.M y = some (.loop st pe fn N Γ ps asg body d) → C.ρ y = some l)
theorem MarksOk.step {C C' : Cx} (hs : Step C C') : ∀ {Z : List Nat} {ds : List Deferred}, MarksOk C Z ds → MarksOk C' Z ds
  | [], [], _ => trivial
  | z :: Z, d :: ds, ⟨⟨h1, b, h2, h3⟩, h4⟩ => by
    refine ⟨⟨?_, b, fun e => ?_, h3⟩, MarksOk.step hs h4⟩
    · cases hz : C.M z with
      | none => exact absurd hz h1
      | some B => obtain ⟨B', hB', _⟩ := hs.ids z B hz; rw [hB']; simp
    · cases hz : C.M z with
      | none => exact absurd hz h1
      | some B =>
        obtain ⟨B', hB', hid⟩ := hs.ids z B hz
        rw [hB'] at e; cases e
        cases B with
        | defr => exact (show C'.ρ z = C.ρ z from hid).trans (h2 hz)
        | _ => exact hid.elim
  | [], _ :: _, h => h.elim
  | _ :: _, [], h => h.elim
theorem RoOk.step {C C' : Cx} (hs : Step C C') {b : Frame} : ∀ {ro : Option Nat}, RoOk C b ro → RoOk C' b ro
  | none, h => h
  | some y, ⟨h1, l, h2, h3⟩ => by
    refine ⟨?_, l, h2, fun st pe fn N Γ ps asg body d e => ?_⟩
    · cases hz : C.M y with
      | none => exact absurd hz h1
      | some B => obtain ⟨B', hB', _⟩ := hs.ids y B hz; rw [hB']; simp
    · cases hz : C.M y with
      | none => exact absurd hz h1
      | some B =>
        obtain ⟨B', hB', hid⟩ := hs.ids y B hz
        rw [hB'] at e; cases e
        cases B with
        | loop => obtain ⟨_, _, _, _, _, _, _, hρ⟩ := hid; exact hρ.trans (h3 _ _ _ _ _ _ _ _ _ hz)
        | _ => exact hid.elim
/-- the activation's state -/
structure Now (X : Fx) (Γ : Nat → AV) (M : Mem) (Z : List Nat) (C : Cx) (a : Act) (b : Frame) : Prop where
  m : C.M = M
  sim : Sim C
  fits : Fits C Γ a.tmps
  size : a.tmps.size = X.N
  marks : MarksOk C Z a.defers
  fn : b.fn = X.fn
  kind : b.kind = .normal
  ro : RoOk C b X.ro
structure Good (X : Fx) : Prop where
  tab : TabOk X.P X.T
  clo : ∀ g B, X.M0 g = some B → CloB X.M0 B
  res : X.ro = none → ∃ f, X.P.funcs[X.fn]? = some f ∧ f.results.toList = X.rs
def Post (X : Fx) (C : Cx) (Q : AV → Mem → Prop) (v : Value) (w' : World) : Prop := ∃ C' r, C'.w = w' ∧ Sim C' ∧ StepOn X.M0 C C' ∧ Rep C' r v ∧ Q r C'.M
def ARuns (X : Fx) (todo : List It) (Γ : Nat → AV) (M : Mem) (Z : List Nat) (Q : AV → Mem → Prop) : Prop :=
  Good X → ∀ (items : List Item), TodoOk X todo items → ∀ (C : Cx) (a : Act) (b : Frame) (cs : List Frame), Now X Γ M Z C a b → Ends X.P b cs (lone (b.atR a items) cs C.w) (Post X C Q)
theorem Post.step {X : Fx} {C C1 : Cx} {Q : AV → Mem → Prop} (h : Step C C1) {v : Value} {w' : World} : Post X C1 Q v w' → Post X C Q v w'
  | ⟨C', r, h1, h2, h3, h4⟩ => ⟨C', r, h1, h2, h.thenOn h3, h4⟩
/-- a turn of the real state that the told state follows -/
theorem Now.step {X : Fx} {Γ Γ' : Nat → AV} {M : Mem} {Z : List Nat} {C C' : Cx} {a a' : Act} {b : Frame} (h : Now X Γ M Z C a b) (hs : Step C C') (hS : Sim C') (hF : Fits C' Γ' a'.tmps) (hz : a'.tmps.size = X.N) (hd : a'.defers = a.defers) : Now X Γ' C'.M Z C' a' b :=
  ⟨rfl, hS, hF, hz, by rw [hd]; exact h.marks.step hs, h.fn, h.kind, h.ro.step hs⟩
/-! control -/
section
variable {X : Fx} {k : List It} {Γ : Nat → AV} {M : Mem} {Z : List Nat} {Q : AV → Mem → Prop}
theorem ARuns.mono {todo : List It} {Q' : AV → Mem → Prop} (h : ARuns X todo Γ M Z Q) (hq : ∀ r M, Q r M → Q' r M) : ARuns X todo Γ M Z Q' :=
  fun hG items ht C a b cs hn => (h hG items ht C a b cs hn).mono fun v w ⟨C', r, h1, h2, h3, h4, h5⟩ => ⟨C', r, h1, h2, h3, h4, hq _ _ h5⟩
theorem ARuns.skip (h : ARuns X k Γ M Z Q) : ARuns X (.code .skip :: k) Γ M Z Q := by
  intro hG items ht C a b cs hn
  match items, ht with
  | .code c :: items, ⟨⟨e, _⟩, ht⟩ => subst e; exact .step stepR_skip (h hG items ht C a b cs hn)
theorem ARuns.label {l : Nat} (h : ARuns X k Γ M Z Q) : ARuns X (.code (.label l) :: k) Γ M Z Q := by
  intro hG items ht C a b cs hn
  match items, ht with
  | .code c :: items, ⟨⟨e, _⟩, ht⟩ => subst e; exact .step stepR_label (h hG items ht C a b cs hn)
theorem ARuns.inBlock {id : Nat} (h : ARuns X k Γ M Z Q) : ARuns X (.inBlock id :: k) Γ M Z Q := by
  intro hG items ht C a b cs hn
  match items, ht with
  | .inBlock j :: items, ⟨_, ht⟩ => exact .step stepR_inBlock (h hG items ht C a b cs hn)
theorem ARuns.seq {x y : Code} (h : ARuns X (.code x :: .code y :: k) Γ M Z Q) : ARuns X (.code (.seq x y) :: k) Γ M Z Q := by
  intro hG items ht C a b cs hn
  match items, ht with
  | .code c :: items, ⟨⟨e, ok⟩, ht⟩ =>
    subst e
    simp only [okC, Bool.and_eq_true] at ok
    exact .step stepR_seq (h hG (.code x :: .code y :: items) ⟨⟨rfl, ok.1⟩, ⟨rfl, ok.2⟩, ht⟩ C a b cs hn)
theorem ARuns.block {id : Nat} {x : Code} (h : ARuns X (.code x :: .inBlock id :: k) Γ M Z Q) : ARuns X (.code (.block id x) :: k) Γ M Z Q := by
  intro hG items ht C a b cs hn
  match items, ht with
  | .code c :: items, ⟨⟨e, ok⟩, ht⟩ =>
    subst e
    exact .step stepR_block (h hG (.code x :: .inBlock id :: items) ⟨⟨rfl, ok⟩, rfl, ht⟩ C a b cs hn)
theorem ARuns.loop {x : Code} (h : ARuns X (.code x :: .inLoop x :: k) Γ M Z Q) : ARuns X (.code (.loop x) :: k) Γ M Z Q := by
  intro hG items ht C a b cs hn
  match items, ht with
  | .code c :: items, ⟨⟨e, ok⟩, ht⟩ =>
    subst e
    exact .step stepR_loop (h hG (.code x :: .inLoop x :: items) ⟨⟨rfl, ok⟩, ⟨rfl, ok⟩, ht⟩ C a b cs hn)
theorem ARuns.inLoop {x : Code} (h : ARuns X (.code x :: .inLoop x :: k) Γ M Z Q) : ARuns X (.inLoop x :: k) Γ M Z Q := by
  intro hG items ht C a b cs hn
  match items, ht with
  | .inLoop c :: items, ⟨⟨e, ok⟩, hti⟩ =>
    have e' := e.symm
    subst e'
    exact .step stepR_inLoop (h hG (.code x :: .inLoop x :: items) ⟨⟨rfl, ok⟩, ⟨rfl, ok⟩, hti⟩ C a b cs hn)
def exitIt (id : Nat) : List It → Option (List It)
  | .inBlock i :: k => if i = id then some k else exitIt id k
  | _ :: k => exitIt id k
  | [] => none
theorem exitIt_ok {id : Nat} : ∀ {todo k : List It} {items : List Item}, TodoOk X todo items → exitIt id todo = some k → ∃ k', exitTo id items = some k' ∧ TodoOk X k k'
  | .inBlock i :: todo, k, .inBlock j :: items, ⟨e, ht⟩, h => by
    have e : j = i := e
    subst e
    simp only [exitIt] at h
    simp only [exitTo]
    split at h
    · rename_i e2; subst e2; cases h; exact ⟨items, by simp, ht⟩
    · rename_i e2
      rw [if_neg (by simpa using e2)]
      exact exitIt_ok ht h
  | .code _ :: todo, k, .code _ :: items, ⟨_, ht⟩, h => by
    simp only [exitIt] at h
    simp only [exitTo]
    exact exitIt_ok ht h
  | .inLoop _ :: todo, k, .inLoop _ :: items, ⟨_, ht⟩, h => by
    simp only [exitIt] at h
    simp only [exitTo]
    exact exitIt_ok ht h
  | .ops _ _ :: todo, k, .inRegion _ _ :: items, ⟨_, ht⟩, h => by
    simp only [exitIt] at h
    simp only [exitTo]
    exact exitIt_ok ht h
  | .beginRound :: todo, k, .beginRound :: items, ⟨_, ht⟩, h => by
    simp only [exitIt] at h
    simp only [exitTo]
    exact exitIt_ok ht h
theorem exitIt_none {id : Nat} : ∀ {todo : List It} {items : List Item}, TodoOk X todo items → exitIt id todo = none → exitTo id items = none
  | [], [], _, _ => rfl
  | .inBlock i :: todo, .inBlock j :: items, ⟨e, ht⟩, h => by
    have e : j = i := e
    subst e
    simp only [exitIt] at h
    simp only [exitTo]
    split at h
    · cases h
    · rename_i e2
      rw [if_neg (by simpa using e2)]
      exact exitIt_none ht h
  | .code _ :: todo, .code _ :: items, ⟨_, ht⟩, h => by
    simp only [exitIt] at h
    simp only [exitTo]
    exact exitIt_none ht h
  | .inLoop _ :: todo, .inLoop _ :: items, ⟨_, ht⟩, h => by
    simp only [exitIt] at h
    simp only [exitTo]
    exact exitIt_none ht h
  | .ops _ _ :: todo, .inRegion _ _ :: items, ⟨_, ht⟩, h => by
    simp only [exitIt] at h
    simp only [exitTo]
    exact exitIt_none ht h
  | .beginRound :: todo, .beginRound :: items, ⟨_, ht⟩, h => by
    simp only [exitIt] at h
    simp only [exitTo]
    exact exitIt_none ht h
theorem ARuns.exit {id : Nat} {k' : List It} (he : exitIt id k = some k') (h : ARuns X k' Γ M Z Q) : ARuns X (.code (.exit id) :: k) Γ M Z Q := by
  intro hG items ht C a b cs hn
  match items, ht with
  | .code c :: items, ⟨⟨e, _⟩, ht⟩ =>
    subst e
    obtain ⟨items', h1, h2⟩ := exitIt_ok ht he
    exact .step (stepR_exit h1) (h hG items' h2 C a b cs hn)
theorem ARuns.cond {c : Operand} {x y : Code} {t : Bool} (hc : opv Γ c = .raw (.bool t)) (h : ARuns X (.code (if t then x else y) :: k) Γ M Z Q) : ARuns X (.code (.cond c x y) :: k) Γ M Z Q := by
  intro hG items ht C a b cs hn
  match items, ht with
  | .code c' :: items, ⟨⟨e, ok⟩, ht⟩ =>
    subst e
    simp only [okC, Bool.and_eq_true] at ok
    have hv := hn.fits.opv c
    rw [hc] at hv
    exact .step (stepR_cond (show a.eval c = .bool t from hv)) (h hG (.code (if t then x else y) :: items) ⟨⟨rfl, by cases t <;> simp [ok.1, ok.2]⟩, ht⟩ C a b cs hn)
theorem ARuns.condNil {c : Operand} {x y : Code} {m : Nat} (hc : opv Γ c = .nilB m) (hx : m = 0 → ARuns X (.code x :: k) Γ M Z Q) (hy : ARuns X (.code y :: k) Γ M Z Q) : ARuns X (.code (.cond c x y) :: k) Γ M Z Q := by
  intro hG items ht C a b cs hn
  match items, ht with
  | .code c' :: items, ⟨⟨e, ok⟩, ht⟩ =>
    subst e
    simp only [okC, Bool.and_eq_true] at ok
    have hv := hn.fits.opv c
    rw [hc] at hv
    obtain ⟨t, ht', hm⟩ := hv
    refine .step (stepR_cond ht') ?_
    cases t with
    | true => exact hx (hm rfl) hG (.code x :: items) ⟨⟨rfl, ok.1⟩, ht⟩ C a b cs hn
    | false => exact hy hG (.code y :: items) ⟨⟨rfl, ok.2⟩, ht⟩ C a b cs hn
end
end Go.Av
