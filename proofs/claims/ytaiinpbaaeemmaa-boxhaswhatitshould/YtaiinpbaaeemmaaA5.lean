import Derived.Test.YtaiinpbaaeemmaaA4
set_option linter.unusedVariables false
set_option linter.unusedSimpArgs false
namespace Go.Av
/-! ## 13. A program's table of types -/
def tyOf (d : TypeDesc) (n : Nat) : Option Ty :=
  match d with
  | .int k => if n = 1 then some (.int k) else none
  | .bool => if n = 1 then some .bool else none
  | .string => if n = 1 then some .str else none
  | .slice e => if n = 1 then some (.slice e) else none
  | .struct fs => some (.struct (fs.toList.map fun f => (f.offset, f.type)) n)
  | .array l e => some (.arr l e n)
  | .pointer e => if n = 1 then some (.ptr e) else none
  | .map k e => if n = 1 then some (.map k e) else none
  | .func .. => if n = 1 then some .func else none
  | .interface _ => if n = 1 then some .iface else none
  | .tuple _ => if n = 1 then some .tup else none
  | _ => none
def tabOf (P : Program) : Tab where
  ty t := match P.info? t, P.underlying t with
    | some i, some d => tyOf d i.size
    | _, _ => none
  zero t := match P.info? t with
    | some i => i.zero.map (·.cells.toList)
    | none => none
  eqs t := match P.underlying t with
    | some (.struct fs) => !(P.stoodInHeld t) && !(P.eqGuardType P.depth t) && fs.toList.all (fun q => q.name != "_")
    | _ => false
  bytes t := (P.info? t).map (·.bytes)
theorem tyOf_ok {d : TypeDesc} {n : Nat} {ty : Ty} (h : tyOf d n = some ty) : n = ty.cells ∧ DescOk d ty = true := by
  unfold tyOf at h
  split at h <;> first | (split at h <;> first | (cases h; rename_i e; exact ⟨e, by simp [DescOk]⟩) | cases h) | (cases h; exact ⟨rfl, by simp [DescOk]⟩) | cases h
theorem tabOf_ok (P : Program) : TabOk P (tabOf P) where
  ty t ty h := by
    simp only [tabOf] at h
    cases h1 : P.info? t with
    | none => rw [h1] at h; cases h
    | some i =>
      cases h2 : P.underlying t with
      | none => rw [h1, h2] at h; cases h
      | some d =>
        rw [h1, h2] at h
        obtain ⟨h3, h4⟩ := tyOf_ok h
        exact ⟨i, d, h1, h2, h3, h4⟩
  zero t zs h := by
    simp only [tabOf] at h
    cases h1 : P.info? t with
    | none => rw [h1] at h; cases h
    | some i =>
      rw [h1] at h
      simp only at h
      cases h2 : i.zero with
      | none => rw [h2] at h; cases h
      | some z => rw [h2] at h; cases h; exact ⟨i, z, h1, h2, rfl⟩
  eqs t h := by
    simp only [tabOf] at h
    cases h2 : P.underlying t with
    | none => rw [h2] at h; cases h
    | some d =>
      rw [h2] at h
      cases d with
      | struct fs =>
        simp only [Bool.and_eq_true, Bool.not_eq_true', List.all_eq_true, bne_iff_ne, ne_eq] at h
        exact ⟨fs, h2, h.1.1, h.1.2, h.2⟩
      | _ => cases h
  bytes t n h := by
    simp only [tabOf] at h
    cases h1 : P.info? t with
    | none => rw [h1] at h; cases h
    | some i => rw [h1] at h; cases h; exact ⟨i, rfl, rfl⟩
end Go.Av
set_option linter.unusedVariables false
set_option linter.unusedSimpArgs false
namespace Go.Av
/-! ## 14. Words by which simp runs slim code -/
/-- the result of a reading operation goes into its slot -/
def oKS (X : Fx) (d : Option Tmp) (l : List SOp) (L : List (Nat × AV)) (M : Mem) (K : (Nat → AV) → Mem → Prop) : Option AV → Prop
  | some v => dOk X.N d ∧ SL X l (put (lk L) d v) M K
  | none => False
@[congr] theorem oKS_congr {X : Fx} {d : Option Tmp} {l : List SOp} {L : List (Nat × AV)} {M : Mem} {K : (Nat → AV) → Mem → Prop} {o o' : Option AV} (h : o = o') : oKS X d l L M K o = oKS X d l L M K o' := by rw [h]
theorem put_lk (L : List (Nat × AV)) (d : Nat) (v : AV) : put (lk L) (some d) v = lk ((d, v) :: L) := rfl
theorem up_lk (L : List (Nat × AV)) (d : Nat) (v : AV) : up (lk L) d v = lk ((d, v) :: L) := rfl
section
variable {X : Fx} {d : Option Tmp} {l : List SOp} {L : List (Nat × AV)} {M : Mem} {K : (Nat → AV) → Mem → Prop}
@[go_sem] theorem oKS_some {n : Nat} {v : AV} : oKS X (some n) l L M K (some v) = (n < X.N ∧ SL X l (lk ((n, v) :: L)) M K) := rfl
@[go_sem] theorem oKS_none {v : AV} : oKS X none l L M K (some v) = (True ∧ SL X l (lk L) M K) := rfl
@[go_sem] theorem sl_nil {Γ : Nat → AV} : SL X [] Γ M K = K Γ M := rfl
theorem oK_oKS (o : Option AV) : (dOk X.N d ∧ oK o fun v => SL X l (put (lk L) d v) M K) = oKS X d l L M K o := by
  cases o with
  | none => simp [oK, oKS]
  | some v => rfl
@[go_sem ↓] theorem sl_move {x : Operand} : SL X (⟨d, .move x, none⟩ :: l) (lk L) M K = oKS X d l L M K (some (opv (lk L) x)) := oK_oKS _
@[go_sem ↓] theorem sl_assign {x : Operand} : SL X (⟨d, .assign x, none⟩ :: l) (lk L) M K = oKS X d l L M K (some (opv (lk L) x)) := oK_oKS _
@[go_sem ↓] theorem sl_pick {x y z : Operand} : SL X (⟨d, .pick x y z, none⟩ :: l) (lk L) M K = oKS X d l L M K (rdPick (opv (lk L) x) (opv (lk L) y) (opv (lk L) z)) := oK_oKS _
@[go_sem ↓] theorem sl_load {t : TypeId} {x : Operand} : SL X (⟨d, .load t x, none⟩ :: l) (lk L) M K = oKS X d l L M K (rdLoad X.T M t (opv (lk L) x)) := oK_oKS _
@[go_sem ↓] theorem sl_bin {o : BinOp} {t t' : TypeId} {x y : Operand} : SL X (⟨d, .binOp o t x y t', none⟩ :: l) (lk L) M K = oKS X d l L M K (rdBin X.T o t (opv (lk L) x) (opv (lk L) y)) := oK_oKS _
@[go_sem ↓] theorem sl_un {o : UnOp} {t : TypeId} {x : Operand} : SL X (⟨d, .unOp o t x, none⟩ :: l) (lk L) M K = oKS X d l L M K (rdUn o (opv (lk L) x)) := oK_oKS _
@[go_sem ↓] theorem sl_conv {s t : TypeId} {x : Operand} : SL X (⟨d, .convert s t x, none⟩ :: l) (lk L) M K = oKS X d l L M K (rdConv X.T s t (opv (lk L) x)) := oK_oKS _
@[go_sem ↓] theorem sl_func {f : Fn} {cap : Array Operand} : SL X (⟨d, .makeFunc f #[] cap, none⟩ :: l) (lk L) M K = oKS X d l L M K (some (.fn f cap.size (lst (cap.toList.map (opv (lk L)))))) := oK_oKS _
@[go_sem ↓] theorem sl_slice {t : TypeId} {x : Operand} {lo hi : Option Operand} : SL X (⟨d, .slice t x lo hi none, none⟩ :: l) (lk L) M K = oKS X d l L M K (rdSlice X.T t (opv (lk L) x) (lo.map (opv (lk L))) (hi.map (opv (lk L)))) := oK_oKS _
@[go_sem ↓] theorem sl_fieldAddr {s : TypeId} {x : Operand} {f : Nat} : SL X (⟨d, .fieldAddr s x f, none⟩ :: l) (lk L) M K = oKS X d l L M K (rdFieldAddr X.T M s (opv (lk L) x) f) := oK_oKS _
@[go_sem ↓] theorem sl_field {s : TypeId} {x : Operand} {f : Nat} : SL X (⟨d, .field s x f, none⟩ :: l) (lk L) M K = oKS X d l L M K (rdField X.T s (opv (lk L) x) f) := oK_oKS _
@[go_sem ↓] theorem sl_indexAddr {t : TypeId} {x i : Operand} : SL X (⟨d, .indexAddr t x i, none⟩ :: l) (lk L) M K = oKS X d l L M K (rdIndexAddr X.T M t (opv (lk L) x) (opv (lk L) i)) := oK_oKS _
@[go_sem ↓] theorem sl_index {t : TypeId} {x i : Operand} : SL X (⟨d, .index t x i, none⟩ :: l) (lk L) M K = oKS X d l L M K (rdIndex X.T t (opv (lk L) x) (opv (lk L) i)) := oK_oKS _
@[go_sem ↓] theorem sl_extract {x : Operand} {k : Nat} : SL X (⟨d, .extract x k, none⟩ :: l) (lk L) M K = oKS X d l L M K (rdExtract (opv (lk L) x) k) := oK_oKS _
@[go_sem ↓] theorem sl_build {t : TypeId} {ps : Array (Nat × Operand)} : SL X (⟨d, .build t ps, none⟩ :: l) (lk L) M K = oKS X d l L M K (rdBuild X.T M t (opvs (lk L) ps)) := oK_oKS _
@[go_sem ↓] theorem sl_len {x : Operand} {t : TypeId} : SL X (⟨d, .call { callee := .builtin .len, args := #[x], argTypes := #[t] }, none⟩ :: l) (lk L) M K = oKS X d l L M K (rdLen X.T M t (opv (lk L) x)) := oK_oKS _
@[go_sem ↓] theorem sl_max {xs : Array Operand} {ts : Array TypeId} : SL X (⟨d, .call { callee := .builtin .max, args := xs, argTypes := ts }, none⟩ :: l) (lk L) M K = oKS X d l L M K (rdMax (xs.toList.map (opv (lk L)))) := oK_oKS _
@[go_sem ↓] theorem sl_min {xs : Array Operand} {ts : Array TypeId} : SL X (⟨d, .call { callee := .builtin .min, args := xs, argTypes := ts }, none⟩ :: l) (lk L) M K = oKS X d l L M K (rdMin (xs.toList.map (opv (lk L)))) := oK_oKS _
/-- a box that is read only, or one of the run's own -/
def bxK (X : Fx) (d : Option Tmp) (t : TypeId) (l : List SOp) (L : List (Nat × AV)) (M : Mem) (K : (Nat → AV) → Mem → Prop) (own : Bool) : Option (List AV) → Prop
  | some cs => match own with
    | true => dOk X.N d ∧ NewO (fun g => M g = none) fun g => SL X l (put (lk L) d (.ptr g 0)) (upM M g (.cells t cs.length (lst cs))) K
    | false => dOk X.N d ∧ SL X l (put (lk L) d (.ref cs.length (lst cs))) M K
  | none => False
@[congr] theorem bxK_congr {t : TypeId} {b b' : Bool} {o o' : Option (List AV)} (hb : b = b') (h : o = o') : bxK X d t l L M K b o = bxK X d t l L M K b' o' := by rw [h, hb]
@[go_sem] theorem bxK_ref {n : Nat} {t : TypeId} {cs : List AV} : bxK X (some n) t l L M K false (some cs) = (n < X.N ∧ SL X l (lk ((n, .ref cs.length (lst cs)) :: L)) M K) := rfl
@[go_sem ↓] theorem sl_box {t : TypeId} {x : Operand} : SL X (⟨d, .box t x, none⟩ :: l) (lk L) M K = bxK X d t l L M K (isOwn X.own d) (cellsOf M (opv (lk L) x)) := by
  show (dOk X.N d ∧ if isOwn X.own d = true then _ else _) = _
  cases hb : isOwn X.own d with
  | true =>
    rw [if_pos rfl]
    cases hc : cellsOf M (opv (lk L) x) with
    | none => simp [oK, bxK]
    | some cs => rfl
  | false =>
    rw [if_neg (by simp)]
    cases hc : cellsOf M (opv (lk L) x) with
    | none => simp [oK, bxK, rd, hc]
    | some cs => simp [oK, bxK, rd, hc]
/-- a guard is looked at -/
def gdK (X : Fx) (d : Option Tmp) (op : Op) (n : Nat) (want : Bool) (l : List SOp) (L : List (Nat × AV)) (M : Mem) (K : (Nat → AV) → Mem → Prop) : AV → Prop
  | .raw (.bool b) => (b = want → SL X (⟨d, op, none⟩ :: l) (lk ((n, .raw (.bool want)) :: L)) M K) ∧ (b = (!want) → oKS X d l ((n, .raw (.bool (!want))) :: L) M K (some (.raw undef)))
  | .raw (.tuple _) => oKS X d l L M K (some (.raw undef))
  | _ => False
@[congr] theorem gdK_congr {op : Op} {n : Nat} {want : Bool} {v v' : AV} (h : v = v') : gdK X d op n want l L M K v = gdK X d op n want l L M K v' := by rw [h]
@[go_sem ↓] theorem sl_guard {op : Op} {n : Nat} {want : Bool} : SL X (⟨d, op, some (some n, want)⟩ :: l) (lk L) M K = gdK X d op n want l L M K (lk L n) := by
  show SG X _ _ _ _ = _
  unfold SG gdK
  simp only
  cases lk L n with
  | raw u => cases u <;> rfl
  | _ => rfl
@[go_sem] theorem gdK_tt {op : Op} {n : Nat} : gdK X d op n true l L M K (.raw (.bool true)) = SL X (⟨d, op, none⟩ :: l) (lk ((n, .raw (.bool true)) :: L)) M K := by simp [gdK]
@[go_sem] theorem gdK_ff {op : Op} {n : Nat} : gdK X d op n false l L M K (.raw (.bool false)) = SL X (⟨d, op, none⟩ :: l) (lk ((n, .raw (.bool false)) :: L)) M K := by simp [gdK]
@[go_sem] theorem gdK_tf {op : Op} {n : Nat} : gdK X d op n true l L M K (.raw (.bool false)) = oKS X d l ((n, .raw (.bool false)) :: L) M K (some (.raw undef)) := by simp [gdK]
@[go_sem] theorem gdK_ft {op : Op} {n : Nat} : gdK X d op n false l L M K (.raw (.bool true)) = oKS X d l ((n, .raw (.bool true)) :: L) M K (some (.raw undef)) := by simp [gdK]
@[go_sem] theorem gdK_un {op : Op} {n : Nat} {want : Bool} {cs : Array Value} : gdK X d op n want l L M K (.raw (.tuple cs)) = oKS X d l L M K (some (.raw undef)) := rfl
theorem gdK_split {op : Op} {n : Nat} {want b : Bool} (h1 : b = want → SL X (⟨d, op, none⟩ :: l) (lk ((n, .raw (.bool want)) :: L)) M K) (h2 : b = (!want) → oKS X d l ((n, .raw (.bool (!want))) :: L) M K (some (.raw undef))) : gdK X d op n want l L M K (.raw (.bool b)) := ⟨h1, h2⟩
/-- a call -/
def clK (X : Fx) (d : Option Tmp) (as : List AV) (l : List SOp) (L : List (Nat × AV)) (M : Mem) (K : (Nat → AV) → Mem → Prop) : AV → Prop
  | .fn (.func g) n cap => dOk X.N d ∧ ACalls X.P g (as ++ (List.range n).map cap) M fun r M' => SL X l (put (lk L) d r) M' K
  | .yl y => dOk X.N d ∧ AYield X.P y as M fun r M' => SL X l (put (lk L) d r) M' K
  | _ => False
@[congr] theorem clK_congr {as as' : List AV} {v v' : AV} (ha : as = as') (h : v = v') : clK X d as l L M K v = clK X d as' l L M K v' := by rw [ha, h]
@[go_sem ↓] theorem sl_call {f : Operand} {xs : Array Operand} {ts : Array TypeId} : SL X (⟨d, .call { callee := .value f, args := xs, argTypes := ts }, none⟩ :: l) (lk L) M K = clK X d (xs.toList.map (opv (lk L))) l L M K (opv (lk L) f) := by
  show (dOk X.N d ∧ _) = _
  simp only
  cases hf : opv (lk L) f with
  | fn k n cap => cases k <;> simp [clK, callArgs]
  | yl y => simp [clK]
  | _ => simp [clK]
/-- calls of functions that are told: what is left to show -/
def caK (X : Fx) (d : Option Tmp) (g : FuncId) (as : List AV) (l : List SOp) (L : List (Nat × AV)) (M : Mem) (K : (Nat → AV) → Mem → Prop) : Prop := ACalls X.P g as M fun r M' => SL X l (put (lk L) d r) M' K
@[congr] theorem caK_congr {g : FuncId} {as as' : List AV} (h : as = as') : caK X d g as l L M K = caK X d g as' l L M K := by rw [h]
@[go_sem] theorem clK_fn {g : FuncId} {n : Nat} {as : List AV} {cap : Nat → AV} {m : Nat} : clK X (some m) as l L M K (.fn (.func g) n cap) = (m < X.N ∧ caK X (some m) g (as ++ tk n 0 cap) l L M K) := by
  have e : ∀ n s, (List.range' s n).map cap = tk n s cap := by
    intro n
    induction n with
    | zero => intro s; rfl
    | succ n ih => intro s; simp [List.range'_succ, tk, ih]
  show (_ ∧ _) = _
  rw [List.range_eq_range', e]; rfl
@[go_sem] theorem clK_fn0 {g : FuncId} {n : Nat} {as : List AV} {cap : Nat → AV} : clK X none as l L M K (.fn (.func g) n cap) = (True ∧ caK X none g (as ++ tk n 0 cap) l L M K) := by
  have e : ∀ n s, (List.range' s n).map cap = tk n s cap := by
    intro n
    induction n with
    | zero => intro s; rfl
    | succ n ih => intro s; simp [List.range'_succ, tk, ih]
  show (_ ∧ _) = _
  rw [List.range_eq_range', e]; rfl
theorem caK.to {g : FuncId} {as bs : List AV} {Q : AV → Mem → Prop} (h : ACalls X.P g bs M Q) (hl : Les as bs) (hq : ∀ r M', Q r M' → SL X l (put (lk L) d r) M' K) : caK X d g as l L M K := (h.le hl).mono hq
/-- a call of a function whose result is told, that leaves memory as it was -/
theorem caK.val {g : FuncId} {as bs : List AV} {v : AV} (h : ACalls X.P g bs M (fun r M' => r = v ∧ M' = M)) (hl : Les as bs) (hq : oKS X d l L M K (some v)) : caK X d g as l L M K := caK.to h hl (by rintro r M' ⟨rfl, rfl⟩; exact hq.2)
end
/-! readers -/
def ldO (f : Nat → AV) (n : Nat) : Option Ty → Option AV
  | some ty => if 0 < ty.cells ∧ ty.cells ≤ n then some (ldAt ty f) else none
  | none => none
@[go_sem] theorem rdLoad_ref {T : Tab} {M : Mem} {t : TypeId} {n : Nat} {f : Nat → AV} : rdLoad T M t (.ref n f) = ldO f n (T.ty t) := by
  unfold rdLoad ldO
  cases T.ty t with
  | none => rfl
  | some ty => by_cases h : ty.cells = 0 <;> by_cases h2 : ty.cells ≤ n <;> simp [h, h2] <;> omega
def ldP (off : Nat) : Option Ty → Option Blk → Option AV
  | some ty, some (.cells e n cs) => if 0 < ty.cells ∧ off + ty.cells ≤ n then some (ldAt ty fun i => cs (off + i)) else none
  | _, _ => none
@[go_sem] theorem rdLoad_ptr {T : Tab} {M : Mem} {t : TypeId} {g off : Nat} : rdLoad T M t (.ptr g off) = ldP off (T.ty t) (M g) := by
  unfold rdLoad ldP
  cases T.ty t with
  | none => rfl
  | some ty =>
    simp only
    cases M g with
    | none => by_cases h : ty.cells = 0 <;> simp [h]
    | some B => cases B <;> by_cases h : ty.cells = 0 <;> simp [h, Nat.pos_iff_ne_zero]
def ldE (n sz i o : Nat) : Option Ty → Option Blk → Option AV
  | some ty, some (.row e n' sz' f) => if 0 < ty.cells ∧ n' = n ∧ o + ty.cells ≤ sz ∧ i < n then some (ldAt ty fun c => f i (o + c)) else none
  | _, _ => none
@[go_sem] theorem rdLoad_elp {T : Tab} {M : Mem} {t : TypeId} {g n sz i o : Nat} : rdLoad T M t (.elp g n sz i o) = ldE n sz i o (T.ty t) (M g) := by
  unfold rdLoad ldE
  cases T.ty t with
  | none => rfl
  | some ty =>
    simp only
    cases M g with
    | none => by_cases h : ty.cells = 0 <;> simp [h]
    | some B => cases B <;> by_cases h : ty.cells = 0 <;> simp [h, Nat.pos_iff_ne_zero]
/-- a struct's field -/
def fld (T : Tab) (s : TypeId) (k : Nat) : Option (Nat × Ty) :=
  match T.ty s with
  | some (.struct fs _) => match fs[k]? with
    | some (o, t) => match T.ty t with
      | some ty => if ty.cells = 0 then none else some (o, ty)
      | none => none
    | none => none
  | _ => none
/-- a slice's elements -/
def elt (T : Tab) (t : TypeId) : Option Ty :=
  match T.ty t with
  | some (.slice e) => T.ty e
  | _ => none
def faR (n : Nat) (f : Nat → AV) : Option (Nat × Ty) → Option AV
  | some (o, ty) => if o + ty.cells ≤ n then some (.ref ty.cells (nrm ty.cells fun i => f (o + i))) else none
  | none => none
def faP (g off : Nat) : Option (Nat × Ty) → Option Blk → Option AV
  | some (o, _), some (.cells _ _ _) => some (.ptr g (off + o))
  | _, _ => none
def faE (g n sz i p : Nat) : Option (Nat × Ty) → Option Blk → Option AV
  | some (o, _), some (.row _ n' sz' _) => if n' = n ∧ sz' = sz then some (.elp g n sz i (p + o)) else none
  | _, _ => none
def fdA (n : Nat) (f : Nat → AV) : Option (Nat × Ty) → Option AV
  | some (o, ty) => if o + ty.cells ≤ n then some (ldAt ty (fun i => f (o + i))) else none
  | none => none
section
variable {T : Tab} {M : Mem} {s t : TypeId} {k n g off sz i o : Nat} {f : Nat → AV}
@[go_sem] theorem rdFieldAddr_ref : rdFieldAddr T M s (.ref n f) k = faR n f (fld T s k) := by
  unfold rdFieldAddr fld
  cases hs : T.ty s with
  | none => rfl
  | some ty =>
    cases ty with
    | struct fs N =>
      simp only
      cases hk : fs[k]? with
      | none => rfl
      | some p =>
        obtain ⟨o', t'⟩ := p
        simp only
        cases ht : T.ty t' with
        | none => rfl
        | some ty' =>
          simp only
          by_cases h0 : ty'.cells = 0
          · simp [h0, faR]
          · simp [h0, faR]
    | _ => rfl
@[go_sem] theorem rdFieldAddr_ptr : rdFieldAddr T M s (.ptr g off) k = faP g off (fld T s k) (M g) := by
  unfold rdFieldAddr fld
  cases hs : T.ty s with
  | none => rfl
  | some ty =>
    cases ty with
    | struct fs N =>
      simp only
      cases hk : fs[k]? with
      | none => rfl
      | some p =>
        obtain ⟨o', t'⟩ := p
        simp only
        cases ht : T.ty t' with
        | none => rfl
        | some ty' =>
          simp only
          by_cases h0 : ty'.cells = 0
          · simp [h0, faP]
          · (cases hM : M g with | none => simp [h0, faP] | some B => cases B <;> simp [h0, faP])
    | _ => rfl
@[go_sem] theorem rdFieldAddr_elp : rdFieldAddr T M s (.elp g n sz i o) k = faE g n sz i o (fld T s k) (M g) := by
  unfold rdFieldAddr fld
  cases hs : T.ty s with
  | none => rfl
  | some ty =>
    cases ty with
    | struct fs N =>
      simp only
      cases hk : fs[k]? with
      | none => rfl
      | some p =>
        obtain ⟨o', t'⟩ := p
        simp only
        cases ht : T.ty t' with
        | none => rfl
        | some ty' =>
          simp only
          by_cases h0 : ty'.cells = 0
          · simp [h0, faE]
          · (cases hM : M g with | none => simp [h0, faE] | some B => cases B <;> simp [h0, faE])
    | _ => rfl
@[go_sem] theorem rdField_ag : rdField T s (.ag n f) k = fdA n f (fld T s k) := by
  unfold rdField fld
  cases hs : T.ty s with
  | none => rfl
  | some ty =>
    cases ty with
    | struct fs N =>
      simp only
      cases hk : fs[k]? with
      | none => rfl
      | some p =>
        obtain ⟨o', t'⟩ := p
        simp only
        cases ht : T.ty t' with
        | none => rfl
        | some ty' =>
          simp only
          by_cases h0 : ty'.cells = 0
          · simp [h0, fdA]
          · simp [h0, fdA]
    | _ => rfl
def ixS (n sz : Nat) (f : Nat → Nat → AV) (j : Int) : Option Ty → Option AV
  | some te => if sz = te.cells ∧ 0 ≤ j ∧ j < n then some (.ref sz (nrm sz (f j.toNat))) else none
  | none => none
def ixO (g n sz : Nat) (j : Int) : Option Ty → Option Blk → Option AV
  | some te, some (.row _ n' sz' _) => if n' = n ∧ sz' = sz ∧ sz = te.cells ∧ 0 ≤ j ∧ j < n then some (.elp g n sz j.toNat 0) else none
  | _, _ => none
@[go_sem] theorem rdIndexAddr_sl {f : Nat → Nat → AV} {kk : IntKind} {j : Int} : rdIndexAddr T M t (.sl n sz f) (.raw (.int kk j)) = ixS n sz f j (elt T t) := by
  unfold rdIndexAddr elt
  cases hs : T.ty t with
  | none => rfl
  | some ty =>
    cases ty with
    | slice e => simp only; cases he : T.ty e <;> rfl
    | arr len e m => simp only; cases he : T.ty e <;> rfl
    | _ => rfl
@[go_sem] theorem rdIndexAddr_own {kk : IntKind} {j : Int} : rdIndexAddr T M t (.own g n sz) (.raw (.int kk j)) = ixO g n sz j (elt T t) (M g) := by
  unfold rdIndexAddr elt
  cases hs : T.ty t with
  | none => rfl
  | some ty =>
    cases ty with
    | slice e => 
      simp only
      cases he : T.ty e with
      | none => rfl
      | some te =>
        cases hM : M g with
        | none => simp [ixO, hM]
        | some B => cases B <;> simp [ixO, hM]
    | arr len e m => simp only; cases he : T.ty e <;> rfl
    | _ => rfl
end
end Go.Av
set_option linter.unusedVariables false
set_option linter.unusedSimpArgs false
namespace Go.Av
/-! ## 15. More words: numbers, slices, ends -/
section
variable {T : Tab} {M : Mem} {s t : TypeId} {k : IntKind} {a b c : Int}
@[go_sem] theorem bin_add : rdBin T .add t (.raw (.int k a)) (.raw (.int k b)) = some (.raw (.int k (k.wrap (a + b)))) := by simp [rdBin, binV, binInt]
@[go_sem] theorem bin_sub : rdBin T .sub t (.raw (.int k a)) (.raw (.int k b)) = some (.raw (.int k (k.wrap (a - b)))) := by simp [rdBin, binV, binInt]
@[go_sem] theorem bin_mul : rdBin T .mul t (.raw (.int k a)) (.raw (.int k b)) = some (.raw (.int k (k.wrap (a * b)))) := by simp [rdBin, binV, binInt]
@[go_sem] theorem bin_quo (h : b ≠ 0) : rdBin T .quo t (.raw (.int k a)) (.raw (.int k b)) = some (.raw (.int k (k.wrap (a.tdiv b)))) := by simp [rdBin, binV, binInt, h]
@[go_sem] theorem bin_rem (h : b ≠ 0) : rdBin T .rem t (.raw (.int k a)) (.raw (.int k b)) = some (.raw (.int k (a.tmod b))) := by simp [rdBin, binV, binInt, h]
@[go_sem] theorem bin_eql : rdBin T .eql t (.raw (.int k a)) (.raw (.int k b)) = some (.raw (.bool (decide (a = b)))) := by simp [rdBin, binV, binInt]
@[go_sem] theorem bin_neq : rdBin T .neq t (.raw (.int k a)) (.raw (.int k b)) = some (.raw (.bool (decide (¬ a = b)))) := by simp [rdBin, binV, binInt]
@[go_sem] theorem bin_lss : rdBin T .lss t (.raw (.int k a)) (.raw (.int k b)) = some (.raw (.bool (decide (a < b)))) := by simp [rdBin, binV, binInt]
@[go_sem] theorem bin_leq : rdBin T .leq t (.raw (.int k a)) (.raw (.int k b)) = some (.raw (.bool (decide (a ≤ b)))) := by simp [rdBin, binV, binInt]
@[go_sem] theorem bin_gtr : rdBin T .gtr t (.raw (.int k a)) (.raw (.int k b)) = some (.raw (.bool (decide (b < a)))) := by simp [rdBin, binV, binInt]
@[go_sem] theorem bin_geq : rdBin T .geq t (.raw (.int k a)) (.raw (.int k b)) = some (.raw (.bool (decide (b ≤ a)))) := by simp [rdBin, binV, binInt]
@[go_sem] theorem wrap_i64 (h1 : -9223372036854775808 ≤ a) (h2 : a < 9223372036854775808) : IntKind.wrap .i64 a = a := by
  simp only [IntKind.wrap, IntKind.bits, IntKind.signed]
  try simp
  try omega
def bEq (a b : Bool) : Option Ty → Option AV
  | some .bool => some (.raw (.bool (a == b)))
  | _ => none
def bNe (a b : Bool) : Option Ty → Option AV
  | some .bool => some (.raw (.bool (!(a == b))))
  | _ => none
@[go_sem] theorem bin_eqlb {a b : Bool} : rdBin T .eql t (.raw (.bool a)) (.raw (.bool b)) = bEq a b (T.ty t) := by
  unfold rdBin bEq binV
  cases T.ty t with
  | none => rfl
  | some ty => cases ty <;> rfl
@[go_sem] theorem bin_neqb {a b : Bool} : rdBin T .neq t (.raw (.bool a)) (.raw (.bool b)) = bNe a b (T.ty t) := by
  unfold rdBin bNe binV
  cases T.ty t with
  | none => rfl
  | some ty => cases ty <;> rfl
def lnS (n : Nat) : Option Ty → Option AV
  | some (.slice _) => some (.raw (.int .i64 n))
  | _ => none
@[go_sem] theorem len_sl {n sz : Nat} {f : Nat → Nat → AV} : rdLen T M t (.sl n sz f) = lnS n (T.ty t) := by
  unfold rdLen lnS
  cases T.ty t with
  | none => rfl
  | some ty => cases ty <;> rfl
@[go_sem] theorem len_nil : rdLen T M t (.raw (.slice none 0 0)) = lnS 0 (T.ty t) := by
  unfold rdLen lnS
  cases T.ty t with
  | none => rfl
  | some ty => cases ty <;> rfl
def lnO (n sz : Nat) : Option Ty → Option Blk → Option AV
  | some (.slice _), some (.row _ n' sz' _) => if n' = n ∧ sz' = sz then some (.raw (.int .i64 n)) else none
  | _, _ => none
@[go_sem] theorem len_own {g n sz : Nat} : rdLen T M t (.own g n sz) = lnO n sz (T.ty t) (M g) := by
  unfold rdLen lnO
  cases T.ty t with
  | none => rfl
  | some ty => cases ty <;> first | rfl | (cases hM : M g with | none => simp [hM] | some B => cases B <;> simp [hM])
end
theorem range_tk (f : Nat → AV) : ∀ n s, (List.range' s n).map f = tk n s f := by
  intro n
  induction n with
  | zero => intro s; rfl
  | succ n ih => intro s; simp [List.range'_succ, tk, ih]
def ceA (M : Mem) (l : List AV) : Bool → Option (List AV)
  | true => some l
  | false => none
@[go_sem] theorem ceA_t {M : Mem} {l : List AV} : ceA M l true = some l := rfl
@[go_sem] theorem cells_ag {M : Mem} {n : Nat} {f : Nat → AV} : cellsOf M (.ag n f) = ceA M (tk n 0 f) ((tk n 0 f).all (one M)) := by
  unfold cellsOf
  simp only
  rw [List.range_eq_range', range_tk]
  cases h : (tk n 0 f).all (one M) <;> simp [ceA]
@[go_sem] theorem cells_raw {M : Mem} {v : Value} : cellsOf M (.raw v) = ceA M [.raw v] (one M (.raw v)) := by
  unfold cellsOf; cases h : one M (.raw v) <;> simp [ceA, h]
@[go_sem] theorem cells_sl {M : Mem} {n sz : Nat} {f : Nat → Nat → AV} : cellsOf M (.sl n sz f) = some [.sl n sz f] := rfl
@[go_sem] theorem cells_ref {M : Mem} {n : Nat} {f : Nat → AV} : cellsOf M (.ref n f) = some [.ref n f] := rfl
@[go_sem] theorem cells_fn {M : Mem} {k : Fn} {n : Nat} {f : Nat → AV} : cellsOf M (.fn k n f) = some [.fn k n f] := rfl
@[go_sem] theorem cells_nilB {M : Mem} {n : Nat} : cellsOf M (.nilB n) = some [.nilB n] := rfl
@[go_sem] theorem cells_own {M : Mem} {g n sz : Nat} : cellsOf M (.own g n sz) = ceA M [.own g n sz] (one M (.own g n sz)) := by
  unfold cellsOf; cases h : one M (.own g n sz) <;> simp [ceA, h]
@[go_sem] theorem cells_ptr {M : Mem} {g o : Nat} : cellsOf M (.ptr g o) = ceA M [.ptr g o] (one M (.ptr g o)) := by
  unfold cellsOf; cases h : one M (.ptr g o) <;> simp [ceA, h]
@[go_sem] theorem one_raw {M : Mem} {v : Value} : one M (.raw v) = v.oneCell' := rfl
@[go_sem] theorem one_sl {M : Mem} {n sz : Nat} {f : Nat → Nat → AV} : one M (.sl n sz f) = true := rfl
@[go_sem] theorem one_ref {M : Mem} {n : Nat} {f : Nat → AV} : one M (.ref n f) = true := rfl
@[go_sem] theorem one_fn {M : Mem} {k : Fn} {n : Nat} {f : Nat → AV} : one M (.fn k n f) = true := rfl
@[go_sem] theorem one_nilB {M : Mem} {n : Nat} : one M (.nilB n) = true := rfl
@[go_sem] theorem oc_int {k : IntKind} {n : Int} : Value.oneCell' (.int k n) = true := rfl
@[go_sem] theorem oc_bool {b : Bool} : Value.oneCell' (.bool b) = true := rfl
@[go_sem] theorem oc_str {b : ByteArray} : Value.oneCell' (.string b) = true := rfl
@[go_sem] theorem oc_slice {a : Option Addr} {n c : Nat} : Value.oneCell' (.slice a n c) = true := rfl
@[go_sem] theorem oc_ptr {a : Option Addr} : Value.oneCell' (.pointer a) = true := rfl
@[go_sem] theorem lk_nil {i : Nat} : lk [] i = .dead := rfl
@[go_sem] theorem lk_cons {j i : Nat} {v : AV} {L : List (Nat × AV)} : lk ((j, v) :: L) i = if i = j then v else lk L i := rfl
@[go_sem] theorem num_nil {n : Nat} : num n [] = [] := rfl
@[go_sem] theorem num_cons {n : Nat} {a : AV} {l : List AV} : num n (a :: l) = (n, a) :: num (n + 1) l := rfl
@[go_sem] theorem tk_nil {s : Nat} {f : Nat → AV} : tk 0 s f = [] := rfl
@[go_sem] theorem tk_succ {n s : Nat} {f : Nat → AV} : tk (n + 1) s f = f s :: tk n (s + 1) f := rfl
@[go_sem] theorem lst_nil {i : Nat} : lst [] i = .dead := rfl
@[go_sem] theorem lst_zero {a : AV} {l : List AV} : lst (a :: l) 0 = a := rfl
@[go_sem] theorem lst_succ {a : AV} {l : List AV} {i : Nat} : lst (a :: l) (i + 1) = lst l i := rfl
@[go_sem] theorem nrm_lst {n : Nat} {f : Nat → AV} : nrm n f = lst (tk n 0 f) := rfl
@[go_sem] theorem KR_lk {X : Fx} {k : List SI} {ks : List Nat} {Z : List Nat} {Q : AV → Mem → Prop} {L : List (Nat × AV)} {M : Mem} : KR X k ks Z Q (lk L) M = SRuns X k (lk (kpl ks L)) M Z Q := by
  unfold KR
  congr 2
@[go_sem] theorem kpl_nil {L : List (Nat × AV)} : kpl [] L = [] := rfl
@[go_sem] theorem kpl_cons {i : Nat} {ks : List Nat} {L : List (Nat × AV)} : kpl (i :: ks) L = (i, lk L i) :: kpl ks L := rfl
/-- the end of a function that asks nothing of marks -/
theorem EEnd.of {X : Fx} {Γ : Nat → AV} {M : Mem} {Q : AV → Mem → Prop} (h0 : X.ro = none) (h : oK (resAll X.T Γ M X.rs) fun vs => DoneF X.M0 M (resAV vs) Q) : EEnd X Γ M [] Q := ⟨h0, trivial, h⟩
@[go_sem] theorem res_nil {T : Tab} {Γ : Nat → AV} {M : Mem} : resAll T Γ M [] = some [] := rfl
def resK (v : Option AV) (vs : Option (List AV)) : Option (List AV) :=
  match v, vs with
  | some v, some vs => some (v :: vs)
  | _, _ => none
@[go_sem] theorem resK_some {v : AV} {vs : List AV} : resK (some v) (some vs) = some (v :: vs) := rfl
@[go_sem] theorem res_tmp {T : Tab} {L : List (Nat × AV)} {M : Mem} {t : Tmp} {rs : List ResultVar} : resAll T (lk L) M (.tmp t :: rs) = resK (some (lk L t)) (resAll T (lk L) M rs) := rfl
@[go_sem] theorem res_cell {T : Tab} {L : List (Nat × AV)} {M : Mem} {t : TypeId} {a : Tmp} {rs : List ResultVar} : resAll T (lk L) M (.cell a t :: rs) = resK (rdLoad T M t (lk L a)) (resAll T (lk L) M rs) := rfl
@[go_sem] theorem oK_some' {α : Type} {x : α} {K : α → Prop} : oK (some x) K = K x := rfl
@[go_sem] theorem resAV_one {v : AV} : resAV [v] = v := rfl
@[go_sem] theorem resAV_nil : resAV [] = .tup 0 (lst []) := rfl
@[go_sem] theorem resAV_two {v u : AV} {vs : List AV} : resAV (v :: u :: vs) = .tup (vs.length + 2) (lst (v :: u :: vs)) := rfl
@[go_sem] theorem opv_tmp {L : List (Nat × AV)} {t : Tmp} : opv (lk L) (.tmp t) = lk L t := rfl
@[go_sem] theorem opv_func {L : List (Nat × AV)} {f : FuncId} : opv (lk L) (.func f) = .fn (.func f) 0 (fun _ => .dead) := rfl
@[go_sem] theorem opv_const {L : List (Nat × AV)} {v : Value} : opv (lk L) (.const v) = cst v := rfl
@[go_sem] theorem cst_int {k : IntKind} {n : Int} : cst (.int k n) = .raw (.int k n) := rfl
@[go_sem] theorem cst_bool {b : Bool} : cst (.bool b) = .raw (.bool b) := rfl
@[go_sem] theorem cst_str {b : ByteArray} : cst (.string b) = .raw (.string b) := rfl
@[go_sem] theorem cst_slice {a : Option Addr} {n c : Nat} : cst (.slice a n c) = .raw (.slice a n c) := rfl
@[go_sem] theorem cst_ptr {a : Option Addr} : cst (.pointer a) = .raw (.pointer a) := rfl
@[go_sem] theorem cst_nilFunc : cst .nilFunc = .raw .nilFunc := rfl
@[go_sem] theorem pick_b {c x y : Bool} : rdPick (.raw (.bool c)) (.raw (.bool x)) (.raw (.bool y)) = some (.raw (.bool (bif c then x else y))) := rfl
@[go_sem] theorem pick_t {x : Bool} {y : AV} : rdPick (.raw (.bool true)) (.raw (.bool x)) y = some (.raw (.bool x)) := by
  cases y with
  | raw v => cases v <;> rfl
  | _ => rfl
@[go_sem] theorem pick_f {x : AV} {y : Bool} : rdPick (.raw (.bool false)) x (.raw (.bool y)) = some (.raw (.bool y)) := by
  cases x with
  | raw v => cases v <;> rfl
  | _ => rfl
@[go_sem] theorem not_dec {p : Prop} [Decidable p] : (!decide p) = decide (¬p) := by simp
@[go_sem] theorem ixS_ok {n sz : Nat} {f : Nat → Nat → AV} {j : Int} {te : Ty} (h0 : 0 ≤ j) (h1 : j < n) : ixS n sz f j (some te) = if sz = te.cells then some (.ref sz (nrm sz (f j.toNat))) else none := by simp [ixS, h0, h1]
def ixB (g n sz : Nat) (j : Int) (te : Ty) : Option Blk → Option AV
  | some (.row _ n' sz' _) => if n' = n ∧ sz' = sz ∧ sz = te.cells then some (.elp g n sz j.toNat 0) else none
  | _ => none
@[go_sem] theorem ixO_ok {g n sz : Nat} {j : Int} {te : Ty} {B : Option Blk} (h0 : 0 ≤ j) (h1 : j < n) : ixO g n sz j (some te) B = ixB g n sz j te B := by
  unfold ixO ixB
  cases B with
  | none => rfl
  | some B => cases B <;> simp [h0, h1]
@[go_sem] theorem ixB_row {g n sz e : Nat} {j : Int} {te : Ty} {f : Nat → Nat → AV} : ixB g n sz j te (some (.row e n sz f)) = if sz = te.cells then some (.elp g n sz j.toNat 0) else none := by simp [ixB]
section
variable {X : Fx} {d : Option Tmp} {l : List SOp} {L : List (Nat × AV)} {M : Mem} {K : (Nat → AV) → Mem → Prop} {op : Op} {n : Nat}
theorem gdD_t {p : Prop} [Decidable p] (h1 : p → SL X (⟨d, op, none⟩ :: l) (lk ((n, .raw (.bool true)) :: L)) M K) (h2 : ¬p → oKS X d l ((n, .raw (.bool false)) :: L) M K (some (.raw undef))) : gdK X d op n true l L M K (.raw (.bool (decide p))) := ⟨fun e => h1 (by simpa using e), fun e => h2 (by simpa using e)⟩
theorem gdD_f {p : Prop} [Decidable p] (h1 : ¬p → SL X (⟨d, op, none⟩ :: l) (lk ((n, .raw (.bool false)) :: L)) M K) (h2 : p → oKS X d l ((n, .raw (.bool true)) :: L) M K (some (.raw undef))) : gdK X d op n false l L M K (.raw (.bool (decide p))) := ⟨fun e => h1 (by simpa using e), fun e => h2 (by simpa using e)⟩
variable {k : List SI} {Γ : Nat → AV} {Z : List Nat} {Q : AV → Mem → Prop}
theorem SRuns.condD {p : Prop} [Decidable p] {c : Operand} {x y : SC} (hc : opv Γ c = .raw (.bool (decide p))) (h1 : p → SRuns X (.code x :: k) Γ M Z Q) (h2 : ¬p → SRuns X (.code y :: k) Γ M Z Q) : SRuns X (.code (.cond c x y) :: k) Γ M Z Q :=
  .cond hc (fun e => h1 (by simpa using e)) (fun e => h2 (by simpa using e))
theorem SRuns.condT {c : Operand} {x y : SC} (hc : opv Γ c = .raw (.bool true)) (h1 : SRuns X (.code x :: k) Γ M Z Q) : SRuns X (.code (.cond c x y) :: k) Γ M Z Q := .cond hc (fun _ => h1) (fun e => by simp at e)
theorem SRuns.condF {c : Operand} {x y : SC} (hc : opv Γ c = .raw (.bool false)) (h1 : SRuns X (.code y :: k) Γ M Z Q) : SRuns X (.code (.cond c x y) :: k) Γ M Z Q := .cond hc (fun e => by simp at e) (fun _ => h1)
end
attribute [go_sem] List.map_cons List.map_nil List.length_cons List.length_nil List.append_nil List.cons_append List.nil_append List.append_assoc List.all_cons List.all_nil
attribute [go_sem] dOk rdUn rdMax rdMin rdExtract rdConv isOwn List.contains_cons List.contains_nil
attribute [go_sem] ldO ldP ldE faR faP faE fdA ldAt Ty.cells Ty.agg bEq bNe lnS lnO
attribute [go_sem] if_true if_false true_and and_true true_implies Bool.false_eq_true cond_true cond_false Bool.not_true Bool.not_false Bool.and_self Bool.true_and Bool.and_true Nat.zero_add
end Go.Av
set_option linter.unusedVariables false
set_option linter.unusedSimpArgs false
namespace Go.Av
/-! ## 16. Rounds, and the range over a function -/
theorem turn_loop {C : Cx} (hS : Sim C) {y : Nat} {st : LoopState} {pe : Option Code} {fn : FuncId} {N : Nat} {Γ : Nat → AV} {ps : Array Tmp} {asg body : Code} {d : Nat} (hy : C.M y = some (.loop st pe fn N Γ ps asg body d)) :
    ∃ (l : Nat) (tmps : Array Value), C.ρ y = some l ∧ C.w.heap[l]? = some (.loop { state := st, pending := pe, fn := fn, tmps := tmps, params := ps, assign := asg, body := body, defers := d }) ∧ tmps.size = N ∧ (∀ i, Rep C (Γ i) (tmps.getD i undef)) ∧
      ∀ st' pe', Step C (C.turn (C.w.putObj l (.loop { state := st', pending := pe', fn := fn, tmps := tmps, params := ps, assign := asg, body := body, defers := d })) y (.loop st' pe' fn N Γ ps asg body d) (C.ρ y)) ∧
        Sim (C.turn (C.w.putObj l (.loop { state := st', pending := pe', fn := fn, tmps := tmps, params := ps, assign := asg, body := body, defers := d })) y (.loop st' pe' fn N Γ ps asg body d) (C.ρ y)) := by
  obtain ⟨l, tmps, e1, hh, hsz, hrep⟩ := hS.blk y _ hy
  refine ⟨l, tmps, e1, hh, hsz, hrep, fun st' pe' => ?_⟩
  refine turn hS y _ _ (C.ρ y) rfl rfl rfl (by simp) (fun b2 hb2 hne => World.putObj_heap_other (fun e => hne _ hy trivial (by rw [e]; exact e1))) (fun b2 e => .inr ⟨_, hy, trivial, e⟩) (fun B hB => ?_) (fun stp => ?_)
  · rw [hy] at hB; cases hB
    exact ⟨rfl, rfl, rfl, rfl, rfl, rfl, rfl, by simp [Cx.turn]⟩
  · refine ⟨l, tmps, by simp [Cx.turn, e1], World.putObj_heap_same (heap_lt hh), hsz, fun i => (hrep i).step stp _ _⟩
section
variable {X : Fx} {k : List It} {Z : List Nat} {Q : AV → Mem → Prop} {Γ : Nat → AV} {M : Mem} {y : Nat}
variable {st : LoopState} {pe : Option Code} {fn : FuncId} {N : Nat} {Γ0 : Nat → AV} {ps : Array Tmp} {asg body : Code} {d : Nat}
theorem ARuns.beginRound (hro : X.ro = some y) (hy : M y = some (.loop .ready pe fn N Γ0 ps asg body d)) (h : ARuns X k Γ (upM M y (.loop .busy pe fn N Γ0 ps asg body d)) Z Q) : ARuns X (.beginRound :: k) Γ M Z Q := by
  intro hG items ht C a b cs hn
  match items, ht with
  | .beginRound :: items, ⟨_, ht⟩ =>
    have hM := hn.m
    subst hM
    have hr := hn.ro
    rw [hro] at hr
    obtain ⟨_, l, hb, hl⟩ := hr
    obtain ⟨l', tmps, e1, hh, hsz, hrep, hturn⟩ := turn_loop hn.sim hy
    obtain rfl : l' = l := by have := hl _ _ _ _ _ _ _ _ _ hy; rw [e1] at this; cases this; rfl
    obtain ⟨stp, sm⟩ := hturn .busy pe
    refine .step (stepR_beginRound hb (run_beginRound hh rfl)) ?_
    exact (h hG items ht _ a b cs (hn.step (C' := C.turn _ y _ (C.ρ y)) stp sm (hn.fits.step stp) hn.size rfl)).mono fun v w => Post.step stp
/-- how a round ends: j is the jump that is left -/
def REnd (X : Fx) (M : Mem) (j : Option Code) (Q : AV → Mem → Prop) : Prop :=
  ∃ y st pe fn N Γ0 ps asg body d, X.ro = some y ∧ M y = some (.loop st pe fn N Γ0 ps asg body d) ∧
    DoneF X.M0 (upM M y (.loop (if j.isNone then .ready else .done) j fn N Γ0 ps asg body d)) (.raw (.bool j.isNone)) Q
theorem round_ends {j : Option Code} (h : REnd X M j Q) (hG : Good X) {C : Cx} {a : Act} {b : Frame} {cs : List Frame} (hn : Now X Γ M Z C a b) {items : List Item}
    (hs : ∀ (l : Nat) (c : Frame) (cs' : List Frame) (v : Value) (w' : World), b.roundOf = some l → (Instr.endRound l j).run X.P C.w = .ok v w' → step X.P (lone (b.atR a items) (c :: cs') C.w) = .next (lone (c.finish v) cs' w')) :
    Ends X.P b cs (lone (b.atR a items) cs C.w) (Post X C Q) := by
  obtain ⟨y, st, pe, fn, N, Γ0, ps, asg, body, d, hro, hy, hd⟩ := h
  have hM := hn.m
  subst hM
  have hr := hn.ro
  rw [hro] at hr
  obtain ⟨_, l, hb, hl⟩ := hr
  obtain ⟨l', tmps, e1, hh, hsz, hrep, hturn⟩ := turn_loop hn.sim hy
  obtain rfl : l' = l := by have := hl _ _ _ _ _ _ _ _ _ hy; rw [e1] at this; cases this; rfl
  obtain ⟨stp, sm⟩ := hturn (if j.isNone then .ready else .done) j
  unfold Ends
  rw [hb]
  intro c cs' e
  subst e
  exact ⟨_, _, .one (hs l' c cs' _ _ hb (run_endRound j hh)), Post.of_doneF hG hd rfl stp sm rfl⟩
theorem ARuns.roundFin (h : REnd X M none Q) : ARuns X [] Γ M Z Q := by
  intro hG items ht C a b cs hn
  match items, ht with
  | [], _ => exact round_ends h hG hn (fun l c cs' v w' hb hr => stepR_round_end hb hn.kind hr)
theorem ARuns.roundRet (h : REnd X M (some .ret) Q) : ARuns X (.code .ret :: k) Γ M Z Q := by
  intro hG items ht C a b cs hn
  match items, ht with
  | .code c :: items, ⟨⟨e, _⟩, ht⟩ => subst e; exact round_ends h hG hn (fun l c cs' v w' hb hr => stepR_round_ret hb hn.kind hr)
theorem ARuns.roundExit {id : Nat} (hx : exitIt id k = none) (h : REnd X M (some (.exit id)) Q) : ARuns X (.code (.exit id) :: k) Γ M Z Q := by
  intro hG items ht C a b cs hn
  match items, ht with
  | .code c :: items, ⟨⟨e, _⟩, ht⟩ => subst e; exact round_ends h hG hn (fun l c cs' v w' hb hr => stepR_round_exit hb hn.kind (exitIt_none ht hx) hr)
end
/-- yield's arguments go into the round's parameters -/
def bindPs (Γ : Nat → AV) : List Tmp → List AV → (Nat → AV)
  | t :: ts, a :: as => bindPs (up Γ t a) ts as
  | _, _ => Γ
theorem fits_bind {C : Cx} : ∀ (ts : List Tmp) (al : List AV) (vs : List Value) (Γ : Nat → AV) (tmps : Array Value), Fits C Γ tmps → Reps C al vs → ts.length = al.length → (∀ t ∈ ts, t < tmps.size) →
    Fits C (bindPs Γ ts al) ((ts.zip vs).foldl (fun tmps (t, a) => tmps.setIfInBounds t a) tmps) ∧ ((ts.zip vs).foldl (fun tmps (t, a) => tmps.setIfInBounds t a) tmps).size = tmps.size
  | [], _, _, Γ, tmps, hF, _, _, _ => ⟨by simpa [bindPs] using hF, by simp⟩
  | t :: ts, [], _, _, _, _, _, h, _ => by simp at h
  | t :: ts, a :: al, [], _, _, _, h, _, _ => h.elim
  | t :: ts, a :: al, v :: vs, Γ, tmps, hF, ⟨h1, h2⟩, hl, hb => by
    have := fits_bind ts al vs (up Γ t a) (tmps.setIfInBounds t v) (hF.up (hb t (by simp)) h1) h2 (by simpa using hl) (fun u hu => by simpa using hb u (by simp [hu]))
    simpa [bindPs] using this
theorem AYield.of_round {X : Fx} {y : Nat} {al : List AV} {M : Mem} {Q : AV → Mem → Prop} {st : LoopState} {pe : Option Code} {Γ0 : Nat → AV} {ps : Array Tmp} {asg body : Code} {d : Nat} (hT : TabOk X.P X.T)
    (hro : X.ro = some y) (hM0 : X.M0 = M) (hy : M y = some (.loop st pe X.fn X.N Γ0 ps asg body d)) (hl : ps.size = al.length) (hb : ∀ t ∈ ps.toList, t < X.N) (hok : okC X asg = true ∧ okC X body = true)
    (h : ARuns X [.code asg, .beginRound, .code body] (bindPs Γ0 ps.toList al) M [] Q) : AYield X.P y al M Q := by
  refine ⟨⟨st, pe, X.fn, X.N, Γ0, ps, asg, body, d, hy⟩, fun C vs hM hS hr => ?_⟩
  subst hM
  obtain ⟨l, tmps, e1, hh, hsz, hrep, _⟩ := turn_loop hS hy
  have hvl := Reps.length hr
  refine ⟨l, X.fn, _, asg, body, e1, run_yield hh (by simp; omega), fun c cs => ?_⟩
  obtain ⟨hF, hs⟩ := fits_bind ps.toList al vs Γ0 tmps (fun i => hrep i) hr (by simpa using hl) (fun t ht => by rw [hsz]; exact hb t ht)
  let b : Frame := { (default : Frame) with fn := X.fn, kind := .normal, roundOf := some l }
  have e2 : (ps.zip vs.toArray).foldl (fun tmps (t, a) => tmps.setIfInBounds t a) tmps = (ps.toList.zip vs).foldl (fun tmps (t, a) => tmps.setIfInBounds t a) tmps := by
    rw [← Array.foldl_toList]; simp
  have hb0 : Frame.round l X.fn ((ps.zip vs.toArray).foldl (fun tmps (t, a) => tmps.setIfInBounds t a) tmps) asg body .normal = b.atR { tmps := (ps.toList.zip vs).foldl (fun tmps (t, a) => tmps.setIfInBounds t a) tmps, defers := [] } [.code asg, .beginRound, .code body] := by
    rw [e2]; simp [Frame.round, Frame.atR, b]
  have hG : Good X := ⟨hT, fun g B hg => by rw [hM0] at hg ⊢; exact (hS.blk g B hg).clo, fun e => by rw [hro] at e; cases e⟩
  have hn : Now X (bindPs Γ0 ps.toList al) C.M [] C { tmps := (ps.toList.zip vs).foldl (fun tmps (t, a) => tmps.setIfInBounds t a) tmps, defers := [] } b :=
    ⟨rfl, hS, hF, by rw [← hsz]; exact hs, trivial, rfl, rfl, by rw [hro]; exact ⟨by rw [hy]; simp, l, rfl, fun _ _ _ _ _ _ _ _ _ _ => e1⟩⟩
  have := h hG [.code asg, .beginRound, .code body] ⟨⟨rfl, hok.1⟩, trivial, ⟨rfl, hok.2⟩, trivial⟩ C _ b (c :: cs) hn
  unfold Ends at this
  obtain ⟨v, w', s1, C', r, e3, e4, e5, e6, e7⟩ := this c cs rfl
  subst e3
  refine ⟨v, C', r, ?_, e4, ?_, e6, e7⟩
  · rw [hb0]; exact s1
  · rw [hM0] at e5; exact e5.full
/-- what is to be shown behind the function that is ranged over -/
def AfterRange (X : Fx) (k : List It) (Γ : Nat → AV) (Z : List Nat) (Q : AV → Mem → Prop) (y : Nat) (M2 : Mem) : Prop :=
  ∃ st pe fn N Γ0 ps asg body d, M2 y = some (.loop st pe fn N Γ0 ps asg body d) ∧ st ≠ .busy ∧ match pe with
    | none => ARuns X k Γ (upM M2 y (.loop .exhausted none fn N Γ0 ps asg body d)) Z Q
    | some c => okC X c = true ∧ ARuns X (.code c :: k) Γ (upM M2 y (.loop .exhausted (some c) fn N Γ0 ps asg body d)) Z Q
theorem ARuns.range {X : Fx} {k : List It} {Z : List Nat} {Q : AV → Mem → Prop} {Γ : Nat → AV} {M : Mem} {g : Operand} {ps : Array Tmp} {asg body : Code} {f : FuncId} {n : Nat} {cap : Nat → AV} (hro : X.ro = none) (hg : opv Γ g = .fn (.func f) n cap)
    (z y : Nat) (hz : M z = none) (hy : M y = none) (hne : y ≠ z) (h : ∀ d, ACalls X.P f (.yl y :: tk n 0 cap) (upM (upM M z .defr) y (.loop .ready none X.fn X.N Γ ps asg body d)) fun _ M2 => AfterRange X k Γ (z :: Z) Q y M2) :
    ARuns X (.code (.rangeFunc g ps asg body) :: k) Γ M Z Q := by
  intro hG items ht C a b cs hn
  match items, ht with
  | .code c :: items, ⟨⟨e, ok⟩, ht⟩ =>
    subst e
    simp only [okC, Bool.and_eq_true] at ok
    have hM := hn.m
    subst hM
    have hb : b.roundOf = none := by have := hn.ro; rw [hro] at this; exact this
    have hfv := hn.fits.opv g
    rw [hg] at hfv
    obtain ⟨cv, hev, hcs, hcap⟩ := hfv
    obtain ⟨st1, sm1⟩ := turn_new hn.sim hz .defr (.deferred (some [])) (fun _ => ⟨C.w.heap.size, by simp [Cx.turn], heap_alloc_self _ _⟩)
    generalize hC1 : C.turn (C.w.alloc (.deferred (some []))) z .defr (some C.w.heap.size) = C1 at st1 sm1
    have hw1 : C1.w = C.w.alloc (.deferred (some [])) := by rw [← hC1]; rfl
    have hM1 : C1.M = upM C.M z .defr := by rw [← hC1]; rfl
    have hy1 : C1.M y = none := by rw [hM1, upM_ne _ _ hne]; exact hy
    have hsz1 : C1.w.heap.size = C.w.heap.size + 1 := by rw [hw1]; simp
    obtain ⟨st2, sm2⟩ := turn_new sm1 hy1 (.loop .ready none X.fn X.N Γ ps asg body C.w.heap.size) (.loop { state := .ready, pending := none, fn := X.fn, tmps := a.tmps, params := ps, assign := asg, body := body, defers := C.w.heap.size })
      (fun st => ⟨C1.w.heap.size, a.tmps, by simp [Cx.turn], heap_alloc_self _ _, hn.size, fun i => (((hn.fits i).step st1 _ _).step st _ _)⟩)
    generalize hC2 : C1.turn (C1.w.alloc (.loop { state := .ready, pending := none, fn := X.fn, tmps := a.tmps, params := ps, assign := asg, body := body, defers := C.w.heap.size })) y (.loop .ready none X.fn X.N Γ ps asg body C.w.heap.size) (some C1.w.heap.size) = C2 at st2 sm2
    have hw2 : C2.w = C1.w.alloc (.loop { state := .ready, pending := none, fn := X.fn, tmps := a.tmps, params := ps, assign := asg, body := body, defers := C.w.heap.size }) := by rw [← hC2]; rfl
    have hM2 : C2.M = upM (upM C.M z .defr) y (.loop .ready none X.fn X.N Γ ps asg body C.w.heap.size) := by rw [← hC2, ← hM1]; rfl
    have hρ2 : C2.ρ y = some (C.w.heap.size + 1) := by rw [← hC2]; simp [Cx.turn, hsz1]
    have hρz : C2.ρ z = some C.w.heap.size := by
      rw [← hC2]
      simp only [Cx.turn]
      rw [if_neg hne.symm, ← hC1]
      simp [Cx.turn]
    have hMy : C2.M y = some (.loop .ready none X.fn X.N Γ ps asg body C.w.heap.size) := by rw [hM2]; exact upM_self _ _ _
    have hMz : C2.M z = some .defr := by rw [hM2, upM_ne _ _ hne.symm]; exact upM_self _ _ _
    have st12 := st1.trans st2
    obtain ⟨⟨fd, fb, hfd, hfb, hnm⟩, hcall⟩ := h C.w.heap.size
    have hnm' : ¬ fd.name = "runtime.NumGoroutine" := by simpa using hnm
    have hreps : Reps C2 (.yl y :: tk n 0 cap) (.func (.yield (C.w.heap.size + 1)) #[] #[] :: cv.toList) := by
      refine ⟨?_, ?_⟩
      · simp only [Rep, hMy]; exact ⟨_, hρ2, rfl⟩
      · have := reps_caps hcs hcap
        rw [List.range_eq_range', range_tk] at this
        exact this.step st12
    let a' : Act := { a with defers := { target := .collected C.w.heap.size, args := #[] } :: a.defers }
    obtain ⟨v, fr, C', r, s1, s2, s3, s4, s5, s6, s7⟩ := hcall C2 _ hM2 sm2 hreps (b.atR a' (.inRangeFunc (C.w.heap.size + 1) :: items) :: cs)
    have he := run_enterLoop_outer (P := X.P) (w := C.w) b.fn a.tmps ps asg body
    rw [hn.fn] at he
    have henter := stepR_rangeFunc (P := X.P) (b := b) (a := a) (k := items) (cs := cs) (w := C.w) (g := g) (ps := ps) (assign := asg) (body := body) (l := C.w.heap.size + 1) (mark := [{ target := .collected C.w.heap.size, args := #[] }]) (w₁ := C2.w) (w₁' := C2.w) (w₂ := C2.w)
      (d := { target := .fn (.func f) cv, args := #[.func (.yield (C.w.heap.size + 1)) #[] #[]] }) (f := f) (args := #[.func (.yield (C.w.heap.size + 1)) #[] #[]] ++ cv)
      (by rw [hn.fn, hb, he, hw2, hw1]) (by simp [resolve, rangeCall, hev, Deferred.ofValue, show ∀ v, a.eval (.const v) = v from fun _ => rfl]) (by simp [invoke, callFunc, hfd, hfb, hnm'])
    have harr : (Value.func (.yield (C.w.heap.size + 1)) #[] #[] :: cv.toList).toArray = #[.func (.yield (C.w.heap.size + 1)) #[] #[]] ++ cv := by apply Array.ext'; simp
    rw [harr] at s1
    have back := step_leave_returned (c := b.atR a' (.inRangeFunc (C.w.heap.size + 1) :: items)) (cs := cs) s3
    rw [finish_atR_inRangeFunc] at back
    obtain ⟨st, pe, fn, N, Γ0, ps', asg', body', d', h2, hbusy, hrest⟩ := s7
    obtain ⟨l, tmps, e1, hh, hsz, hrep, hturn⟩ := turn_loop s4 h2
    have hl : l = C.w.heap.size + 1 := by
      obtain ⟨B', hB', hid⟩ := s5.ids _ _ hMy
      rw [h2] at hB'; cases hB'
      obtain ⟨_, _, _, _, _, _, _, hρ⟩ := hid
      rw [hρ, hρ2] at e1; cases e1; rfl
    subst hl
    obtain ⟨stp, sm⟩ := hturn .exhausted pe
    have hend := stepR_endRangeFunc (P := X.P) (b := b) (a := a') (k := items) (cs := cs) (w := C'.w) (run_endLoop hh hbusy)
    have stAll := (st12.trans s5).trans stp
    refine .steps ((Steps.head henter s1).trans (.head back (.one hend))) ?_
    have hmark : MarksOk (C'.turn (C'.w.putObj (C.w.heap.size + 1) (.loop { state := .exhausted, pending := pe, fn := fn, tmps := tmps, params := ps', assign := asg', body := body', defers := d' })) y (.loop .exhausted pe fn N Γ0 ps' asg' body' d') (C'.ρ y)) (z :: Z) a'.defers := by
      refine ⟨?_, hn.marks.step stAll⟩
      have stB := s5.trans stp
      obtain ⟨B', hB', hid⟩ := stB.ids _ _ hMz
      refine ⟨by rw [hB']; simp, C.w.heap.size, fun e => ?_, rfl⟩
      rw [hB'] at e; cases e
      exact Eq.trans hid hρz
    have hnow : ∀ k', TodoOk X k' ((pe.map Item.code).toList ++ items) → ARuns X k' Γ (upM C'.M y (.loop .exhausted pe fn N Γ0 ps' asg' body' d')) (z :: Z) Q → Ends X.P b cs (lone (b.atR a' ((pe.map Item.code).toList ++ items)) cs (C'.w.putObj (C.w.heap.size + 1) (.loop { state := .exhausted, pending := pe, fn := fn, tmps := tmps, params := ps', assign := asg', body := body', defers := d' }))) (Post X C Q) := fun k' ht' hk =>
      (hk hG _ ht' (C'.turn (C'.w.putObj (C.w.heap.size + 1) (.loop { state := .exhausted, pending := pe, fn := fn, tmps := tmps, params := ps', assign := asg', body := body', defers := d' })) y (.loop .exhausted pe fn N Γ0 ps' asg' body' d') (C'.ρ y)) a' b cs
        ⟨rfl, sm, hn.fits.step stAll, hn.size, hmark, hn.fn, hn.kind, hn.ro.step stAll⟩).mono fun v w => Post.step stAll
    cases pe with
    | none => exact hnow k ht hrest
    | some c => exact hnow (.code c :: k) ⟨⟨rfl, hrest.1⟩, ht⟩ hrest.2
/-! slim -/
theorem slim_ord {X X' : Fx} (h : X.own = X'.own) : ∀ c, slim X c = slim X' c := by
  intro c
  induction c with
  | region id ops d => cases d <;> simp [slim, h]
  | _ => simp_all [slim]
theorem okC_ord {X X' : Fx} (h : X.own = X'.own) (hP : X.P = X'.P) : ∀ c, okC X c = okC X' c := by
  intro c
  induction c with
  | region id ops d => cases d <;> simp [okC, h, hP]
  | _ => simp_all [okC]
/-- the code is this slim one -/
def Isc (X : Fx) (a : SC) (c : Code) : Prop := a.bare = slim X c ∧ okC X c = true
def SAfter (X : Fx) (k : List SI) (Γ : Nat → AV) (Z : List Nat) (Q : AV → Mem → Prop) (y : Nat) (M2 : Mem) : Prop :=
  ∃ st pe fn N Γ0 ps asg body d, M2 y = some (.loop st pe fn N Γ0 ps asg body d) ∧ st ≠ .busy ∧ match pe with
    | none => SRuns X k Γ (upM M2 y (.loop .exhausted none fn N Γ0 ps asg body d)) Z Q
    | some .ret => SRuns X (.code .ret :: k) Γ (upM M2 y (.loop .exhausted (some .ret) fn N Γ0 ps asg body d)) Z Q
    | some (.exit id) => SRuns X (.code (.exit id) :: k) Γ (upM M2 y (.loop .exhausted (some (.exit id)) fn N Γ0 ps asg body d)) Z Q
    | _ => False
section
variable {X : Fx} {k : List SI} {Z : List Nat} {Q : AV → Mem → Prop} {Γ : Nat → AV} {M : Mem}
theorem SRuns.range {g : Operand} {ps : Array Tmp} {a b : SC} {f : FuncId} {n : Nat} {cap : Nat → AV} (hro : X.ro = none) (hg : opv Γ g = .fn (.func f) n cap)
    (z y : Nat) (hz : M z = none) (hy : M y = none) (hne : y ≠ z) (h : ∀ d asg body, Isc X a asg → Isc X b body → ACalls X.P f (.yl y :: tk n 0 cap) (upM (upM M z .defr) y (.loop .ready none X.fn X.N Γ ps asg body d)) fun _ M2 => SAfter X k Γ (z :: Z) Q y M2) :
    SRuns X (.code (.range g ps a b) :: k) Γ M Z Q := by
  intro todo ht
  obtain ⟨c', todo', rfl, h1, hok, h2⟩ := is_code ht
  cases c'
  case region id' ops' d' => cases d' <;> simp [SC.bare, slim] at h1
  all_goals simp only [SC.bare, slim, reduceCtorEq, SC.range.injEq] at h1
  obtain ⟨rfl, rfl, e3, e4⟩ := h1
  simp only [okC, Bool.and_eq_true] at hok
  refine .range hro hg z y hz hy hne fun d => (h d _ _ ⟨e3, hok.1⟩ ⟨e4, hok.2⟩).mono fun r M2 hs => ?_
  obtain ⟨st, pe, fn, N, Γ0, ps, asg, body, d, e5, e6, e7⟩ := hs
  refine ⟨st, pe, fn, N, Γ0, ps, asg, body, d, e5, e6, ?_⟩
  cases pe with
  | none => exact e7 _ h2
  | some c =>
    cases c with
    | ret => exact ⟨rfl, e7 _ ⟨⟨rfl, rfl⟩, h2⟩⟩
    | exit id => exact ⟨rfl, e7 _ ⟨⟨rfl, rfl⟩, h2⟩⟩
    | _ => exact e7.elim
theorem SRuns.beginRound {y : Nat} {pe : Option Code} {fn : FuncId} {N : Nat} {Γ0 : Nat → AV} {ps : Array Tmp} {asg body : Code} {d : Nat} (hro : X.ro = some y) (hy : M y = some (.loop .ready pe fn N Γ0 ps asg body d)) (h : SRuns X k Γ (upM M y (.loop .busy pe fn N Γ0 ps asg body d)) Z Q) : SRuns X (.beginRound :: k) Γ M Z Q := by
  intro todo ht
  match todo, ht with
  | .beginRound :: todo', ⟨_, h2⟩ => exact .beginRound hro hy (h _ h2)
theorem SRuns.roundFin (h : REnd X M none Q) : SRuns X [] Γ M Z Q := by
  intro todo ht
  match todo, ht with
  | [], _ => exact .roundFin h
theorem SRuns.roundRet (h : REnd X M (some .ret) Q) : SRuns X (.code .ret :: k) Γ M Z Q := by
  intro todo ht
  obtain ⟨c', todo', rfl, e1, hok, e2⟩ := is_code ht
  cases c'
  case region id' ops' d' => cases d' <;> simp [SC.bare, slim] at e1
  all_goals simp only [SC.bare, slim, reduceCtorEq] at e1
  exact .roundRet h
theorem SRuns.roundExit {id : Nat} (hx : exitS id k = none) (h : REnd X M (some (.exit id)) Q) : SRuns X (.code (.exit id) :: k) Γ M Z Q := by
  intro todo ht
  obtain ⟨c', todo', rfl, e1, hok, e2⟩ := is_code ht
  cases c'
  case region id' ops' d' => cases d' <;> simp [SC.bare, slim] at e1
  all_goals simp only [SC.bare, slim, reduceCtorEq, SC.exit.injEq] at e1
  subst e1
  exact .roundExit (exitS_none e2 hx) h
/-- the function's activation in a round of the range whose record is y -/
def Fx.rnd (X : Fx) (M : Mem) (y : Nat) : Fx := { X with M0 := M, ro := some y }
theorem AYield.of_slim {a b : SC} {y : Nat} {al : List AV} {st : LoopState} {pe : Option Code} {Γ0 : Nat → AV} {ps : Array Tmp} {asg body : Code} {d : Nat} (hT : TabOk X.P X.T)
    (hy : M y = some (.loop st pe X.fn X.N Γ0 ps asg body d)) (ha : Isc X a asg) (hb : Isc X b body) (hl : ps.size = al.length) (hp : ∀ t ∈ ps.toList, t < X.N)
    (h : SRuns (X.rnd M y) [.code a, .beginRound, .code b] (bindPs Γ0 ps.toList al) M [] Q) : AYield X.P y al M Q := by
  have e1 : ∀ c, slim (X.rnd M y) c = slim X c := slim_ord rfl
  have e2 : ∀ c, okC (X.rnd M y) c = okC X c := okC_ord rfl rfl
  refine AYield.of_round (X := X.rnd M y) hT rfl rfl hy hl hp ⟨by rw [e2]; exact ha.2, by rw [e2]; exact hb.2⟩ (h _ ⟨⟨by rw [e1]; exact ha.1, by rw [e2]; exact ha.2⟩, trivial, ⟨by rw [e1]; exact hb.1, by rw [e2]; exact hb.2⟩, trivial⟩)
end
end Go.Av
set_option linter.unusedVariables false
set_option linter.unusedSimpArgs false
namespace Go.Av
/-! ## 17. Words for operations that turn memory -/
attribute [go_sem] upM_self
@[go_sem] theorem upM_other {M : Mem} {g g' : Nat} {B : Blk} (h : g' ≠ g) : upM M g B g' = M g' := upM_ne M B h
@[go_sem] theorem upM_twice {M : Mem} {g : Nat} {B B' : Blk} : upM (upM M g B) g B' = upM M g B' := by
  funext g'; unfold upM; split <;> rfl
/-- cells over cells, as a list -/
def spx : List AV → Nat → List AV → List AV
  | l, 0, [] => l
  | _ :: l, 0, c :: cs => c :: spx l 0 cs
  | [], 0, c :: cs => c :: spx [] 0 cs
  | x :: l, o + 1, cs => x :: spx l o cs
  | [], o + 1, cs => .dead :: spx [] o cs
theorem spx_get : ∀ (l : List AV) (o : Nat) (cs : List AV) (i : Nat), lst (spx l o cs) i = ovr (lst l) o cs i := by
  intro l o cs
  induction l, o, cs using spx.induct with
  | case1 l => intro i; simp [spx, ovr]
  | case2 x l c cs ih =>
    intro i
    cases i with
    | zero => simp [spx, ovr, lst]
    | succ i =>
      have := ih i
      simp only [spx, lst, List.getD_cons_succ] at this ⊢
      rw [this, ovr_eq, ovr_eq]
      simp only [List.length_cons]
      by_cases h : i < cs.length
      · rw [if_pos (by omega), if_pos (by omega)]; simp
      · rw [if_neg (by omega), if_neg (by omega)]; simp [lst]
  | case3 c cs ih =>
    intro i
    cases i with
    | zero => simp [spx, ovr, lst]
    | succ i =>
      have := ih i
      simp only [spx, lst, List.getD_cons_succ] at this ⊢
      rw [this, ovr_eq, ovr_eq]
      simp only [List.length_cons]
      by_cases h : i < cs.length
      · rw [if_pos (by omega), if_pos (by omega)]; simp
      · rw [if_neg (by omega), if_neg (by omega)]; simp [lst]
  | case4 x l o cs ih =>
    intro i
    cases i with
    | zero => rw [ovr_eq, if_neg (by omega)]; simp [spx, lst]
    | succ i =>
      have := ih i
      simp only [spx, lst, List.getD_cons_succ] at this ⊢
      rw [this, ovr_eq, ovr_eq]
      by_cases h : o ≤ i ∧ i < o + cs.length
      · rw [if_pos h, if_pos (by omega)]; congr 1; omega
      · rw [if_neg h, if_neg (by omega)]; simp [lst]
  | case5 o cs ih =>
    intro i
    cases i with
    | zero => rw [ovr_eq, if_neg (by omega)]; simp [spx, lst]
    | succ i =>
      have := ih i
      simp only [spx, lst, List.getD_cons_succ] at this ⊢
      rw [this, ovr_eq, ovr_eq]
      by_cases h : o ≤ i ∧ i < o + cs.length
      · rw [if_pos h, if_pos (by omega)]; congr 1; omega
      · rw [if_neg h, if_neg (by omega)]; simp [lst]
@[go_sem] theorem ovr_lst {l : List AV} {o : Nat} {cs : List AV} : ovr (lst l) o cs = lst (spx l o cs) := by
  funext i; exact (spx_get l o cs i).symm
@[go_sem] theorem spx_nil {l : List AV} : spx l 0 [] = l := by rw [spx]
@[go_sem] theorem spx_zero {x c : AV} {l cs : List AV} : spx (x :: l) 0 (c :: cs) = c :: spx l 0 cs := by rw [spx]
@[go_sem] theorem spx_succ {x : AV} {l cs : List AV} {o : Nat} : spx (x :: l) (o + 1) cs = x :: spx l o cs := by rw [spx]
section
variable {X : Fx} {d : Option Tmp} {l : List SOp} {L : List (Nat × AV)} {M : Mem} {K : (Nat → AV) → Mem → Prop}
/-- a new block -/
def NewK (X : Fx) (d : Option Tmp) (v : Nat → AV) (B : Blk) (l : List SOp) (L : List (Nat × AV)) (M : Mem) (K : (Nat → AV) → Mem → Prop) : Prop := NewO (fun g => M g = none) fun g => SL X l (put (lk L) d (v g)) (upM M g B) K
theorem NewK.intro {n : Nat} {v : Nat → AV} {B : Blk} (h : ∀ g, M g = none → SL X l (lk ((n, v g) :: L)) (upM M g B) K) : NewK X (some n) v B l L M K := .inl h
/-- the new block takes the slot's number -/
theorem NewK.at {n : Nat} {v : Nat → AV} {B : Blk} (N : Nat) (hM : M (N + n) = none) (h : SL X l (lk ((n, v (N + n)) :: L)) (upM M (N + n) B) K) : NewK X (some n) v B l L M K := .inr ⟨N + n, hM, h⟩
def alK (X : Fx) (d : Option Tmp) (t : TypeId) (l : List SOp) (L : List (Nat × AV)) (M : Mem) (K : (Nat → AV) → Mem → Prop) : Option (List Value) → Prop
  | some zs => dOk X.N d ∧ NewK X d (fun g => .ptr g 0) (.cells t zs.length (lst (zs.map .raw))) l L M K
  | none => False
@[congr] theorem alK_congr {t : TypeId} {o o' : Option (List Value)} (h : o = o') : alK X d t l L M K o = alK X d t l L M K o' := by rw [h]
@[go_sem] theorem alK_some {n : Nat} {t : TypeId} {zs : List Value} : alK X (some n) t l L M K (some zs) = (n < X.N ∧ NewK X (some n) (fun g => .ptr g 0) (.cells t zs.length (lst (zs.map .raw))) l L M K) := rfl
@[go_sem ↓] theorem sl_alloc {t : TypeId} : SL X (⟨d, .alloc t, none⟩ :: l) (lk L) M K = alK X d t l L M K (X.T.zero t) := by
  show (dOk X.N d ∧ oK _ _) = _
  cases X.T.zero t with
  | none => simp [oK, alK]
  | some zs => rfl
theorem bxK_own' {n : Nat} {t : TypeId} {cs : List AV} : bxK X (some n) t l L M K true (some cs) = (n < X.N ∧ NewK X (some n) (fun g => .ptr g 0) (.cells t cs.length (lst cs)) l L M K) := rfl
attribute [go_sem] bxK_own'
/-- memory is stored into -/
def stK (X : Fx) (d : Option Tmp) (l : List SOp) (L : List (Nat × AV)) (K : (Nat → AV) → Mem → Prop) : Option Mem → Prop
  | some M' => dOk X.N d ∧ SL X l (put (lk L) d (.raw undef)) M' K
  | none => False
@[congr] theorem stK_congr {o o' : Option Mem} (h : o = o') : stK X d l L K o = stK X d l L K o' := by rw [h]
@[go_sem] theorem stK_none' {M' : Mem} : stK X none l L K (some M') = SL X l (lk L) M' K := by simp [stK, dOk, put]
@[go_sem ↓] theorem sl_store {t : TypeId} {x v : Operand} : SL X (⟨d, .store t x v, none⟩ :: l) (lk L) M K = stK X d l L K (stMem X.T M t (opv (lk L) x) (opv (lk L) v)) := by
  show (dOk X.N d ∧ oK _ _) = _
  cases stMem X.T M t (opv (lk L) x) (opv (lk L) v) with
  | none => simp [oK, stK]
  | some M' => rfl
end
def stP (M : Mem) (g off : Nat) : Option Ty → Option (List AV) → Option Blk → Option Mem
  | some ty, some l, some (.cells e n cs) => if l.length = ty.cells ∧ off + l.length ≤ n then some (upM M g (.cells e n (ovr cs off l))) else none
  | _, _, _ => none
def stE (M : Mem) (g n sz i o : Nat) : Option Ty → Option (List AV) → Option Blk → Option Mem
  | some ty, some l, some (.row e n' sz' f) => if l.length = ty.cells ∧ n' = n ∧ sz' = sz ∧ i < n ∧ o + l.length ≤ sz then some (upM M g (.row e n sz (fun i' j => if i' = i then ovr (f i) o l j else f i' j))) else none
  | _, _, _ => none
section
variable {T : Tab} {M : Mem} {t : TypeId} {g off n sz i o : Nat} {v : AV}
@[go_sem] theorem stMem_ptr : stMem T M t (.ptr g off) v = stP M g off (T.ty t) (cellsOf M v) (M g) := by
  unfold stMem stP
  cases T.ty t with
  | none => rfl
  | some ty =>
    cases cellsOf M v with
    | none => rfl
    | some l =>
      simp only
      cases M g with
      | none => by_cases h : l.length = ty.cells <;> simp [h]
      | some B => cases B <;> by_cases h : l.length = ty.cells <;> simp [h]
@[go_sem] theorem stMem_elp : stMem T M t (.elp g n sz i o) v = stE M g n sz i o (T.ty t) (cellsOf M v) (M g) := by
  unfold stMem stE
  cases T.ty t with
  | none => rfl
  | some ty =>
    cases cellsOf M v with
    | none => rfl
    | some l =>
      simp only
      cases M g with
      | none => by_cases h : l.length = ty.cells <;> simp [h]
      | some B => cases B <;> by_cases h : l.length = ty.cells <;> simp [h]
end
@[go_sem] theorem stE_ok {M : Mem} {g n sz i o e : Nat} {f : Nat → Nat → AV} {ty : Ty} {l : List AV} (h : i < n) : stE M g n sz i o (some ty) (some l) (some (.row e n sz f)) = if l.length = ty.cells ∧ o + l.length ≤ sz then some (upM M g (.row e n sz (fun i' j => if i' = i then ovr (f i) o l j else f i' j))) else none := by
  simp [stE, h]
attribute [go_sem] stP
end Go.Av
