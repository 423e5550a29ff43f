import Derived.Test.YtaiinpbaaeemmaaA1
import Derived.Laws.CopyRow
set_option linter.unusedVariables false
set_option linter.unusedSimpArgs false
namespace Go.Av
theorem rdLen_sound {P : Program} {T : Tab} (hT : TabOk P T) {C : Cx} {t ty : TypeId} {ts : Array TypeId} {x av : AV} {p : Value} {rest : List Value} (h0 : ts[0]? = some t) (h : rdLen T C.M t x = some av) (hx : Rep C x p) (w : World) :
    ∃ v, (Builtin.len_ ts ty (p :: rest).toArray).run P w = .ok v w ∧ Rep C av v := by
  unfold rdLen at h
  have fin : ∀ (e : TypeId) (A : Option Addr) (n c : Nat), P.underlying t = some (.slice e) → p = .slice A n c → (Builtin.len_ ts ty (p :: rest).toArray).run P w = .ok (.int .i64 n) w := by
    rintro e A n c hu rfl
    simp [Builtin.len_, h0, run_underlying hu, goInt]
  split at h
  · rename_i e n sz f hs
    cases h
    obtain ⟨d, hu, hd⟩ := und hT hs
    have : d = .slice e := by cases d <;> simp_all [DescOk]
    subst this
    obtain ⟨A, c, rfl, _⟩ := hx
    exact ⟨_, fin e A n c hu rfl, rfl⟩
  · rename_i e g n sz hs
    have hM : ∃ e f, C.M g = some (.row e n sz f) ∧ av = .raw (.int .i64 n) := by
      cases hg : C.M g with
      | none => rw [hg] at h; cases h
      | some B =>
        rw [hg] at h
        cases B with
        | row e2 n' sz' f =>
          simp only at h
          split at h
          · rename_i hc; obtain ⟨rfl, rfl⟩ := hc; cases h; exact ⟨_, _, rfl, rfl⟩
          · cases h
        | _ => simp at h
    obtain ⟨e', f, hg, rfl⟩ := hM
    obtain ⟨d, hu, hd⟩ := und hT hs
    have : d = .slice e := by cases d <;> simp_all [DescOk]
    subst this
    simp only [Rep, hg] at hx
    have h3 := hx.2.2 trivial
    unfold OwnAt at h3
    cases hρ : C.ρ g with
    | none => rw [hρ] at h3; obtain ⟨rfl, rfl⟩ := h3; exact ⟨_, fin e none 0 0 hu rfl, rfl⟩
    | some b => rw [hρ] at h3; obtain ⟨arr, e2, cap, _, _, _, rfl⟩ := h3; exact ⟨_, fin e _ n cap hu rfl, rfl⟩
  · rename_i e a n c hs
    cases h
    obtain ⟨d, hu, hd⟩ := und hT hs
    have : d = .slice e := by cases d <;> simp_all [DescOk]
    subst this
    cases hx
    exact ⟨_, fin e a n c hu rfl, rfl⟩
  · rename_i s hs
    cases h
    obtain ⟨d, hu, hd⟩ := und hT hs
    have : d = .string := by cases d <;> simp_all [DescOk]
    subst this
    cases hx
    exact ⟨_, by simp [Builtin.len_, h0, run_underlying hu, goInt], rfl⟩
  · cases h
def Reps (C : Cx) : List AV → List Value → Prop
  | [], [] => True
  | a :: l, v :: m => Rep C a v ∧ Reps C l m
  | _, _ => False
theorem Reps.step {C C' : Cx} (hs : Step C C') : ∀ {l : List AV} {m : List Value}, Reps C l m → Reps C' l m
  | [], [], _ => trivial
  | a :: l, v :: m, h => ⟨Rep.step hs a v h.1, Reps.step hs h.2⟩
theorem Reps.length {C : Cx} : ∀ {l : List AV} {m : List Value}, Reps C l m → m.length = l.length
  | [], [], _ => rfl
  | a :: l, v :: m, h => by simp [Reps.length h.2]
theorem ite_max (x y : Int) : (if y > x then y else x) = max x y := by omega
theorem ite_min (x y : Int) : (if y < x then y else x) = min x y := by omega
theorem rdMax_sound {P : Program} {C : Cx} {as : List AV} {vs : List Value} {av : AV} (h : rdMax as = some av) (hr : Reps C as vs) (ts : Array TypeId) (t : TypeId) (w : World) : ∃ v, (Builtin.max_ ts t vs.toArray).run P w = .ok v w ∧ Rep C av v := by
  unfold rdMax at h
  split at h
  · rename_i k x k' y
    cases h
    match vs, hr with
    | [u, v], ⟨h1, h2, _⟩ => cases h1; cases h2; exact ⟨_, (run_max_int2 w ts t k k' x y), by rw [ite_max]; rfl⟩
  · rename_i k x k' y k'' z
    cases h
    match vs, hr with
    | [u, v, q], ⟨h1, h2, h3, _⟩ => cases h1; cases h2; cases h3; exact ⟨_, (run_max_int3 w ts t k k' k'' x y z), by rw [ite_max, ite_max]; rfl⟩
  · cases h
theorem rdMin_sound {P : Program} {C : Cx} {as : List AV} {vs : List Value} {av : AV} (h : rdMin as = some av) (hr : Reps C as vs) (ts : Array TypeId) (t : TypeId) (w : World) : ∃ v, (Builtin.min_ ts t vs.toArray).run P w = .ok v w ∧ Rep C av v := by
  unfold rdMin at h
  split at h
  · rename_i k x k' y
    cases h
    match vs, hr with
    | [u, v], ⟨h1, h2, _⟩ => cases h1; cases h2; exact ⟨_, (run_min_int2 w ts t k k' x y), by rw [ite_min]; rfl⟩
  · rename_i k x k' y k'' z
    cases h
    match vs, hr with
    | [u, v, q], ⟨h1, h2, h3, _⟩ => cases h1; cases h2; cases h3; exact ⟨_, (run_min_int3 w ts t k k' k'' x y z), by rw [ite_min, ite_min]; rfl⟩
  · cases h
theorem rdIndex_sound {P : Program} {T : Tab} (hT : TabOk P T) {C : Cx} {t : TypeId} {x i av : AV} {p q : Value} (h : rdIndex T t x i = some av) (hx : Rep C x p) (hi : Rep C i q) (w : World) : ∃ v, (Instr.index t p q).run P w = .ok v w ∧ Rep C av v := by
  unfold rdIndex at h
  split at h
  · rename_i s k j hs
    split at h
    · rename_i hc
      cases h; cases hx; cases hi
      obtain ⟨d, hu, hd⟩ := und hT hs
      have : d = .string := by cases d <;> simp_all [DescOk]
      subst this
      have hlt : j.toNat < s.size := by omega
      have e : s[j.toNat]? = some (s[j.toNat]'hlt) := by simp [hlt]
      refine ⟨_, ?_, rfl⟩
      simp only [Instr.index, asIntOf, Sem.run_bind, Sem.run_pure, Result.andThen_ok, run_underlying hu, if_pos hc.1, e]
    · cases h
  · rename_i len e m n f k j hs
    split at h
    · rename_i te ht
      split at h
      · rename_i hc
        obtain ⟨h0, h1, h2, h3⟩ := hc
        cases h; cases hi
        obtain ⟨cs, rfl, hsz, hf⟩ := hx
        obtain ⟨d, hu, hd⟩ := und hT hs
        have : d = .array len e := by cases d <;> simp_all [DescOk]
        subst this
        have hb1 : j.toNat * te.cells + te.cells ≤ len * te.cells := by rw [← Nat.succ_mul]; exact Nat.mul_le_mul_right _ (by omega)
        unfold ldAt
        cases ha : te.agg with
        | true =>
          refine ⟨.agg (cs.extract (j.toNat * te.cells) (j.toNat * te.cells + te.cells)), by simp [Instr.index, asIntOf, run_underlying hu, h0, h1, part, run_isAgg' hT ht, ha, run_sizeOf' hT ht], ⟨_, rfl, by simp; omega, fun i hi => ?_⟩⟩
          have : (cs.extract (j.toNat * te.cells) (j.toNat * te.cells + te.cells)).getD i undef = cs.getD (j.toNat * te.cells + i) undef := by
            simp only [Array.getD_eq_getD_getElem?, Array.getElem?_extract]
            rw [if_pos (by omega)]
          rw [this, nrm_eq hi]
          exact hf _ (by omega)
        | false =>
          have hlt : j.toNat * te.cells < cs.size := by omega
          refine ⟨cs.getD (j.toNat * te.cells) undef, ?_, by simpa using hf (j.toNat * te.cells) (by omega)⟩
          simp [Instr.index, asIntOf, run_underlying hu, h0, h1, part, run_isAgg' hT ht, ha, run_sizeOf' hT ht, Array.getD_eq_getD_getElem?, hlt]
      · cases h
    · cases h
  · cases h
theorem rdPick_sound {P : Program} {C : Cx} {c a b av : AV} {p q r : Value} (h : rdPick c a b = some av) (hc : Rep C c p) (ha : Rep C a q) (hb : Rep C b r) (w : World) : ∃ v, (do pure (if ← asBool p then q else r) : Sem Value).run P w = .ok v w ∧ Rep C av v := by
  unfold rdPick at h
  split at h
  · cases h; cases hc; cases ha; cases hb
    rename_i c x y
    exact ⟨.bool (bif c then x else y), by cases c <;> rfl, rfl⟩
  · cases h; cases hc; exact ⟨q, rfl, ha⟩
  · cases h; cases hc; exact ⟨r, rfl, hb⟩
  · cases h
theorem rdExtract_sound {P : Program} {C : Cx} {x av : AV} {k : Nat} {p : Value} (h : rdExtract x k = some av) (hx : Rep C x p) (w : World) : ∃ v, (Instr.extract p k).run P w = .ok v w ∧ Rep C av v := by
  unfold rdExtract at h
  split at h
  · rename_i n f
    split at h
    · rename_i hk
      cases h
      obtain ⟨cs, rfl, hsz, hf⟩ := hx
      have hlt : k < cs.size := by omega
      exact ⟨cs.getD k undef, by simp [Instr.extract, Array.getD_eq_getD_getElem?, hlt], hf k hk⟩
    · cases h
  · cases h
/-! ### values put together -/
/-- the value is that of one cell -/
def one (M : Mem) : AV → Bool
  | .raw v => v.oneCell'
  | .dead | .ag .. | .tup .. => false
  | .own g n sz => match M g with
    | some (.row _ n' sz' _) => n' = n && sz' = sz
    | _ => false
  | .ptr g _ => match M g with
    | some (.cells ..) => true
    | _ => false
  | .elp g n sz _ _ => match M g with
    | some (.row _ n' sz' _) => n' = n && sz' = sz
    | _ => false
  | .mp g => match M g with
    | some (.map ..) => true
    | _ => false
  | .yl g => match M g with
    | some (.loop ..) => true
    | _ => false
  | _ => true
theorem OwnAt.slice {C : Cx} {g n sz : Nat} {x : Value} (h : OwnAt C g n sz x) : ∃ A c, x = .slice A n c ∧ n ≤ c := by
  unfold OwnAt at h
  cases hρ : C.ρ g with
  | none => rw [hρ] at h; obtain ⟨rfl, rfl⟩ := h; exact ⟨_, _, rfl, Nat.le_refl _⟩
  | some b => rw [hρ] at h; obtain ⟨_, _, cap, _, _, hc, rfl⟩ := h; exact ⟨_, _, rfl, hc⟩
theorem Rep.one {C : Cx} {av : AV} {v : Value} (h : one C.M av = true) (hr : Rep C av v) : v.oneCell' = true := by
  cases av with
  | raw u => cases hr; exact h
  | dead => cases h
  | ag => cases h
  | tup => cases h
  | nilB n => obtain ⟨b, rfl, _⟩ := hr; rfl
  | sl n sz f => obtain ⟨A, c, rfl, _⟩ := hr; rfl
  | own g n sz =>
    simp only [Av.one] at h
    simp only [Rep] at hr
    cases hg : C.M g with
    | none => rw [hg] at h; cases h
    | some B =>
      cases B with
      | row e n' sz' f =>
        simp only [hg, Bool.and_eq_true, decide_eq_true_eq] at h hr
        obtain ⟨A, c, rfl, _⟩ := (hr.2.2 h.1).slice
        rfl
      | _ => rw [hg] at h; cases h
  | ptr g o =>
    simp only [Av.one] at h
    simp only [Rep] at hr
    cases hg : C.M g with
    | none => rw [hg] at h; cases h
    | some B =>
      cases B with
      | cells e n' cs => simp only [hg] at hr; obtain ⟨b, _, rfl⟩ := hr; rfl
      | _ => rw [hg] at h; cases h
  | elp g n sz i o =>
    simp only [Av.one] at h
    simp only [Rep] at hr
    cases hg : C.M g with
    | none => rw [hg] at h; cases h
    | some B =>
      cases B with
      | row e n' sz' f =>
        simp only [hg, Bool.and_eq_true, decide_eq_true_eq] at h hr
        obtain ⟨b, _, rfl⟩ := hr.2.2 h.1
        rfl
      | _ => rw [hg] at h; cases h
  | ref n f => obtain ⟨ad, rfl, _⟩ := hr; rfl
  | fn k n c => obtain ⟨cs, rfl, _⟩ := hr; rfl
  | mp g =>
    simp only [Av.one] at h
    simp only [Rep] at hr
    cases hg : C.M g with
    | none => rw [hg] at h; cases h
    | some B =>
      cases B with
      | map es cl => simp only [hg] at hr; obtain ⟨b, _, rfl⟩ := hr; rfl
      | _ => rw [hg] at h; cases h
  | yl g =>
    simp only [Av.one] at h
    simp only [Rep] at hr
    cases hg : C.M g with
    | none => rw [hg] at h; cases h
    | some B =>
      cases B with
      | loop => simp only [hg] at hr; obtain ⟨b, _, rfl⟩ := hr; rfl
      | _ => rw [hg] at h; cases h
/-- the cells of a value, each that of one cell -/
def cellsOf (M : Mem) : AV → Option (List AV)
  | .ag n f => let l := (List.range n).map f
    if l.all (one M) then some l else none
  | av => if one M av then some [av] else none
theorem cells_of_one {v : Value} (h : v.oneCell' = true) : v.cells = #[v] := by cases v <;> first | rfl | cases h
theorem reps_range {C : Cx} {f : Nat → AV} {cs : Array Value} : ∀ (n s : Nat), s + n = cs.size → (∀ i, i < s + n → Rep C (f i) (cs.getD i undef)) → Reps C ((List.range' s n).map f) (cs.toList.drop s)
  | 0, s, h, _ => by
    rw [List.drop_of_length_le (by simp; omega)]; trivial
  | n + 1, s, h, hf => by
    have hlt : s < cs.toList.length := by simp; omega
    rw [List.range'_succ, List.map_cons, List.drop_eq_getElem_cons hlt]
    refine ⟨?_, reps_range n (s + 1) (by omega) (fun i hi => hf i (by omega))⟩
    have := hf s (by omega)
    simpa [Array.getD_eq_getD_getElem?, show s < cs.size by omega] using this
theorem cellsOf_sound {C : Cx} {av : AV} {l : List AV} {v : Value} (h : cellsOf C.M av = some l) (hr : Rep C av v) : Reps C l v.cells.toList ∧ (∀ x ∈ l, one C.M x = true) := by
  unfold cellsOf at h
  split at h
  · rename_i n f
    dsimp only at h
    split at h
    · rename_i hall
      cases h
      obtain ⟨cs, rfl, hsz, hf⟩ := hr
      refine ⟨?_, fun x hx => List.all_eq_true.1 hall x hx⟩
      have := reps_range (C := C) (f := f) (cs := cs) n 0 (by omega) (fun i hi => hf i (by omega))
      rw [List.range_eq_range']
      simpa [Value.cells] using this
    · cases h
  · split at h
    · rename_i h1
      cases h
      rw [cells_of_one (Rep.one h1 hr)]
      exact ⟨⟨hr, trivial⟩, fun x hx => by simp at hx; subst hx; exact h1⟩
    · cases h
/-- cells written over others from a place on -/
def spl : List AV → Nat → List AV → List AV
  | l, 0, [] => l
  | _ :: l, 0, c :: cs => c :: spl l 0 cs
  | x :: l, o + 1, cs => x :: spl l o cs
  | [], _, _ => []
theorem Reps.all {C : Cx} {l : List AV} {m : List Value} (h1 : ∀ x ∈ l, one C.M x = true) (hr : Reps C l m) : ∀ v ∈ m, v.oneCell' = true := by
  induction l generalizing m with
  | nil => cases m with
    | nil => simp
    | cons => exact hr.elim
  | cons a l ih => cases m with
    | nil => exact hr.elim
    | cons v m =>
      intro u hu
      rcases List.mem_cons.1 hu with rfl | hu
      · exact Rep.one (h1 a (by simp)) hr.1
      · exact ih (fun x hx => h1 x (by simp [hx])) hr.2 u hu
theorem Reps.get {C : Cx} : ∀ {l : List AV} {m : List Value}, Reps C l m → ∀ i, i < l.length → Rep C (l.getD i .dead) (m.getD i undef)
  | a :: l, v :: m, h, 0, _ => h.1
  | a :: l, v :: m, h, i + 1, hi => by simpa using Reps.get h.2 i (by simpa using hi)
  | [], [], _, i, hi => absurd hi (by simp)
theorem Reps.mk {C : Cx} : ∀ {l : List AV} {m : List Value}, l.length = m.length → (∀ i, i < l.length → Rep C (l.getD i .dead) (m.getD i undef)) → Reps C l m
  | [], [], _, _ => trivial
  | a :: l, v :: m, h, hr => ⟨by simpa using hr 0 (by simp), Reps.mk (by simpa using h) (fun i hi => by simpa using hr (i + 1) (by simpa using hi))⟩
  | [], _ :: _, h, _ => by simp at h
  | _ :: _, [], h, _ => by simp at h
theorem Reps.append {C : Cx} : ∀ {l : List AV} {m : List Value} {l' : List AV} {m' : List Value}, Reps C l m → Reps C l' m' → Reps C (l ++ l') (m ++ m')
  | [], [], _, _, _, h => h
  | a :: l, v :: m, _, _, h, h' => ⟨h.1, Reps.append h.2 h'⟩
theorem Reps.raws (C : Cx) : ∀ zs : List Value, Reps C (zs.map .raw) zs
  | [] => trivial
  | z :: zs => ⟨rfl, Reps.raws C zs⟩
theorem spl_length : ∀ (l : List AV) (o : Nat) (cs : List AV), (spl l o cs).length = l.length
  | [], 0, [] => rfl
  | _ :: _, 0, [] => rfl
  | [], 0, _ :: _ => rfl
  | [], _ + 1, _ => rfl
  | _ :: l, 0, _ :: cs => by simp [spl, spl_length l 0 cs]
  | _ :: l, o + 1, cs => by simp [spl, spl_length l o cs]
theorem spl_get : ∀ (l : List AV) (o : Nat) (cs : List AV) (i : Nat), o + cs.length ≤ l.length → (spl l o cs).getD i .dead = if o ≤ i ∧ i < o + cs.length then cs.getD (i - o) .dead else l.getD i .dead
  | l, 0, [], i, _ => by cases l <;> simp [spl]
  | [], 0, _ :: _, i, h => by simp at h
  | [], _ + 1, _, i, h => by simp at h
  | x :: l, 0, c :: cs, 0, _ => by simp [spl]
  | x :: l, 0, c :: cs, i + 1, h => by
    have := spl_get l 0 cs i (by simp at h ⊢; omega)
    simp only [spl, List.getD_cons_succ, this, List.length_cons, Nat.zero_le, true_and, Nat.zero_add, Nat.sub_zero, Nat.add_lt_add_iff_right]
  | x :: l, o + 1, cs, 0, _ => by simp [spl]
  | x :: l, o + 1, cs, i + 1, h => by
    have := spl_get l o cs i (by simp at h ⊢; omega)
    simp only [spl, List.getD_cons_succ, this, Nat.add_le_add_iff_right, show i + 1 - (o + 1) = i - o by omega, show (i + 1 < o + 1 + cs.length ↔ i < o + cs.length) by omega]
theorem setFold_get (off : Nat) : ∀ (vs : List Value) (s : Nat) (cells : Array Value) (i : Nat), off + s + vs.length ≤ cells.size →
    (((vs.zipIdx s).foldl (fun cs (p : Value × Nat) => cs.setIfInBounds (off + p.2) p.1) cells).getD i undef = if off + s ≤ i ∧ i < off + s + vs.length then vs.getD (i - (off + s)) undef else cells.getD i undef) ∧ ((vs.zipIdx s).foldl (fun cs (p : Value × Nat) => cs.setIfInBounds (off + p.2) p.1) cells).size = cells.size
  | [], s, cells, i, _ => by simp; intro h1 h2; omega
  | v :: vs, s, cells, i, h => by
    have h' : off + (s + 1) + vs.length ≤ (cells.setIfInBounds (off + s) v).size := by simp at h ⊢; omega
    obtain ⟨e1, e2⟩ := setFold_get off vs (s + 1) (cells.setIfInBounds (off + s) v) i h'
    simp only [List.zipIdx_cons, List.foldl_cons]
    refine ⟨?_, by rw [e2]; simp⟩
    rw [e1]
    simp only [List.length_cons] at h ⊢
    by_cases h1 : i = off + s
    · subst h1
      rw [if_neg (by omega), if_pos (by omega)]
      simp [Array.getD_eq_getD_getElem?, show off + s < cells.size by omega]
    · by_cases h2 : off + (s + 1) ≤ i ∧ i < off + (s + 1) + vs.length
      · rw [if_pos h2, if_pos (by omega), show i - (off + s) = (i - (off + (s + 1))) + 1 by omega, List.getD_cons_succ]
      · rw [if_neg h2, if_neg (by omega)]
        simp only [Array.getD_eq_getD_getElem?]
        rw [Array.getElem?_setIfInBounds_ne (by omega)]
def fillA (pl : Nat → Option (Nat × Nat)) (M : Mem) : List AV → List (Nat × AV) → Option (List AV)
  | l, [] => some l
  | l, (k, av) :: ps => match pl k, cellsOf M av with
    | some (o, n), some cs => if cs.length = n ∧ o + cs.length ≤ l.length then fillA pl M (spl l o cs) ps else none
    | _, _ => none
def RepsP (C : Cx) : List (Nat × AV) → List (Nat × Value) → Prop
  | [], [] => True
  | (k, a) :: l, (k', v) :: m => k = k' ∧ Rep C a v ∧ RepsP C l m
  | _, _ => False
theorem fillA_sound {C : Cx} {pl place : Nat → Option (Nat × Nat)} (hp : ∀ k r, pl k = some r → place k = some r) : ∀ {ps : List (Nat × AV)} {parts : List (Nat × Value)} {l l' : List AV} {cells : Array Value},
    fillA pl C.M l ps = some l' → Reps C l cells.toList → RepsP C ps parts → ∃ cells', Instr.fill place cells parts = some cells' ∧ Reps C l' cells'.toList
  | [], [], l, l', cells, h, hr, _ => by cases h; exact ⟨cells, rfl, hr⟩
  | (k, av) :: ps, (k', v) :: parts, l, l', cells, h, hr, hq => by
    obtain ⟨rfl, hv, hq'⟩ := hq
    rw [fillA] at h
    cases hk : pl k with
    | none => rw [hk] at h; cases h
    | some r =>
      obtain ⟨o, n⟩ := r
      rw [hk] at h
      cases hc : cellsOf C.M av with
      | none => rw [hc] at h; cases h
      | some cs =>
        rw [hc] at h
        simp only at h
        split at h
        · rename_i hcond
          obtain ⟨hn, hle⟩ := hcond
          obtain ⟨hcr, _⟩ := cellsOf_sound hc hv
          have hl1 := Reps.length hcr
          have hl2 := Reps.length hr
          have hl1' : v.cells.size = cs.length := by simpa using hl1
          have hl2' : cells.size = l.length := by simpa using hl2
          have hfold : v.cells.zipIdx.foldl (fun cs (c, j) => cs.setIfInBounds (o + j) c) cells = (v.cells.toList.zipIdx 0).foldl (fun cs (p : Value × Nat) => cs.setIfInBounds (o + p.2) p.1) cells := by
            rw [← Array.foldl_toList]; simp
          have hreps : Reps C (spl l o cs) ((v.cells.toList.zipIdx 0).foldl (fun cs (p : Value × Nat) => cs.setIfInBounds (o + p.2) p.1) cells).toList := by
            have hsz := (setFold_get o v.cells.toList 0 cells 0 (by simp; omega)).2
            refine Reps.mk (by rw [spl_length]; simp [hsz]; omega) (fun i hi => ?_)
            rw [spl_length] at hi
            rw [spl_get l o cs i hle]
            have e1 := (setFold_get o v.cells.toList 0 cells i (by simp; omega)).1
            have e2 : ∀ a : Array Value, a.toList.getD i undef = a.getD i undef := fun a => by simp [Array.getD_eq_getD_getElem?]
            rw [e2, e1]
            simp only [Nat.add_zero, Array.length_toList, hl1']
            split
            · rename_i hin
              exact Reps.get hcr _ (by omega)
            · have := Reps.get hr i hi
              rwa [e2] at this
          obtain ⟨cells', h1, h2⟩ := fillA_sound hp h hreps hq'
          refine ⟨cells', ?_, h2⟩
          simp only [Instr.fill, hp k _ hk]
          rw [if_neg (by simp only [Bool.or_eq_true, bne_iff_ne, decide_eq_true_eq]; omega)]
          rw [← h1]
          congr 1
        · cases h
  | [], _ :: _, _, _, _, _, _, hq => hq.elim
  | _ :: _, [], _, _, _, _, _, hq => by simp [RepsP] at hq
end Go.Av
set_option linter.unusedVariables false
set_option linter.unusedSimpArgs false
namespace Go.Av
/-! ## 4. Memory turns -/
theorem heap_lt {w : World} {b : Nat} {o : Obj} (h : w.heap[b]? = some o) : b < w.heap.size := (Array.getElem?_eq_some_iff.1 h).1
theorem Sim.lt {C : Cx} (hS : Sim C) {b : Nat} (h : C.own b) : b < C.w.heap.size := by
  obtain ⟨g, B, hg, hl, hρ⟩ := h
  have hk := hS.blk g B hg
  cases B with
  | cells e n cs => obtain ⟨b', arr, e1, hh, _⟩ := hk; rw [hρ] at e1; cases e1; exact heap_lt hh
  | row e n sz f =>
    obtain ⟨_, ⟨_, e1⟩ | ⟨b', arr, cap, e1, hh, _⟩⟩ := hk
    · rw [hρ] at e1; cases e1
    · rw [hρ] at e1; cases e1; exact heap_lt hh
  | gone => exact hl.elim
  | loop => obtain ⟨b', tmps, e1, hh, _⟩ := hk; rw [hρ] at e1; cases e1; exact heap_lt hh
  | defr => obtain ⟨b', e1, hh⟩ := hk; rw [hρ] at e1; cases e1; exact heap_lt hh
  | map => obtain ⟨b', e1, hh⟩ := hk; rw [hρ] at e1; cases e1; exact heap_lt hh
/-- a block is right in a later state if its object lies as it lay -/
theorem BlkOk.step {C C' : Cx} (hs : Step C C') {g : Nat} {B : Blk} (hρ : C'.ρ g = C.ρ g) (hh : ∀ b, C.ρ g = some b → C'.w.heap[b]? = C.w.heap[b]?) (h : BlkOk C g B) : BlkOk C' g B := by
  cases B with
  | cells e n cs => obtain ⟨b, arr, e1, h1, h2, h3⟩ := h; exact ⟨b, arr, hρ.trans e1, (hh b e1).trans h1, h2, fun i hi => (h3 i hi).step hs _ _⟩
  | row e n sz f =>
    obtain ⟨h0, ⟨h1, e1⟩ | ⟨b, arr, cap, e1, h1, h2, h3, h4, h5⟩⟩ := h
    · exact ⟨h0, .inl ⟨h1, hρ.trans e1⟩⟩
    · exact ⟨h0, .inr ⟨b, arr, cap, hρ.trans e1, (hh b e1).trans h1, h2, h3, h4, fun i j hi hj => (h5 i j hi hj).step hs _ _⟩⟩
  | gone => trivial
  | loop => obtain ⟨b, tmps, e1, h1, h2, h3⟩ := h; exact ⟨b, tmps, hρ.trans e1, (hh b e1).trans h1, h2, fun i => (h3 i).step hs _ _⟩
  | defr => obtain ⟨b, e1, h1⟩ := h; exact ⟨b, hρ.trans e1, (hh b e1).trans h1⟩
  | map => obtain ⟨b, e1, h1⟩ := h; exact ⟨b, hρ.trans e1, (hh b e1).trans h1⟩
/-- the world grows, or draws; nothing that lay is turned -/
theorem grow {C : Cx} (hS : Sim C) {w' : World} (h1 : w'.os = C.w.os) (h2 : w'.tape = C.w.tape) (h3 : w'.output = C.w.output) (h4 : C.w.heap.size ≤ w'.heap.size) (h5 : ∀ b, b < C.w.heap.size → w'.heap[b]? = C.w.heap[b]?) :
    Step C { C with w := w' } ∧ Sim { C with w := w' } := by
  have st : Step C { C with w := w' } := by
    refine ⟨h1, h2, h3, h4, fun b hb => ⟨h5 b hb.1, Nat.lt_of_lt_of_le hb.1 h4, hb.2⟩, fun g B hg => ⟨B, hg, ?_⟩⟩
    cases B <;> simp only [IdStep, true_and, and_self, and_true, Nat.le_refl, true_implies, forall_const]
    exact fun b arr e fr hρ hh => ⟨arr, e, (h5 b (heap_lt hh)).trans hh, rfl⟩
  refine ⟨st, ⟨hS.inj, hS.fin, fun g B hg => ?_⟩⟩
  cases B with
  | gone => trivial
  | _ => exact BlkOk.step st rfl (fun b hb => h5 b (hS.lt ⟨g, _, hg, trivial, hb⟩)) (hS.blk g _ hg)
def upM (M : Mem) (g : Nat) (B : Blk) : Mem := fun g' => if g' = g then some B else M g'
theorem upM_self (M : Mem) (g : Nat) (B : Blk) : upM M g B g = some B := by simp [upM]
theorem upM_ne (M : Mem) {g g' : Nat} (B : Blk) (h : g' ≠ g) : upM M g B g' = M g' := by simp [upM, h]
def Cx.turn (C : Cx) (w' : World) (g : Nat) (B' : Blk) (rb : Option Nat) : Cx := { w := w', M := upM C.M g B', ρ := fun g' => if g' = g then rb else C.ρ g' }
theorem turn {C : Cx} (hS : Sim C) (g : Nat) (B' : Blk) (w' : World) (rb : Option Nat) (h1 : w'.os = C.w.os) (h2 : w'.tape = C.w.tape) (h3 : w'.output = C.w.output) (h4 : C.w.heap.size ≤ w'.heap.size)
    (keep : ∀ b, b < C.w.heap.size → (∀ B, C.M g = some B → B.live → C.ρ g ≠ some b) → w'.heap[b]? = C.w.heap[b]?)
    (fresh : ∀ b, rb = some b → C.w.heap.size ≤ b ∨ (∃ B, C.M g = some B ∧ B.live ∧ C.ρ g = some b))
    (id : ∀ B, C.M g = some B → IdStep C (C.turn w' g B' rb) g B B')
    (ok : Step C (C.turn w' g B' rb) → BlkOk (C.turn w' g B' rb) g B') : Step C (C.turn w' g B' rb) ∧ Sim (C.turn w' g B' rb) := by
  have hM : ∀ g2, g2 ≠ g → (C.turn w' g B' rb).M g2 = C.M g2 := fun g2 h => upM_ne _ _ h
  have hρ : ∀ g2, g2 ≠ g → (C.turn w' g B' rb).ρ g2 = C.ρ g2 := fun g2 h => by simp [Cx.turn, h]
  have hg' : (C.turn w' g B' rb).M g = some B' := upM_self _ _ _
  have hρg : (C.turn w' g B' rb).ρ g = rb := by simp [Cx.turn]
  have kept : ∀ g2 B b, g2 ≠ g → C.M g2 = some B → B.live → C.ρ g2 = some b → w'.heap[b]? = C.w.heap[b]? := fun g2 B b hne hB hl hb =>
    keep b (hS.lt ⟨g2, B, hB, hl, hb⟩) (fun B0 hB0 hl0 e => hne (hS.inj g2 g B B0 b hB hl hB0 hl0 hb e))
  have st : Step C (C.turn w' g B' rb) := by
    refine ⟨h1, h2, h3, h4, fun b hb => ⟨keep b hb.1 (fun B hB hl e => hb.2 ⟨g, B, hB, hl, e⟩), Nat.lt_of_lt_of_le hb.1 h4, ?_⟩, fun g2 B hB => ?_⟩
    · rintro ⟨g2, B, hB, hl, e⟩
      by_cases hne : g2 = g
      · subst hne
        rw [hρg] at e
        rcases fresh b e with h | ⟨B0, hB0, hl0, e0⟩
        · have := hb.1; omega
        · exact hb.2 ⟨g2, B0, hB0, hl0, e0⟩
      · rw [hM g2 hne] at hB
        rw [hρ g2 hne] at e
        exact hb.2 ⟨g2, B, hB, hl, e⟩
    · by_cases hne : g2 = g
      · subst hne; exact ⟨B', hg', id B hB⟩
      · refine ⟨B, (hM g2 hne).trans hB, ?_⟩
        cases B <;> simp only [IdStep, true_and, and_self, and_true, Nat.le_refl, true_implies, forall_const] <;> first | exact hρ g2 hne | skip
        exact ⟨hρ g2 hne, fun b arr e fr hb hh => ⟨arr, e, (kept g2 _ b hne hB trivial hb).trans hh, rfl⟩⟩
  refine ⟨st, ⟨fun g1 g2 B1 B2 b hB1 hl1 hB2 hl2 e1 e2 => ?_, ?_, fun g2 B hB => ?_⟩⟩
  · by_cases n1 : g1 = g
    · by_cases n2 : g2 = g
      · rw [n1, n2]
      · subst n1
        rw [hρg] at e1
        rw [hρ g2 n2] at e2; rw [hM g2 n2] at hB2
        rcases fresh b e1 with h | ⟨B0, hB0, hl0, e0⟩
        · have := hS.lt ⟨g2, B2, hB2, hl2, e2⟩; omega
        · exact hS.inj g1 g2 B0 B2 b hB0 hl0 hB2 hl2 e0 e2
    · rw [hρ g1 n1] at e1; rw [hM g1 n1] at hB1
      by_cases n2 : g2 = g
      · subst n2
        rw [hρg] at e2
        rcases fresh b e2 with h | ⟨B0, hB0, hl0, e0⟩
        · have := hS.lt ⟨g1, B1, hB1, hl1, e1⟩; omega
        · exact hS.inj g1 g2 B1 B0 b hB1 hl1 hB0 hl0 e1 e0
      · rw [hρ g2 n2] at e2; rw [hM g2 n2] at hB2
        exact hS.inj g1 g2 B1 B2 b hB1 hl1 hB2 hl2 e1 e2
  · obtain ⟨N, hN⟩ := hS.fin
    refine ⟨max N (g + 1), fun g2 h => ?_⟩
    rw [hM g2 (by omega)]
    exact hN g2 (by omega)
  · by_cases hne : g2 = g
    · subst hne
      rw [hg'] at hB
      cases hB
      exact ok st
    · rw [hM g2 hne] at hB
      cases B with
      | gone => trivial
      | _ => exact BlkOk.step st (hρ g2 hne) (fun b hb => kept g2 _ b hne hB trivial hb) (hS.blk g2 _ hB)
/-! the turns that operations make -/
theorem heap_alloc_lt (w : World) (o : Obj) (b : Nat) (h : b < w.heap.size) : (w.alloc o).heap[b]? = w.heap[b]? := Go.RowKit.Below.heap_alloc w o b h
theorem heap_alloc_self (w : World) (o : Obj) : (w.alloc o).heap[w.heap.size]? = some o := World.alloc_heap_new w o
/-- a new object, tracked -/
theorem turn_new {C : Cx} (hS : Sim C) {g : Nat} (hg : C.M g = none) (B : Blk) (o : Obj) (ok : Step C (C.turn (C.w.alloc o) g B (some C.w.heap.size)) → BlkOk (C.turn (C.w.alloc o) g B (some C.w.heap.size)) g B) :
    Step C (C.turn (C.w.alloc o) g B (some C.w.heap.size)) ∧ Sim (C.turn (C.w.alloc o) g B (some C.w.heap.size)) :=
  turn hS g B (C.w.alloc o) (some C.w.heap.size) rfl rfl rfl (by simp) (fun b hb _ => heap_alloc_lt _ _ _ hb) (fun b hb => .inl (by cases hb; exact Nat.le_refl _)) (fun B0 h => by rw [hg] at h; cases h) ok
/-- new cells, tracked -/
theorem turn_cells {C : Cx} (hS : Sim C) {g : Nat} (hg : C.M g = none) (e : TypeId) (l : List AV) (cs : Array Value) (hr : Reps C l cs.toList) :
    Step C (C.turn (C.w.alloc (.cells cs e)) g (.cells e l.length (lst l)) (some C.w.heap.size)) ∧ Sim (C.turn (C.w.alloc (.cells cs e)) g (.cells e l.length (lst l)) (some C.w.heap.size)) := by
  refine turn_new hS hg _ _ (fun st => ⟨C.w.heap.size, cs, by simp [Cx.turn], heap_alloc_self _ _, by have := Reps.length hr; simpa using this, fun i hi => ?_⟩)
  have := Reps.get (Reps.step st hr) i hi
  simpa [lst, Array.getD_eq_getD_getElem?] using this
/-- a tracked block goes: it is never written again -/
theorem turn_gone {C : Cx} (hS : Sim C) (g : Nat) : Step C (C.turn C.w g .gone (C.ρ g)) ∧ Sim (C.turn C.w g .gone (C.ρ g)) := by
  have e : (C.turn C.w g .gone (C.ρ g)).ρ = C.ρ := by funext g'; simp only [Cx.turn]; split <;> simp_all
  have hM : ∀ g2, g2 ≠ g → (C.turn C.w g .gone (C.ρ g)).M g2 = C.M g2 := fun g2 h => upM_ne _ _ h
  have hg' : (C.turn C.w g .gone (C.ρ g)).M g = some .gone := upM_self _ _ _
  have down : ∀ g2 B, (C.turn C.w g .gone (C.ρ g)).M g2 = some B → B.live → C.M g2 = some B ∧ g2 ≠ g := fun g2 B h hl => by
    by_cases hne : g2 = g
    · subst hne; rw [hg'] at h; cases h; exact hl.elim
    · exact ⟨(hM g2 hne).symm.trans h, hne⟩
  have st : Step C (C.turn C.w g .gone (C.ρ g)) := by
    refine ⟨rfl, rfl, rfl, Nat.le_refl _, fun b hb => ⟨rfl, hb.1, ?_⟩, fun g2 B hB => ?_⟩
    · rintro ⟨g2, B, hB, hl, hρ⟩
      rw [e] at hρ
      exact hb.2 ⟨g2, B, (down g2 B hB hl).1, hl, hρ⟩
    · by_cases hne : g2 = g
      · subst hne; exact ⟨.gone, hg', by cases B <;> trivial⟩
      · refine ⟨B, (hM g2 hne).trans hB, ?_⟩
        have := IdStep.refl C g2 B
        cases B <;> simp only [IdStep, e] at this ⊢ <;> exact this
  refine ⟨st, ⟨fun g1 g2 B1 B2 b h1 l1 h2 l2 e1 e2 => ?_, ?_, fun g2 B hB => ?_⟩⟩
  · rw [e] at e1 e2
    exact hS.inj g1 g2 B1 B2 b (down g1 B1 h1 l1).1 l1 (down g2 B2 h2 l2).1 l2 e1 e2
  · obtain ⟨N, hN⟩ := hS.fin
    exact ⟨max N (g + 1), fun g2 h => by rw [hM g2 (by omega)]; exact hN g2 (by omega)⟩
  · by_cases hl : B.live
    · exact BlkOk.step st (by rw [e]) (fun b _ => rfl) (hS.blk g2 B (down g2 B hB hl).1)
    · cases B <;> first | trivial | exact (hl trivial).elim
/-! stores -/
def ovr (cs : Nat → AV) (o : Nat) : List AV → Nat → AV
  | [], i => cs i
  | c :: l, i => if i = o then c else ovr cs (o + 1) l i
theorem ovr_eq (cs : Nat → AV) : ∀ (l : List AV) (o i : Nat), ovr cs o l i = if o ≤ i ∧ i < o + l.length then l.getD (i - o) .dead else cs i
  | [], o, i => by simp only [ovr, List.length_nil, Nat.add_zero]; rw [if_neg (by omega)]
  | c :: l, o, i => by
    simp only [ovr, ovr_eq cs l (o + 1) i, List.length_cons]
    by_cases h : i = o
    · subst h; rw [if_pos rfl, if_pos (by omega)]; simp
    · rw [if_neg h]
      by_cases h2 : o + 1 ≤ i ∧ i < o + 1 + l.length
      · rw [if_pos h2, if_pos (by omega), show i - o = (i - (o + 1)) + 1 by omega, List.getD_cons_succ]
      · rw [if_neg h2, if_neg (by omega)]
theorem splice_get (cur : Array Value) (vs : List Value) (o i : Nat) (h : o + vs.length ≤ cur.size) :
    ((cur.toList.take o ++ vs ++ cur.toList.drop (o + vs.length)).toArray).getD i undef = if o ≤ i ∧ i < o + vs.length then vs.getD (i - o) undef else cur.getD i undef := by
  simp only [Array.getD_eq_getD_getElem?, List.getElem?_toArray, List.getD_eq_getElem?_getD]
  have l1 : (cur.toList.take o).length = o := by simp; omega
  by_cases h1 : i < o
  · rw [if_neg (by omega), List.append_assoc, List.getElem?_append_left (by omega), List.getElem?_take_of_lt h1]; simp
  · by_cases h2 : i < o + vs.length
    · rw [if_pos (by omega), List.append_assoc, List.getElem?_append_right (by omega), l1, List.getElem?_append_left (by omega)]
    · rw [if_neg (by omega), List.getElem?_append_right (by simp; omega), List.getElem?_drop]
      simp only [List.length_append, l1]
      rw [show o + vs.length + (i - (o + vs.length)) = i by omega]; simp
theorem splice_size (cur : Array Value) (vs : List Value) (o : Nat) (h : o + vs.length ≤ cur.size) : (cur.toList.take o ++ vs ++ cur.toList.drop (o + vs.length)).toArray.size = cur.size := by simp; omega
theorem run_storeVar' {P : Program} {T : Tab} (hT : TabOk P T) {t : TypeId} {ty : Ty} (h : T.ty t = some ty) (w : World) (b o : Nat) (cur : Array Value) (e : TypeId) (hh : w.heap[b]? = some (.cells cur e (0, 0))) (v : Value) (hv : v.cells.size = ty.cells) (hle : o + v.cells.size ≤ cur.size) (h1 : ∀ u ∈ v.cells.toList, u.oneCell' = true) :
    (storeVar t ⟨b, o, none⟩ v).run P w = .ok () (w.setRow b (cur.toList.take o ++ v.cells.toList ++ cur.toList.drop (o + v.cells.toList.length)).toArray) := by
  simp only [storeVar, Sem.run_bind, run_sizeOf' hT h, Result.andThen_ok, hv, ne_eq, not_true_eq_false, if_false]
  have := run_storeCells_at (P := P) b o e v.cells.toList 0 cur w hh (by simpa using hle) h1
  simpa using this
/-- what a store does to the memory that is told -/
def stMem (T : Tab) (M : Mem) (t : TypeId) (x v : AV) : Option Mem :=
  match T.ty t, cellsOf M v with
  | some ty, some l => if l.length = ty.cells then match x with
    | .ptr g off => match M g with
      | some (.cells e n cs) => if off + l.length ≤ n then some (upM M g (.cells e n (ovr cs off l))) else none
      | _ => none
    | .elp g n sz i o => match M g with
      | some (.row e n' sz' f) => if n' = n ∧ sz' = sz ∧ i < n ∧ o + l.length ≤ sz then some (upM M g (.row e n sz (fun i' j => if i' = i then ovr (f i) o l j else f i' j))) else none
      | _ => none
    | _ => none else none
  | _, _ => none
theorem stMem_sound {P : Program} {T : Tab} (hT : TabOk P T) {C : Cx} (hS : Sim C) {t : TypeId} {x v : AV} {M' : Mem} {p u : Value} (h : stMem T C.M t x v = some M') (hx : Rep C x p) (hv : Rep C v u) :
    ∃ C' : Cx, C'.M = M' ∧ (Instr.storeAt t p u).run P C.w = .ok () C'.w ∧ Sim C' ∧ Step C C' := by
  unfold stMem at h
  cases ht : T.ty t with
  | none => rw [ht] at h; cases h
  | some ty =>
    cases hc : cellsOf C.M v with
    | none => rw [ht, hc] at h; cases h
    | some l =>
      rw [ht, hc] at h
      simp only at h
      split at h
      · rename_i hln
        obtain ⟨hr, hone⟩ := cellsOf_sound hc hv
        have hl1 : u.cells.size = l.length := by simpa using Reps.length hr
        have hu1 := Reps.all hone hr
        have key : ∀ (g b o : Nat) (cur : Array Value) (e : TypeId) (B B' : Blk), C.M g = some B → B.live → C.ρ g = some b → C.w.heap[b]? = some (.cells cur e (0, 0)) → o + l.length ≤ cur.size → p = .pointer (some ⟨b, o, none⟩) →
            (∀ (w' : World) (cur' : Array Value), cur'.size = cur.size → w'.heap[b]? = some (.cells cur' e (0, 0)) → IdStep C (C.turn w' g B' (some b)) g B B') →
            (∀ (w' : World) (cur' : Array Value), (∀ i, cur'.getD i undef = if o ≤ i ∧ i < o + l.length then u.cells.toList.getD (i - o) undef else cur.getD i undef) → cur'.size = cur.size → w'.heap[b]? = some (.cells cur' e (0, 0)) → Step C (C.turn w' g B' (some b)) → BlkOk (C.turn w' g B' (some b)) g B') → upM C.M g B' = M' →
            ∃ C' : Cx, C'.M = M' ∧ (Instr.storeAt t p u).run P C.w = .ok () C'.w ∧ Sim C' ∧ Step C C' := by
          rintro g b o cur e B B' hg hlv hρ hh hle rfl hid hok hM'
          have hrun := run_storeVar' (P := P) hT ht C.w b o cur e hh u (by omega) (by omega) hu1
          have hle' : o + u.cells.toList.length ≤ cur.size := by simp; omega
          have hnew : (C.w.setRow b (cur.toList.take o ++ u.cells.toList ++ cur.toList.drop (o + u.cells.toList.length)).toArray).heap[b]? = some (.cells (cur.toList.take o ++ u.cells.toList ++ cur.toList.drop (o + u.cells.toList.length)).toArray e (0, 0)) := setRow_heap C.w b cur _ e _ hh
          have hsz := splice_size cur u.cells.toList o hle'
          have hget : ∀ i, ((cur.toList.take o ++ u.cells.toList ++ cur.toList.drop (o + u.cells.toList.length)).toArray).getD i undef = if o ≤ i ∧ i < o + l.length then u.cells.toList.getD (i - o) undef else cur.getD i undef := fun i => by
            rw [splice_get cur u.cells.toList o i hle']; simp only [Array.length_toList, hl1]
          obtain ⟨st, sm⟩ := turn hS g B' (C.w.setRow b (cur.toList.take o ++ u.cells.toList ++ cur.toList.drop (o + u.cells.toList.length)).toArray) (some b) rfl rfl rfl (by simp [World.setRow])
            (fun b2 _ hb2 => by
              have hne : b2 ≠ b := fun e2 => hb2 B hg hlv (e2 ▸ hρ)
              simp only [World.setRow, Array.getElem?_modify]
              rw [if_neg (by omega)])
            (fun b2 e2 => by cases e2; exact .inr ⟨B, hg, hlv, hρ⟩)
            (fun B0 hB0 => by rw [hg] at hB0; cases hB0; exact hid _ _ hsz hnew)
            (fun st => hok _ _ hget hsz hnew st)
          exact ⟨_, hM', by simp only [Instr.storeAt, Instr.sureAddr, Sem.run_bind, Sem.run_pure, Result.andThen_ok]; exact hrun, sm, st⟩
        split at h
        · rename_i g off
          cases hg : C.M g with
          | none => rw [hg] at h; cases h
          | some B =>
            rw [hg] at h
            cases B with
            | cells e n cs =>
              simp only at h
              split at h
              · rename_i hle
                cases h
                simp only [Rep, hg] at hx
                obtain ⟨b, hρ, hp⟩ := hx
                obtain ⟨b', arr, hb', hh, hsz, hcells⟩ := hS.blk g _ hg
                obtain rfl : b = b' := by rw [hρ] at hb'; cases hb'; rfl
                refine key g b off arr e _ (.cells e n (ovr cs off l)) hg trivial hρ hh (by omega) hp (fun w' cur' _ _ => ⟨rfl, rfl, by simp [Cx.turn, hρ]⟩) (fun w' cur' hget hsz' hnew st => ⟨b, cur', by simp [Cx.turn], hnew, by omega, fun i hi => ?_⟩) rfl
                rw [hget, ovr_eq]
                by_cases hin : off ≤ i ∧ i < off + l.length
                · rw [if_pos hin, if_pos hin]
                  exact Reps.get (Reps.step st hr) _ (by omega)
                · rw [if_neg hin, if_neg hin]
                  exact (hcells i hi).step st _ _
              · cases h
            | _ => simp at h
        · rename_i g n sz i o
          cases hg : C.M g with
          | none => rw [hg] at h; cases h
          | some B =>
            rw [hg] at h
            cases B with
            | row e n' sz' f =>
              simp only at h
              split at h
              · rename_i hcond
                obtain ⟨rfl, rfl, hin, hle⟩ := hcond
                cases h
                simp only [Rep, hg] at hx
                obtain ⟨b, hρ, hp⟩ := hx.2.2 trivial
                obtain ⟨hpos, ⟨hn0, _⟩ | ⟨b', arr, cap, hb', hh, hsz, hcap, hmx, hcells⟩⟩ := hS.blk g _ hg
                · omega
                obtain rfl : b = b' := by rw [hρ] at hb'; cases hb'; rfl
                have hb1 : i * sz' + sz' ≤ cap * sz' := by rw [← Nat.succ_mul]; exact Nat.mul_le_mul_right _ (by omega)
                refine key g b (i * sz' + o) arr e _ (.row e n' sz' (fun i' j => if i' = i then ovr (f i) o l j else f i' j)) hg trivial hρ hh (by omega) hp
                  (fun w' cur' hs2 hnew => ⟨rfl, rfl, Nat.le_refl _, fun _ => ⟨by simp [Cx.turn, hρ], fun b2 arr2 e2 fr hb2 hh2 => by
                    rw [hρ] at hb2; cases hb2; rw [hh] at hh2; cases hh2; exact ⟨cur', e, hnew, hs2⟩⟩⟩)
                  (fun w' cur' hget hsz' hnew st => ⟨hpos, .inr ⟨b, cur', cap, by simp [Cx.turn], hnew, by omega, hcap, hmx, fun i2 j2 hi2 hj2 => ?_⟩⟩) rfl
                rw [hget]
                dsimp only
                by_cases hii : i2 = i
                · subst hii
                  rw [if_pos rfl, ovr_eq]
                  by_cases hin2 : o ≤ j2 ∧ j2 < o + l.length
                  · rw [if_pos hin2, if_pos (by omega), show i2 * sz' + j2 - (i2 * sz' + o) = j2 - o by omega]
                    exact Reps.get (Reps.step st hr) _ (by omega)
                  · rw [if_neg hin2, if_neg (by omega)]
                    exact (hcells i2 j2 hi2 hj2).step st _ _
                · rw [if_neg hii, if_neg]
                  · exact (hcells i2 j2 hi2 hj2).step st _ _
                  · rintro ⟨q1, q2⟩
                    have a1 : i2 * sz' + j2 < (i2 + 1) * sz' := by rw [Nat.succ_mul]; omega
                    have a2 : i * sz' ≤ i2 * sz' + j2 := by omega
                    have a3 : i2 * sz' + j2 < (i + 1) * sz' := by rw [Nat.succ_mul]; omega
                    have a4 : i < i2 + 1 := Nat.lt_of_mul_lt_mul_right (Nat.lt_of_le_of_lt a2 a1)
                    have a5 : i2 < i + 1 := Nat.lt_of_mul_lt_mul_right (Nat.lt_of_le_of_lt (Nat.le_add_right _ _) a3)
                    omega
              · cases h
            | _ => simp at h
        · cases h
      · cases h
end Go.Av
set_option linter.unusedVariables false
set_option linter.unusedSimpArgs false
namespace Go.Av
/-! ## 5. Runs -/
def Clo (M : Mem) : AV → Prop
  | .raw _ | .dead | .nilB _ => True
  | .ag n f | .tup n f | .ref n f | .fn _ n f => ∀ i, i < n → Clo M (f i)
  | .sl n sz f => ∀ i j, i < n → j < sz → Clo M (f i j)
  | .own g _ _ | .ptr g _ | .elp g _ _ _ _ | .mp g | .yl g => M g ≠ none
def CloB (M : Mem) : Blk → Prop
  | .cells _ n cs => ∀ i, i < n → Clo M (cs i)
  | .row _ n sz f => ∀ i j, i < n → j < sz → Clo M (f i j)
  | .loop _ _ _ _ Γ _ _ _ _ => ∀ i, Clo M (Γ i)
  | _ => True
theorem Rep.clo {C : Cx} : ∀ {av : AV} {x : Value}, Rep C av x → Clo C.M av := by
  intro av
  induction av with
  | raw v => exact fun _ => trivial
  | dead => exact fun _ => trivial
  | nilB n => exact fun _ => trivial
  | ag n f ih => rintro x ⟨cs, _, _, h⟩ i hi; exact ih i (h i hi)
  | tup n f ih => rintro x ⟨cs, _, _, h⟩ i hi; exact ih i (h i hi)
  | fn k n f ih => rintro x ⟨cs, _, _, h⟩ i hi; exact ih i (h i hi)
  | ref n f ih => rintro x ⟨ad, _, _, h⟩ i hi; obtain ⟨v, _, hr⟩ := h i hi; exact ih i hr
  | sl n sz f ih => rintro x ⟨A, c, _, _, h⟩ i j hi hj; obtain ⟨ad, _, _, hc⟩ := h (by omega); obtain ⟨v, _, hr⟩ := hc i j hi hj; exact ih i j hr
  | own g n sz => intro x h; simp only [Rep] at h; simp only [Clo]; intro e; rw [e] at h; exact h
  | ptr g o => intro x h; simp only [Rep] at h; simp only [Clo]; intro e; rw [e] at h; exact h
  | elp g n sz i o => intro x h; simp only [Rep] at h; simp only [Clo]; intro e; rw [e] at h; exact h
  | mp g => intro x h; simp only [Rep] at h; simp only [Clo]; intro e; rw [e] at h; exact h
  | yl g => intro x h; simp only [Rep] at h; simp only [Clo]; intro e; rw [e] at h; exact h
theorem BlkOk.clo {C : Cx} {g : Nat} {B : Blk} (h : BlkOk C g B) : CloB C.M B := by
  cases B with
  | cells e n cs => obtain ⟨b, arr, _, _, _, h⟩ := h; exact fun i hi => (h i hi).clo
  | row e n sz f =>
    obtain ⟨_, ⟨h0, _⟩ | ⟨b, arr, cap, _, _, _, _, _, h⟩⟩ := h
    · intro i j hi; omega
    · exact fun i j hi hj => (h i j hi hj).clo
  | loop => obtain ⟨b, tmps, _, _, _, h⟩ := h; exact fun i => (h i).clo
  | _ => trivial
theorem Clo.mono {M M' : Mem} (h : ∀ g, M g ≠ none → M' g ≠ none) : ∀ {av : AV}, Clo M av → Clo M' av := by
  intro av
  induction av with
  | raw v => exact fun _ => trivial
  | dead => exact fun _ => trivial
  | nilB n => exact fun _ => trivial
  | ag n f ih => exact fun k i hi => ih i (k i hi)
  | tup n f ih => exact fun k i hi => ih i (k i hi)
  | fn k n f ih => exact fun k i hi => ih i (k i hi)
  | ref n f ih => exact fun k i hi => ih i (k i hi)
  | sl n sz f ih => exact fun k i j hi hj => ih i j (k i j hi hj)
  | _ => exact fun k => h _ k
theorem CloB.mono {M M' : Mem} (h : ∀ g, M g ≠ none → M' g ≠ none) {B : Blk} (k : CloB M B) : CloB M' B := by
  cases B with
  | cells e n cs => exact fun i hi => (k i hi).mono h
  | row e n sz f => exact fun i j hi hj => (k i j hi hj).mono h
  | loop => exact fun i => (k i).mono h
  | _ => trivial
/-- some ids are forgotten -/
def Cx.only (C : Cx) (M' : Mem) : Cx := { C with M := M' }
theorem only_st {C : Cx} {M' : Mem} (h : ∀ g B, M' g = some B → C.M g = some B) {b : Nat} (hb : C.st b) : (C.only M').st b :=
  ⟨hb.1, fun ⟨g, B, hg, hl, hρ⟩ => hb.2 ⟨g, B, h g B hg, hl, hρ⟩⟩
theorem Rep.only {C : Cx} {M' : Mem} (h : ∀ g B, M' g = some B → C.M g = some B) : ∀ {av : AV} {x : Value}, Rep C av x → Clo M' av → Rep (C.only M') av x := by
  have same : ∀ g, M' g ≠ none → M' g = C.M g := fun g hg => by
    cases e : M' g with
    | none => exact absurd e hg
    | some B => exact (h g B e).symm
  intro av
  induction av with
  | raw v => exact fun k _ => k
  | dead => exact fun _ _ => trivial
  | nilB n => exact fun k _ => k
  | ag n f ih => rintro x ⟨cs, h1, h2, h3⟩ k; exact ⟨cs, h1, h2, fun i hi => ih i (h3 i hi) (k i hi)⟩
  | tup n f ih => rintro x ⟨cs, h1, h2, h3⟩ k; exact ⟨cs, h1, h2, fun i hi => ih i (h3 i hi) (k i hi)⟩
  | fn k n f ih => rintro x ⟨cs, h1, h2, h3⟩ k; exact ⟨cs, h1, h2, fun i hi => ih i (h3 i hi) (k i hi)⟩
  | ref n f ih =>
    rintro x ⟨ad, h1, h2, h3⟩ k
    exact ⟨ad, h1, only_st h h2, fun i hi => by obtain ⟨v, hv, hr⟩ := h3 i hi; exact ⟨v, hv, ih i hr (k i hi)⟩⟩
  | sl n sz f ih =>
    rintro x ⟨A, c, h1, h2, h3⟩ k
    refine ⟨A, c, h1, h2, fun h0 => ?_⟩
    obtain ⟨ad, ha, hst, hc⟩ := h3 h0
    exact ⟨ad, ha, only_st h hst, fun i j hi hj => by obtain ⟨v, hv, hr⟩ := hc i j hi hj; exact ⟨v, hv, ih i j hr (k i j hi hj)⟩⟩
  | own g n sz => intro x hx k; have e : (C.only M').M g = C.M g := same g k; simp only [Rep] at hx ⊢; rw [e]; exact hx
  | ptr g o => intro x hx k; have e : (C.only M').M g = C.M g := same g k; simp only [Rep] at hx ⊢; rw [e]; exact hx
  | elp g n sz i o => intro x hx k; have e : (C.only M').M g = C.M g := same g k; simp only [Rep] at hx ⊢; rw [e]; exact hx
  | mp g => intro x hx k; have e : (C.only M').M g = C.M g := same g k; simp only [Rep] at hx ⊢; rw [e]; exact hx
  | yl g => intro x hx k; have e : (C.only M').M g = C.M g := same g k; simp only [Rep] at hx ⊢; rw [e]; exact hx
structure StepOn (M0 : Mem) (C C' : Cx) : Prop where
  os : C'.w.os = C.w.os
  tape : C'.w.tape = C.w.tape
  output : C'.w.output = C.w.output
  size : C.w.heap.size ≤ C'.w.heap.size
  stable : ∀ b, C.st b → C'.w.heap[b]? = C.w.heap[b]? ∧ C'.st b
  ids : ∀ g B, M0 g ≠ none → C.M g = some B → ∃ B', C'.M g = some B' ∧ IdStep C C' g B B'
theorem Step.on {C C' : Cx} (h : Step C C') (M0 : Mem) : StepOn M0 C C' := ⟨h.os, h.tape, h.output, h.size, h.stable, fun g B _ hg => h.ids g B hg⟩
theorem Step.thenOn {M0 : Mem} {C C' C'' : Cx} (h : Step C C') (k : StepOn M0 C' C'') : StepOn M0 C C'' :=
  ⟨k.os.trans h.os, k.tape.trans h.tape, k.output.trans h.output, Nat.le_trans h.size k.size,
   fun b hb => ⟨(k.stable b (h.stable b hb).2).1.trans (h.stable b hb).1, (k.stable b (h.stable b hb).2).2⟩,
   fun g B h0 hg => by
     obtain ⟨B', h1, h2⟩ := h.ids g B hg
     obtain ⟨B'', k1, k2⟩ := k.ids g B' h0 h1
     exact ⟨B'', k1, h2.trans k2⟩⟩
theorem StepOn.full {C C' : Cx} (h : StepOn C.M C C') : Step C C' := ⟨h.os, h.tape, h.output, h.size, h.stable, fun g B hg => h.ids g B (by rw [hg]; simp) hg⟩
/-- **A CALL**: whatever real state fits, the function returns, with Q of what its result and the memory are told to be. -/
def HasBody (P : Program) (f : FuncId) : Prop := ∃ fn c, P.funcs[f]? = some fn ∧ fn.body = some c ∧ (fn.name == "runtime.NumGoroutine") = false
def ACalls (P : Program) (f : FuncId) (as : List AV) (M : Mem) (Q : AV → Mem → Prop) : Prop :=
  HasBody P f ∧ ∀ (C : Cx) (vs : List Value), C.M = M → Sim C → Reps C as vs → ∀ cs : List Frame, ∃ (v : Value) (fr : Frame) (C' : Cx) (r : AV),
    Steps P (lone (Frame.enter P f vs.toArray .normal) cs C.w) (lone fr cs C'.w) ∧ fr.fn = f ∧ fr.leaving P C'.w (.returned v) ∧ Sim C' ∧ Step C C' ∧ Rep C' r v ∧ Q r C'.M
theorem ACalls.mono {P : Program} {f : FuncId} {as : List AV} {M : Mem} {Q Q' : AV → Mem → Prop} (h : ACalls P f as M Q) (hq : ∀ r M', Q r M' → Q' r M') : ACalls P f as M Q' :=
  ⟨h.1, fun C vs hM hS hr cs => let ⟨v, fr, C', r, h1, h2, h3, h4, h5, h6, h7⟩ := h.2 C vs hM hS hr cs; ⟨v, fr, C', r, h1, h2, h3, h4, h5, h6, hq _ _ h7⟩⟩
/-- a weaker telling of a value -/
def Le (a b : AV) : Prop := ∀ C x, Rep C a x → Rep C b x
theorem Le.refl (a : AV) : Le a a := fun _ _ h => h
def Les : List AV → List AV → Prop
  | [], [] => True
  | a :: l, b :: m => Le a b ∧ Les l m
  | _, _ => False
theorem Les.reps {C : Cx} : ∀ {l m : List AV} {vs : List Value}, Les l m → Reps C l vs → Reps C m vs
  | [], [], [], _, _ => trivial
  | a :: l, b :: m, v :: vs, h, k => ⟨h.1 C v k.1, Les.reps h.2 k.2⟩
  | [], _ :: _, _, h, _ => h.elim
  | _ :: _, [], _, h, _ => h.elim
  | [], [], _ :: _, _, k => k.elim
  | _ :: _, _ :: _, [], _, k => k.elim
theorem ACalls.le {P : Program} {f : FuncId} {as bs : List AV} {M : Mem} {Q : AV → Mem → Prop} (h : ACalls P f bs M Q) (hl : Les as bs) : ACalls P f as M Q :=
  ⟨h.1, fun C vs hM hS hr cs => h.2 C vs hM hS (hl.reps hr) cs⟩
/-- **A CALL OF yield** -/
def IsLoop (M : Mem) (y : Nat) : Prop := ∃ st pe fn N Γ ps asg body d, M y = some (.loop st pe fn N Γ ps asg body d)
def AYield (P : Program) (y : Nat) (as : List AV) (M : Mem) (Q : AV → Mem → Prop) : Prop :=
  IsLoop M y ∧ ∀ (C : Cx) (vs : List Value), C.M = M → Sim C → Reps C as vs → ∃ l fn tmps asg body, C.ρ y = some l ∧ (Instr.yield l vs.toArray).run P C.w = .ok (.round l fn tmps asg body) C.w ∧
    ∀ (c : Frame) (cs : List Frame), ∃ (v : Value) (C' : Cx) (r : AV),
      Steps P (lone (Frame.round l fn tmps asg body .normal) (c :: cs) C.w) (lone (c.finish v) cs C'.w) ∧ Sim C' ∧ Step C C' ∧ Rep C' r v ∧ Q r C'.M
theorem AYield.mono {P : Program} {y : Nat} {as : List AV} {M : Mem} {Q Q' : AV → Mem → Prop} (h : AYield P y as M Q) (hq : ∀ r M', Q r M' → Q' r M') : AYield P y as M Q' :=
  ⟨h.1, fun C vs hM hS hr => by
    obtain ⟨l, fn, tmps, asg, body, h1, h2, h3⟩ := h.2 C vs hM hS hr
    refine ⟨l, fn, tmps, asg, body, h1, h2, fun c cs => ?_⟩
    obtain ⟨v, C', r, k1, k2, k3, k4, k5⟩ := h3 c cs
    exact ⟨v, C', r, k1, k2, k3, k4, hq _ _ k5⟩⟩
/-! ### inside a function -/
structure Fx where
  P : Program
  T : Tab
  N : Nat
  fn : FuncId
  rs : List ResultVar
  own : List Tmp
  ord : List (Nat × Nat)
  M0 : Mem
  ro : Option Nat
inductive It where
  | code (c : Code)
  | inBlock (id : Nat)
  | inLoop (c : Code)
  | ops (all : Array Oper) (l : List Oper)
  | beginRound
/-- where a run of an activation ends: a function leaves; a round hands its value to its caller -/
def Ends (P : Program) (b : Frame) (cs : List Frame) (m : Machine) (R : Value → World → Prop) : Prop :=
  match b.roundOf with
  | none => ∃ v w' fr, Steps P m (lone fr cs w') ∧ fr.fn = b.fn ∧ fr.leaving P w' (.returned v) ∧ R v w'
  | some _ => ∀ c cs', cs = c :: cs' → ∃ v w', Steps P m (lone (c.finish v) cs' w') ∧ R v w'
theorem Ends.step {P : Program} {b : Frame} {cs : List Frame} {m m' : Machine} {R : Value → World → Prop} (h : step P m = .next m') (k : Ends P b cs m' R) : Ends P b cs m R := by
  unfold Ends at k ⊢
  cases hb : b.roundOf with
  | none => rw [hb] at k; obtain ⟨v, w', fr, h1, h2⟩ := k; exact ⟨v, w', fr, .head h h1, h2⟩
  | some l => rw [hb] at k; intro c cs' e; obtain ⟨v, w', h1, h2⟩ := k c cs' e; exact ⟨v, w', .head h h1, h2⟩
theorem Ends.steps {P : Program} {b : Frame} {cs : List Frame} {m m' : Machine} {R : Value → World → Prop} (h : Steps P m m') (k : Ends P b cs m' R) : Ends P b cs m R := by
  unfold Ends at k ⊢
  cases hb : b.roundOf with
  | none => rw [hb] at k; obtain ⟨v, w', fr, h1, h2⟩ := k; exact ⟨v, w', fr, h.trans h1, h2⟩
  | some l => rw [hb] at k; intro c cs' e; obtain ⟨v, w', h1, h2⟩ := k c cs' e; exact ⟨v, w', h.trans h1, h2⟩
theorem Ends.mono {P : Program} {b : Frame} {cs : List Frame} {m : Machine} {R R' : Value → World → Prop} (hr : ∀ v w, R v w → R' v w) (k : Ends P b cs m R) : Ends P b cs m R' := by
  unfold Ends at k ⊢
  cases hb : b.roundOf with
  | none => rw [hb] at k; obtain ⟨v, w', fr, h1, h2, h3, h4⟩ := k; exact ⟨v, w', fr, h1, h2, h3, hr _ _ h4⟩
  | some l => rw [hb] at k; intro c cs' e; obtain ⟨v, w', h1, h2⟩ := k c cs' e; exact ⟨v, w', h1, hr _ _ h2⟩
end Go.Av
