/- For every input that can be read as data, the law BoxHasWhatItShould returns true, and each argument reads behind the call as it read before. There is no further condition. -/
import Derived.Test.YtaiinpbaaeemmaaJ06b
import Derived.Test.YtaiinpbaaeemmaaJ06c
import Derived.Test.YtaiinpbaaeemmaaL06n
namespace Go.Proofs.Ytaiinpbaaeemmaa
open Go Go.Av Go.ChangeShapes Go.WideShapes Go.ChangeAt Go.RowKit Go.Joins
set_option maxRecDepth 100000 in
theorem lifted8 (os : Os) (started : os.Started) (H : Type) (enc : TypeId × Value → H) :
    ReturnsInHanded {} Try.checked os 8 .any (Rows.boxHasWhatItShouldSpec.pre6 enc Try.prog Try.f8 Rows.boxHasWhatItShouldRow.domain false) (Rows.boxHasWhatItShouldSpec.post enc Try.prog Try.f8 false true false false) := by
  refine returnsInHanded_of_change (C := Try.checked) ownK started (by kernel_rfl) Try.func8
    (ChangeSpec.witness6 (enc := enc) (C := Try.checked) false ⟨#[], #[.slice none 0 0, .agg #[.slice none 0 0, .slice none 0 0], .agg #[.slice none 0 0, .slice none 0 0], .slice none 0 0], []⟩ 8 (by kernel_rfl) (by kernel_rfl) (by kernel_rfl) (by kernel_rfl)) ?_
  intro W base args ds gs before hval0 hW hcnd _
  have hval : ∀ (j : Nat) t v, Try.f8.params[j]? = some t → args[j]? = some v → Value.okWide Try.prog W .any base t v := hval0
  have hW' := hW
  obtain ⟨p, q, hA0, hV, rfl, hfz, hnd⟩ := hW
  have hA : DataW.TrodAll enc Try.prog W 0 (fun _ => true) true Try.f8.params.toList args.toList ds p := hA0
  rw [Try.params8] at hA hval
  obtain ⟨v0, vs0, d0, ds0, p0, q0, hargs, rfl, rfl, h0, r0⟩ := trodAll_cons hA
  obtain ⟨v1, vs1, d1, ds1, p1, q1, rfl, rfl, rfl, h1, r1⟩ := trodAll_cons r0
  obtain ⟨v2, vs2, d2, ds2, p2, q2, rfl, rfl, rfl, h2, r2⟩ := trodAll_cons r1
  obtain ⟨v3, vs3, d3, ds3, p3, q3, rfl, rfl, rfl, h3, r3⟩ := trodAll_cons r2
  obtain ⟨rfl, rfl, rfl⟩ := trodAll_nil r3
  obtain rfl : args = #[v0, v1, v2, v3] := by cases args; simp_all
  obtain ⟨rfl, rfl⟩ := trodVars_none hV
  obtain ⟨x0, e0, k0, m0⟩ := open_vecs (hval 0 59 v0 rfl rfl) h0
  obtain ⟨x1a, x1b, e1, k1a, k1b⟩ := open_box (hval 1 24 v1 rfl rfl) h1
  obtain ⟨x2a, x2b, e2, k2a, k2b⟩ := open_box (hval 2 24 v2 rfl rfl) h2
  obtain ⟨x3, e3, k3, m3⟩ := open_u16 (hval 3 48 v3 rfl rfl) h3
  unfold maxLen at *
  refine ((f8 x0 x1a x1b x2a x2b x3 (by omega) (fun i => by have := m0 i; omega) (by omega) (fun i => by have := m3 i; omega) _).calls W #[v0, v1, v2, v3] ⟨e0, e1, e2, e3, trivial⟩).mono fun e W' ⟨v, r, C', he, hv, ⟨hr, _⟩, hb⟩ => ?_
  subst he; subst hr
  obtain rfl : v = .bool true := hv
  exact ⟨_, rfl, post_of_below (pa := _) (pv := []) hW' (fun _ _ _ => trodAll_mk1 (shut_bool Try.underlying4 _)) (fun sp hsp => TrodAll.stays laidK (by decide +kernel) hA0 (fun x hx => hb.same (hW'.lt x (by simpa using hx))) (fun x hx => hsp x (by simpa using hx))) (fun _ _ => rfl) rfl hb
    (ok_one (by kernel_rfl) rfl (okWide_bool_mk Try.underlying4 _))⟩
theorem box_has_holds : Rows.BoxHasWhatItShouldSaid :=
  OpenClaim.holds_of_wide 8 Try.f8 rfl rfl rfl rfl rfl rfl rfl ⟨rfl, rfl, rfl, rfl, rfl⟩ rfl rfl rfl rfl rfl (by kernel_rfl) Try.func8 (by kernel_rfl)
    (of_decide_eq_true (by kernel_rfl)) (by unfold Func.isWrapper; first | (rw [if_pos (by decide +kernel)]; kernel_rfl) | (rw [if_neg (by decide +kernel)]; exact ⟨rfl, rfl⟩))
    (fun os started H enc _ => lifted8 os started H enc)
end Go.Proofs.Ytaiinpbaaeemmaa
