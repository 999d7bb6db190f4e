/- The row of ExprSides. -/
import Derived.Test.YtlcdjaclahhdnaaOpenX
import Derived.Test.YtlcdjaclahhdnaaSidesL
namespace Go.Proofs.Ytlcdjaclahhdnaa.exprSides
open Go.RowKit Go.ChangeShapes Go.WideShapes Go.ChangeAt
set_option linter.unusedSimpArgs false
set_option linter.unusedVariables false

set_option maxRecDepth 100000 in
theorem lifted (os : Os) (started : os.Started) (H : Type) (enc : TypeId × Value → H) :
    ReturnsInHanded {} Try.checked os 9 .any (Rows.exprSidesSpec.pre6 enc Try.prog Try.f9 Rows.exprSidesRow.domain false) (Rows.exprSidesSpec.post enc Try.prog Try.f9 false true false false) := by
  refine returnsInHanded_of_change (C := Try.checked) own started (by kernel_rfl) Try.func9
    (ChangeSpec.witness6 (enc := enc) (C := Try.checked) false ⟨#[], #[.agg #[.int .i64 0, .int .i64 0, .int .i64 0, .int .i64 0, .int .i64 0, .float .f64 0, .string ⟨#[]⟩, .slice none 0 0], .agg #[.int .i64 0, .int .i64 0, .int .i64 0, .int .i64 0, .int .i64 0, .float .f64 0, .string ⟨#[]⟩, .slice none 0 0], .int .u32 0, .int .u32 0], []⟩ 8 (by kernel_rfl) (by kernel_rfl) (by kernel_rfl) (by kernel_rfl)) ?_
  intro W base args ds gs before hval0 hW hcnd _
  have hval : ∀ (j : Nat) t v, Try.f9.params[j]? = some t → args[j]? = some v → Value.okWide Try.prog W .any base t v := hval0
  have hW' := hW
  obtain ⟨p, q, hA0, hV, rfl, hfz, hnd⟩ := hW
  have hA : DataW.TrodAll enc Try.prog W 0 (fun _ => true) true Try.f9.params.toList args.toList ds p := hA0
  rw [Try.params9] at hA hval
  obtain ⟨v0, v1, v2, v3, d0, d1, d2, d3, p0, p1, p2, p3, rfl, rfl, rfl, h0, h1, h2, h3⟩ := trodAll_four hA
  obtain ⟨rfl, rfl⟩ := trodVars_none hV
  obtain ⟨e, se, rfl, hine⟩ := open_ex (hval 0 _ _ rfl rfl) h0
  obtain ⟨f, sf, rfl, hinf⟩ := open_ex (hval 1 _ _ rfl rfl) h1
  obtain ⟨m1, k1, -, -, w1⟩ := open_int Try.underlying60 (hval 2 _ _ rfl rfl) h2
  obtain ⟨m2, k2, -, -, w2⟩ := open_int Try.underlying60 (hval 3 _ _ rfl rfl) h3
  subst k1 k2
  obtain ⟨a1, b1⟩ := bounds_u32 w1
  obtain ⟨a2, b2⟩ := bounds_u32 w2
  obtain ⟨n1, rfl⟩ := Int.eq_ofNat_of_zero_le a1
  obtain ⟨n2, rfl⟩ := Int.eq_ofNat_of_zero_le a2
  refine (sides_walk e f se sf n1 n2 W hine hinf (by omega) (by omega)).mono fun e W' ⟨he, hE⟩ => ?_
  subst he
  exact ⟨_, rfl, hE.post hW' rfl rfl rfl (by rw [Try.params9]; decide +kernel)⟩

theorem proved : Rows.ExprSidesSaid :=
  OpenClaim.holds_of_wide 9 Try.f9 rfl rfl rfl rfl rfl rfl rfl ⟨rfl, rfl, rfl, rfl, rfl⟩ rfl rfl rfl rfl rfl (by kernel_rfl) Try.func9 (by kernel_rfl)
    (of_decide_eq_true (by kernel_rfl)) (by unfold Func.isWrapper; first | (rw [if_pos (by decide +kernel)]; kernel_rfl) | (rw [if_neg (by decide +kernel)]; exact ⟨rfl, rfl⟩))
    (fun os started H enc _ => lifted os started H enc)
end Go.Proofs.Ytlcdjaclahhdnaa.exprSides
