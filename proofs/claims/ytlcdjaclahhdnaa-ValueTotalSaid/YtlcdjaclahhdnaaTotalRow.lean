/- The row of ValueTotal. -/
import Derived.Test.YtlcdjaclahhdnaaRows
import Derived.Test.YtlcdjaclahhdnaaTotal
import Derived.Test.YtlcdjaclahhdnaaRowkit
namespace Go.Proofs.Ytlcdjaclahhdnaa.valueTotal
open Go.RowKit Go.ChangeShapes Go.WideShapes Go.ChangeAt
set_option linter.unusedSimpArgs false
set_option linter.unusedVariables false

set_option maxRecDepth 100000 in
theorem lifted (os : Os) (started : os.Started) (H : Type) (enc : TypeId × Value → H) :
    ReturnsInHanded {} Try.checked os 4 .any (Rows.valueTotalSpec.pre6 enc Try.prog Try.f4 Rows.valueTotalRow.domain false) (Rows.valueTotalSpec.post enc Try.prog Try.f4 false true false false) := by
  refine returnsInHanded_of_change (C := Try.checked) own started (by kernel_rfl) Try.func4
    (ChangeSpec.witness6 (enc := enc) (C := Try.checked) false ⟨#[], #[.agg #[.int .i64 0, .int .i64 0, .float .f64 0, .string ⟨#[]⟩], .agg #[.int .i64 0, .int .i64 0, .float .f64 0, .string ⟨#[]⟩], .agg #[.int .i64 0, .int .i64 0, .float .f64 0, .string ⟨#[]⟩]], []⟩ 8 (by kernel_rfl) (by kernel_rfl) (by kernel_rfl) (by kernel_rfl)) ?_
  intro W base args ds gs before hval0 hW hcnd _
  have hval : ∀ (j : Nat) t v, Try.f4.params[j]? = some t → args[j]? = some v → Value.okWide Try.prog W .any base t v := hval0
  have hW' := hW
  obtain ⟨p, q, hA0, hV, rfl, hfz, hnd⟩ := hW
  have hA : DataW.TrodAll enc Try.prog W 0 (fun _ => true) true Try.f4.params.toList args.toList ds p := hA0
  rw [Try.params4] at hA hval
  obtain ⟨v0, v1, v2, d0, d1, d2, p0, p1, p2, rfl, rfl, rfl, h0, h1, h2⟩ := trodAll_three hA
  obtain ⟨rfl, rfl⟩ := trodVars_none hV
  obtain ⟨a, ka, rfl, rfl, rfl⟩ := open_val (hval 0 _ _ rfl rfl) h0
  obtain ⟨b, kb, rfl, rfl, rfl⟩ := open_val (hval 1 _ _ rfl rfl) h1
  obtain ⟨c, kc, rfl, rfl, rfl⟩ := open_val (hval 2 _ _ rfl rfl) h2
  refine (total_walk a b c W ka kb kc).mono fun e W' ⟨he, hE⟩ => ?_
  subst he
  exact ⟨_, rfl, hE.post hW' rfl rfl rfl (by rw [Try.params4]; decide +kernel)⟩

theorem proved : Rows.ValueTotalSaid :=
  OpenClaim.holds_of_wide 4 Try.f4 rfl rfl rfl rfl rfl rfl rfl ⟨rfl, rfl, rfl, rfl, rfl⟩ rfl rfl rfl rfl rfl (by kernel_rfl) Try.func4 (by kernel_rfl)
    (of_decide_eq_true (by kernel_rfl)) (by unfold Func.isWrapper; first | (rw [if_pos (by decide +kernel)]; kernel_rfl) | (rw [if_neg (by decide +kernel)]; exact ⟨rfl, rfl⟩))
    (fun os started H enc _ => lifted os started H enc)
end Go.Proofs.Ytlcdjaclahhdnaa.valueTotal
