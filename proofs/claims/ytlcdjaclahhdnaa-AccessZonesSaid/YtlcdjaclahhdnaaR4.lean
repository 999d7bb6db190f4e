/- The calls of tabularyref04.zero, Right, Plain. -/
import Derived.Test.YtlcdjaclahhdnaaEv
import Derived.Test.YtlcdjaclahhdnaaLaw4
namespace Go.Proofs.Ytlcdjaclahhdnaa
open Go.RowKit
set_option linter.unusedSimpArgs false
set_option linter.unusedVariables false

theorem quo_pos (w : World) : (binOp .quo 22 (.float .f64 4607182418800017408) (.float .f64 0)).run Try.prog w = .ok (.float .f64 9218868437227405312) w :=
  run_float_arith w .quo _ .f64 4607182418800017408 0 9218868437227405312 (by decide +kernel)
theorem quo_neg (w : World) : (binOp .quo 22 (.float .f64 4607182418800017408) (.float .f64 9223372036854775808)).run Try.prog w = .ok (.float .f64 18442240474082181120) w :=
  run_float_arith w .quo _ .f64 4607182418800017408 9223372036854775808 18442240474082181120 (by decide +kernel)
set_option maxHeartbeats 1000000 in
theorem zero_of (x : Nat) (w : World) (hx : x < 18446744073709551616) :
    Calls Try.prog 91 #[.float .f64 x] w fun e w' => e = .returned (.bool (decide (x = 0))) ∧ w = w' := by
  have q1 := quo_pos
  have q2 := quo_neg
  have o1 : FloatKind.f64.format.order 9218868437227405312 0 = some .gt := by decide +kernel
  have o2 : FloatKind.f64.format.order 18442240474082181120 0 = some .lt := by decide +kernel
  rcases right_zero x hx with ⟨rfl, h1, h2⟩ | ⟨rfl, h1, h2⟩ | ⟨h0, h00, h1⟩
  · clear h2
    go_enter Try.func91, Try.ntmps91
    go_wp2
    go_ret
    refine ⟨ret_bool ?_, rfl⟩
    go_tidy
    simp_all
  · clear h2
    go_enter Try.func91, Try.ntmps91
    go_wp2
    go_ret
    refine ⟨ret_bool ?_, rfl⟩
    go_tidy
    simp_all
  · go_enter Try.func91, Try.ntmps91
    go_wp2
    go_ret
    refine ⟨ret_bool ?_, rfl⟩
    go_tidy
    simp_all
set_option maxHeartbeats 2000000 in
theorem rright_of (v : Val) (w : World) (hx : v.flt < 18446744073709551616) :
    Calls Try.prog 130 #[.agg #[.int .i64 v.kind, .int .i64 v.int, .float .f64 v.flt, .string v.text]] w fun e w' => e = .returned (.bool v.right) ∧ Ext w w' := by
  obtain ⟨k, n, x, s⟩ := v
  dsimp only at hx ⊢
  have hz := Lib.hid (fun w => zero_of x w hx)
  go_enter Try.func130, Try.ntmps130
  go_wp2_with (go_at_call 91; refine (hz.out _).mono ?_; rintro e w' ⟨rfl, rfl⟩)
  all_goals
    go_ret
    refine ⟨ret_bool ?_, (Ext.refl _).alloc _⟩
    go_tidy
    simp_all [Val.right]
    try omega
end Go.Proofs.Ytlcdjaclahhdnaa
