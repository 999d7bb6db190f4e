/- The chapter's examples of layer 4 hold: the call of works. -/
import Derived.Test.YtlcdjaclahhdnaaPutV
import Derived.Test.YtlcdjaclahhdnaaVal7
import Derived.Laws.Bits64
namespace Go.Proofs.Ytlcdjaclahhdnaa
open Go.RowKit
set_option linter.unusedSimpArgs false
set_option linter.unusedVariables false

theorem fine_number (n : Int) : (Val.number n).right = true := (Val.right_iff _).2 (.int n)
theorem fine_truth (b : Bool) : (Val.truth b).right = true := (Val.right_iff _).2 (by cases b; exact .bool 0 (.inl rfl); exact .bool 1 (.inr rfl))
theorem fine_null : Val.null.right = true := (Val.right_iff _).2 .null
theorem fine_float (x : Nat) : (Val.float x).right = true := (Val.right_iff _).2 (.float x)

theorem w4_calc (w : World) : Calls Try.prog 63 #[.int .i64 3, .agg #[.int .i64 2, .int .i64 9223372036854775807, .float .f64 0, .string ⟨#[]⟩], .agg #[.int .i64 2, .int .i64 1, .float .f64 0, .string ⟨#[]⟩]] w
    fun e w' => e = .returned (.tuple #[.agg #[.int .i64 2, .int .i64 (-9223372036854775808), .float .f64 0, .string ⟨#[]⟩], .int .i64 0]) ∧ Ext w w' := by
  have h := calc2_of 3 (Val.number 9223372036854775807) (Val.number 1) w (by decide) (by decide) (by decide) (by decide)
  have e : Val.calc 3 (Val.number 9223372036854775807) (Val.number 1) = (Val.number (-9223372036854775808), 0) := by
    have h1 : (Val.number 9223372036854775807).numeric = true := by unfold Val.numeric; rw [fine_number]; decide
    have h2 : (Val.number 1).numeric = true := by unfold Val.numeric; rw [fine_number]; decide
    unfold Val.calc Val.calc2
    rw [h1, h2]
    have h3 : whole 3 9223372036854775807 1 = -9223372036854775808 := by decide +kernel
    simp [Val.number, h3]
  rw [e] at h
  exact h
theorem truthy_null : Val.null.truthy = true := by unfold Val.truthy; rw [fine_null]; decide
theorem truthy_truth (b : Bool) : (Val.truth b).truthy = true := by unfold Val.truthy; rw [fine_truth]; cases b <;> decide
theorem w4_and (w : World) : Calls Try.prog 64 #[.int .i64 10, .agg #[.int .i64 0, .int .i64 0, .float .f64 0, .string ⟨#[]⟩], .agg #[.int .i64 1, .int .i64 0, .float .f64 0, .string ⟨#[]⟩]] w
    fun e w' => e = .returned (.tuple #[.agg #[.int .i64 1, .int .i64 0, .float .f64 0, .string ⟨#[]⟩], .int .i64 0]) ∧ Ext w w' := by
  have h := both_of 10 Val.null (Val.truth false) w (by decide) (by decide) (by decide)
  have e : Val.both 10 Val.null (Val.truth false) = (Val.truth false, 0) := by
    unfold Val.both Val.both2; rw [truthy_null, truthy_truth]; rfl
  rw [e] at h
  exact h
theorem w4_or (w : World) : Calls Try.prog 64 #[.int .i64 11, .agg #[.int .i64 0, .int .i64 0, .float .f64 0, .string ⟨#[]⟩], .agg #[.int .i64 1, .int .i64 0, .float .f64 0, .string ⟨#[]⟩]] w
    fun e w' => e = .returned (.tuple #[.agg #[.int .i64 0, .int .i64 0, .float .f64 0, .string ⟨#[]⟩], .int .i64 0]) ∧ Ext w w' := by
  have h := both_of 11 Val.null (Val.truth false) w (by decide) (by decide) (by decide)
  have e : Val.both 11 Val.null (Val.truth false) = (Val.null, 0) := by
    unfold Val.both Val.both2; rw [truthy_null, truthy_truth]; rfl
  rw [e] at h
  exact h
theorem cmp_float (x y : Nat) (w : World) (hx : x < 18446744073709551616) (hy : y < 18446744073709551616) :
    Calls Try.prog 22 #[.agg #[.int .i64 3, .int .i64 0, .float .f64 x, .string ⟨#[]⟩], .agg #[.int .i64 3, .int .i64 0, .float .f64 y, .string ⟨#[]⟩]] w
    fun e w' => e = .returned (.int .i64 (fcmp (plainF x) (plainF y))) ∧ Ext w w' := by
  have h := cmp_of (Val.float x) (Val.float y) w hx hy
  have e : (Val.float x).cmp (Val.float y) = fcmp (plainF x) (plainF y) := by
    have h1 : ∀ x, (Val.float x).plain = Val.float (plainF x) := fun x => by unfold Val.plain; rw [if_pos (fine_float x)]; rfl
    unfold Val.cmp; rw [h1, h1]; simp [Val.float]
  rw [e] at h
  exact h
theorem w4_cmp1 (w : World) : Calls Try.prog 22 #[(Val.float 9223372036854775808).enc, (Val.float 0).enc] w fun e w' => e = .returned (.int .i64 0) ∧ Ext w w' := by
  have h := cmp_float 9223372036854775808 0 w (by decide) (by decide)
  have e1 : fcmp (plainF 9223372036854775808) (plainF 0) = 0 := by decide +kernel
  rw [e1] at h; exact h
theorem w4_cmp2 (w : World) : Calls Try.prog 22 #[(Val.float 9218868437227405312).enc, (Val.float 9221120237041090561).enc] w fun e w' => e = .returned (.int .i64 (-1)) ∧ Ext w w' := by
  have h := cmp_float 9218868437227405312 9221120237041090561 w (by decide) (by decide)
  have e2 : fcmp (plainF 9218868437227405312) (plainF 9221120237041090561) = -1 := by decide +kernel
  rw [e2] at h; exact h
set_option maxHeartbeats 400000 in
theorem float_of (x : Nat) (w : World) : Calls Try.prog 66 #[.float .f64 x] w fun e w' => e = .returned (Val.float x).enc ∧ Ext w w' := by
  go_enter Try.func66, Try.ntmps66
  go_wp2
  refine back_cell Try.results66 (Val.float x).cells rfl agg_val rfl ?_ ⟨rfl, ?_⟩
  · (simp only [At, Val.cells, Val.null, Val.number, Val.truth, Val.float]; repeat (first | exact trivial | (refine ⟨?_, ?_⟩; focus go_simp)))
  · repeat (first | (with_reducible exact Ext.refl _) | (with_reducible refine Ext.set_ ?_ _ ?_; focus (first | (simp; done) | (simp; omega) | (simp at *; omega))) | (with_reducible refine Ext.alloc ?_ _) | (with_reducible refine Ext.drew ?_) | (with_reducible refine Ext.drewN ?_ _) | (with_reducible refine Ext.trans ?_ (by assumption)))
set_option maxHeartbeats 400000 in
theorem inf_of (w : World) : Calls Try.prog 68 #[.int .i64 1] w fun e w' => e = .returned (.float .f64 9218868437227405312) ∧ w = w' := by
  have h1 := @call_frombits
  go_enter Try.func68, Try.ntmps68
  go_wp2
  go_ret
  exact ⟨rfl, rfl⟩
set_option maxHeartbeats 400000 in
theorem nan_of (w : World) : Calls Try.prog 69 #[] w fun e w' => e = .returned (.float .f64 9221120237041090561) ∧ w = w' := by
  have h1 := @call_frombits
  go_enter Try.func69, Try.ntmps69
  go_wp2
  go_ret
  exact ⟨rfl, rfl⟩
set_option maxHeartbeats 400000 in
theorem copysign_of (w : World) : Calls Try.prog 67 #[.float .f64 0, .float .f64 13830554455654793216] w fun e w' => e = .returned (.float .f64 9223372036854775808) ∧ w = w' := by
  have h1 := @call_frombits
  have h2 := @call_bits
  go_enter Try.func67, Try.ntmps67
  go_wp2
  go_ret
  refine ⟨?_, rfl⟩
  have e : (bits BinOp.or IntKind.u64 (bits BinOp.andNot IntKind.u64 0 9223372036854775808) (bits BinOp.and IntKind.u64 13830554455654793216 9223372036854775808)).toNat = 9223372036854775808 := by decide +kernel
  show Ending.returned (Value.float FloatKind.f64 _) = _
  rw [e]

set_option maxHeartbeats 1000000 in
theorem works4 (w : World) : Calls Try.prog 21 #[] w fun e w' => e = .returned (.bool true) ∧ Ext w w' := by
  go_enter Try.func21, Try.ntmps21
  go_wp2_with fail
  refine (number_of _ _).mono ?_
  rintro e w1 ⟨rfl, hb1⟩
  go_wp2_with fail
  refine (number_of _ _).mono ?_
  rintro e w2 ⟨rfl, hb2⟩
  go_wp2_with fail
  refine (w4_calc _).mono ?_
  rintro e w3 ⟨rfl, hb3⟩
  go_wp2_with fail
  refine (truth_of false _).mono ?_
  rintro e w4 ⟨rfl, hb4⟩
  obtain ⟨ca, fa, la⟩ := hb4.at_ w3.heap.size (by first | omega | (simp; done) | (simp; omega) | (simp at *; omega))
  go_wp2_with fail
  refine (w4_and _).mono ?_
  rintro e w5 ⟨rfl, hb5⟩
  obtain ⟨ca, fa, la⟩ := hb5.at_ w3.heap.size (by first | omega | (simp; done) | (simp; omega) | (simp at *; omega))
  go_wp2_with fail
  refine (truth_of false _).mono ?_
  rintro e w6 ⟨rfl, hb6⟩
  obtain ⟨ca, fa, la⟩ := hb6.at_ w3.heap.size (by first | omega | (simp; done) | (simp; omega) | (simp at *; omega))
  obtain ⟨cb, fb, lb⟩ := hb6.at_ w5.heap.size (by first | omega | (simp; done) | (simp; omega) | (simp at *; omega))
  go_wp2_with fail
  refine (w4_or _).mono ?_
  rintro e w7 ⟨rfl, hb7⟩
  obtain ⟨ca, fa, la⟩ := hb7.at_ w3.heap.size (by first | omega | (simp; done) | (simp; omega) | (simp at *; omega))
  obtain ⟨cb, fb, lb⟩ := hb7.at_ w5.heap.size (by first | omega | (simp; done) | (simp; omega) | (simp at *; omega))
  go_wp2_with fail
  refine (copysign_of _).mono ?_
  rintro e w8 ⟨rfl, rfl⟩
  go_wp2_with fail
  refine (float_of _ _).mono ?_
  rintro e w9 ⟨rfl, hb9⟩
  obtain ⟨ca, fa, la⟩ := hb9.at_ w3.heap.size (by first | omega | (simp; done) | (simp; omega) | (simp at *; omega))
  obtain ⟨cb, fb, lb⟩ := hb9.at_ w5.heap.size (by first | omega | (simp; done) | (simp; omega) | (simp at *; omega))
  obtain ⟨cc, fc, lc⟩ := hb9.at_ w7.heap.size (by first | omega | (simp; done) | (simp; omega) | (simp at *; omega))
  go_wp2_with fail
  refine (float_of _ _).mono ?_
  rintro e w10 ⟨rfl, hb10⟩
  obtain ⟨ca, fa, la⟩ := hb10.at_ w3.heap.size (by first | omega | (simp; done) | (simp; omega) | (simp at *; omega))
  obtain ⟨cb, fb, lb⟩ := hb10.at_ w5.heap.size (by first | omega | (simp; done) | (simp; omega) | (simp at *; omega))
  obtain ⟨cc, fc, lc⟩ := hb10.at_ w7.heap.size (by first | omega | (simp; done) | (simp; omega) | (simp at *; omega))
  go_wp2_with fail
  refine (w4_cmp1 _).mono ?_
  rintro e w11 ⟨rfl, hb11⟩
  obtain ⟨ca, fa, la⟩ := hb11.at_ w3.heap.size (by first | omega | (simp; done) | (simp; omega) | (simp at *; omega))
  obtain ⟨cb, fb, lb⟩ := hb11.at_ w5.heap.size (by first | omega | (simp; done) | (simp; omega) | (simp at *; omega))
  obtain ⟨cc, fc, lc⟩ := hb11.at_ w7.heap.size (by first | omega | (simp; done) | (simp; omega) | (simp at *; omega))
  go_wp2_with fail
  refine (inf_of _).mono ?_
  rintro e w12 ⟨rfl, rfl⟩
  go_wp2_with fail
  refine (float_of _ _).mono ?_
  rintro e w13 ⟨rfl, hb13⟩
  obtain ⟨ca, fa, la⟩ := hb13.at_ w3.heap.size (by first | omega | (simp; done) | (simp; omega) | (simp at *; omega))
  obtain ⟨cb, fb, lb⟩ := hb13.at_ w5.heap.size (by first | omega | (simp; done) | (simp; omega) | (simp at *; omega))
  obtain ⟨cc, fc, lc⟩ := hb13.at_ w7.heap.size (by first | omega | (simp; done) | (simp; omega) | (simp at *; omega))
  go_wp2_with fail
  refine (nan_of _).mono ?_
  rintro e w14 ⟨rfl, rfl⟩
  go_wp2_with fail
  refine (float_of _ _).mono ?_
  rintro e w15 ⟨rfl, hb15⟩
  obtain ⟨ca, fa, la⟩ := hb15.at_ w3.heap.size (by first | omega | (simp; done) | (simp; omega) | (simp at *; omega))
  obtain ⟨cb, fb, lb⟩ := hb15.at_ w5.heap.size (by first | omega | (simp; done) | (simp; omega) | (simp at *; omega))
  obtain ⟨cc, fc, lc⟩ := hb15.at_ w7.heap.size (by first | omega | (simp; done) | (simp; omega) | (simp at *; omega))
  go_wp2_with fail
  refine (w4_cmp2 _).mono ?_
  rintro e w16 ⟨rfl, hb16⟩
  obtain ⟨ca, fa, la⟩ := hb16.at_ w3.heap.size (by first | omega | (simp; done) | (simp; omega) | (simp at *; omega))
  obtain ⟨cb, fb, lb⟩ := hb16.at_ w5.heap.size (by first | omega | (simp; done) | (simp; omega) | (simp at *; omega))
  obtain ⟨cc, fc, lc⟩ := hb16.at_ w7.heap.size (by first | omega | (simp; done) | (simp; omega) | (simp at *; omega))
  go_wp2_with fail
  go_ret
  refine ⟨rfl, ?_⟩
  repeat (first | (with_reducible exact Ext.refl _) | (with_reducible refine Ext.set_ ?_ _ ?_; focus (first | (simp; done) | (simp; omega) | (simp at *; omega))) | (with_reducible refine Ext.alloc ?_ _) | (with_reducible refine Ext.drew ?_) | (with_reducible refine Ext.drewN ?_ _) | (with_reducible refine Ext.trans ?_ (by assumption)))
end Go.Proofs.Ytlcdjaclahhdnaa
