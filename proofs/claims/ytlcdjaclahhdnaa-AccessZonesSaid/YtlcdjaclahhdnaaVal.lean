/- The calls of package value's small functions, and the plain functions that they compute. -/
import Derived.Test.YtlcdjaclahhdnaaBase
import Derived.Test.YtlcdjaclahhdnaaFloat
namespace Go.Proofs.Ytlcdjaclahhdnaa
open Go.RowKit

theorem ret_bool {a b : Bool} (h : a = b) : Ending.returned (.bool a) = .returned (.bool b) := by rw [h]
theorem ret_int {k : IntKind} {a b : Int} (h : a = b) : Ending.returned (.int k a) = .returned (.int k b) := by rw [h]

def Val.right (v : Val) : Bool :=
  if v.kind = 0 then decide (v.int = 0) && decide (v.flt = 0) && v.text.toList.isEmpty
  else if v.kind = 1 then (decide (v.int = 0) || decide (v.int = 1)) && decide (v.flt = 0) && v.text.toList.isEmpty
  else if v.kind = 2 then decide (v.flt = 0) && v.text.toList.isEmpty
  else if v.kind = 3 then decide (v.int = 0) && v.text.toList.isEmpty
  else if v.kind = 4 then decide (v.int = 0) && decide (v.flt = 0) && decide (v.text.size ≤ 64)
  else false

set_option maxHeartbeats 400000 in
theorem isnan_calls (x : Nat) (w : World) (hx : x < 18446744073709551616) :
    Calls Try.prog 77 #[.float .f64 x] w fun e w' => e = .returned (.bool (isNaN x)) ∧ w = w' := by
  rw [← isNaN_order hx]
  go_enter Try.func77, Try.ntmps77
  go_wp2
  go_ret
  exact ⟨rfl, rfl⟩

theorem sgn_wrap {x : Nat} (hx : x < 18446744073709551616) : decide (wrap64 (x : Int) < 0) = sgn x := by
  unfold wrap64 sgn
  rw [Bool.eq_iff_iff]; simp only [decide_eq_true_eq]; omega

set_option maxHeartbeats 400000 in
theorem signbit_calls (x : Nat) (w : World) (hx : x < 18446744073709551616) :
    Calls Try.prog 84 #[.float .f64 x] w fun e w' => e = .returned (.bool (sgn x)) ∧ w = w' := by
  have h1 := @call_bits
  have h2 := Lib.hid (sgn_wrap hx)
  go_enter Try.func84, Try.ntmps84
  go_wp2
  go_ret
  exact ⟨ret_bool h2.out, rfl⟩

/-- 'v.Float == 0 && !math.Signbit(v.Float)': the word is 0. -/
theorem right_zero (x : Nat) (hx : x < 18446744073709551616) :
    (x = 0 ∧ FloatKind.f64.format.order x 0 = some .eq ∧ sgn x = false) ∨ (x = 9223372036854775808 ∧ FloatKind.f64.format.order x 0 = some .eq ∧ sgn x = true) ∨
    (x ≠ 0 ∧ x ≠ 9223372036854775808 ∧ (FloatKind.f64.format.order x 0 = some .eq) = False) := by
  have h := order_zero hx
  by_cases h1 : x = 0
  · subst h1; exact .inl ⟨rfl, by simpa using h, by decide⟩
  · by_cases h2 : x = 9223372036854775808
    · subst h2; exact .inr (.inl ⟨rfl, by simpa using h, by decide⟩)
    · exact .inr (.inr ⟨h1, h2, by simpa [h1, h2] using h⟩)

set_option maxHeartbeats 1000000 in
theorem right_calls (k n : Int) (x : Nat) (s : ByteArray) (w : World) (hx : x < 18446744073709551616) :
    Calls Try.prog 27 #[.agg #[.int .i64 k, .int .i64 n, .float .f64 x, .string s]] w fun e w' => e = .returned (.bool (Val.right ⟨k, n, x, s⟩)) ∧ Ext w w' := by
  rcases right_zero x hx with ⟨rfl, h1, h2⟩ | ⟨rfl, h1, h2⟩ | ⟨h0, h00, h1⟩
  all_goals
    go_enter Try.func27, Try.ntmps27
    go_wp2_with (go_at_call 84; refine (signbit_calls _ _ hx).mono ?_; rintro e w' ⟨rfl, rfl⟩)
    all_goals
      go_ret
      refine ⟨ret_bool ?_, (Ext.refl _).alloc _⟩
      go_tidy
      simp_all [Val.right]
      try omega
end Go.Proofs.Ytlcdjaclahhdnaa
