/- The calls of value.Cmp and value.Same, and of the small makers of values. -/
import Derived.Test.YtlcdjaclahhdnaaDoorVal2
namespace Go.Proofs.YtlcdjaclahhdnaaDoor
open Go.RowKit
set_option linter.unusedSimpArgs false
set_option linter.unusedVariables false

theorem right_of (v : Val) (w : World) (hx : v.flt < 18446744073709551616) :
    Calls Tryd.prog 17 #[.agg #[.int .i64 v.kind, .int .i64 v.int, .float .f64 v.flt, .string v.text]] w fun e w' => e = .returned (.bool v.right) ∧ Ext w w' := right_calls v.kind v.int v.flt v.text w hx
theorem plain_of (v : Val) (w : World) (hx : v.flt < 18446744073709551616) :
    Calls Tryd.prog 6 #[.agg #[.int .i64 v.kind, .int .i64 v.int, .float .f64 v.flt, .string v.text]] w fun e w' => e = .returned v.plain.enc ∧ Ext w w' := plain_calls v.kind v.int v.flt v.text w hx

theorem Val.plain_flt {v : Val} (hx : v.flt < 18446744073709551616) : v.plain.flt < 18446744073709551616 := by
  unfold Val.plain; split
  · split
    · exact plainF_lt hx
    · exact hx
  · decide

end Go.Proofs.YtlcdjaclahhdnaaDoor
