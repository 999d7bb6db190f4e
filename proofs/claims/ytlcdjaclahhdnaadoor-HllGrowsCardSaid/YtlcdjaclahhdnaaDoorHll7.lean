/- Constants of the chapter's example of layer 17; the contract of value.Number. -/
import Derived.Test.YtlcdjaclahhdnaaDoorHll6
namespace Go.Proofs.YtlcdjaclahhdnaaDoor
open Go.RowKit
set_option linter.unusedSimpArgs false
set_option linter.unusedVariables false

def one : Val := ⟨2, 1, 0, ⟨#[]⟩⟩
def two : Val := ⟨2, 2, 0, ⟨#[]⟩⟩
theorem one_z : 817403332367745024 / zOf (addR zeros64 one) = 46 := by decide +kernel
theorem one_z1 : 1 ≤ zOf (addR zeros64 one) := by decide +kernel
theorem one_n : zerosOf (addR zeros64 one) = 63 := by decide +kernel
theorem one_ne : addR zeros64 one ≠ zeros64 := by decide +kernel
theorem one_right : rightR (addR zeros64 one) = true := by decide +kernel
theorem one_byte : ∀ x ∈ addR zeros64 one, x < 256 := by decide +kernel
theorem one_two : hashV one ≠ hashV two := by decide +kernel
theorem one_ok : one.Ok := ⟨by decide, by decide, by decide, by decide⟩
theorem two_ok : two.Ok := ⟨by decide, by decide, by decide, by decide⟩

theorem number17_of (n : Int) (w : World) : Calls Tryd.prog 14 #[.int .i64 n] w fun e w' => e = .returned (.agg #[.int .i64 2, .int .i64 n, .float .f64 0, .string ⟨#[]⟩]) ∧ Ext w w' := by
  go_enter Tryd.func14, Tryd.ntmps14
  go_wp2_with fail
  refine back_cell rfl (Val.cells ⟨2, n, 0, ⟨#[]⟩⟩) rfl agg_val rfl ?_ ⟨rfl, ?_⟩
  · (simp only [At, Val.cells]; repeat (first | exact trivial | (refine ⟨?_, ?_⟩; focus go_simp)))
  · repeat (first | (with_reducible exact Ext.refl _) | (with_reducible refine Ext.set_ ?_ _ ?_; focus (first | (simp; done) | (simp; omega) | (simp at *; omega))) | (with_reducible refine Ext.alloc ?_ _) | (with_reducible refine Ext.drew ?_) | (with_reducible refine Ext.drewN ?_ _) | (with_reducible refine Ext.trans ?_ (by assumption)))
end Go.Proofs.YtlcdjaclahhdnaaDoor
