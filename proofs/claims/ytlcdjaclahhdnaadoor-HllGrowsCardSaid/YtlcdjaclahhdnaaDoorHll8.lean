/- The example of layer 17: the call of works. -/
import Derived.Test.YtlcdjaclahhdnaaDoorHll7
namespace Go.Proofs.YtlcdjaclahhdnaaDoor
open Go.RowKit
set_option linter.unusedSimpArgs false
set_option linter.unusedVariables false

set_option maxRecDepth 100000 in
theorem estimate0_of (w : World) : Calls Tryd.prog 15 #[.agg (bv zeros64).toArray] w fun e w' => e = .returned (.int .u64 0) ∧ Ext w w' := by
  have h0 := Lib.hid (RowB.new (w := w) rfl 32 _ rfl zeros64_len)
  go_enter Tryd.func15, Tryd.ntmps15
  go_wp2_with (first
    | (refine wpList_build32 rfl rfl ?_)
    | (refine wpList_wanted rfl fun K hK => wp_load32 _ rfl rfl h0.out (hK _ _ ?_))
    | (refine wpList_wanted rfl fun K hK => wp_eq32 (m := zeros64) _ _ _ rfl rfl rfl zeros64_len zeros64_len zeros64_byte zeros64_byte (hK _ _ ?_); rw [decide_eq_true rfl]))
  go_ret
  refine ⟨rfl, ?_⟩
  repeat (first | (with_reducible exact Ext.refl _) | (with_reducible refine Ext.set_ ?_ _ ?_; focus (first | (simp; done) | (simp; omega) | (simp at *; omega))) | (with_reducible refine Ext.alloc ?_ _) | (with_reducible refine Ext.drew ?_) | (with_reducible refine Ext.drewN ?_ _) | (with_reducible refine Ext.trans ?_ (by assumption)))
end Go.Proofs.YtlcdjaclahhdnaaDoor
