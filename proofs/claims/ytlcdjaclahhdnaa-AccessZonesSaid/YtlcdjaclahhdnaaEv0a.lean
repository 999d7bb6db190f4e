/- The call of expr.eval on an expression of no parts. -/
import Derived.Test.YtlcdjaclahhdnaaEv
import Derived.StillTailTactics
namespace Go.Proofs.Ytlcdjaclahhdnaa
open Go.RowKit
set_option linter.unusedSimpArgs false
set_option linter.unusedVariables false

theorem null_one : ∀ u ∈ nullCells, u.oneCell' = true := val_one Val.null

set_option maxRecDepth 100000 in
set_option maxHeartbeats 1000000 in
theorem eval_const (r c : Int) (v : Val) (A : Option Addr) (cap : Nat) (rv : Value) (w : World) :
    Calls Try.prog 86 #[.agg (exCells 2 r c v (.slice A 0 cap)).toArray, rv] w fun e w' => e = .returned v.enc ∧ Ext w w' := by
  unfold exCells
  go_enter Try.func86, Try.ntmps86
  go_wp2_with fail
  refine back_cell rfl (Val.cells v) rfl agg_val rfl ?_ ⟨rfl, ?_⟩
  · (simp only [At, Val.cells, Val.null, Val.number, Val.truth, Val.float]; repeat (first | exact trivial | (refine ⟨?_, ?_⟩; focus go_simp)))
  · repeat (first | (with_reducible exact Ext.refl _) | (with_reducible refine Ext.set_ ?_ _ ?_; focus (first | (simp; done) | (simp; omega) | (simp at *; omega))) | (with_reducible refine Ext.alloc ?_ _) | (with_reducible refine Ext.drew ?_) | (with_reducible refine Ext.drewN ?_ _) | (with_reducible refine Ext.trans ?_ (by assumption)))

end Go.Proofs.Ytlcdjaclahhdnaa
