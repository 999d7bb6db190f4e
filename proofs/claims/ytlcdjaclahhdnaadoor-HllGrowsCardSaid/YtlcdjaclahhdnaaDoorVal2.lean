/- The calls of value.Plain, the comparisons, value.Cmp, value.Same. -/
import Derived.Test.YtlcdjaclahhdnaaDoorVal
namespace Go.Proofs.YtlcdjaclahhdnaaDoor
open Go.RowKit
set_option linter.unusedSimpArgs false
set_option linter.unusedVariables false

def isZ (x : Nat) : Bool := decide (x = 0 ∨ x = 9223372036854775808)
/-- A float in its one form. -/
def plainF (x : Nat) : Nat := if isNaN x = true then 9221120237041090561 else if isZ x = true then 0 else x
def Val.plain (v : Val) : Val := if v.right = true then (if v.kind = 3 then { v with flt := plainF v.flt } else v) else Val.null

theorem plainF_lt {x : Nat} (hx : x < 18446744073709551616) : plainF x < 18446744073709551616 := by
  unfold plainF; split
  · decide
  · split
    · decide
    · exact hx

set_option maxHeartbeats 400000 in
theorem plain_no (k n : Int) (x : Nat) (s : ByteArray) (w : World) (hx : x < 18446744073709551616) (hr : Val.right ⟨k, n, x, s⟩ = false) :
    Calls Tryd.prog 6 #[.agg #[.int .i64 k, .int .i64 n, .float .f64 x, .string s]] w fun e w' => e = .returned Val.null.enc ∧ Ext w w' := by
  go_enter Tryd.func6, Tryd.ntmps6
  go_wp2_with (go_at_call 17; refine (right_calls _ _ _ _ _ hx).mono ?_; rintro e w' ⟨rfl, hb⟩; obtain ⟨c0, f0, l0⟩ := hb.at_ w.heap.size (by first | omega | (simp; done) | (simp; omega) | (simp at *; omega)); obtain ⟨c1, f1, l1⟩ := hb.at_ (w.heap.size + 1) (by first | omega | (simp; done) | (simp; omega) | (simp at *; omega)))
  refine back_cell Tryd.results6 (Val.null.cells) rfl agg_val rfl ?_ ⟨rfl, ?_⟩
  · simp [At, Val.cells, Val.null, go_sem, c1]
  · repeat (first | (with_reducible exact Ext.refl _) | (with_reducible refine Ext.set_ ?_ _ ?_; focus (first | (simp; done) | (simp; omega) | (simp at *; omega))) | (with_reducible refine Ext.alloc ?_ _) | (with_reducible refine Ext.drew ?_) | (with_reducible refine Ext.drewN ?_ _) | (with_reducible refine Ext.trans ?_ (by assumption)))

set_option maxHeartbeats 400000 in
theorem plain_yes (k n : Int) (x : Nat) (s : ByteArray) (w : World) (hx : x < 18446744073709551616) (hr : Val.right ⟨k, n, x, s⟩ = true) :
    Calls Tryd.prog 6 #[.agg #[.int .i64 k, .int .i64 n, .float .f64 x, .string s]] w fun e w' => e = .returned (Val.enc ⟨k, n, if k = 3 then plainF x else x, s⟩) ∧ Ext w w' := by
  have h1 := @call_frombits
  have ho := order_zero hx
  by_cases hk : k = 3
  · subst hk
    simp only [if_true]
    cases hn : isNaN x
    · cases hz : isZ x
      all_goals
        have hq : (FloatKind.f64.format.order x 0 == some .eq) = isZ x := ho
        rw [hz] at hq
        clear ho
        go_enter Tryd.func6, Tryd.ntmps6
        go_wp2_with (first | (go_at_call 17; refine (right_calls _ _ _ _ _ hx).mono ?_; rintro e w' ⟨rfl, hb⟩; obtain ⟨c0, f0, l0⟩ := hb.at_ w.heap.size (by first | omega | (simp; done) | (simp; omega) | (simp at *; omega)); obtain ⟨c1, f1, l1⟩ := hb.at_ (w.heap.size + 1) (by first | omega | (simp; done) | (simp; omega) | (simp at *; omega))) | (go_at_call 18; refine (isnan_calls _ _ hx).mono ?_; rintro e w' ⟨rfl, rfl⟩))
        refine back_cell Tryd.results6 (Val.cells ⟨3, n, plainF x, s⟩) rfl agg_val rfl ?_ ⟨rfl, ?_⟩
        · simp [At, Val.cells, plainF, hn, hz, go_sem, c1]
        · repeat (first | (with_reducible exact Ext.refl _) | (with_reducible refine Ext.set_ ?_ _ ?_; focus (first | (simp; done) | (simp; omega) | (simp at *; omega))) | (with_reducible refine Ext.alloc ?_ _) | (with_reducible refine Ext.drew ?_) | (with_reducible refine Ext.drewN ?_ _) | (with_reducible refine Ext.trans ?_ (by assumption)))
    · clear ho
      go_enter Tryd.func6, Tryd.ntmps6
      go_wp2_with (first | (go_at_call 17; refine (right_calls _ _ _ _ _ hx).mono ?_; rintro e w' ⟨rfl, hb⟩; obtain ⟨c0, f0, l0⟩ := hb.at_ w.heap.size (by first | omega | (simp; done) | (simp; omega) | (simp at *; omega)); obtain ⟨c1, f1, l1⟩ := hb.at_ (w.heap.size + 1) (by first | omega | (simp; done) | (simp; omega) | (simp at *; omega))) | (go_at_call 18; refine (isnan_calls _ _ hx).mono ?_; rintro e w' ⟨rfl, rfl⟩))
      refine back_cell Tryd.results6 (Val.cells ⟨3, n, plainF x, s⟩) rfl agg_val rfl ?_ ⟨rfl, ?_⟩
      · simp [At, Val.cells, plainF, hn, go_sem, c1]
      · repeat (first | (with_reducible exact Ext.refl _) | (with_reducible refine Ext.set_ ?_ _ ?_; focus (first | (simp; done) | (simp; omega) | (simp at *; omega))) | (with_reducible refine Ext.alloc ?_ _) | (with_reducible refine Ext.drew ?_) | (with_reducible refine Ext.drewN ?_ _) | (with_reducible refine Ext.trans ?_ (by assumption)))
  · clear ho
    rw [if_neg hk]
    have hk' : (k == 3) = false := by simpa using hk
    go_enter Tryd.func6, Tryd.ntmps6
    go_wp2_with (go_at_call 17; refine (right_calls _ _ _ _ _ hx).mono ?_; rintro e w' ⟨rfl, hb⟩; obtain ⟨c0, f0, l0⟩ := hb.at_ w.heap.size (by first | omega | (simp; done) | (simp; omega) | (simp at *; omega)); obtain ⟨c1, f1, l1⟩ := hb.at_ (w.heap.size + 1) (by first | omega | (simp; done) | (simp; omega) | (simp at *; omega)))
    refine back_cell Tryd.results6 (Val.cells ⟨k, n, x, s⟩) rfl agg_val rfl ?_ ⟨rfl, ?_⟩
    · simp [At, Val.cells, go_sem, c1]
    · repeat (first | (with_reducible exact Ext.refl _) | (with_reducible refine Ext.set_ ?_ _ ?_; focus (first | (simp; done) | (simp; omega) | (simp at *; omega))) | (with_reducible refine Ext.alloc ?_ _) | (with_reducible refine Ext.drew ?_) | (with_reducible refine Ext.drewN ?_ _) | (with_reducible refine Ext.trans ?_ (by assumption)))

/-- value.Plain: the value's one form; a value that may not be is Null. -/
theorem plain_calls (k n : Int) (x : Nat) (s : ByteArray) (w : World) (hx : x < 18446744073709551616) :
    Calls Tryd.prog 6 #[.agg #[.int .i64 k, .int .i64 n, .float .f64 x, .string s]] w fun e w' => e = .returned (Val.plain ⟨k, n, x, s⟩).enc ∧ Ext w w' := by
  cases hr : Val.right ⟨k, n, x, s⟩
  · refine (plain_no k n x s w hx hr).mono ?_
    rintro e w' ⟨rfl, h⟩
    exact ⟨by simp [Val.plain, hr], h⟩
  · refine (plain_yes k n x s w hx hr).mono ?_
    rintro e w' ⟨rfl, h⟩
    refine ⟨?_, h⟩
    simp only [Val.plain, hr, if_true]
    split <;> rfl

end Go.Proofs.YtlcdjaclahhdnaaDoor
