/- The calls of value.Plain, the comparisons, value.Cmp, value.Same. -/
import Derived.Test.YtlcdjaclahhdnaaVal
namespace Go.Proofs.Ytlcdjaclahhdnaa
open Go.RowKit
set_option linter.unusedSimpArgs false
set_option linter.unusedVariables false

def isZ (x : Nat) : Bool := decide (x = 0 ∨ x = 9223372036854775808)
/-- A float in its one form. -/
def plainF (x : Nat) : Nat := if isNaN x = true then 9221120237041090561 else if isZ x = true then 0 else x
def Val.plain (v : Val) : Val := if v.right = true then (if v.kind = 3 then { v with flt := plainF v.flt } else v) else Val.null

theorem plainF_lt {x : Nat} (hx : x < 18446744073709551616) : plainF x < 18446744073709551616 := by
  unfold plainF; split
  · decide
  · split
    · decide
    · exact hx

set_option maxHeartbeats 400000 in
theorem plain_no (k n : Int) (x : Nat) (s : ByteArray) (w : World) (hx : x < 18446744073709551616) (hr : Val.right ⟨k, n, x, s⟩ = false) :
    Calls Try.prog 25 #[.agg #[.int .i64 k, .int .i64 n, .float .f64 x, .string s]] w fun e w' => e = .returned Val.null.enc ∧ Ext w w' := by
  go_enter Try.func25, Try.ntmps25
  go_wp2_with (go_at_call 27; refine (right_calls _ _ _ _ _ hx).mono ?_; rintro e w' ⟨rfl, hb⟩; obtain ⟨c0, f0, l0⟩ := hb.at_ w.heap.size (by first | omega | (simp; done) | (simp; omega) | (simp at *; omega)); obtain ⟨c1, f1, l1⟩ := hb.at_ (w.heap.size + 1) (by first | omega | (simp; done) | (simp; omega) | (simp at *; omega)))
  refine back_cell Try.results25 (Val.null.cells) rfl agg_val rfl ?_ ⟨rfl, ?_⟩
  · simp [At, Val.cells, Val.null, go_sem, c1]
  · repeat (first | (with_reducible exact Ext.refl _) | (with_reducible refine Ext.set_ ?_ _ ?_; focus (first | (simp; done) | (simp; omega) | (simp at *; omega))) | (with_reducible refine Ext.alloc ?_ _) | (with_reducible refine Ext.drew ?_) | (with_reducible refine Ext.drewN ?_ _) | (with_reducible refine Ext.trans ?_ (by assumption)))

set_option maxHeartbeats 400000 in
theorem plain_yes (k n : Int) (x : Nat) (s : ByteArray) (w : World) (hx : x < 18446744073709551616) (hr : Val.right ⟨k, n, x, s⟩ = true) :
    Calls Try.prog 25 #[.agg #[.int .i64 k, .int .i64 n, .float .f64 x, .string s]] w fun e w' => e = .returned (Val.enc ⟨k, n, if k = 3 then plainF x else x, s⟩) ∧ Ext w w' := by
  have h1 := @call_frombits
  have ho := order_zero hx
  by_cases hk : k = 3
  · subst hk
    simp only [if_true]
    cases hn : isNaN x
    · cases hz : isZ x
      all_goals
        have hq : (FloatKind.f64.format.order x 0 == some .eq) = isZ x := ho
        rw [hz] at hq
        clear ho
        go_enter Try.func25, Try.ntmps25
        go_wp2_with (first | (go_at_call 27; refine (right_calls _ _ _ _ _ hx).mono ?_; rintro e w' ⟨rfl, hb⟩; obtain ⟨c0, f0, l0⟩ := hb.at_ w.heap.size (by first | omega | (simp; done) | (simp; omega) | (simp at *; omega)); obtain ⟨c1, f1, l1⟩ := hb.at_ (w.heap.size + 1) (by first | omega | (simp; done) | (simp; omega) | (simp at *; omega))) | (go_at_call 77; refine (isnan_calls _ _ hx).mono ?_; rintro e w' ⟨rfl, rfl⟩))
        refine back_cell Try.results25 (Val.cells ⟨3, n, plainF x, s⟩) rfl agg_val rfl ?_ ⟨rfl, ?_⟩
        · simp [At, Val.cells, plainF, hn, hz, go_sem, c1]
        · repeat (first | (with_reducible exact Ext.refl _) | (with_reducible refine Ext.set_ ?_ _ ?_; focus (first | (simp; done) | (simp; omega) | (simp at *; omega))) | (with_reducible refine Ext.alloc ?_ _) | (with_reducible refine Ext.drew ?_) | (with_reducible refine Ext.drewN ?_ _) | (with_reducible refine Ext.trans ?_ (by assumption)))
    · clear ho
      go_enter Try.func25, Try.ntmps25
      go_wp2_with (first | (go_at_call 27; refine (right_calls _ _ _ _ _ hx).mono ?_; rintro e w' ⟨rfl, hb⟩; obtain ⟨c0, f0, l0⟩ := hb.at_ w.heap.size (by first | omega | (simp; done) | (simp; omega) | (simp at *; omega)); obtain ⟨c1, f1, l1⟩ := hb.at_ (w.heap.size + 1) (by first | omega | (simp; done) | (simp; omega) | (simp at *; omega))) | (go_at_call 77; refine (isnan_calls _ _ hx).mono ?_; rintro e w' ⟨rfl, rfl⟩))
      refine back_cell Try.results25 (Val.cells ⟨3, n, plainF x, s⟩) rfl agg_val rfl ?_ ⟨rfl, ?_⟩
      · simp [At, Val.cells, plainF, hn, go_sem, c1]
      · repeat (first | (with_reducible exact Ext.refl _) | (with_reducible refine Ext.set_ ?_ _ ?_; focus (first | (simp; done) | (simp; omega) | (simp at *; omega))) | (with_reducible refine Ext.alloc ?_ _) | (with_reducible refine Ext.drew ?_) | (with_reducible refine Ext.drewN ?_ _) | (with_reducible refine Ext.trans ?_ (by assumption)))
  · clear ho
    rw [if_neg hk]
    have hk' : (k == 3) = false := by simpa using hk
    go_enter Try.func25, Try.ntmps25
    go_wp2_with (go_at_call 27; refine (right_calls _ _ _ _ _ hx).mono ?_; rintro e w' ⟨rfl, hb⟩; obtain ⟨c0, f0, l0⟩ := hb.at_ w.heap.size (by first | omega | (simp; done) | (simp; omega) | (simp at *; omega)); obtain ⟨c1, f1, l1⟩ := hb.at_ (w.heap.size + 1) (by first | omega | (simp; done) | (simp; omega) | (simp at *; omega)))
    refine back_cell Try.results25 (Val.cells ⟨k, n, x, s⟩) rfl agg_val rfl ?_ ⟨rfl, ?_⟩
    · simp [At, Val.cells, go_sem, c1]
    · repeat (first | (with_reducible exact Ext.refl _) | (with_reducible refine Ext.set_ ?_ _ ?_; focus (first | (simp; done) | (simp; omega) | (simp at *; omega))) | (with_reducible refine Ext.alloc ?_ _) | (with_reducible refine Ext.drew ?_) | (with_reducible refine Ext.drewN ?_ _) | (with_reducible refine Ext.trans ?_ (by assumption)))

/-- value.Plain: the value's one form; a value that may not be is Null. -/
theorem plain_calls (k n : Int) (x : Nat) (s : ByteArray) (w : World) (hx : x < 18446744073709551616) :
    Calls Try.prog 25 #[.agg #[.int .i64 k, .int .i64 n, .float .f64 x, .string s]] w fun e w' => e = .returned (Val.plain ⟨k, n, x, s⟩).enc ∧ Ext w w' := by
  cases hr : Val.right ⟨k, n, x, s⟩
  · refine (plain_no k n x s w hx hr).mono ?_
    rintro e w' ⟨rfl, h⟩
    exact ⟨by simp [Val.plain, hr], h⟩
  · refine (plain_yes k n x s w hx hr).mono ?_
    rintro e w' ⟨rfl, h⟩
    refine ⟨?_, h⟩
    simp only [Val.plain, hr, if_true]
    split <;> rfl

def icmp (a b : Int) : Int := if a < b then -1 else if b < a then 1 else 0
set_option maxHeartbeats 400000 in
theorem cmp_int (a b : Int) (w : World) : Calls Try.prog 70 #[.int .i64 a, .int .i64 b] w fun e w' => e = .returned (.int .i64 (icmp a b)) ∧ w = w' := by
  go_enter Try.func70, Try.ntmps70
  go_wp2
  all_goals (go_ret; refine ⟨ret_int ?_, rfl⟩; go_tidy; simp_all [icmp])
  all_goals (try (split <;> omega))
set_option maxHeartbeats 400000 in
theorem cmp_int64 (a b : Int) (w : World) : Calls Try.prog 73 #[.int .i64 a, .int .i64 b] w fun e w' => e = .returned (.int .i64 (icmp a b)) ∧ w = w' := by
  go_enter Try.func73, Try.ntmps73
  go_wp2
  all_goals (go_ret; refine ⟨ret_int ?_, rfl⟩; go_tidy; simp_all [icmp])
  all_goals (try (split <;> omega))

def scmp (s t : ByteArray) : Int := if Op.bytesLess s.toList t.toList = true then -1 else if s.toList = t.toList then 0 else 1
set_option maxHeartbeats 400000 in
theorem cmp_string (s t : ByteArray) (w : World) : Calls Try.prog 72 #[.string s, .string t] w fun e w' => e = .returned (.int .i64 (scmp s t)) ∧ w = w' := by
  go_enter Try.func72, Try.ntmps72
  go_wp2
  all_goals (go_ret; refine ⟨ret_int ?_, rfl⟩; go_tidy; simp_all [scmp])

def fcmp (x y : Nat) : Int :=
  if isNaN x = true then (if isNaN y = true then 0 else 1) else if isNaN y = true then -1 else icmp (fkey x) (fkey y)
theorem order_lt {x y : Nat} (hx : x < 18446744073709551616) (hy : y < 18446744073709551616) (nx : isNaN x = false) (ny : isNaN y = false) :
    (FloatKind.f64.format.order x y == some .lt) = decide (fkey x < fkey y) ∧ (FloatKind.f64.format.order x y == some .gt) = decide (fkey y < fkey x) := by
  rw [order_key hx hy nx ny]
  rcases Int.lt_trichotomy (fkey x) (fkey y) with h | h | h
  · rw [cmp_lt h]; constructor <;> simp <;> omega
  · rw [cmp_eq h]; constructor <;> simp <;> omega
  · rw [cmp_gt h]; constructor <;> simp <;> omega
set_option maxHeartbeats 400000 in
theorem floats_calls (x y : Nat) (w : World) (hx : x < 18446744073709551616) (hy : y < 18446744073709551616) :
    Calls Try.prog 71 #[.float .f64 x, .float .f64 y] w fun e w' => e = .returned (.int .i64 (fcmp x y)) ∧ w = w' := by
  cases nx : isNaN x <;> cases ny : isNaN y
  · obtain ⟨h1, h2⟩ := order_lt hx hy nx ny
    go_enter Try.func71, Try.ntmps71
    go_wp2_with (go_at_call 77; refine (isnan_calls _ _ (by assumption)).mono ?_; rintro e w' ⟨rfl, rfl⟩)
    all_goals (go_ret; refine ⟨ret_int ?_, rfl⟩; go_tidy; simp_all [fcmp, icmp])
    all_goals (try (split <;> omega))
  all_goals
    go_enter Try.func71, Try.ntmps71
    go_wp2_with (go_at_call 77; refine (isnan_calls _ _ (by assumption)).mono ?_; rintro e w' ⟨rfl, rfl⟩)
    all_goals (go_ret; refine ⟨ret_int ?_, rfl⟩; go_tidy; simp_all [fcmp])

end Go.Proofs.Ytlcdjaclahhdnaa
