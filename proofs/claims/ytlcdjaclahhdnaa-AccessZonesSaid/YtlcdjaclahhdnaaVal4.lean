/- The calls of value.Same, of the small makers of values, of what reckons. -/
import Derived.Test.YtlcdjaclahhdnaaVal3
namespace Go.Proofs.Ytlcdjaclahhdnaa
open Go.RowKit
set_option linter.unusedSimpArgs false
set_option linter.unusedVariables false

theorem cmp_of (a b : Val) (w : World) (ha : a.flt < 18446744073709551616) (hb : b.flt < 18446744073709551616) :
    Calls Try.prog 22 #[.agg #[.int .i64 a.kind, .int .i64 a.int, .float .f64 a.flt, .string a.text], .agg #[.int .i64 b.kind, .int .i64 b.int, .float .f64 b.flt, .string b.text]] w
      fun e w' => e = .returned (.int .i64 (a.cmp b)) ∧ Ext w w' := cmp_core a b _ _ w ha hb (Lib.hid rfl) (Lib.hid rfl)

def Val.number (n : Int) : Val := ⟨2, n, 0, ⟨#[]⟩⟩
def Val.truth (b : Bool) : Val := ⟨1, if b = true then 1 else 0, 0, ⟨#[]⟩⟩
def Val.float (x : Nat) : Val := ⟨3, 0, x, ⟨#[]⟩⟩
def Val.same (a b : Val) : Bool := a.cmp b == 0
set_option maxHeartbeats 400000 in
theorem same_of (a b : Val) (w : World) (ha : a.flt < 18446744073709551616) (hb : b.flt < 18446744073709551616) :
    Calls Try.prog 24 #[.agg #[.int .i64 a.kind, .int .i64 a.int, .float .f64 a.flt, .string a.text], .agg #[.int .i64 b.kind, .int .i64 b.int, .float .f64 b.flt, .string b.text]] w
      fun e w' => e = .returned (.bool (a.same b)) ∧ Ext w w' := by
  go_enter Try.func24, Try.ntmps24
  go_wp2_with (go_at_call 22; refine (cmp_of a b _ ha hb).mono ?_; rintro e w' ⟨rfl, hb⟩)
  go_ret
  exact ⟨rfl, by repeat (first | (with_reducible exact Ext.refl _) | (with_reducible refine Ext.set_ ?_ _ ?_; focus (first | (simp; done) | (simp; omega) | (simp at *; omega))) | (with_reducible refine Ext.alloc ?_ _) | (with_reducible refine Ext.drew ?_) | (with_reducible refine Ext.drewN ?_ _) | (with_reducible refine Ext.trans ?_ (by assumption)))⟩

set_option maxHeartbeats 400000 in
theorem number_of (n : Int) (w : World) : Calls Try.prog 53 #[.int .i64 n] w fun e w' => e = .returned (Val.number n).enc ∧ Ext w w' := by
  go_enter Try.func53, Try.ntmps53
  go_wp2
  refine back_cell Try.results53 (Val.number n).cells rfl agg_val rfl ?_ ⟨rfl, ?_⟩
  · simp [At, Val.cells, Val.number, go_sem]
  · repeat (first | (with_reducible exact Ext.refl _) | (with_reducible refine Ext.set_ ?_ _ ?_; focus (first | (simp; done) | (simp; omega) | (simp at *; omega))) | (with_reducible refine Ext.alloc ?_ _) | (with_reducible refine Ext.drew ?_) | (with_reducible refine Ext.drewN ?_ _) | (with_reducible refine Ext.trans ?_ (by assumption)))

set_option maxHeartbeats 400000 in
theorem truth_of (b : Bool) (w : World) : Calls Try.prog 65 #[.bool b] w fun e w' => e = .returned (Val.truth b).enc ∧ Ext w w' := by
  cases b
  all_goals
    go_enter Try.func65, Try.ntmps65
    go_wp2
  · refine back_cell Try.results65 (Val.truth false).cells rfl agg_val rfl ?_ ⟨rfl, ?_⟩
    · simp [At, Val.cells, Val.truth, go_sem]
    · repeat (first | (with_reducible exact Ext.refl _) | (with_reducible refine Ext.set_ ?_ _ ?_; focus (first | (simp; done) | (simp; omega) | (simp at *; omega))) | (with_reducible refine Ext.alloc ?_ _) | (with_reducible refine Ext.drew ?_) | (with_reducible refine Ext.drewN ?_ _) | (with_reducible refine Ext.trans ?_ (by assumption)))
  · refine back_cell Try.results65 (Val.truth true).cells rfl agg_val rfl ?_ ⟨rfl, ?_⟩
    · simp [At, Val.cells, Val.truth, go_sem]
    · repeat (first | (with_reducible exact Ext.refl _) | (with_reducible refine Ext.set_ ?_ _ ?_; focus (first | (simp; done) | (simp; omega) | (simp at *; omega))) | (with_reducible refine Ext.alloc ?_ _) | (with_reducible refine Ext.drew ?_) | (with_reducible refine Ext.drewN ?_ _) | (with_reducible refine Ext.trans ?_ (by assumption)))

def Val.numeric (v : Val) : Bool := v.right && (decide (v.kind ≠ 1) && decide (v.kind ≠ 4))
set_option maxHeartbeats 400000 in
theorem numeric_of (v : Val) (w : World) (hx : v.flt < 18446744073709551616) :
    Calls Try.prog 114 #[.agg #[.int .i64 v.kind, .int .i64 v.int, .float .f64 v.flt, .string v.text]] w fun e w' => e = .returned (.bool v.numeric) ∧ Ext w w' := by
  go_enter Try.func114, Try.ntmps114
  go_wp2_with (go_at_call 27; refine (right_of v _ hx).mono ?_; rintro e w' ⟨rfl, hb⟩; obtain ⟨c0, f0, l0⟩ := hb.at_ w.heap.size (by first | omega | (simp; done) | (simp; omega) | (simp at *; omega)))
  all_goals
    go_ret
    refine ⟨ret_bool ?_, ?_⟩
    · go_tidy; first | (simp_all [Val.numeric]; done) | (simp_all [Val.numeric]; rw [Bool.eq_iff_iff]; simp_all)
    · repeat (first | (with_reducible exact Ext.refl _) | (with_reducible refine Ext.set_ ?_ _ ?_; focus (first | (simp; done) | (simp; omega) | (simp at *; omega))) | (with_reducible refine Ext.alloc ?_ _) | (with_reducible refine Ext.drew ?_) | (with_reducible refine Ext.drewN ?_ _) | (with_reducible refine Ext.trans ?_ (by assumption)))
def Val.truthy (v : Val) : Bool := v.right && (decide (v.kind = 0) || decide (v.kind = 1))
set_option maxHeartbeats 400000 in
theorem truthy_of (v : Val) (w : World) (hx : v.flt < 18446744073709551616) :
    Calls Try.prog 117 #[.agg #[.int .i64 v.kind, .int .i64 v.int, .float .f64 v.flt, .string v.text]] w fun e w' => e = .returned (.bool v.truthy) ∧ Ext w w' := by
  go_enter Try.func117, Try.ntmps117
  go_wp2_with (go_at_call 27; refine (right_of v _ hx).mono ?_; rintro e w' ⟨rfl, hb⟩; obtain ⟨c0, f0, l0⟩ := hb.at_ w.heap.size (by first | omega | (simp; done) | (simp; omega) | (simp at *; omega)))
  all_goals
    go_ret
    refine ⟨ret_bool ?_, ?_⟩
    · go_tidy; first | (simp_all [Val.truthy]; done) | (simp_all [Val.truthy]; rw [Bool.eq_iff_iff]; simp_all)
    · repeat (first | (with_reducible exact Ext.refl _) | (with_reducible refine Ext.set_ ?_ _ ?_; focus (first | (simp; done) | (simp; omega) | (simp at *; omega))) | (with_reducible refine Ext.alloc ?_ _) | (with_reducible refine Ext.drew ?_) | (with_reducible refine Ext.drewN ?_ _) | (with_reducible refine Ext.trans ?_ (by assumption)))

def whole (op a b : Int) : Int := if op = 3 then wrap64 (a + b) else if op = 4 then wrap64 (a - b) else if op = 5 then wrap64 (a * b) else wrap64 (-a)
set_option maxHeartbeats 400000 in
theorem whole_of (op a b : Int) (w : World) : Calls Try.prog 115 #[.int .i64 op, .int .i64 a, .int .i64 b] w fun e w' => e = .returned (.int .i64 (whole op a b)) ∧ w = w' := by
  go_enter Try.func115, Try.ntmps115
  go_wp2
  all_goals
    go_ret
    refine ⟨ret_int ?_, rfl⟩
    go_tidy; simp_all [whole]

/-- What reckoning with floats comes to, in its one form. -/
def brokenBits (op : Int) (x y : Nat) : Option Nat :=
  if op = 3 then floatBits .add .f64 x y else if op = 4 then floatBits .sub .f64 x y else if op = 5 then floatBits .mul .f64 x y else some (Op.negFloat .f64 x)
def broken (op : Int) (x y : Nat) : Nat := match brokenBits op x y with | some r => plainF r | none => 9221120237041090561

theorem nan_cut (x y t : Nat) : isNaN (Question.cut (.nanBits .f64 x y) t) = true ∧ Question.cut (.nanBits .f64 x y) t < 18446744073709551616 := by
  have h : Question.cut (.nanBits .f64 x y) t = (t % 2) * 2 ^ 63 + 0x7ff0000000000000 + 1 + (t / 2) % (2 ^ 52 - 1) := rfl
  rw [h]
  have h1 : t % 2 < 2 := Nat.mod_lt _ (by decide)
  have h2 : t / 2 % (2 ^ 52 - 1) < 2 ^ 52 - 1 := Nat.mod_lt _ (by decide)
  generalize t % 2 = a at *
  generalize t / 2 % (2 ^ 52 - 1) = b at *
  unfold isNaN
  simp only [decide_eq_true_eq]
  constructor <;> omega
theorem run_float (op : BinOp) (hop : op = .add ∨ op = .sub ∨ op = .mul) (x y : Nat) : ∃ (R : World → Nat) (W : World → World), (∀ w, (binOp op 22 (.float .f64 x) (.float .f64 y)).run Try.prog w = .ok (.float .f64 (R w)) (W w)) ∧
    ∀ w, R w < 18446744073709551616 ∧ plainF (R w) = (match floatBits op .f64 x y with | some r => plainF r | none => 9221120237041090561) ∧ Ext w (W w) := by
  cases h : floatBits op .f64 x y with
  | some r =>
    have hw := floatBits_wf h
    have hr : r < 18446744073709551616 := by simpa [Lit.wf] using hw
    exact ⟨fun _ => r, fun w => w, fun w => run_float_arith w op _ .f64 x y r h, fun w => ⟨hr, rfl, Ext.refl w⟩⟩
  | none =>
    refine ⟨fun w => Question.cut (.nanBits .f64 x y) (w.tape w.drawn (.nanBits .f64 x y)), fun w => w.drew, fun w => ?_, fun w => ⟨(nan_cut x y _).2, ?_, (Ext.refl w).drew⟩⟩
    · unfold floatBits at h
      rcases hop with rfl | rfl | rfl <;> simp only at h <;> simp [binOp, Op.floatArith, h, choose, Sem.run, Question.forced] <;> rfl
    · simp only [plainF, (nan_cut x y _).1, if_true]
theorem neg_lt {x : Nat} (hx : x < 18446744073709551616) : Op.negFloat .f64 x < 18446744073709551616 := by
  show x ^^^ 2 ^ 63 < 2 ^ 64
  exact Nat.xor_lt_two_pow hx (by decide)
set_option maxHeartbeats 400000 in
theorem broken_of (op : Int) (x y : Nat) (w : World) (hx : x < 18446744073709551616) :
    Calls Try.prog 116 #[.int .i64 op, .float .f64 x, .float .f64 y] w fun e w' => ∃ r, e = .returned (.float .f64 r) ∧ r < 18446744073709551616 ∧ plainF r = broken op x y ∧ Ext w w' := by
  obtain ⟨R1, W1, h1, g1⟩ := run_float .add (.inl rfl) x y
  obtain ⟨R2, W2, h2, g2⟩ := run_float .sub (.inr (.inl rfl)) x y
  obtain ⟨R3, W3, h3, g3⟩ := run_float .mul (.inr (.inr rfl)) x y
  have G1 := Lib.hid g1; have G2 := Lib.hid g2; have G3 := Lib.hid g3
  clear g1 g2 g3
  by_cases o1 : op = 3
  · subst o1
    go_enter Try.func116, Try.ntmps116
    go_wp2
    go_ret
    exact ⟨_, rfl, (G1.out w).1, by simpa [broken, brokenBits] using (G1.out w).2.1, (G1.out w).2.2⟩
  by_cases o2 : op = 4
  · subst o2
    go_enter Try.func116, Try.ntmps116
    go_wp2
    go_ret
    exact ⟨_, rfl, (G2.out w).1, by simpa [broken, brokenBits] using (G2.out w).2.1, (G2.out w).2.2⟩
  by_cases o3 : op = 5
  · subst o3
    go_enter Try.func116, Try.ntmps116
    go_wp2
    go_ret
    exact ⟨_, rfl, (G3.out w).1, by simpa [broken, brokenBits] using (G3.out w).2.1, (G3.out w).2.2⟩
  have e1 : (op == 3) = false := by simpa using o1
  have e2 : (op == 4) = false := by simpa using o2
  have e3 : (op == 5) = false := by simpa using o3
  have ef : broken op x y = plainF (Op.negFloat .f64 x) := by simp [broken, brokenBits, o1, o2, o3]
  have EF := Lib.hid ef; clear ef
  go_enter Try.func116, Try.ntmps116
  go_wp2
  go_ret
  exact ⟨_, rfl, neg_lt hx, EF.out.symm, Ext.refl _⟩
end Go.Proofs.Ytlcdjaclahhdnaa
