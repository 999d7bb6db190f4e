/- The calls of value.Calc, Test, Both. -/
import Derived.Test.YtlcdjaclahhdnaaVal4
namespace Go.Proofs.Ytlcdjaclahhdnaa
open Go.RowKit
set_option linter.unusedSimpArgs false
set_option linter.unusedVariables false

/-- Behind the sign: what is reckoned of two values. -/
def Val.calc2 (op : Int) (a b : Val) : Val × Int :=
  if a.numeric = true ∧ b.numeric = true then
    (if a.kind = 0 ∨ b.kind = 0 then (Val.null, 0)
     else if a.kind = b.kind then (if a.kind = 2 then (Val.number (whole op a.int b.int), 0) else (Val.float (broken op a.flt b.flt), 0))
     else (Val.null, 50))
  else (Val.null, 50)
def Val.calc (op : Int) (a b : Val) : Val × Int :=
  if op < 3 ∨ 6 < op then (Val.null, 2) else if op = 6 then Val.calc2 op a a else Val.calc2 op a b

theorem plain_float {r : Nat} {op : Int} {x y : Nat} (h : plainF r = broken op x y) : Val.plain ⟨3, 0, r, ⟨#[]⟩⟩ = Val.float (broken op x y) := by
  unfold Val.plain Val.right
  simp [h, Val.float]

theorem ret_pair {v v' : Val} {a b : Int} (h : (v, a) = (v', b)) : Ending.returned (.tuple #[v.enc, .int .i64 a]) = .returned (.tuple #[v'.enc, .int .i64 b]) := by
  simp only [Prod.mk.injEq] at h; rw [h.1, h.2]

set_option maxHeartbeats 400000 in
theorem calc_a (op : Int) (a b : Val) (w : World) (hfa : a.flt < 18446744073709551616) (hfb : b.flt < 18446744073709551616) (h1 : 3 ≤ op) (h2 : op < 6) (o6 : (op == 6) = false) (na : a.numeric = false) :
    Calls Try.prog 63 #[.int .i64 op, .agg #[.int .i64 a.kind, .int .i64 a.int, .float .f64 a.flt, .string a.text], .agg #[.int .i64 b.kind, .int .i64 b.int, .float .f64 b.flt, .string b.text]] w
      fun e w' => e = .returned (.tuple #[Val.null.enc, .int .i64 50]) ∧ Ext w w' := by
  go_enter Try.func63, Try.ntmps63
  go_wp2_with (first | (go_at_call 114; (first | (with_reducible refine (numeric_of a _ hfa).mono ?_) | (with_reducible refine (numeric_of b _ hfb).mono ?_)); rintro e w' ⟨rfl, hb⟩; obtain ⟨c0, f0, l0⟩ := hb.at_ w.heap.size (by first | omega | (simp; done) | (simp; omega) | (simp at *; omega)); obtain ⟨c1, f1, l1⟩ := hb.at_ (w.heap.size + 1) (by first | omega | (simp; done) | (simp; omega) | (simp at *; omega)); obtain ⟨c2, f2, l2⟩ := hb.at_ (w.heap.size + 2) (by first | omega | (simp; done) | (simp; omega) | (simp at *; omega))) | (go_at_call 115; refine (whole_of _ _ _ _).mono ?_; rintro e w' ⟨rfl, rfl⟩) | (go_at_call 116; refine (broken_of _ _ _ _ hfa).mono ?_; rintro e w' ⟨r, rfl, hr, hpl, hb⟩; obtain ⟨c0, f0, l0⟩ := hb.at_ w.heap.size (by first | omega | (simp; done) | (simp; omega) | (simp at *; omega)); obtain ⟨c1, f1, l1⟩ := hb.at_ (w.heap.size + 1) (by first | omega | (simp; done) | (simp; omega) | (simp at *; omega)); obtain ⟨c2, f2, l2⟩ := hb.at_ (w.heap.size + 2) (by first | omega | (simp; done) | (simp; omega) | (simp at *; omega)); have HP := Lib.hid hpl; clear hpl) | (go_at_call 53; refine (number_of _ _).mono ?_; rintro e w' ⟨rfl, hb⟩; obtain ⟨c0, f0, l0⟩ := hb.at_ w.heap.size (by first | omega | (simp; done) | (simp; omega) | (simp at *; omega)); obtain ⟨c1, f1, l1⟩ := hb.at_ (w.heap.size + 1) (by first | omega | (simp; done) | (simp; omega) | (simp at *; omega)); obtain ⟨c2, f2, l2⟩ := hb.at_ (w.heap.size + 2) (by first | omega | (simp; done) | (simp; omega) | (simp at *; omega))) | (go_at_call 25; refine (plain_calls _ _ _ _ _ (by assumption)).mono ?_; rintro e w' ⟨rfl, hb⟩; obtain ⟨c0, f0, l0⟩ := hb.at_ w.heap.size (by first | omega | (simp; done) | (simp; omega) | (simp at *; omega)); obtain ⟨c1, f1, l1⟩ := hb.at_ (w.heap.size + 1) (by first | omega | (simp; done) | (simp; omega) | (simp at *; omega)); obtain ⟨c2, f2, l2⟩ := hb.at_ (w.heap.size + 2) (by first | omega | (simp; done) | (simp; omega) | (simp at *; omega))))
  refine back_ct Try.results63 Val.null.cells (.int .i64 50) rfl rfl agg_val rfl ?_ ⟨rfl, ?_⟩
  · (simp only [At, Val.cells, Val.null, Val.number, Val.truth, Val.float]; repeat (first | exact trivial | (refine ⟨?_, ?_⟩; focus go_simp)))
  · repeat (first | (with_reducible exact Ext.refl _) | (with_reducible refine Ext.set_ ?_ _ ?_; focus (first | (simp; done) | (simp; omega) | (simp at *; omega))) | (with_reducible refine Ext.alloc ?_ _) | (with_reducible refine Ext.drew ?_) | (with_reducible refine Ext.drewN ?_ _) | (with_reducible refine Ext.trans ?_ (by assumption)))
set_option maxHeartbeats 400000 in
theorem calc_b (op : Int) (a b : Val) (w : World) (hfa : a.flt < 18446744073709551616) (hfb : b.flt < 18446744073709551616) (h1 : 3 ≤ op) (h2 : op < 6) (o6 : (op == 6) = false) (na : a.numeric = true) (nb : b.numeric = false) :
    Calls Try.prog 63 #[.int .i64 op, .agg #[.int .i64 a.kind, .int .i64 a.int, .float .f64 a.flt, .string a.text], .agg #[.int .i64 b.kind, .int .i64 b.int, .float .f64 b.flt, .string b.text]] w
      fun e w' => e = .returned (.tuple #[Val.null.enc, .int .i64 50]) ∧ Ext w w' := by
  go_enter Try.func63, Try.ntmps63
  go_wp2_with (first | (go_at_call 114; (first | (with_reducible refine (numeric_of a _ hfa).mono ?_) | (with_reducible refine (numeric_of b _ hfb).mono ?_)); rintro e w' ⟨rfl, hb⟩; obtain ⟨c0, f0, l0⟩ := hb.at_ w.heap.size (by first | omega | (simp; done) | (simp; omega) | (simp at *; omega)); obtain ⟨c1, f1, l1⟩ := hb.at_ (w.heap.size + 1) (by first | omega | (simp; done) | (simp; omega) | (simp at *; omega)); obtain ⟨c2, f2, l2⟩ := hb.at_ (w.heap.size + 2) (by first | omega | (simp; done) | (simp; omega) | (simp at *; omega))) | (go_at_call 115; refine (whole_of _ _ _ _).mono ?_; rintro e w' ⟨rfl, rfl⟩) | (go_at_call 116; refine (broken_of _ _ _ _ hfa).mono ?_; rintro e w' ⟨r, rfl, hr, hpl, hb⟩; obtain ⟨c0, f0, l0⟩ := hb.at_ w.heap.size (by first | omega | (simp; done) | (simp; omega) | (simp at *; omega)); obtain ⟨c1, f1, l1⟩ := hb.at_ (w.heap.size + 1) (by first | omega | (simp; done) | (simp; omega) | (simp at *; omega)); obtain ⟨c2, f2, l2⟩ := hb.at_ (w.heap.size + 2) (by first | omega | (simp; done) | (simp; omega) | (simp at *; omega)); have HP := Lib.hid hpl; clear hpl) | (go_at_call 53; refine (number_of _ _).mono ?_; rintro e w' ⟨rfl, hb⟩; obtain ⟨c0, f0, l0⟩ := hb.at_ w.heap.size (by first | omega | (simp; done) | (simp; omega) | (simp at *; omega)); obtain ⟨c1, f1, l1⟩ := hb.at_ (w.heap.size + 1) (by first | omega | (simp; done) | (simp; omega) | (simp at *; omega)); obtain ⟨c2, f2, l2⟩ := hb.at_ (w.heap.size + 2) (by first | omega | (simp; done) | (simp; omega) | (simp at *; omega))) | (go_at_call 25; refine (plain_calls _ _ _ _ _ (by assumption)).mono ?_; rintro e w' ⟨rfl, hb⟩; obtain ⟨c0, f0, l0⟩ := hb.at_ w.heap.size (by first | omega | (simp; done) | (simp; omega) | (simp at *; omega)); obtain ⟨c1, f1, l1⟩ := hb.at_ (w.heap.size + 1) (by first | omega | (simp; done) | (simp; omega) | (simp at *; omega)); obtain ⟨c2, f2, l2⟩ := hb.at_ (w.heap.size + 2) (by first | omega | (simp; done) | (simp; omega) | (simp at *; omega))))
  refine back_ct Try.results63 Val.null.cells (.int .i64 50) rfl rfl agg_val rfl ?_ ⟨rfl, ?_⟩
  · (simp only [At, Val.cells, Val.null, Val.number, Val.truth, Val.float]; repeat (first | exact trivial | (refine ⟨?_, ?_⟩; focus go_simp)))
  · repeat (first | (with_reducible exact Ext.refl _) | (with_reducible refine Ext.set_ ?_ _ ?_; focus (first | (simp; done) | (simp; omega) | (simp at *; omega))) | (with_reducible refine Ext.alloc ?_ _) | (with_reducible refine Ext.drew ?_) | (with_reducible refine Ext.drewN ?_ _) | (with_reducible refine Ext.trans ?_ (by assumption)))
set_option maxHeartbeats 1000000 in
theorem calc_c (op : Int) (a b : Val) (w : World) (hfa : a.flt < 18446744073709551616) (hfb : b.flt < 18446744073709551616) (h1 : 3 ≤ op) (h2 : op < 6) (o6 : (op == 6) = false) (na : a.numeric = true) (nb : b.numeric = true) :
    Calls Try.prog 63 #[.int .i64 op, .agg #[.int .i64 a.kind, .int .i64 a.int, .float .f64 a.flt, .string a.text], .agg #[.int .i64 b.kind, .int .i64 b.int, .float .f64 b.flt, .string b.text]] w
      fun e w' => e = .returned (.tuple #[(Val.calc2 op a b).1.enc, .int .i64 (Val.calc2 op a b).2]) ∧ Ext w w' := by
  go_enter Try.func63, Try.ntmps63
  go_wp2_with (first | (go_at_call 114; (first | (with_reducible refine (numeric_of a _ hfa).mono ?_) | (with_reducible refine (numeric_of b _ hfb).mono ?_)); rintro e w' ⟨rfl, hb⟩; obtain ⟨c0, f0, l0⟩ := hb.at_ w.heap.size (by first | omega | (simp; done) | (simp; omega) | (simp at *; omega)); obtain ⟨c1, f1, l1⟩ := hb.at_ (w.heap.size + 1) (by first | omega | (simp; done) | (simp; omega) | (simp at *; omega)); obtain ⟨c2, f2, l2⟩ := hb.at_ (w.heap.size + 2) (by first | omega | (simp; done) | (simp; omega) | (simp at *; omega))) | (go_at_call 115; refine (whole_of _ _ _ _).mono ?_; rintro e w' ⟨rfl, rfl⟩) | (go_at_call 116; refine (broken_of _ _ _ _ hfa).mono ?_; rintro e w' ⟨r, rfl, hr, hpl, hb⟩; obtain ⟨c0, f0, l0⟩ := hb.at_ w.heap.size (by first | omega | (simp; done) | (simp; omega) | (simp at *; omega)); obtain ⟨c1, f1, l1⟩ := hb.at_ (w.heap.size + 1) (by first | omega | (simp; done) | (simp; omega) | (simp at *; omega)); obtain ⟨c2, f2, l2⟩ := hb.at_ (w.heap.size + 2) (by first | omega | (simp; done) | (simp; omega) | (simp at *; omega)); have HP := Lib.hid hpl; clear hpl) | (go_at_call 53; refine (number_of _ _).mono ?_; rintro e w' ⟨rfl, hb⟩; obtain ⟨c0, f0, l0⟩ := hb.at_ w.heap.size (by first | omega | (simp; done) | (simp; omega) | (simp at *; omega)); obtain ⟨c1, f1, l1⟩ := hb.at_ (w.heap.size + 1) (by first | omega | (simp; done) | (simp; omega) | (simp at *; omega)); obtain ⟨c2, f2, l2⟩ := hb.at_ (w.heap.size + 2) (by first | omega | (simp; done) | (simp; omega) | (simp at *; omega))) | (go_at_call 25; refine (plain_calls _ _ _ _ _ (by assumption)).mono ?_; rintro e w' ⟨rfl, hb⟩; obtain ⟨c0, f0, l0⟩ := hb.at_ w.heap.size (by first | omega | (simp; done) | (simp; omega) | (simp at *; omega)); obtain ⟨c1, f1, l1⟩ := hb.at_ (w.heap.size + 1) (by first | omega | (simp; done) | (simp; omega) | (simp at *; omega)); obtain ⟨c2, f2, l2⟩ := hb.at_ (w.heap.size + 2) (by first | omega | (simp; done) | (simp; omega) | (simp at *; omega))))
  · refine back_ct Try.results63 Val.null.cells (.int .i64 0) rfl rfl agg_val rfl ?_ ⟨ret_pair ?_, ?_⟩
    · (simp only [At, Val.cells, Val.null, Val.number, Val.truth, Val.float]; repeat (first | exact trivial | (refine ⟨?_, ?_⟩; focus go_simp)))
    · go_tidy; simp_all [Val.calc2]
    · repeat (first | (with_reducible exact Ext.refl _) | (with_reducible refine Ext.set_ ?_ _ ?_; focus (first | (simp; done) | (simp; omega) | (simp at *; omega))) | (with_reducible refine Ext.alloc ?_ _) | (with_reducible refine Ext.drew ?_) | (with_reducible refine Ext.drewN ?_ _) | (with_reducible refine Ext.trans ?_ (by assumption)))
  · refine back_ct Try.results63 Val.null.cells (.int .i64 0) rfl rfl agg_val rfl ?_ ⟨ret_pair ?_, ?_⟩
    · (simp only [At, Val.cells, Val.null, Val.number, Val.truth, Val.float]; repeat (first | exact trivial | (refine ⟨?_, ?_⟩; focus go_simp)))
    · go_tidy; simp_all [Val.calc2]
    · repeat (first | (with_reducible exact Ext.refl _) | (with_reducible refine Ext.set_ ?_ _ ?_; focus (first | (simp; done) | (simp; omega) | (simp at *; omega))) | (with_reducible refine Ext.alloc ?_ _) | (with_reducible refine Ext.drew ?_) | (with_reducible refine Ext.drewN ?_ _) | (with_reducible refine Ext.trans ?_ (by assumption)))
  · refine back_ct Try.results63 Val.null.cells (.int .i64 50) rfl rfl agg_val rfl ?_ ⟨ret_pair ?_, ?_⟩
    · (simp only [At, Val.cells, Val.null, Val.number, Val.truth, Val.float]; repeat (first | exact trivial | (refine ⟨?_, ?_⟩; focus go_simp)))
    · go_tidy; simp_all [Val.calc2]
    · repeat (first | (with_reducible exact Ext.refl _) | (with_reducible refine Ext.set_ ?_ _ ?_; focus (first | (simp; done) | (simp; omega) | (simp at *; omega))) | (with_reducible refine Ext.alloc ?_ _) | (with_reducible refine Ext.drew ?_) | (with_reducible refine Ext.drewN ?_ _) | (with_reducible refine Ext.trans ?_ (by assumption)))
  · refine back_ct Try.results63 (Val.number (whole op a.int b.int)).cells (.int .i64 0) rfl rfl agg_val rfl ?_ ⟨ret_pair ?_, ?_⟩
    · (simp only [At, Val.cells, Val.null, Val.number, Val.truth, Val.float]; repeat (first | exact trivial | (refine ⟨?_, ?_⟩; focus go_simp)))
    · go_tidy; simp_all [Val.calc2]
    · repeat (first | (with_reducible exact Ext.refl _) | (with_reducible refine Ext.set_ ?_ _ ?_; focus (first | (simp; done) | (simp; omega) | (simp at *; omega))) | (with_reducible refine Ext.alloc ?_ _) | (with_reducible refine Ext.drew ?_) | (with_reducible refine Ext.drewN ?_ _) | (with_reducible refine Ext.trans ?_ (by assumption)))
  · refine back_ct Try.results63 (Val.plain ⟨3, 0, r, ⟨#[]⟩⟩).cells (.int .i64 0) rfl rfl agg_val rfl ?_ ⟨ret_pair ?_, ?_⟩
    · (simp only [At, Val.cells, Val.null, Val.number, Val.truth, Val.float]; repeat (first | exact trivial | (refine ⟨?_, ?_⟩; focus go_simp)))
    · rw [plain_float HP.out]; go_tidy; simp_all [Val.calc2]
    · repeat (first | (with_reducible exact Ext.refl _) | (with_reducible refine Ext.set_ ?_ _ ?_; focus (first | (simp; done) | (simp; omega) | (simp at *; omega))) | (with_reducible refine Ext.alloc ?_ _) | (with_reducible refine Ext.drew ?_) | (with_reducible refine Ext.drewN ?_ _) | (with_reducible refine Ext.trans ?_ (by assumption)))

theorem calc2_of (op : Int) (a b : Val) (w : World) (hfa : a.flt < 18446744073709551616) (hfb : b.flt < 18446744073709551616) (h1 : 3 ≤ op) (h2 : op < 6) :
    Calls Try.prog 63 #[.int .i64 op, .agg #[.int .i64 a.kind, .int .i64 a.int, .float .f64 a.flt, .string a.text], .agg #[.int .i64 b.kind, .int .i64 b.int, .float .f64 b.flt, .string b.text]] w
      fun e w' => e = .returned (.tuple #[(Val.calc op a b).1.enc, .int .i64 (Val.calc op a b).2]) ∧ Ext w w' := by
  have o6 : (op == 6) = false := by simp; omega
  have e : Val.calc op a b = Val.calc2 op a b := by unfold Val.calc; rw [if_neg (by omega), if_neg (by omega)]
  rw [e]
  cases na : a.numeric
  · have e2 : Val.calc2 op a b = (Val.null, 50) := by simp [Val.calc2, na]
    rw [e2]; exact calc_a op a b w hfa hfb h1 h2 o6 na
  · cases nb : b.numeric
    · have e2 : Val.calc2 op a b = (Val.null, 50) := by simp [Val.calc2, nb]
      rw [e2]; exact calc_b op a b w hfa hfb h1 h2 o6 na nb
    · exact calc_c op a b w hfa hfb h1 h2 o6 na nb
end Go.Proofs.Ytlcdjaclahhdnaa
