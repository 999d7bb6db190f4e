/- The calls of value.Calc with Neg, of Test and Both. -/
import Derived.Test.YtlcdjaclahhdnaaVal5
namespace Go.Proofs.Ytlcdjaclahhdnaa
open Go.RowKit
set_option linter.unusedSimpArgs false
set_option linter.unusedVariables false

set_option maxHeartbeats 400000 in
theorem neg_a (a b : Val) (w : World) (hfa : a.flt < 18446744073709551616) (na : a.numeric = false) :
    Calls Try.prog 63 #[.int .i64 6, .agg #[.int .i64 a.kind, .int .i64 a.int, .float .f64 a.flt, .string a.text], .agg #[.int .i64 b.kind, .int .i64 b.int, .float .f64 b.flt, .string b.text]] w
      fun e w' => e = .returned (.tuple #[Val.null.enc, .int .i64 50]) ∧ Ext w w' := by
  go_enter Try.func63, Try.ntmps63
  go_wp2_with (first | (go_at_call 114; (with_reducible refine (numeric_of a _ hfa).mono ?_); rintro e w' ⟨rfl, hb⟩; obtain ⟨c0, f0, l0⟩ := hb.at_ w.heap.size (by first | omega | (simp; done) | (simp; omega) | (simp at *; omega)); obtain ⟨c1, f1, l1⟩ := hb.at_ (w.heap.size + 1) (by first | omega | (simp; done) | (simp; omega) | (simp at *; omega)); obtain ⟨c2, f2, l2⟩ := hb.at_ (w.heap.size + 2) (by first | omega | (simp; done) | (simp; omega) | (simp at *; omega))) | (go_at_call 115; refine (whole_of _ _ _ _).mono ?_; rintro e w' ⟨rfl, rfl⟩) | (go_at_call 116; refine (broken_of _ _ _ _ hfa).mono ?_; rintro e w' ⟨r, rfl, hr, hpl, hb⟩; obtain ⟨c0, f0, l0⟩ := hb.at_ w.heap.size (by first | omega | (simp; done) | (simp; omega) | (simp at *; omega)); obtain ⟨c1, f1, l1⟩ := hb.at_ (w.heap.size + 1) (by first | omega | (simp; done) | (simp; omega) | (simp at *; omega)); obtain ⟨c2, f2, l2⟩ := hb.at_ (w.heap.size + 2) (by first | omega | (simp; done) | (simp; omega) | (simp at *; omega)); have HP := Lib.hid hpl; clear hpl) | (go_at_call 53; refine (number_of _ _).mono ?_; rintro e w' ⟨rfl, hb⟩; obtain ⟨c0, f0, l0⟩ := hb.at_ w.heap.size (by first | omega | (simp; done) | (simp; omega) | (simp at *; omega)); obtain ⟨c1, f1, l1⟩ := hb.at_ (w.heap.size + 1) (by first | omega | (simp; done) | (simp; omega) | (simp at *; omega)); obtain ⟨c2, f2, l2⟩ := hb.at_ (w.heap.size + 2) (by first | omega | (simp; done) | (simp; omega) | (simp at *; omega))) | (go_at_call 25; refine (plain_calls _ _ _ _ _ (by assumption)).mono ?_; rintro e w' ⟨rfl, hb⟩; obtain ⟨c0, f0, l0⟩ := hb.at_ w.heap.size (by first | omega | (simp; done) | (simp; omega) | (simp at *; omega)); obtain ⟨c1, f1, l1⟩ := hb.at_ (w.heap.size + 1) (by first | omega | (simp; done) | (simp; omega) | (simp at *; omega)); obtain ⟨c2, f2, l2⟩ := hb.at_ (w.heap.size + 2) (by first | omega | (simp; done) | (simp; omega) | (simp at *; omega))))
  refine back_ct Try.results63 Val.null.cells (.int .i64 50) rfl rfl agg_val rfl ?_ ⟨rfl, ?_⟩
  · (simp only [At, Val.cells, Val.null, Val.number, Val.truth, Val.float]; repeat (first | exact trivial | (refine ⟨?_, ?_⟩; focus go_simp)))
  · repeat (first | (with_reducible exact Ext.refl _) | (with_reducible refine Ext.set_ ?_ _ ?_; focus (first | (simp; done) | (simp; omega) | (simp at *; omega))) | (with_reducible refine Ext.alloc ?_ _) | (with_reducible refine Ext.drew ?_) | (with_reducible refine Ext.drewN ?_ _) | (with_reducible refine Ext.trans ?_ (by assumption)))
set_option maxHeartbeats 1000000 in
theorem neg_c (a b : Val) (w : World) (hfa : a.flt < 18446744073709551616) (na : a.numeric = true) :
    Calls Try.prog 63 #[.int .i64 6, .agg #[.int .i64 a.kind, .int .i64 a.int, .float .f64 a.flt, .string a.text], .agg #[.int .i64 b.kind, .int .i64 b.int, .float .f64 b.flt, .string b.text]] w
      fun e w' => e = .returned (.tuple #[(Val.calc2 6 a a).1.enc, .int .i64 (Val.calc2 6 a a).2]) ∧ Ext w w' := by
  go_enter Try.func63, Try.ntmps63
  go_wp2_with (first | (go_at_call 114; (with_reducible refine (numeric_of a _ hfa).mono ?_); rintro e w' ⟨rfl, hb⟩; obtain ⟨c0, f0, l0⟩ := hb.at_ w.heap.size (by first | omega | (simp; done) | (simp; omega) | (simp at *; omega)); obtain ⟨c1, f1, l1⟩ := hb.at_ (w.heap.size + 1) (by first | omega | (simp; done) | (simp; omega) | (simp at *; omega)); obtain ⟨c2, f2, l2⟩ := hb.at_ (w.heap.size + 2) (by first | omega | (simp; done) | (simp; omega) | (simp at *; omega))) | (go_at_call 115; refine (whole_of _ _ _ _).mono ?_; rintro e w' ⟨rfl, rfl⟩) | (go_at_call 116; refine (broken_of _ _ _ _ hfa).mono ?_; rintro e w' ⟨r, rfl, hr, hpl, hb⟩; obtain ⟨c0, f0, l0⟩ := hb.at_ w.heap.size (by first | omega | (simp; done) | (simp; omega) | (simp at *; omega)); obtain ⟨c1, f1, l1⟩ := hb.at_ (w.heap.size + 1) (by first | omega | (simp; done) | (simp; omega) | (simp at *; omega)); obtain ⟨c2, f2, l2⟩ := hb.at_ (w.heap.size + 2) (by first | omega | (simp; done) | (simp; omega) | (simp at *; omega)); have HP := Lib.hid hpl; clear hpl) | (go_at_call 53; refine (number_of _ _).mono ?_; rintro e w' ⟨rfl, hb⟩; obtain ⟨c0, f0, l0⟩ := hb.at_ w.heap.size (by first | omega | (simp; done) | (simp; omega) | (simp at *; omega)); obtain ⟨c1, f1, l1⟩ := hb.at_ (w.heap.size + 1) (by first | omega | (simp; done) | (simp; omega) | (simp at *; omega)); obtain ⟨c2, f2, l2⟩ := hb.at_ (w.heap.size + 2) (by first | omega | (simp; done) | (simp; omega) | (simp at *; omega))) | (go_at_call 25; refine (plain_calls _ _ _ _ _ (by assumption)).mono ?_; rintro e w' ⟨rfl, hb⟩; obtain ⟨c0, f0, l0⟩ := hb.at_ w.heap.size (by first | omega | (simp; done) | (simp; omega) | (simp at *; omega)); obtain ⟨c1, f1, l1⟩ := hb.at_ (w.heap.size + 1) (by first | omega | (simp; done) | (simp; omega) | (simp at *; omega)); obtain ⟨c2, f2, l2⟩ := hb.at_ (w.heap.size + 2) (by first | omega | (simp; done) | (simp; omega) | (simp at *; omega))))
  · refine back_ct Try.results63 Val.null.cells (.int .i64 0) rfl rfl agg_val rfl ?_ ⟨ret_pair ?_, ?_⟩
    · (simp only [At, Val.cells, Val.null, Val.number, Val.truth, Val.float]; repeat (first | exact trivial | (refine ⟨?_, ?_⟩; focus go_simp)))
    · go_tidy; simp_all [Val.calc2]
    · repeat (first | (with_reducible exact Ext.refl _) | (with_reducible refine Ext.set_ ?_ _ ?_; focus (first | (simp; done) | (simp; omega) | (simp at *; omega))) | (with_reducible refine Ext.alloc ?_ _) | (with_reducible refine Ext.drew ?_) | (with_reducible refine Ext.drewN ?_ _) | (with_reducible refine Ext.trans ?_ (by assumption)))
  · refine back_ct Try.results63 (Val.number (whole 6 a.int a.int)).cells (.int .i64 0) rfl rfl agg_val rfl ?_ ⟨ret_pair ?_, ?_⟩
    · (simp only [At, Val.cells, Val.null, Val.number, Val.truth, Val.float]; repeat (first | exact trivial | (refine ⟨?_, ?_⟩; focus go_simp)))
    · go_tidy; simp_all [Val.calc2]
    · repeat (first | (with_reducible exact Ext.refl _) | (with_reducible refine Ext.set_ ?_ _ ?_; focus (first | (simp; done) | (simp; omega) | (simp at *; omega))) | (with_reducible refine Ext.alloc ?_ _) | (with_reducible refine Ext.drew ?_) | (with_reducible refine Ext.drewN ?_ _) | (with_reducible refine Ext.trans ?_ (by assumption)))
  · refine back_ct Try.results63 (Val.plain ⟨3, 0, r, ⟨#[]⟩⟩).cells (.int .i64 0) rfl rfl agg_val rfl ?_ ⟨ret_pair ?_, ?_⟩
    · (simp only [At, Val.cells, Val.null, Val.number, Val.truth, Val.float]; repeat (first | exact trivial | (refine ⟨?_, ?_⟩; focus go_simp)))
    · rw [plain_float HP.out]; go_tidy; simp_all [Val.calc2]
    · repeat (first | (with_reducible exact Ext.refl _) | (with_reducible refine Ext.set_ ?_ _ ?_; focus (first | (simp; done) | (simp; omega) | (simp at *; omega))) | (with_reducible refine Ext.alloc ?_ _) | (with_reducible refine Ext.drew ?_) | (with_reducible refine Ext.drewN ?_ _) | (with_reducible refine Ext.trans ?_ (by assumption)))

theorem neg_of (a b : Val) (w : World) (hfa : a.flt < 18446744073709551616) :
    Calls Try.prog 63 #[.int .i64 6, .agg #[.int .i64 a.kind, .int .i64 a.int, .float .f64 a.flt, .string a.text], .agg #[.int .i64 b.kind, .int .i64 b.int, .float .f64 b.flt, .string b.text]] w
      fun e w' => e = .returned (.tuple #[(Val.calc 6 a b).1.enc, .int .i64 (Val.calc 6 a b).2]) ∧ Ext w w' := by
  have e : Val.calc 6 a b = Val.calc2 6 a a := by unfold Val.calc; rw [if_neg (by omega), if_pos rfl]
  rw [e]
  cases na : a.numeric
  · have e2 : Val.calc2 6 a a = (Val.null, 50) := by simp [Val.calc2, na]
    rw [e2]; exact neg_a a b w hfa na
  · exact neg_c a b w hfa na

/-- Two values held against each other by a sign. -/
def Val.test (op : Int) (a b : Val) : Val × Int :=
  if op < 7 ∨ 9 < op then (Val.null, 2)
  else if a.right = true ∧ b.right = true then
    (if a.kind = 0 ∨ b.kind = 0 then (Val.null, 0)
     else if a.kind = b.kind then (Val.truth (if op = 7 then a.cmp b == 0 else if op = 8 then decide (a.cmp b < 0) else decide (a.cmp b ≤ 0)), 0)
     else (Val.null, 50))
  else (Val.null, 50)

set_option maxHeartbeats 400000 in
theorem test_a (op : Int) (a b : Val) (w : World) (hfa : a.flt < 18446744073709551616) (hfb : b.flt < 18446744073709551616) (h1 : 7 ≤ op) (h2 : op ≤ 9) (na : a.right = false) :
    Calls Try.prog 128 #[.int .i64 op, .agg #[.int .i64 a.kind, .int .i64 a.int, .float .f64 a.flt, .string a.text], .agg #[.int .i64 b.kind, .int .i64 b.int, .float .f64 b.flt, .string b.text]] w
      fun e w' => e = .returned (.tuple #[Val.null.enc, .int .i64 50]) ∧ Ext w w' := by
  go_enter Try.func128, Try.ntmps128
  go_wp2_with (first | (go_at_call 27; (first | (with_reducible refine (right_of a _ hfa).mono ?_) | (with_reducible refine (right_of b _ hfb).mono ?_)); rintro e w' ⟨rfl, hb⟩; obtain ⟨c0, f0, l0⟩ := hb.at_ w.heap.size (by first | omega | (simp; done) | (simp; omega) | (simp at *; omega)); obtain ⟨c1, f1, l1⟩ := hb.at_ (w.heap.size + 1) (by first | omega | (simp; done) | (simp; omega) | (simp at *; omega)); obtain ⟨c2, f2, l2⟩ := hb.at_ (w.heap.size + 2) (by first | omega | (simp; done) | (simp; omega) | (simp at *; omega))) | (go_at_call 22; refine (cmp_of a b _ hfa hfb).mono ?_; rintro e w' ⟨rfl, hb⟩; obtain ⟨c0, f0, l0⟩ := hb.at_ w.heap.size (by first | omega | (simp; done) | (simp; omega) | (simp at *; omega)); obtain ⟨c1, f1, l1⟩ := hb.at_ (w.heap.size + 1) (by first | omega | (simp; done) | (simp; omega) | (simp at *; omega)); obtain ⟨c2, f2, l2⟩ := hb.at_ (w.heap.size + 2) (by first | omega | (simp; done) | (simp; omega) | (simp at *; omega))) | (go_at_call 65; refine (truth_of _ _).mono ?_; rintro e w' ⟨rfl, hb⟩; obtain ⟨c0, f0, l0⟩ := hb.at_ w.heap.size (by first | omega | (simp; done) | (simp; omega) | (simp at *; omega)); obtain ⟨c1, f1, l1⟩ := hb.at_ (w.heap.size + 1) (by first | omega | (simp; done) | (simp; omega) | (simp at *; omega)); obtain ⟨c2, f2, l2⟩ := hb.at_ (w.heap.size + 2) (by first | omega | (simp; done) | (simp; omega) | (simp at *; omega))))
  refine back_ct Try.results128 Val.null.cells (.int .i64 50) rfl rfl agg_val rfl ?_ ⟨rfl, ?_⟩
  · (simp only [At, Val.cells, Val.null, Val.number, Val.truth, Val.float]; repeat (first | exact trivial | (refine ⟨?_, ?_⟩; focus go_simp)))
  · repeat (first | (with_reducible exact Ext.refl _) | (with_reducible refine Ext.set_ ?_ _ ?_; focus (first | (simp; done) | (simp; omega) | (simp at *; omega))) | (with_reducible refine Ext.alloc ?_ _) | (with_reducible refine Ext.drew ?_) | (with_reducible refine Ext.drewN ?_ _) | (with_reducible refine Ext.trans ?_ (by assumption)))
set_option maxHeartbeats 400000 in
theorem test_b (op : Int) (a b : Val) (w : World) (hfa : a.flt < 18446744073709551616) (hfb : b.flt < 18446744073709551616) (h1 : 7 ≤ op) (h2 : op ≤ 9) (na : a.right = true) (nb : b.right = false) :
    Calls Try.prog 128 #[.int .i64 op, .agg #[.int .i64 a.kind, .int .i64 a.int, .float .f64 a.flt, .string a.text], .agg #[.int .i64 b.kind, .int .i64 b.int, .float .f64 b.flt, .string b.text]] w
      fun e w' => e = .returned (.tuple #[Val.null.enc, .int .i64 50]) ∧ Ext w w' := by
  go_enter Try.func128, Try.ntmps128
  go_wp2_with (first | (go_at_call 27; (first | (with_reducible refine (right_of a _ hfa).mono ?_) | (with_reducible refine (right_of b _ hfb).mono ?_)); rintro e w' ⟨rfl, hb⟩; obtain ⟨c0, f0, l0⟩ := hb.at_ w.heap.size (by first | omega | (simp; done) | (simp; omega) | (simp at *; omega)); obtain ⟨c1, f1, l1⟩ := hb.at_ (w.heap.size + 1) (by first | omega | (simp; done) | (simp; omega) | (simp at *; omega)); obtain ⟨c2, f2, l2⟩ := hb.at_ (w.heap.size + 2) (by first | omega | (simp; done) | (simp; omega) | (simp at *; omega))) | (go_at_call 22; refine (cmp_of a b _ hfa hfb).mono ?_; rintro e w' ⟨rfl, hb⟩; obtain ⟨c0, f0, l0⟩ := hb.at_ w.heap.size (by first | omega | (simp; done) | (simp; omega) | (simp at *; omega)); obtain ⟨c1, f1, l1⟩ := hb.at_ (w.heap.size + 1) (by first | omega | (simp; done) | (simp; omega) | (simp at *; omega)); obtain ⟨c2, f2, l2⟩ := hb.at_ (w.heap.size + 2) (by first | omega | (simp; done) | (simp; omega) | (simp at *; omega))) | (go_at_call 65; refine (truth_of _ _).mono ?_; rintro e w' ⟨rfl, hb⟩; obtain ⟨c0, f0, l0⟩ := hb.at_ w.heap.size (by first | omega | (simp; done) | (simp; omega) | (simp at *; omega)); obtain ⟨c1, f1, l1⟩ := hb.at_ (w.heap.size + 1) (by first | omega | (simp; done) | (simp; omega) | (simp at *; omega)); obtain ⟨c2, f2, l2⟩ := hb.at_ (w.heap.size + 2) (by first | omega | (simp; done) | (simp; omega) | (simp at *; omega))))
  refine back_ct Try.results128 Val.null.cells (.int .i64 50) rfl rfl agg_val rfl ?_ ⟨rfl, ?_⟩
  · (simp only [At, Val.cells, Val.null, Val.number, Val.truth, Val.float]; repeat (first | exact trivial | (refine ⟨?_, ?_⟩; focus go_simp)))
  · repeat (first | (with_reducible exact Ext.refl _) | (with_reducible refine Ext.set_ ?_ _ ?_; focus (first | (simp; done) | (simp; omega) | (simp at *; omega))) | (with_reducible refine Ext.alloc ?_ _) | (with_reducible refine Ext.drew ?_) | (with_reducible refine Ext.drewN ?_ _) | (with_reducible refine Ext.trans ?_ (by assumption)))
set_option maxHeartbeats 1000000 in
theorem test_c (op : Int) (a b : Val) (w : World) (hfa : a.flt < 18446744073709551616) (hfb : b.flt < 18446744073709551616) (h1 : 7 ≤ op) (h2 : op ≤ 9) (na : a.right = true) (nb : b.right = true) :
    Calls Try.prog 128 #[.int .i64 op, .agg #[.int .i64 a.kind, .int .i64 a.int, .float .f64 a.flt, .string a.text], .agg #[.int .i64 b.kind, .int .i64 b.int, .float .f64 b.flt, .string b.text]] w
      fun e w' => e = .returned (.tuple #[(Val.test op a b).1.enc, .int .i64 (Val.test op a b).2]) ∧ Ext w w' := by
  have e : Val.test op a b = (if a.kind = 0 ∨ b.kind = 0 then (Val.null, 0)
     else if a.kind = b.kind then (Val.truth (if op = 7 then a.cmp b == 0 else if op = 8 then decide (a.cmp b < 0) else decide (a.cmp b ≤ 0)), 0)
     else (Val.null, 50)) := by unfold Val.test; rw [if_neg (by omega), if_pos ⟨na, nb⟩]
  have HE := Lib.hid e; clear e
  go_enter Try.func128, Try.ntmps128
  go_wp2_with (first | (go_at_call 27; (first | (with_reducible refine (right_of a _ hfa).mono ?_) | (with_reducible refine (right_of b _ hfb).mono ?_)); rintro e w' ⟨rfl, hb⟩; obtain ⟨c0, f0, l0⟩ := hb.at_ w.heap.size (by first | omega | (simp; done) | (simp; omega) | (simp at *; omega)); obtain ⟨c1, f1, l1⟩ := hb.at_ (w.heap.size + 1) (by first | omega | (simp; done) | (simp; omega) | (simp at *; omega)); obtain ⟨c2, f2, l2⟩ := hb.at_ (w.heap.size + 2) (by first | omega | (simp; done) | (simp; omega) | (simp at *; omega))) | (go_at_call 22; refine (cmp_of a b _ hfa hfb).mono ?_; rintro e w' ⟨rfl, hb⟩; obtain ⟨c0, f0, l0⟩ := hb.at_ w.heap.size (by first | omega | (simp; done) | (simp; omega) | (simp at *; omega)); obtain ⟨c1, f1, l1⟩ := hb.at_ (w.heap.size + 1) (by first | omega | (simp; done) | (simp; omega) | (simp at *; omega)); obtain ⟨c2, f2, l2⟩ := hb.at_ (w.heap.size + 2) (by first | omega | (simp; done) | (simp; omega) | (simp at *; omega))) | (go_at_call 65; refine (truth_of _ _).mono ?_; rintro e w' ⟨rfl, hb⟩; obtain ⟨c0, f0, l0⟩ := hb.at_ w.heap.size (by first | omega | (simp; done) | (simp; omega) | (simp at *; omega)); obtain ⟨c1, f1, l1⟩ := hb.at_ (w.heap.size + 1) (by first | omega | (simp; done) | (simp; omega) | (simp at *; omega)); obtain ⟨c2, f2, l2⟩ := hb.at_ (w.heap.size + 2) (by first | omega | (simp; done) | (simp; omega) | (simp at *; omega))))
  · refine back_ct Try.results128 Val.null.cells (.int .i64 0) rfl rfl agg_val rfl ?_ ⟨ret_pair ?_, ?_⟩
    · (simp only [At, Val.cells, Val.null, Val.number, Val.truth, Val.float]; repeat (first | exact trivial | (refine ⟨?_, ?_⟩; focus go_simp)))
    · rw [HE.out]; go_tidy; simp_all
    · repeat (first | (with_reducible exact Ext.refl _) | (with_reducible refine Ext.set_ ?_ _ ?_; focus (first | (simp; done) | (simp; omega) | (simp at *; omega))) | (with_reducible refine Ext.alloc ?_ _) | (with_reducible refine Ext.drew ?_) | (with_reducible refine Ext.drewN ?_ _) | (with_reducible refine Ext.trans ?_ (by assumption)))
  · refine back_ct Try.results128 Val.null.cells (.int .i64 0) rfl rfl agg_val rfl ?_ ⟨ret_pair ?_, ?_⟩
    · (simp only [At, Val.cells, Val.null, Val.number, Val.truth, Val.float]; repeat (first | exact trivial | (refine ⟨?_, ?_⟩; focus go_simp)))
    · rw [HE.out]; go_tidy; simp_all
    · repeat (first | (with_reducible exact Ext.refl _) | (with_reducible refine Ext.set_ ?_ _ ?_; focus (first | (simp; done) | (simp; omega) | (simp at *; omega))) | (with_reducible refine Ext.alloc ?_ _) | (with_reducible refine Ext.drew ?_) | (with_reducible refine Ext.drewN ?_ _) | (with_reducible refine Ext.trans ?_ (by assumption)))
  · refine back_ct Try.results128 Val.null.cells (.int .i64 50) rfl rfl agg_val rfl ?_ ⟨ret_pair ?_, ?_⟩
    · (simp only [At, Val.cells, Val.null, Val.number, Val.truth, Val.float]; repeat (first | exact trivial | (refine ⟨?_, ?_⟩; focus go_simp)))
    · rw [HE.out]; go_tidy; simp_all
    · repeat (first | (with_reducible exact Ext.refl _) | (with_reducible refine Ext.set_ ?_ _ ?_; focus (first | (simp; done) | (simp; omega) | (simp at *; omega))) | (with_reducible refine Ext.alloc ?_ _) | (with_reducible refine Ext.drew ?_) | (with_reducible refine Ext.drewN ?_ _) | (with_reducible refine Ext.trans ?_ (by assumption)))
  · refine back_ct Try.results128 (Val.truth (a.cmp b == 0)).cells (.int .i64 0) rfl rfl agg_val rfl ?_ ⟨ret_pair ?_, ?_⟩
    · (simp only [At, Val.cells, Val.null, Val.number, Val.truth, Val.float]; repeat (first | exact trivial | (refine ⟨?_, ?_⟩; focus go_simp)))
    · rw [HE.out]; go_tidy; simp_all
    · repeat (first | (with_reducible exact Ext.refl _) | (with_reducible refine Ext.set_ ?_ _ ?_; focus (first | (simp; done) | (simp; omega) | (simp at *; omega))) | (with_reducible refine Ext.alloc ?_ _) | (with_reducible refine Ext.drew ?_) | (with_reducible refine Ext.drewN ?_ _) | (with_reducible refine Ext.trans ?_ (by assumption)))
  · refine back_ct Try.results128 (Val.truth (decide (a.cmp b < 0))).cells (.int .i64 0) rfl rfl agg_val rfl ?_ ⟨ret_pair ?_, ?_⟩
    · (simp only [At, Val.cells, Val.null, Val.number, Val.truth, Val.float]; repeat (first | exact trivial | (refine ⟨?_, ?_⟩; focus go_simp)))
    · rw [HE.out]; go_tidy; simp_all
    · repeat (first | (with_reducible exact Ext.refl _) | (with_reducible refine Ext.set_ ?_ _ ?_; focus (first | (simp; done) | (simp; omega) | (simp at *; omega))) | (with_reducible refine Ext.alloc ?_ _) | (with_reducible refine Ext.drew ?_) | (with_reducible refine Ext.drewN ?_ _) | (with_reducible refine Ext.trans ?_ (by assumption)))
  · refine back_ct Try.results128 (Val.truth (decide (a.cmp b ≤ 0))).cells (.int .i64 0) rfl rfl agg_val rfl ?_ ⟨ret_pair ?_, ?_⟩
    · (simp only [At, Val.cells, Val.null, Val.number, Val.truth, Val.float]; repeat (first | exact trivial | (refine ⟨?_, ?_⟩; focus go_simp)))
    · rw [HE.out]; go_tidy; simp_all
    · repeat (first | (with_reducible exact Ext.refl _) | (with_reducible refine Ext.set_ ?_ _ ?_; focus (first | (simp; done) | (simp; omega) | (simp at *; omega))) | (with_reducible refine Ext.alloc ?_ _) | (with_reducible refine Ext.drew ?_) | (with_reducible refine Ext.drewN ?_ _) | (with_reducible refine Ext.trans ?_ (by assumption)))

theorem test_of (op : Int) (a b : Val) (w : World) (hfa : a.flt < 18446744073709551616) (hfb : b.flt < 18446744073709551616) (h1 : 7 ≤ op) (h2 : op ≤ 9) :
    Calls Try.prog 128 #[.int .i64 op, .agg #[.int .i64 a.kind, .int .i64 a.int, .float .f64 a.flt, .string a.text], .agg #[.int .i64 b.kind, .int .i64 b.int, .float .f64 b.flt, .string b.text]] w
      fun e w' => e = .returned (.tuple #[(Val.test op a b).1.enc, .int .i64 (Val.test op a b).2]) ∧ Ext w w' := by
  cases na : a.right
  · have e2 : Val.test op a b = (Val.null, 50) := by unfold Val.test; rw [if_neg (by omega)]; simp [na]
    rw [e2]; exact test_a op a b w hfa hfb h1 h2 na
  · cases nb : b.right
    · have e2 : Val.test op a b = (Val.null, 50) := by unfold Val.test; rw [if_neg (by omega)]; simp [nb]
      rw [e2]; exact test_b op a b w hfa hfb h1 h2 na nb
    · exact test_c op a b w hfa hfb h1 h2 na nb
end Go.Proofs.Ytlcdjaclahhdnaa
