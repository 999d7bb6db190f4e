/- The calls of value.Both. -/
import Derived.Test.YtlcdjaclahhdnaaVal6
namespace Go.Proofs.Ytlcdjaclahhdnaa
open Go.RowKit
set_option linter.unusedSimpArgs false
set_option linter.unusedVariables false

def isn (a b : Val) (n : Int) : Bool := (decide (a.kind = 1) && decide (a.int = n)) || (decide (b.kind = 1) && decide (b.int = n))
set_option maxHeartbeats 400000 in
theorem both1_of (a b : Val) (n : Int) (g h : Nat) (w : World) (h0 : w.cell? ⟨g, 0, none⟩ = some (.int .i64 a.kind)) (h1 : w.cell? ⟨g, 1, none⟩ = some (.int .i64 a.int))
    (h2 : w.cell? ⟨h, 0, none⟩ = some (.int .i64 b.kind)) (h3 : w.cell? ⟨h, 1, none⟩ = some (.int .i64 b.int)) :
    Calls Try.prog 118 #[.int .i64 n, .pointer (some ⟨g, 0, none⟩), .pointer (some ⟨h, 0, none⟩)] w fun e w' => e = .returned (.bool (isn a b n)) ∧ w = w' := by
  go_enter Try.func118, Try.ntmps118
  go_wp2
  all_goals
    go_ret
    refine ⟨ret_bool ?_, rfl⟩
    go_tidy; clear h0 h1 h2 h3; first | (simp_all [isn]; done) | (simp_all [isn]; rw [Bool.eq_iff_iff]; simp_all)

/-- Behind the sign: truths joined. -/
def Val.both2 (op : Int) (a b : Val) : Val × Int :=
  if a.truthy = true ∧ b.truthy = true then
    (if op = 10 ∧ isn a b 0 = true then (Val.truth false, 0)
     else if op = 11 ∧ isn a b 1 = true then (Val.truth true, 0)
     else if a.kind = 0 ∨ b.kind = 0 then (Val.null, 0)
     else if op = 12 then (Val.truth (a.int == 0), 0)
     else (Val.truth (op == 10), 0))
  else (Val.null, 50)
def Val.both (op : Int) (a b : Val) : Val × Int :=
  if op < 10 ∨ 12 < op then (Val.null, 2) else if op = 12 then Val.both2 op a a else Val.both2 op a b

set_option maxHeartbeats 400000 in
theorem both10_a (a b : Val) (w : World) (hfa : a.flt < 18446744073709551616) (hfb : b.flt < 18446744073709551616) (na : a.truthy = false) :
    Calls Try.prog 64 #[.int .i64 10, .agg #[.int .i64 a.kind, .int .i64 a.int, .float .f64 a.flt, .string a.text], .agg #[.int .i64 b.kind, .int .i64 b.int, .float .f64 b.flt, .string b.text]] w
      fun e w' => e = .returned (.tuple #[Val.null.enc, .int .i64 50]) ∧ Ext w w' := by
  go_enter Try.func64, Try.ntmps64
  go_wp2_with (first | (go_at_call 117; (first | (with_reducible refine (truthy_of a _ hfa).mono ?_) | (with_reducible refine (truthy_of b _ hfb).mono ?_)); rintro e w' ⟨rfl, hb⟩; obtain ⟨c0, f0, l0⟩ := hb.at_ w.heap.size (by first | omega | (simp; done) | (simp; omega) | (simp at *; omega)); obtain ⟨c1, f1, l1⟩ := hb.at_ (w.heap.size + 1) (by first | omega | (simp; done) | (simp; omega) | (simp at *; omega)); obtain ⟨c2, f2, l2⟩ := hb.at_ (w.heap.size + 2) (by first | omega | (simp; done) | (simp; omega) | (simp at *; omega))) | (go_at_call 118; refine (both1_of a b _ _ _ _ ?_ ?_ ?_ ?_).mono ?_; (focus go_simp); (focus go_simp); (focus go_simp); (focus go_simp); rintro e w' ⟨rfl, rfl⟩) | (go_at_call 65; refine (truth_of _ _).mono ?_; rintro e w' ⟨rfl, hb⟩; obtain ⟨c0, f0, l0⟩ := hb.at_ w.heap.size (by first | omega | (simp; done) | (simp; omega) | (simp at *; omega)); obtain ⟨c1, f1, l1⟩ := hb.at_ (w.heap.size + 1) (by first | omega | (simp; done) | (simp; omega) | (simp at *; omega)); obtain ⟨c2, f2, l2⟩ := hb.at_ (w.heap.size + 2) (by first | omega | (simp; done) | (simp; omega) | (simp at *; omega))))
  refine back_ct Try.results64 Val.null.cells (.int .i64 50) rfl rfl agg_val rfl ?_ ⟨rfl, ?_⟩
  · (simp only [At, Val.cells, Val.null, Val.number, Val.truth, Val.float]; repeat (first | exact trivial | (refine ⟨?_, ?_⟩; focus go_simp)))
  · repeat (first | (with_reducible exact Ext.refl _) | (with_reducible refine Ext.set_ ?_ _ ?_; focus (first | (simp; done) | (simp; omega) | (simp at *; omega))) | (with_reducible refine Ext.alloc ?_ _) | (with_reducible refine Ext.drew ?_) | (with_reducible refine Ext.drewN ?_ _) | (with_reducible refine Ext.trans ?_ (by assumption)))
set_option maxHeartbeats 400000 in
theorem both10_b (a b : Val) (w : World) (hfa : a.flt < 18446744073709551616) (hfb : b.flt < 18446744073709551616) (na : a.truthy = true) (nb : b.truthy = false) :
    Calls Try.prog 64 #[.int .i64 10, .agg #[.int .i64 a.kind, .int .i64 a.int, .float .f64 a.flt, .string a.text], .agg #[.int .i64 b.kind, .int .i64 b.int, .float .f64 b.flt, .string b.text]] w
      fun e w' => e = .returned (.tuple #[Val.null.enc, .int .i64 50]) ∧ Ext w w' := by
  go_enter Try.func64, Try.ntmps64
  go_wp2_with (first | (go_at_call 117; (first | (with_reducible refine (truthy_of a _ hfa).mono ?_) | (with_reducible refine (truthy_of b _ hfb).mono ?_)); rintro e w' ⟨rfl, hb⟩; obtain ⟨c0, f0, l0⟩ := hb.at_ w.heap.size (by first | omega | (simp; done) | (simp; omega) | (simp at *; omega)); obtain ⟨c1, f1, l1⟩ := hb.at_ (w.heap.size + 1) (by first | omega | (simp; done) | (simp; omega) | (simp at *; omega)); obtain ⟨c2, f2, l2⟩ := hb.at_ (w.heap.size + 2) (by first | omega | (simp; done) | (simp; omega) | (simp at *; omega))) | (go_at_call 118; refine (both1_of a b _ _ _ _ ?_ ?_ ?_ ?_).mono ?_; (focus go_simp); (focus go_simp); (focus go_simp); (focus go_simp); rintro e w' ⟨rfl, rfl⟩) | (go_at_call 65; refine (truth_of _ _).mono ?_; rintro e w' ⟨rfl, hb⟩; obtain ⟨c0, f0, l0⟩ := hb.at_ w.heap.size (by first | omega | (simp; done) | (simp; omega) | (simp at *; omega)); obtain ⟨c1, f1, l1⟩ := hb.at_ (w.heap.size + 1) (by first | omega | (simp; done) | (simp; omega) | (simp at *; omega)); obtain ⟨c2, f2, l2⟩ := hb.at_ (w.heap.size + 2) (by first | omega | (simp; done) | (simp; omega) | (simp at *; omega))))
  refine back_ct Try.results64 Val.null.cells (.int .i64 50) rfl rfl agg_val rfl ?_ ⟨rfl, ?_⟩
  · (simp only [At, Val.cells, Val.null, Val.number, Val.truth, Val.float]; repeat (first | exact trivial | (refine ⟨?_, ?_⟩; focus go_simp)))
  · repeat (first | (with_reducible exact Ext.refl _) | (with_reducible refine Ext.set_ ?_ _ ?_; focus (first | (simp; done) | (simp; omega) | (simp at *; omega))) | (with_reducible refine Ext.alloc ?_ _) | (with_reducible refine Ext.drew ?_) | (with_reducible refine Ext.drewN ?_ _) | (with_reducible refine Ext.trans ?_ (by assumption)))
set_option maxHeartbeats 1000000 in
theorem both10_c (a b : Val) (w : World) (hfa : a.flt < 18446744073709551616) (hfb : b.flt < 18446744073709551616) (na : a.truthy = true) (nb : b.truthy = true) :
    Calls Try.prog 64 #[.int .i64 10, .agg #[.int .i64 a.kind, .int .i64 a.int, .float .f64 a.flt, .string a.text], .agg #[.int .i64 b.kind, .int .i64 b.int, .float .f64 b.flt, .string b.text]] w
      fun e w' => e = .returned (.tuple #[(Val.both2 10 a b).1.enc, .int .i64 (Val.both2 10 a b).2]) ∧ Ext w w' := by
  go_enter Try.func64, Try.ntmps64
  go_wp2_with (first | (go_at_call 117; (first | (with_reducible refine (truthy_of a _ hfa).mono ?_) | (with_reducible refine (truthy_of b _ hfb).mono ?_)); rintro e w' ⟨rfl, hb⟩; obtain ⟨c0, f0, l0⟩ := hb.at_ w.heap.size (by first | omega | (simp; done) | (simp; omega) | (simp at *; omega)); obtain ⟨c1, f1, l1⟩ := hb.at_ (w.heap.size + 1) (by first | omega | (simp; done) | (simp; omega) | (simp at *; omega)); obtain ⟨c2, f2, l2⟩ := hb.at_ (w.heap.size + 2) (by first | omega | (simp; done) | (simp; omega) | (simp at *; omega))) | (go_at_call 118; refine (both1_of a b _ _ _ _ ?_ ?_ ?_ ?_).mono ?_; (focus go_simp); (focus go_simp); (focus go_simp); (focus go_simp); rintro e w' ⟨rfl, rfl⟩) | (go_at_call 65; refine (truth_of _ _).mono ?_; rintro e w' ⟨rfl, hb⟩; obtain ⟨c0, f0, l0⟩ := hb.at_ w.heap.size (by first | omega | (simp; done) | (simp; omega) | (simp at *; omega)); obtain ⟨c1, f1, l1⟩ := hb.at_ (w.heap.size + 1) (by first | omega | (simp; done) | (simp; omega) | (simp at *; omega)); obtain ⟨c2, f2, l2⟩ := hb.at_ (w.heap.size + 2) (by first | omega | (simp; done) | (simp; omega) | (simp at *; omega))))
  · refine back_ct Try.results64 (Val.truth false).cells (.int .i64 0) rfl rfl agg_val rfl ?_ ⟨ret_pair ?_, ?_⟩
    · (simp only [At, Val.cells, Val.null, Val.number, Val.truth, Val.float]; repeat (first | exact trivial | (refine ⟨?_, ?_⟩; focus go_simp)))
    · go_tidy; simp_all [Val.both2]
    · repeat (first | (with_reducible exact Ext.refl _) | (with_reducible refine Ext.set_ ?_ _ ?_; focus (first | (simp; done) | (simp; omega) | (simp at *; omega))) | (with_reducible refine Ext.alloc ?_ _) | (with_reducible refine Ext.drew ?_) | (with_reducible refine Ext.drewN ?_ _) | (with_reducible refine Ext.trans ?_ (by assumption)))
  · refine back_ct Try.results64 Val.null.cells (.int .i64 0) rfl rfl agg_val rfl ?_ ⟨ret_pair ?_, ?_⟩
    · (simp only [At, Val.cells, Val.null, Val.number, Val.truth, Val.float]; repeat (first | exact trivial | (refine ⟨?_, ?_⟩; focus go_simp)))
    · go_tidy; simp_all [Val.both2]
    · repeat (first | (with_reducible exact Ext.refl _) | (with_reducible refine Ext.set_ ?_ _ ?_; focus (first | (simp; done) | (simp; omega) | (simp at *; omega))) | (with_reducible refine Ext.alloc ?_ _) | (with_reducible refine Ext.drew ?_) | (with_reducible refine Ext.drewN ?_ _) | (with_reducible refine Ext.trans ?_ (by assumption)))
  · refine back_ct Try.results64 (Val.truth false).cells (.int .i64 0) rfl rfl agg_val rfl ?_ ⟨ret_pair ?_, ?_⟩
    · (simp only [At, Val.cells, Val.null, Val.number, Val.truth, Val.float]; repeat (first | exact trivial | (refine ⟨?_, ?_⟩; focus go_simp)))
    · go_tidy; simp_all [Val.both2]
    · repeat (first | (with_reducible exact Ext.refl _) | (with_reducible refine Ext.set_ ?_ _ ?_; focus (first | (simp; done) | (simp; omega) | (simp at *; omega))) | (with_reducible refine Ext.alloc ?_ _) | (with_reducible refine Ext.drew ?_) | (with_reducible refine Ext.drewN ?_ _) | (with_reducible refine Ext.trans ?_ (by assumption)))
  · refine back_ct Try.results64 Val.null.cells (.int .i64 0) rfl rfl agg_val rfl ?_ ⟨ret_pair ?_, ?_⟩
    · (simp only [At, Val.cells, Val.null, Val.number, Val.truth, Val.float]; repeat (first | exact trivial | (refine ⟨?_, ?_⟩; focus go_simp)))
    · go_tidy; simp_all [Val.both2]
    · repeat (first | (with_reducible exact Ext.refl _) | (with_reducible refine Ext.set_ ?_ _ ?_; focus (first | (simp; done) | (simp; omega) | (simp at *; omega))) | (with_reducible refine Ext.alloc ?_ _) | (with_reducible refine Ext.drew ?_) | (with_reducible refine Ext.drewN ?_ _) | (with_reducible refine Ext.trans ?_ (by assumption)))
  · refine back_ct Try.results64 (Val.truth true).cells (.int .i64 0) rfl rfl agg_val rfl ?_ ⟨ret_pair ?_, ?_⟩
    · (simp only [At, Val.cells, Val.null, Val.number, Val.truth, Val.float]; repeat (first | exact trivial | (refine ⟨?_, ?_⟩; focus go_simp)))
    · go_tidy; simp_all [Val.both2]
    · repeat (first | (with_reducible exact Ext.refl _) | (with_reducible refine Ext.set_ ?_ _ ?_; focus (first | (simp; done) | (simp; omega) | (simp at *; omega))) | (with_reducible refine Ext.alloc ?_ _) | (with_reducible refine Ext.drew ?_) | (with_reducible refine Ext.drewN ?_ _) | (with_reducible refine Ext.trans ?_ (by assumption)))
set_option maxHeartbeats 400000 in
theorem both11_a (a b : Val) (w : World) (hfa : a.flt < 18446744073709551616) (hfb : b.flt < 18446744073709551616) (na : a.truthy = false) :
    Calls Try.prog 64 #[.int .i64 11, .agg #[.int .i64 a.kind, .int .i64 a.int, .float .f64 a.flt, .string a.text], .agg #[.int .i64 b.kind, .int .i64 b.int, .float .f64 b.flt, .string b.text]] w
      fun e w' => e = .returned (.tuple #[Val.null.enc, .int .i64 50]) ∧ Ext w w' := by
  go_enter Try.func64, Try.ntmps64
  go_wp2_with (first | (go_at_call 117; (first | (with_reducible refine (truthy_of a _ hfa).mono ?_) | (with_reducible refine (truthy_of b _ hfb).mono ?_)); rintro e w' ⟨rfl, hb⟩; obtain ⟨c0, f0, l0⟩ := hb.at_ w.heap.size (by first | omega | (simp; done) | (simp; omega) | (simp at *; omega)); obtain ⟨c1, f1, l1⟩ := hb.at_ (w.heap.size + 1) (by first | omega | (simp; done) | (simp; omega) | (simp at *; omega)); obtain ⟨c2, f2, l2⟩ := hb.at_ (w.heap.size + 2) (by first | omega | (simp; done) | (simp; omega) | (simp at *; omega))) | (go_at_call 118; refine (both1_of a b _ _ _ _ ?_ ?_ ?_ ?_).mono ?_; (focus go_simp); (focus go_simp); (focus go_simp); (focus go_simp); rintro e w' ⟨rfl, rfl⟩) | (go_at_call 65; refine (truth_of _ _).mono ?_; rintro e w' ⟨rfl, hb⟩; obtain ⟨c0, f0, l0⟩ := hb.at_ w.heap.size (by first | omega | (simp; done) | (simp; omega) | (simp at *; omega)); obtain ⟨c1, f1, l1⟩ := hb.at_ (w.heap.size + 1) (by first | omega | (simp; done) | (simp; omega) | (simp at *; omega)); obtain ⟨c2, f2, l2⟩ := hb.at_ (w.heap.size + 2) (by first | omega | (simp; done) | (simp; omega) | (simp at *; omega))))
  refine back_ct Try.results64 Val.null.cells (.int .i64 50) rfl rfl agg_val rfl ?_ ⟨rfl, ?_⟩
  · (simp only [At, Val.cells, Val.null, Val.number, Val.truth, Val.float]; repeat (first | exact trivial | (refine ⟨?_, ?_⟩; focus go_simp)))
  · repeat (first | (with_reducible exact Ext.refl _) | (with_reducible refine Ext.set_ ?_ _ ?_; focus (first | (simp; done) | (simp; omega) | (simp at *; omega))) | (with_reducible refine Ext.alloc ?_ _) | (with_reducible refine Ext.drew ?_) | (with_reducible refine Ext.drewN ?_ _) | (with_reducible refine Ext.trans ?_ (by assumption)))
set_option maxHeartbeats 400000 in
theorem both11_b (a b : Val) (w : World) (hfa : a.flt < 18446744073709551616) (hfb : b.flt < 18446744073709551616) (na : a.truthy = true) (nb : b.truthy = false) :
    Calls Try.prog 64 #[.int .i64 11, .agg #[.int .i64 a.kind, .int .i64 a.int, .float .f64 a.flt, .string a.text], .agg #[.int .i64 b.kind, .int .i64 b.int, .float .f64 b.flt, .string b.text]] w
      fun e w' => e = .returned (.tuple #[Val.null.enc, .int .i64 50]) ∧ Ext w w' := by
  go_enter Try.func64, Try.ntmps64
  go_wp2_with (first | (go_at_call 117; (first | (with_reducible refine (truthy_of a _ hfa).mono ?_) | (with_reducible refine (truthy_of b _ hfb).mono ?_)); rintro e w' ⟨rfl, hb⟩; obtain ⟨c0, f0, l0⟩ := hb.at_ w.heap.size (by first | omega | (simp; done) | (simp; omega) | (simp at *; omega)); obtain ⟨c1, f1, l1⟩ := hb.at_ (w.heap.size + 1) (by first | omega | (simp; done) | (simp; omega) | (simp at *; omega)); obtain ⟨c2, f2, l2⟩ := hb.at_ (w.heap.size + 2) (by first | omega | (simp; done) | (simp; omega) | (simp at *; omega))) | (go_at_call 118; refine (both1_of a b _ _ _ _ ?_ ?_ ?_ ?_).mono ?_; (focus go_simp); (focus go_simp); (focus go_simp); (focus go_simp); rintro e w' ⟨rfl, rfl⟩) | (go_at_call 65; refine (truth_of _ _).mono ?_; rintro e w' ⟨rfl, hb⟩; obtain ⟨c0, f0, l0⟩ := hb.at_ w.heap.size (by first | omega | (simp; done) | (simp; omega) | (simp at *; omega)); obtain ⟨c1, f1, l1⟩ := hb.at_ (w.heap.size + 1) (by first | omega | (simp; done) | (simp; omega) | (simp at *; omega)); obtain ⟨c2, f2, l2⟩ := hb.at_ (w.heap.size + 2) (by first | omega | (simp; done) | (simp; omega) | (simp at *; omega))))
  refine back_ct Try.results64 Val.null.cells (.int .i64 50) rfl rfl agg_val rfl ?_ ⟨rfl, ?_⟩
  · (simp only [At, Val.cells, Val.null, Val.number, Val.truth, Val.float]; repeat (first | exact trivial | (refine ⟨?_, ?_⟩; focus go_simp)))
  · repeat (first | (with_reducible exact Ext.refl _) | (with_reducible refine Ext.set_ ?_ _ ?_; focus (first | (simp; done) | (simp; omega) | (simp at *; omega))) | (with_reducible refine Ext.alloc ?_ _) | (with_reducible refine Ext.drew ?_) | (with_reducible refine Ext.drewN ?_ _) | (with_reducible refine Ext.trans ?_ (by assumption)))
set_option maxHeartbeats 1000000 in
theorem both11_c (a b : Val) (w : World) (hfa : a.flt < 18446744073709551616) (hfb : b.flt < 18446744073709551616) (na : a.truthy = true) (nb : b.truthy = true) :
    Calls Try.prog 64 #[.int .i64 11, .agg #[.int .i64 a.kind, .int .i64 a.int, .float .f64 a.flt, .string a.text], .agg #[.int .i64 b.kind, .int .i64 b.int, .float .f64 b.flt, .string b.text]] w
      fun e w' => e = .returned (.tuple #[(Val.both2 11 a b).1.enc, .int .i64 (Val.both2 11 a b).2]) ∧ Ext w w' := by
  go_enter Try.func64, Try.ntmps64
  go_wp2_with (first | (go_at_call 117; (first | (with_reducible refine (truthy_of a _ hfa).mono ?_) | (with_reducible refine (truthy_of b _ hfb).mono ?_)); rintro e w' ⟨rfl, hb⟩; obtain ⟨c0, f0, l0⟩ := hb.at_ w.heap.size (by first | omega | (simp; done) | (simp; omega) | (simp at *; omega)); obtain ⟨c1, f1, l1⟩ := hb.at_ (w.heap.size + 1) (by first | omega | (simp; done) | (simp; omega) | (simp at *; omega)); obtain ⟨c2, f2, l2⟩ := hb.at_ (w.heap.size + 2) (by first | omega | (simp; done) | (simp; omega) | (simp at *; omega))) | (go_at_call 118; refine (both1_of a b _ _ _ _ ?_ ?_ ?_ ?_).mono ?_; (focus go_simp); (focus go_simp); (focus go_simp); (focus go_simp); rintro e w' ⟨rfl, rfl⟩) | (go_at_call 65; refine (truth_of _ _).mono ?_; rintro e w' ⟨rfl, hb⟩; obtain ⟨c0, f0, l0⟩ := hb.at_ w.heap.size (by first | omega | (simp; done) | (simp; omega) | (simp at *; omega)); obtain ⟨c1, f1, l1⟩ := hb.at_ (w.heap.size + 1) (by first | omega | (simp; done) | (simp; omega) | (simp at *; omega)); obtain ⟨c2, f2, l2⟩ := hb.at_ (w.heap.size + 2) (by first | omega | (simp; done) | (simp; omega) | (simp at *; omega))))
  · refine back_ct Try.results64 (Val.truth true).cells (.int .i64 0) rfl rfl agg_val rfl ?_ ⟨ret_pair ?_, ?_⟩
    · (simp only [At, Val.cells, Val.null, Val.number, Val.truth, Val.float]; repeat (first | exact trivial | (refine ⟨?_, ?_⟩; focus go_simp)))
    · go_tidy; simp_all [Val.both2]
    · repeat (first | (with_reducible exact Ext.refl _) | (with_reducible refine Ext.set_ ?_ _ ?_; focus (first | (simp; done) | (simp; omega) | (simp at *; omega))) | (with_reducible refine Ext.alloc ?_ _) | (with_reducible refine Ext.drew ?_) | (with_reducible refine Ext.drewN ?_ _) | (with_reducible refine Ext.trans ?_ (by assumption)))
  · refine back_ct Try.results64 Val.null.cells (.int .i64 0) rfl rfl agg_val rfl ?_ ⟨ret_pair ?_, ?_⟩
    · (simp only [At, Val.cells, Val.null, Val.number, Val.truth, Val.float]; repeat (first | exact trivial | (refine ⟨?_, ?_⟩; focus go_simp)))
    · go_tidy; simp_all [Val.both2]
    · repeat (first | (with_reducible exact Ext.refl _) | (with_reducible refine Ext.set_ ?_ _ ?_; focus (first | (simp; done) | (simp; omega) | (simp at *; omega))) | (with_reducible refine Ext.alloc ?_ _) | (with_reducible refine Ext.drew ?_) | (with_reducible refine Ext.drewN ?_ _) | (with_reducible refine Ext.trans ?_ (by assumption)))
  · refine back_ct Try.results64 (Val.truth true).cells (.int .i64 0) rfl rfl agg_val rfl ?_ ⟨ret_pair ?_, ?_⟩
    · (simp only [At, Val.cells, Val.null, Val.number, Val.truth, Val.float]; repeat (first | exact trivial | (refine ⟨?_, ?_⟩; focus go_simp)))
    · go_tidy; simp_all [Val.both2]
    · repeat (first | (with_reducible exact Ext.refl _) | (with_reducible refine Ext.set_ ?_ _ ?_; focus (first | (simp; done) | (simp; omega) | (simp at *; omega))) | (with_reducible refine Ext.alloc ?_ _) | (with_reducible refine Ext.drew ?_) | (with_reducible refine Ext.drewN ?_ _) | (with_reducible refine Ext.trans ?_ (by assumption)))
  · refine back_ct Try.results64 Val.null.cells (.int .i64 0) rfl rfl agg_val rfl ?_ ⟨ret_pair ?_, ?_⟩
    · (simp only [At, Val.cells, Val.null, Val.number, Val.truth, Val.float]; repeat (first | exact trivial | (refine ⟨?_, ?_⟩; focus go_simp)))
    · go_tidy; simp_all [Val.both2]
    · repeat (first | (with_reducible exact Ext.refl _) | (with_reducible refine Ext.set_ ?_ _ ?_; focus (first | (simp; done) | (simp; omega) | (simp at *; omega))) | (with_reducible refine Ext.alloc ?_ _) | (with_reducible refine Ext.drew ?_) | (with_reducible refine Ext.drewN ?_ _) | (with_reducible refine Ext.trans ?_ (by assumption)))
  · refine back_ct Try.results64 (Val.truth false).cells (.int .i64 0) rfl rfl agg_val rfl ?_ ⟨ret_pair ?_, ?_⟩
    · (simp only [At, Val.cells, Val.null, Val.number, Val.truth, Val.float]; repeat (first | exact trivial | (refine ⟨?_, ?_⟩; focus go_simp)))
    · go_tidy; simp_all [Val.both2]
    · repeat (first | (with_reducible exact Ext.refl _) | (with_reducible refine Ext.set_ ?_ _ ?_; focus (first | (simp; done) | (simp; omega) | (simp at *; omega))) | (with_reducible refine Ext.alloc ?_ _) | (with_reducible refine Ext.drew ?_) | (with_reducible refine Ext.drewN ?_ _) | (with_reducible refine Ext.trans ?_ (by assumption)))
set_option maxHeartbeats 400000 in
theorem both12_a (a b : Val) (w : World) (hfa : a.flt < 18446744073709551616) (hfb : b.flt < 18446744073709551616) (na : a.truthy = false) :
    Calls Try.prog 64 #[.int .i64 12, .agg #[.int .i64 a.kind, .int .i64 a.int, .float .f64 a.flt, .string a.text], .agg #[.int .i64 b.kind, .int .i64 b.int, .float .f64 b.flt, .string b.text]] w
      fun e w' => e = .returned (.tuple #[Val.null.enc, .int .i64 50]) ∧ Ext w w' := by
  go_enter Try.func64, Try.ntmps64
  go_wp2_with (first | (go_at_call 117; (first | (with_reducible refine (truthy_of a _ hfa).mono ?_)); rintro e w' ⟨rfl, hb⟩; obtain ⟨c0, f0, l0⟩ := hb.at_ w.heap.size (by first | omega | (simp; done) | (simp; omega) | (simp at *; omega)); obtain ⟨c1, f1, l1⟩ := hb.at_ (w.heap.size + 1) (by first | omega | (simp; done) | (simp; omega) | (simp at *; omega)); obtain ⟨c2, f2, l2⟩ := hb.at_ (w.heap.size + 2) (by first | omega | (simp; done) | (simp; omega) | (simp at *; omega))) | (go_at_call 118; refine (both1_of a a _ _ _ _ ?_ ?_ ?_ ?_).mono ?_; (focus go_simp); (focus go_simp); (focus go_simp); (focus go_simp); rintro e w' ⟨rfl, rfl⟩) | (go_at_call 65; refine (truth_of _ _).mono ?_; rintro e w' ⟨rfl, hb⟩; obtain ⟨c0, f0, l0⟩ := hb.at_ w.heap.size (by first | omega | (simp; done) | (simp; omega) | (simp at *; omega)); obtain ⟨c1, f1, l1⟩ := hb.at_ (w.heap.size + 1) (by first | omega | (simp; done) | (simp; omega) | (simp at *; omega)); obtain ⟨c2, f2, l2⟩ := hb.at_ (w.heap.size + 2) (by first | omega | (simp; done) | (simp; omega) | (simp at *; omega))))
  refine back_ct Try.results64 Val.null.cells (.int .i64 50) rfl rfl agg_val rfl ?_ ⟨rfl, ?_⟩
  · (simp only [At, Val.cells, Val.null, Val.number, Val.truth, Val.float]; repeat (first | exact trivial | (refine ⟨?_, ?_⟩; focus go_simp)))
  · repeat (first | (with_reducible exact Ext.refl _) | (with_reducible refine Ext.set_ ?_ _ ?_; focus (first | (simp; done) | (simp; omega) | (simp at *; omega))) | (with_reducible refine Ext.alloc ?_ _) | (with_reducible refine Ext.drew ?_) | (with_reducible refine Ext.drewN ?_ _) | (with_reducible refine Ext.trans ?_ (by assumption)))
set_option maxHeartbeats 1000000 in
theorem both12_c (a b : Val) (w : World) (hfa : a.flt < 18446744073709551616) (hfb : b.flt < 18446744073709551616) (na : a.truthy = true) :
    Calls Try.prog 64 #[.int .i64 12, .agg #[.int .i64 a.kind, .int .i64 a.int, .float .f64 a.flt, .string a.text], .agg #[.int .i64 b.kind, .int .i64 b.int, .float .f64 b.flt, .string b.text]] w
      fun e w' => e = .returned (.tuple #[(Val.both2 12 a a).1.enc, .int .i64 (Val.both2 12 a a).2]) ∧ Ext w w' := by
  go_enter Try.func64, Try.ntmps64
  go_wp2_with (first | (go_at_call 117; (first | (with_reducible refine (truthy_of a _ hfa).mono ?_)); rintro e w' ⟨rfl, hb⟩; obtain ⟨c0, f0, l0⟩ := hb.at_ w.heap.size (by first | omega | (simp; done) | (simp; omega) | (simp at *; omega)); obtain ⟨c1, f1, l1⟩ := hb.at_ (w.heap.size + 1) (by first | omega | (simp; done) | (simp; omega) | (simp at *; omega)); obtain ⟨c2, f2, l2⟩ := hb.at_ (w.heap.size + 2) (by first | omega | (simp; done) | (simp; omega) | (simp at *; omega))) | (go_at_call 118; refine (both1_of a a _ _ _ _ ?_ ?_ ?_ ?_).mono ?_; (focus go_simp); (focus go_simp); (focus go_simp); (focus go_simp); rintro e w' ⟨rfl, rfl⟩) | (go_at_call 65; refine (truth_of _ _).mono ?_; rintro e w' ⟨rfl, hb⟩; obtain ⟨c0, f0, l0⟩ := hb.at_ w.heap.size (by first | omega | (simp; done) | (simp; omega) | (simp at *; omega)); obtain ⟨c1, f1, l1⟩ := hb.at_ (w.heap.size + 1) (by first | omega | (simp; done) | (simp; omega) | (simp at *; omega)); obtain ⟨c2, f2, l2⟩ := hb.at_ (w.heap.size + 2) (by first | omega | (simp; done) | (simp; omega) | (simp at *; omega))))
  · refine back_ct Try.results64 Val.null.cells (.int .i64 0) rfl rfl agg_val rfl ?_ ⟨ret_pair ?_, ?_⟩
    · (simp only [At, Val.cells, Val.null, Val.number, Val.truth, Val.float]; repeat (first | exact trivial | (refine ⟨?_, ?_⟩; focus go_simp)))
    · go_tidy; simp_all [Val.both2]
    · repeat (first | (with_reducible exact Ext.refl _) | (with_reducible refine Ext.set_ ?_ _ ?_; focus (first | (simp; done) | (simp; omega) | (simp at *; omega))) | (with_reducible refine Ext.alloc ?_ _) | (with_reducible refine Ext.drew ?_) | (with_reducible refine Ext.drewN ?_ _) | (with_reducible refine Ext.trans ?_ (by assumption)))
  · refine back_ct Try.results64 (Val.truth (a.int == 0)).cells (.int .i64 0) rfl rfl agg_val rfl ?_ ⟨ret_pair ?_, ?_⟩
    · (simp only [At, Val.cells, Val.null, Val.number, Val.truth, Val.float]; repeat (first | exact trivial | (refine ⟨?_, ?_⟩; focus go_simp)))
    · go_tidy; simp_all [Val.both2]
    · repeat (first | (with_reducible exact Ext.refl _) | (with_reducible refine Ext.set_ ?_ _ ?_; focus (first | (simp; done) | (simp; omega) | (simp at *; omega))) | (with_reducible refine Ext.alloc ?_ _) | (with_reducible refine Ext.drew ?_) | (with_reducible refine Ext.drewN ?_ _) | (with_reducible refine Ext.trans ?_ (by assumption)))

theorem both_of (op : Int) (a b : Val) (w : World) (hfa : a.flt < 18446744073709551616) (hfb : b.flt < 18446744073709551616) (h : op = 10 ∨ op = 11 ∨ op = 12) :
    Calls Try.prog 64 #[.int .i64 op, .agg #[.int .i64 a.kind, .int .i64 a.int, .float .f64 a.flt, .string a.text], .agg #[.int .i64 b.kind, .int .i64 b.int, .float .f64 b.flt, .string b.text]] w
      fun e w' => e = .returned (.tuple #[(Val.both op a b).1.enc, .int .i64 (Val.both op a b).2]) ∧ Ext w w' := by
  rcases h with rfl | rfl | rfl
  · have e : Val.both 10 a b = Val.both2 10 a b := by unfold Val.both; rw [if_neg (by omega), if_neg (by omega)]
    rw [e]
    cases na : a.truthy
    · have e2 : Val.both2 10 a b = (Val.null, 50) := by simp [Val.both2, na]
      rw [e2]; exact both10_a a b w hfa hfb na
    · cases nb : b.truthy
      · have e2 : Val.both2 10 a b = (Val.null, 50) := by simp [Val.both2, nb]
        rw [e2]; exact both10_b a b w hfa hfb na nb
      · exact both10_c a b w hfa hfb na nb
  · have e : Val.both 11 a b = Val.both2 11 a b := by unfold Val.both; rw [if_neg (by omega), if_neg (by omega)]
    rw [e]
    cases na : a.truthy
    · have e2 : Val.both2 11 a b = (Val.null, 50) := by simp [Val.both2, na]
      rw [e2]; exact both11_a a b w hfa hfb na
    · cases nb : b.truthy
      · have e2 : Val.both2 11 a b = (Val.null, 50) := by simp [Val.both2, nb]
        rw [e2]; exact both11_b a b w hfa hfb na nb
      · exact both11_c a b w hfa hfb na nb
  · have e : Val.both 12 a b = Val.both2 12 a a := by unfold Val.both; rw [if_neg (by omega), if_pos rfl]
    rw [e]
    cases na : a.truthy
    · have e2 : Val.both2 12 a a = (Val.null, 50) := by simp [Val.both2, na]
      rw [e2]; exact both12_a a b w hfa hfb na
    · exact both12_c a b w hfa hfb na
end Go.Proofs.Ytlcdjaclahhdnaa
