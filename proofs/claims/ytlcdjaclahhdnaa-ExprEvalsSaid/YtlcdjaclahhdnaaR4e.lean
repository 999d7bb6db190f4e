/- The call of tabularyref04.Both. Printed by wip/tools/gen_r4e.py. -/
import Derived.Test.YtlcdjaclahhdnaaR4d
import Derived.Test.YtlcdjaclahhdnaaVal7
namespace Go.Proofs.Ytlcdjaclahhdnaa
open Go.RowKit
set_option linter.unusedSimpArgs false
set_option linter.unusedVariables false

theorem right_int {v : Val} (h : v.right = true) (hk : ¬ 1 < v.kind) : (v.kind = 0 ∧ v.int = 0) ∨ (v.kind = 1 ∧ v.int = 0) ∨ (v.kind = 1 ∧ v.int = 1) := by
  rcases right_kinds h with h0 | h0 | h0 | h0 | h0
  · left
    unfold Val.right at h; rw [if_pos h0] at h
    simp at h
    exact ⟨h0, h.1.1⟩
  · right
    unfold Val.right at h; rw [if_neg (by omega), if_pos h0] at h
    simp at h
    rcases h.1.1 with h2 | h2
    · exact .inl ⟨h0, h2⟩
    · exact .inr ⟨h0, h2⟩
  all_goals omega

set_option maxRecDepth 100000 in
set_option maxHeartbeats 20000000 in
theorem rboth10_of (a b : Val) (w : World) (hfa : a.flt < 18446744073709551616) (hfb : b.flt < 18446744073709551616) :
    Calls Try.prog 133 #[.int .i64 10, .agg #[.int .i64 a.kind, .int .i64 a.int, .float .f64 a.flt, .string a.text], .agg #[.int .i64 b.kind, .int .i64 b.int, .float .f64 b.flt, .string b.text]] w
      fun e w' => e = .returned (.tuple #[(Val.both 10 a b).1.enc, .int .i64 (Val.both 10 a b).2]) ∧ Ext w w' := by
  have HRA := Lib.hid (fun w => rright_of a w hfa)
  have HRB := Lib.hid (fun w => rright_of b w hfb)
  clear hfa hfb
  unfold Val.both Val.both2
  rw [if_neg (by decide)]
  simp only [if_true, if_false, Int.reduceEq]
  cases na : a.right
  · have e1 : ¬ (a.truthy = true ∧ b.truthy = true) := by unfold Val.truthy; simp [na]
    rw [if_neg e1]; rw [na] at HRA; clear e1 na
    go_enter Try.func133, Try.ntmps133
    go_wp2_with (first
      | (go_at_call 130; (first | (with_reducible refine (HRA.out _).mono ?_) | (with_reducible refine (HRB.out _).mono ?_)); rintro e w' ⟨rfl, hb⟩; obtain ⟨c0, f0, l0⟩ := hb.at_ w.heap.size (by first | omega | (simp; done) | (simp; omega) | (simp at *; omega)); obtain ⟨c1, f1, l1⟩ := hb.at_ (w.heap.size + 1) (by first | omega | (simp; done) | (simp; omega) | (simp at *; omega)); obtain ⟨c2, f2, l2⟩ := hb.at_ (w.heap.size + 2) (by first | omega | (simp; done) | (simp; omega) | (simp at *; omega)); obtain ⟨c3, f3, l3⟩ := hb.at_ (w.heap.size + 3) (by first | omega | (simp; done) | (simp; omega) | (simp at *; omega)))
      | (go_at_call 134; refine (rbool_of _ _).mono ?_; rintro e w' ⟨rfl, hb⟩; obtain ⟨c0, f0, l0⟩ := hb.at_ w.heap.size (by first | omega | (simp; done) | (simp; omega) | (simp at *; omega)); obtain ⟨c1, f1, l1⟩ := hb.at_ (w.heap.size + 1) (by first | omega | (simp; done) | (simp; omega) | (simp at *; omega)); obtain ⟨c2, f2, l2⟩ := hb.at_ (w.heap.size + 2) (by first | omega | (simp; done) | (simp; omega) | (simp at *; omega)); obtain ⟨c3, f3, l3⟩ := hb.at_ (w.heap.size + 3) (by first | omega | (simp; done) | (simp; omega) | (simp at *; omega))))
    refine back_ct rfl (Val.null).cells (.int .i64 50) rfl rfl agg_val rfl ?_ ⟨rfl, ?_⟩
    · (simp only [At, Val.cells, Val.null, Val.number, Val.truth, Val.float]; repeat (first | exact trivial | (refine ⟨?_, ?_⟩; focus go_simp)))
    · repeat (first | (with_reducible exact Ext.refl _) | (with_reducible refine Ext.set_ ?_ _ ?_; focus (first | (simp; done) | (simp; omega) | (simp at *; omega))) | (with_reducible refine Ext.alloc ?_ _) | (with_reducible refine Ext.drew ?_) | (with_reducible refine Ext.drewN ?_ _) | (with_reducible refine Ext.trans ?_ (by assumption)))
  have ka := right_kinds na
  cases nb : b.right
  · have e1 : ¬ (a.truthy = true ∧ b.truthy = true) := by unfold Val.truthy; simp [nb]
    rw [if_neg e1]; rw [nb] at HRB; rw [na] at HRA; clear e1 na nb ka
    go_enter Try.func133, Try.ntmps133
    go_wp2_with (first
      | (go_at_call 130; (first | (with_reducible refine (HRA.out _).mono ?_) | (with_reducible refine (HRB.out _).mono ?_)); rintro e w' ⟨rfl, hb⟩; obtain ⟨c0, f0, l0⟩ := hb.at_ w.heap.size (by first | omega | (simp; done) | (simp; omega) | (simp at *; omega)); obtain ⟨c1, f1, l1⟩ := hb.at_ (w.heap.size + 1) (by first | omega | (simp; done) | (simp; omega) | (simp at *; omega)); obtain ⟨c2, f2, l2⟩ := hb.at_ (w.heap.size + 2) (by first | omega | (simp; done) | (simp; omega) | (simp at *; omega)); obtain ⟨c3, f3, l3⟩ := hb.at_ (w.heap.size + 3) (by first | omega | (simp; done) | (simp; omega) | (simp at *; omega)))
      | (go_at_call 134; refine (rbool_of _ _).mono ?_; rintro e w' ⟨rfl, hb⟩; obtain ⟨c0, f0, l0⟩ := hb.at_ w.heap.size (by first | omega | (simp; done) | (simp; omega) | (simp at *; omega)); obtain ⟨c1, f1, l1⟩ := hb.at_ (w.heap.size + 1) (by first | omega | (simp; done) | (simp; omega) | (simp at *; omega)); obtain ⟨c2, f2, l2⟩ := hb.at_ (w.heap.size + 2) (by first | omega | (simp; done) | (simp; omega) | (simp at *; omega)); obtain ⟨c3, f3, l3⟩ := hb.at_ (w.heap.size + 3) (by first | omega | (simp; done) | (simp; omega) | (simp at *; omega))))
    refine back_ct rfl (Val.null).cells (.int .i64 50) rfl rfl agg_val rfl ?_ ⟨rfl, ?_⟩
    · (simp only [At, Val.cells, Val.null, Val.number, Val.truth, Val.float]; repeat (first | exact trivial | (refine ⟨?_, ?_⟩; focus go_simp)))
    · repeat (first | (with_reducible exact Ext.refl _) | (with_reducible refine Ext.set_ ?_ _ ?_; focus (first | (simp; done) | (simp; omega) | (simp at *; omega))) | (with_reducible refine Ext.alloc ?_ _) | (with_reducible refine Ext.drew ?_) | (with_reducible refine Ext.drewN ?_ _) | (with_reducible refine Ext.trans ?_ (by assumption)))
  have kb := right_kinds nb
  by_cases a1 : 1 < a.kind
  · have e1 : ¬ (a.truthy = true ∧ b.truthy = true) := by unfold Val.truthy; simp; omega
    have q1 : decide (1 < a.kind) = true := decide_eq_true a1
    rw [if_neg e1]; rw [na] at HRA; rw [nb] at HRB; clear e1 na nb ka kb
    go_enter Try.func133, Try.ntmps133
    go_wp2_with (first
      | (go_at_call 130; (first | (with_reducible refine (HRA.out _).mono ?_) | (with_reducible refine (HRB.out _).mono ?_)); rintro e w' ⟨rfl, hb⟩; obtain ⟨c0, f0, l0⟩ := hb.at_ w.heap.size (by first | omega | (simp; done) | (simp; omega) | (simp at *; omega)); obtain ⟨c1, f1, l1⟩ := hb.at_ (w.heap.size + 1) (by first | omega | (simp; done) | (simp; omega) | (simp at *; omega)); obtain ⟨c2, f2, l2⟩ := hb.at_ (w.heap.size + 2) (by first | omega | (simp; done) | (simp; omega) | (simp at *; omega)); obtain ⟨c3, f3, l3⟩ := hb.at_ (w.heap.size + 3) (by first | omega | (simp; done) | (simp; omega) | (simp at *; omega)))
      | (go_at_call 134; refine (rbool_of _ _).mono ?_; rintro e w' ⟨rfl, hb⟩; obtain ⟨c0, f0, l0⟩ := hb.at_ w.heap.size (by first | omega | (simp; done) | (simp; omega) | (simp at *; omega)); obtain ⟨c1, f1, l1⟩ := hb.at_ (w.heap.size + 1) (by first | omega | (simp; done) | (simp; omega) | (simp at *; omega)); obtain ⟨c2, f2, l2⟩ := hb.at_ (w.heap.size + 2) (by first | omega | (simp; done) | (simp; omega) | (simp at *; omega)); obtain ⟨c3, f3, l3⟩ := hb.at_ (w.heap.size + 3) (by first | omega | (simp; done) | (simp; omega) | (simp at *; omega))))
    refine back_ct rfl (Val.null).cells (.int .i64 50) rfl rfl agg_val rfl ?_ ⟨rfl, ?_⟩
    · (simp only [At, Val.cells, Val.null, Val.number, Val.truth, Val.float]; repeat (first | exact trivial | (refine ⟨?_, ?_⟩; focus go_simp)))
    · repeat (first | (with_reducible exact Ext.refl _) | (with_reducible refine Ext.set_ ?_ _ ?_; focus (first | (simp; done) | (simp; omega) | (simp at *; omega))) | (with_reducible refine Ext.alloc ?_ _) | (with_reducible refine Ext.drew ?_) | (with_reducible refine Ext.drewN ?_ _) | (with_reducible refine Ext.trans ?_ (by assumption)))
  have q1 : decide (1 < a.kind) = false := decide_eq_false a1
  by_cases b1 : 1 < b.kind
  · have e1 : ¬ (a.truthy = true ∧ b.truthy = true) := by unfold Val.truthy; simp; omega
    have q2 : decide (1 < b.kind) = true := decide_eq_true b1
    rw [if_neg e1]; rw [na] at HRA; rw [nb] at HRB; clear e1 na nb ka kb
    go_enter Try.func133, Try.ntmps133
    go_wp2_with (first
      | (go_at_call 130; (first | (with_reducible refine (HRA.out _).mono ?_) | (with_reducible refine (HRB.out _).mono ?_)); rintro e w' ⟨rfl, hb⟩; obtain ⟨c0, f0, l0⟩ := hb.at_ w.heap.size (by first | omega | (simp; done) | (simp; omega) | (simp at *; omega)); obtain ⟨c1, f1, l1⟩ := hb.at_ (w.heap.size + 1) (by first | omega | (simp; done) | (simp; omega) | (simp at *; omega)); obtain ⟨c2, f2, l2⟩ := hb.at_ (w.heap.size + 2) (by first | omega | (simp; done) | (simp; omega) | (simp at *; omega)); obtain ⟨c3, f3, l3⟩ := hb.at_ (w.heap.size + 3) (by first | omega | (simp; done) | (simp; omega) | (simp at *; omega)))
      | (go_at_call 134; refine (rbool_of _ _).mono ?_; rintro e w' ⟨rfl, hb⟩; obtain ⟨c0, f0, l0⟩ := hb.at_ w.heap.size (by first | omega | (simp; done) | (simp; omega) | (simp at *; omega)); obtain ⟨c1, f1, l1⟩ := hb.at_ (w.heap.size + 1) (by first | omega | (simp; done) | (simp; omega) | (simp at *; omega)); obtain ⟨c2, f2, l2⟩ := hb.at_ (w.heap.size + 2) (by first | omega | (simp; done) | (simp; omega) | (simp at *; omega)); obtain ⟨c3, f3, l3⟩ := hb.at_ (w.heap.size + 3) (by first | omega | (simp; done) | (simp; omega) | (simp at *; omega))))
    refine back_ct rfl (Val.null).cells (.int .i64 50) rfl rfl agg_val rfl ?_ ⟨rfl, ?_⟩
    · (simp only [At, Val.cells, Val.null, Val.number, Val.truth, Val.float]; repeat (first | exact trivial | (refine ⟨?_, ?_⟩; focus go_simp)))
    · repeat (first | (with_reducible exact Ext.refl _) | (with_reducible refine Ext.set_ ?_ _ ?_; focus (first | (simp; done) | (simp; omega) | (simp at *; omega))) | (with_reducible refine Ext.alloc ?_ _) | (with_reducible refine Ext.drew ?_) | (with_reducible refine Ext.drewN ?_ _) | (with_reducible refine Ext.trans ?_ (by assumption)))
  have q2 : decide (1 < b.kind) = false := decide_eq_false b1
  have e1 : a.truthy = true ∧ b.truthy = true := by unfold Val.truthy; simp [na, nb]; omega
  rw [if_pos e1]; clear e1
  have ia := right_int na a1
  rw [na] at HRA
  have ib := right_int nb b1
  rw [nb] at HRB
  clear na nb ka kb
  obtain ⟨AK, AI, AF, AT⟩ := a
  dsimp only at *
  obtain ⟨BK, BI, BF, BT⟩ := b
  dsimp only at *
  rcases ia with ⟨rfl, rfl⟩ | ⟨rfl, rfl⟩ | ⟨rfl, rfl⟩ <;> rcases ib with ⟨rfl, rfl⟩ | ⟨rfl, rfl⟩ | ⟨rfl, rfl⟩
  · show Calls _ _ _ _ fun e w' => e = .returned (.tuple #[(Val.null).enc, .int .i64 0]) ∧ Ext w w'
    go_enter Try.func133, Try.ntmps133
    go_wp2_with (first
      | (go_at_call 130; (first | (with_reducible refine (HRA.out _).mono ?_) | (with_reducible refine (HRB.out _).mono ?_)); rintro e w' ⟨rfl, hb⟩; obtain ⟨c0, f0, l0⟩ := hb.at_ w.heap.size (by first | omega | (simp; done) | (simp; omega) | (simp at *; omega)); obtain ⟨c1, f1, l1⟩ := hb.at_ (w.heap.size + 1) (by first | omega | (simp; done) | (simp; omega) | (simp at *; omega)); obtain ⟨c2, f2, l2⟩ := hb.at_ (w.heap.size + 2) (by first | omega | (simp; done) | (simp; omega) | (simp at *; omega)); obtain ⟨c3, f3, l3⟩ := hb.at_ (w.heap.size + 3) (by first | omega | (simp; done) | (simp; omega) | (simp at *; omega)))
      | (go_at_call 134; refine (rbool_of _ _).mono ?_; rintro e w' ⟨rfl, hb⟩; obtain ⟨c0, f0, l0⟩ := hb.at_ w.heap.size (by first | omega | (simp; done) | (simp; omega) | (simp at *; omega)); obtain ⟨c1, f1, l1⟩ := hb.at_ (w.heap.size + 1) (by first | omega | (simp; done) | (simp; omega) | (simp at *; omega)); obtain ⟨c2, f2, l2⟩ := hb.at_ (w.heap.size + 2) (by first | omega | (simp; done) | (simp; omega) | (simp at *; omega)); obtain ⟨c3, f3, l3⟩ := hb.at_ (w.heap.size + 3) (by first | omega | (simp; done) | (simp; omega) | (simp at *; omega))))
    refine back_ct rfl (Val.null).cells (.int .i64 0) rfl rfl agg_val rfl ?_ ⟨rfl, ?_⟩
    · (simp only [At, Val.cells, Val.null, Val.number, Val.truth, Val.float]; repeat (first | exact trivial | (refine ⟨?_, ?_⟩; focus go_simp)))
    · repeat (first | (with_reducible exact Ext.refl _) | (with_reducible refine Ext.set_ ?_ _ ?_; focus (first | (simp; done) | (simp; omega) | (simp at *; omega))) | (with_reducible refine Ext.alloc ?_ _) | (with_reducible refine Ext.drew ?_) | (with_reducible refine Ext.drewN ?_ _) | (with_reducible refine Ext.trans ?_ (by assumption)))
  · show Calls _ _ _ _ fun e w' => e = .returned (.tuple #[(Val.truth false).enc, .int .i64 0]) ∧ Ext w w'
    go_enter Try.func133, Try.ntmps133
    go_wp2_with (first
      | (go_at_call 130; (first | (with_reducible refine (HRA.out _).mono ?_) | (with_reducible refine (HRB.out _).mono ?_)); rintro e w' ⟨rfl, hb⟩; obtain ⟨c0, f0, l0⟩ := hb.at_ w.heap.size (by first | omega | (simp; done) | (simp; omega) | (simp at *; omega)); obtain ⟨c1, f1, l1⟩ := hb.at_ (w.heap.size + 1) (by first | omega | (simp; done) | (simp; omega) | (simp at *; omega)); obtain ⟨c2, f2, l2⟩ := hb.at_ (w.heap.size + 2) (by first | omega | (simp; done) | (simp; omega) | (simp at *; omega)); obtain ⟨c3, f3, l3⟩ := hb.at_ (w.heap.size + 3) (by first | omega | (simp; done) | (simp; omega) | (simp at *; omega)))
      | (go_at_call 134; refine (rbool_of _ _).mono ?_; rintro e w' ⟨rfl, hb⟩; obtain ⟨c0, f0, l0⟩ := hb.at_ w.heap.size (by first | omega | (simp; done) | (simp; omega) | (simp at *; omega)); obtain ⟨c1, f1, l1⟩ := hb.at_ (w.heap.size + 1) (by first | omega | (simp; done) | (simp; omega) | (simp at *; omega)); obtain ⟨c2, f2, l2⟩ := hb.at_ (w.heap.size + 2) (by first | omega | (simp; done) | (simp; omega) | (simp at *; omega)); obtain ⟨c3, f3, l3⟩ := hb.at_ (w.heap.size + 3) (by first | omega | (simp; done) | (simp; omega) | (simp at *; omega))))
    refine back_ct rfl (Val.truth false).cells (.int .i64 0) rfl rfl agg_val rfl ?_ ⟨rfl, ?_⟩
    · (simp only [At, Val.cells, Val.null, Val.number, Val.truth, Val.float]; repeat (first | exact trivial | (refine ⟨?_, ?_⟩; focus go_simp)))
    · repeat (first | (with_reducible exact Ext.refl _) | (with_reducible refine Ext.set_ ?_ _ ?_; focus (first | (simp; done) | (simp; omega) | (simp at *; omega))) | (with_reducible refine Ext.alloc ?_ _) | (with_reducible refine Ext.drew ?_) | (with_reducible refine Ext.drewN ?_ _) | (with_reducible refine Ext.trans ?_ (by assumption)))
  · show Calls _ _ _ _ fun e w' => e = .returned (.tuple #[(Val.null).enc, .int .i64 0]) ∧ Ext w w'
    go_enter Try.func133, Try.ntmps133
    go_wp2_with (first
      | (go_at_call 130; (first | (with_reducible refine (HRA.out _).mono ?_) | (with_reducible refine (HRB.out _).mono ?_)); rintro e w' ⟨rfl, hb⟩; obtain ⟨c0, f0, l0⟩ := hb.at_ w.heap.size (by first | omega | (simp; done) | (simp; omega) | (simp at *; omega)); obtain ⟨c1, f1, l1⟩ := hb.at_ (w.heap.size + 1) (by first | omega | (simp; done) | (simp; omega) | (simp at *; omega)); obtain ⟨c2, f2, l2⟩ := hb.at_ (w.heap.size + 2) (by first | omega | (simp; done) | (simp; omega) | (simp at *; omega)); obtain ⟨c3, f3, l3⟩ := hb.at_ (w.heap.size + 3) (by first | omega | (simp; done) | (simp; omega) | (simp at *; omega)))
      | (go_at_call 134; refine (rbool_of _ _).mono ?_; rintro e w' ⟨rfl, hb⟩; obtain ⟨c0, f0, l0⟩ := hb.at_ w.heap.size (by first | omega | (simp; done) | (simp; omega) | (simp at *; omega)); obtain ⟨c1, f1, l1⟩ := hb.at_ (w.heap.size + 1) (by first | omega | (simp; done) | (simp; omega) | (simp at *; omega)); obtain ⟨c2, f2, l2⟩ := hb.at_ (w.heap.size + 2) (by first | omega | (simp; done) | (simp; omega) | (simp at *; omega)); obtain ⟨c3, f3, l3⟩ := hb.at_ (w.heap.size + 3) (by first | omega | (simp; done) | (simp; omega) | (simp at *; omega))))
    refine back_ct rfl (Val.null).cells (.int .i64 0) rfl rfl agg_val rfl ?_ ⟨rfl, ?_⟩
    · (simp only [At, Val.cells, Val.null, Val.number, Val.truth, Val.float]; repeat (first | exact trivial | (refine ⟨?_, ?_⟩; focus go_simp)))
    · repeat (first | (with_reducible exact Ext.refl _) | (with_reducible refine Ext.set_ ?_ _ ?_; focus (first | (simp; done) | (simp; omega) | (simp at *; omega))) | (with_reducible refine Ext.alloc ?_ _) | (with_reducible refine Ext.drew ?_) | (with_reducible refine Ext.drewN ?_ _) | (with_reducible refine Ext.trans ?_ (by assumption)))
  · show Calls _ _ _ _ fun e w' => e = .returned (.tuple #[(Val.truth false).enc, .int .i64 0]) ∧ Ext w w'
    go_enter Try.func133, Try.ntmps133
    go_wp2_with (first
      | (go_at_call 130; (first | (with_reducible refine (HRA.out _).mono ?_) | (with_reducible refine (HRB.out _).mono ?_)); rintro e w' ⟨rfl, hb⟩; obtain ⟨c0, f0, l0⟩ := hb.at_ w.heap.size (by first | omega | (simp; done) | (simp; omega) | (simp at *; omega)); obtain ⟨c1, f1, l1⟩ := hb.at_ (w.heap.size + 1) (by first | omega | (simp; done) | (simp; omega) | (simp at *; omega)); obtain ⟨c2, f2, l2⟩ := hb.at_ (w.heap.size + 2) (by first | omega | (simp; done) | (simp; omega) | (simp at *; omega)); obtain ⟨c3, f3, l3⟩ := hb.at_ (w.heap.size + 3) (by first | omega | (simp; done) | (simp; omega) | (simp at *; omega)))
      | (go_at_call 134; refine (rbool_of _ _).mono ?_; rintro e w' ⟨rfl, hb⟩; obtain ⟨c0, f0, l0⟩ := hb.at_ w.heap.size (by first | omega | (simp; done) | (simp; omega) | (simp at *; omega)); obtain ⟨c1, f1, l1⟩ := hb.at_ (w.heap.size + 1) (by first | omega | (simp; done) | (simp; omega) | (simp at *; omega)); obtain ⟨c2, f2, l2⟩ := hb.at_ (w.heap.size + 2) (by first | omega | (simp; done) | (simp; omega) | (simp at *; omega)); obtain ⟨c3, f3, l3⟩ := hb.at_ (w.heap.size + 3) (by first | omega | (simp; done) | (simp; omega) | (simp at *; omega))))
    refine back_ct rfl (Val.truth false).cells (.int .i64 0) rfl rfl agg_val rfl ?_ ⟨rfl, ?_⟩
    · (simp only [At, Val.cells, Val.null, Val.number, Val.truth, Val.float]; repeat (first | exact trivial | (refine ⟨?_, ?_⟩; focus go_simp)))
    · repeat (first | (with_reducible exact Ext.refl _) | (with_reducible refine Ext.set_ ?_ _ ?_; focus (first | (simp; done) | (simp; omega) | (simp at *; omega))) | (with_reducible refine Ext.alloc ?_ _) | (with_reducible refine Ext.drew ?_) | (with_reducible refine Ext.drewN ?_ _) | (with_reducible refine Ext.trans ?_ (by assumption)))
  · show Calls _ _ _ _ fun e w' => e = .returned (.tuple #[(Val.truth false).enc, .int .i64 0]) ∧ Ext w w'
    go_enter Try.func133, Try.ntmps133
    go_wp2_with (first
      | (go_at_call 130; (first | (with_reducible refine (HRA.out _).mono ?_) | (with_reducible refine (HRB.out _).mono ?_)); rintro e w' ⟨rfl, hb⟩; obtain ⟨c0, f0, l0⟩ := hb.at_ w.heap.size (by first | omega | (simp; done) | (simp; omega) | (simp at *; omega)); obtain ⟨c1, f1, l1⟩ := hb.at_ (w.heap.size + 1) (by first | omega | (simp; done) | (simp; omega) | (simp at *; omega)); obtain ⟨c2, f2, l2⟩ := hb.at_ (w.heap.size + 2) (by first | omega | (simp; done) | (simp; omega) | (simp at *; omega)); obtain ⟨c3, f3, l3⟩ := hb.at_ (w.heap.size + 3) (by first | omega | (simp; done) | (simp; omega) | (simp at *; omega)))
      | (go_at_call 134; refine (rbool_of _ _).mono ?_; rintro e w' ⟨rfl, hb⟩; obtain ⟨c0, f0, l0⟩ := hb.at_ w.heap.size (by first | omega | (simp; done) | (simp; omega) | (simp at *; omega)); obtain ⟨c1, f1, l1⟩ := hb.at_ (w.heap.size + 1) (by first | omega | (simp; done) | (simp; omega) | (simp at *; omega)); obtain ⟨c2, f2, l2⟩ := hb.at_ (w.heap.size + 2) (by first | omega | (simp; done) | (simp; omega) | (simp at *; omega)); obtain ⟨c3, f3, l3⟩ := hb.at_ (w.heap.size + 3) (by first | omega | (simp; done) | (simp; omega) | (simp at *; omega))))
    refine back_ct rfl (Val.truth false).cells (.int .i64 0) rfl rfl agg_val rfl ?_ ⟨rfl, ?_⟩
    · (simp only [At, Val.cells, Val.null, Val.number, Val.truth, Val.float]; repeat (first | exact trivial | (refine ⟨?_, ?_⟩; focus go_simp)))
    · repeat (first | (with_reducible exact Ext.refl _) | (with_reducible refine Ext.set_ ?_ _ ?_; focus (first | (simp; done) | (simp; omega) | (simp at *; omega))) | (with_reducible refine Ext.alloc ?_ _) | (with_reducible refine Ext.drew ?_) | (with_reducible refine Ext.drewN ?_ _) | (with_reducible refine Ext.trans ?_ (by assumption)))
  · show Calls _ _ _ _ fun e w' => e = .returned (.tuple #[(Val.truth false).enc, .int .i64 0]) ∧ Ext w w'
    go_enter Try.func133, Try.ntmps133
    go_wp2_with (first
      | (go_at_call 130; (first | (with_reducible refine (HRA.out _).mono ?_) | (with_reducible refine (HRB.out _).mono ?_)); rintro e w' ⟨rfl, hb⟩; obtain ⟨c0, f0, l0⟩ := hb.at_ w.heap.size (by first | omega | (simp; done) | (simp; omega) | (simp at *; omega)); obtain ⟨c1, f1, l1⟩ := hb.at_ (w.heap.size + 1) (by first | omega | (simp; done) | (simp; omega) | (simp at *; omega)); obtain ⟨c2, f2, l2⟩ := hb.at_ (w.heap.size + 2) (by first | omega | (simp; done) | (simp; omega) | (simp at *; omega)); obtain ⟨c3, f3, l3⟩ := hb.at_ (w.heap.size + 3) (by first | omega | (simp; done) | (simp; omega) | (simp at *; omega)))
      | (go_at_call 134; refine (rbool_of _ _).mono ?_; rintro e w' ⟨rfl, hb⟩; obtain ⟨c0, f0, l0⟩ := hb.at_ w.heap.size (by first | omega | (simp; done) | (simp; omega) | (simp at *; omega)); obtain ⟨c1, f1, l1⟩ := hb.at_ (w.heap.size + 1) (by first | omega | (simp; done) | (simp; omega) | (simp at *; omega)); obtain ⟨c2, f2, l2⟩ := hb.at_ (w.heap.size + 2) (by first | omega | (simp; done) | (simp; omega) | (simp at *; omega)); obtain ⟨c3, f3, l3⟩ := hb.at_ (w.heap.size + 3) (by first | omega | (simp; done) | (simp; omega) | (simp at *; omega))))
    refine back_ct rfl (Val.truth false).cells (.int .i64 0) rfl rfl agg_val rfl ?_ ⟨rfl, ?_⟩
    · (simp only [At, Val.cells, Val.null, Val.number, Val.truth, Val.float]; repeat (first | exact trivial | (refine ⟨?_, ?_⟩; focus go_simp)))
    · repeat (first | (with_reducible exact Ext.refl _) | (with_reducible refine Ext.set_ ?_ _ ?_; focus (first | (simp; done) | (simp; omega) | (simp at *; omega))) | (with_reducible refine Ext.alloc ?_ _) | (with_reducible refine Ext.drew ?_) | (with_reducible refine Ext.drewN ?_ _) | (with_reducible refine Ext.trans ?_ (by assumption)))
  · show Calls _ _ _ _ fun e w' => e = .returned (.tuple #[(Val.null).enc, .int .i64 0]) ∧ Ext w w'
    go_enter Try.func133, Try.ntmps133
    go_wp2_with (first
      | (go_at_call 130; (first | (with_reducible refine (HRA.out _).mono ?_) | (with_reducible refine (HRB.out _).mono ?_)); rintro e w' ⟨rfl, hb⟩; obtain ⟨c0, f0, l0⟩ := hb.at_ w.heap.size (by first | omega | (simp; done) | (simp; omega) | (simp at *; omega)); obtain ⟨c1, f1, l1⟩ := hb.at_ (w.heap.size + 1) (by first | omega | (simp; done) | (simp; omega) | (simp at *; omega)); obtain ⟨c2, f2, l2⟩ := hb.at_ (w.heap.size + 2) (by first | omega | (simp; done) | (simp; omega) | (simp at *; omega)); obtain ⟨c3, f3, l3⟩ := hb.at_ (w.heap.size + 3) (by first | omega | (simp; done) | (simp; omega) | (simp at *; omega)))
      | (go_at_call 134; refine (rbool_of _ _).mono ?_; rintro e w' ⟨rfl, hb⟩; obtain ⟨c0, f0, l0⟩ := hb.at_ w.heap.size (by first | omega | (simp; done) | (simp; omega) | (simp at *; omega)); obtain ⟨c1, f1, l1⟩ := hb.at_ (w.heap.size + 1) (by first | omega | (simp; done) | (simp; omega) | (simp at *; omega)); obtain ⟨c2, f2, l2⟩ := hb.at_ (w.heap.size + 2) (by first | omega | (simp; done) | (simp; omega) | (simp at *; omega)); obtain ⟨c3, f3, l3⟩ := hb.at_ (w.heap.size + 3) (by first | omega | (simp; done) | (simp; omega) | (simp at *; omega))))
    refine back_ct rfl (Val.null).cells (.int .i64 0) rfl rfl agg_val rfl ?_ ⟨rfl, ?_⟩
    · (simp only [At, Val.cells, Val.null, Val.number, Val.truth, Val.float]; repeat (first | exact trivial | (refine ⟨?_, ?_⟩; focus go_simp)))
    · repeat (first | (with_reducible exact Ext.refl _) | (with_reducible refine Ext.set_ ?_ _ ?_; focus (first | (simp; done) | (simp; omega) | (simp at *; omega))) | (with_reducible refine Ext.alloc ?_ _) | (with_reducible refine Ext.drew ?_) | (with_reducible refine Ext.drewN ?_ _) | (with_reducible refine Ext.trans ?_ (by assumption)))
  · show Calls _ _ _ _ fun e w' => e = .returned (.tuple #[(Val.truth false).enc, .int .i64 0]) ∧ Ext w w'
    go_enter Try.func133, Try.ntmps133
    go_wp2_with (first
      | (go_at_call 130; (first | (with_reducible refine (HRA.out _).mono ?_) | (with_reducible refine (HRB.out _).mono ?_)); rintro e w' ⟨rfl, hb⟩; obtain ⟨c0, f0, l0⟩ := hb.at_ w.heap.size (by first | omega | (simp; done) | (simp; omega) | (simp at *; omega)); obtain ⟨c1, f1, l1⟩ := hb.at_ (w.heap.size + 1) (by first | omega | (simp; done) | (simp; omega) | (simp at *; omega)); obtain ⟨c2, f2, l2⟩ := hb.at_ (w.heap.size + 2) (by first | omega | (simp; done) | (simp; omega) | (simp at *; omega)); obtain ⟨c3, f3, l3⟩ := hb.at_ (w.heap.size + 3) (by first | omega | (simp; done) | (simp; omega) | (simp at *; omega)))
      | (go_at_call 134; refine (rbool_of _ _).mono ?_; rintro e w' ⟨rfl, hb⟩; obtain ⟨c0, f0, l0⟩ := hb.at_ w.heap.size (by first | omega | (simp; done) | (simp; omega) | (simp at *; omega)); obtain ⟨c1, f1, l1⟩ := hb.at_ (w.heap.size + 1) (by first | omega | (simp; done) | (simp; omega) | (simp at *; omega)); obtain ⟨c2, f2, l2⟩ := hb.at_ (w.heap.size + 2) (by first | omega | (simp; done) | (simp; omega) | (simp at *; omega)); obtain ⟨c3, f3, l3⟩ := hb.at_ (w.heap.size + 3) (by first | omega | (simp; done) | (simp; omega) | (simp at *; omega))))
    refine back_ct rfl (Val.truth false).cells (.int .i64 0) rfl rfl agg_val rfl ?_ ⟨rfl, ?_⟩
    · (simp only [At, Val.cells, Val.null, Val.number, Val.truth, Val.float]; repeat (first | exact trivial | (refine ⟨?_, ?_⟩; focus go_simp)))
    · repeat (first | (with_reducible exact Ext.refl _) | (with_reducible refine Ext.set_ ?_ _ ?_; focus (first | (simp; done) | (simp; omega) | (simp at *; omega))) | (with_reducible refine Ext.alloc ?_ _) | (with_reducible refine Ext.drew ?_) | (with_reducible refine Ext.drewN ?_ _) | (with_reducible refine Ext.trans ?_ (by assumption)))
  · show Calls _ _ _ _ fun e w' => e = .returned (.tuple #[(Val.truth true).enc, .int .i64 0]) ∧ Ext w w'
    go_enter Try.func133, Try.ntmps133
    go_wp2_with (first
      | (go_at_call 130; (first | (with_reducible refine (HRA.out _).mono ?_) | (with_reducible refine (HRB.out _).mono ?_)); rintro e w' ⟨rfl, hb⟩; obtain ⟨c0, f0, l0⟩ := hb.at_ w.heap.size (by first | omega | (simp; done) | (simp; omega) | (simp at *; omega)); obtain ⟨c1, f1, l1⟩ := hb.at_ (w.heap.size + 1) (by first | omega | (simp; done) | (simp; omega) | (simp at *; omega)); obtain ⟨c2, f2, l2⟩ := hb.at_ (w.heap.size + 2) (by first | omega | (simp; done) | (simp; omega) | (simp at *; omega)); obtain ⟨c3, f3, l3⟩ := hb.at_ (w.heap.size + 3) (by first | omega | (simp; done) | (simp; omega) | (simp at *; omega)))
      | (go_at_call 134; refine (rbool_of _ _).mono ?_; rintro e w' ⟨rfl, hb⟩; obtain ⟨c0, f0, l0⟩ := hb.at_ w.heap.size (by first | omega | (simp; done) | (simp; omega) | (simp at *; omega)); obtain ⟨c1, f1, l1⟩ := hb.at_ (w.heap.size + 1) (by first | omega | (simp; done) | (simp; omega) | (simp at *; omega)); obtain ⟨c2, f2, l2⟩ := hb.at_ (w.heap.size + 2) (by first | omega | (simp; done) | (simp; omega) | (simp at *; omega)); obtain ⟨c3, f3, l3⟩ := hb.at_ (w.heap.size + 3) (by first | omega | (simp; done) | (simp; omega) | (simp at *; omega))))
    refine back_ct rfl (Val.truth true).cells (.int .i64 0) rfl rfl agg_val rfl ?_ ⟨rfl, ?_⟩
    · (simp only [At, Val.cells, Val.null, Val.number, Val.truth, Val.float]; repeat (first | exact trivial | (refine ⟨?_, ?_⟩; focus go_simp)))
    · repeat (first | (with_reducible exact Ext.refl _) | (with_reducible refine Ext.set_ ?_ _ ?_; focus (first | (simp; done) | (simp; omega) | (simp at *; omega))) | (with_reducible refine Ext.alloc ?_ _) | (with_reducible refine Ext.drew ?_) | (with_reducible refine Ext.drewN ?_ _) | (with_reducible refine Ext.trans ?_ (by assumption)))

set_option maxRecDepth 100000 in
set_option maxHeartbeats 20000000 in
theorem rboth11_of (a b : Val) (w : World) (hfa : a.flt < 18446744073709551616) (hfb : b.flt < 18446744073709551616) :
    Calls Try.prog 133 #[.int .i64 11, .agg #[.int .i64 a.kind, .int .i64 a.int, .float .f64 a.flt, .string a.text], .agg #[.int .i64 b.kind, .int .i64 b.int, .float .f64 b.flt, .string b.text]] w
      fun e w' => e = .returned (.tuple #[(Val.both 11 a b).1.enc, .int .i64 (Val.both 11 a b).2]) ∧ Ext w w' := by
  have HRA := Lib.hid (fun w => rright_of a w hfa)
  have HRB := Lib.hid (fun w => rright_of b w hfb)
  clear hfa hfb
  unfold Val.both Val.both2
  rw [if_neg (by decide)]
  simp only [if_true, if_false, Int.reduceEq]
  cases na : a.right
  · have e1 : ¬ (a.truthy = true ∧ b.truthy = true) := by unfold Val.truthy; simp [na]
    rw [if_neg e1]; rw [na] at HRA; clear e1 na
    go_enter Try.func133, Try.ntmps133
    go_wp2_with (first
      | (go_at_call 130; (first | (with_reducible refine (HRA.out _).mono ?_) | (with_reducible refine (HRB.out _).mono ?_)); rintro e w' ⟨rfl, hb⟩; obtain ⟨c0, f0, l0⟩ := hb.at_ w.heap.size (by first | omega | (simp; done) | (simp; omega) | (simp at *; omega)); obtain ⟨c1, f1, l1⟩ := hb.at_ (w.heap.size + 1) (by first | omega | (simp; done) | (simp; omega) | (simp at *; omega)); obtain ⟨c2, f2, l2⟩ := hb.at_ (w.heap.size + 2) (by first | omega | (simp; done) | (simp; omega) | (simp at *; omega)); obtain ⟨c3, f3, l3⟩ := hb.at_ (w.heap.size + 3) (by first | omega | (simp; done) | (simp; omega) | (simp at *; omega)))
      | (go_at_call 134; refine (rbool_of _ _).mono ?_; rintro e w' ⟨rfl, hb⟩; obtain ⟨c0, f0, l0⟩ := hb.at_ w.heap.size (by first | omega | (simp; done) | (simp; omega) | (simp at *; omega)); obtain ⟨c1, f1, l1⟩ := hb.at_ (w.heap.size + 1) (by first | omega | (simp; done) | (simp; omega) | (simp at *; omega)); obtain ⟨c2, f2, l2⟩ := hb.at_ (w.heap.size + 2) (by first | omega | (simp; done) | (simp; omega) | (simp at *; omega)); obtain ⟨c3, f3, l3⟩ := hb.at_ (w.heap.size + 3) (by first | omega | (simp; done) | (simp; omega) | (simp at *; omega))))
    refine back_ct rfl (Val.null).cells (.int .i64 50) rfl rfl agg_val rfl ?_ ⟨rfl, ?_⟩
    · (simp only [At, Val.cells, Val.null, Val.number, Val.truth, Val.float]; repeat (first | exact trivial | (refine ⟨?_, ?_⟩; focus go_simp)))
    · repeat (first | (with_reducible exact Ext.refl _) | (with_reducible refine Ext.set_ ?_ _ ?_; focus (first | (simp; done) | (simp; omega) | (simp at *; omega))) | (with_reducible refine Ext.alloc ?_ _) | (with_reducible refine Ext.drew ?_) | (with_reducible refine Ext.drewN ?_ _) | (with_reducible refine Ext.trans ?_ (by assumption)))
  have ka := right_kinds na
  cases nb : b.right
  · have e1 : ¬ (a.truthy = true ∧ b.truthy = true) := by unfold Val.truthy; simp [nb]
    rw [if_neg e1]; rw [nb] at HRB; rw [na] at HRA; clear e1 na nb ka
    go_enter Try.func133, Try.ntmps133
    go_wp2_with (first
      | (go_at_call 130; (first | (with_reducible refine (HRA.out _).mono ?_) | (with_reducible refine (HRB.out _).mono ?_)); rintro e w' ⟨rfl, hb⟩; obtain ⟨c0, f0, l0⟩ := hb.at_ w.heap.size (by first | omega | (simp; done) | (simp; omega) | (simp at *; omega)); obtain ⟨c1, f1, l1⟩ := hb.at_ (w.heap.size + 1) (by first | omega | (simp; done) | (simp; omega) | (simp at *; omega)); obtain ⟨c2, f2, l2⟩ := hb.at_ (w.heap.size + 2) (by first | omega | (simp; done) | (simp; omega) | (simp at *; omega)); obtain ⟨c3, f3, l3⟩ := hb.at_ (w.heap.size + 3) (by first | omega | (simp; done) | (simp; omega) | (simp at *; omega)))
      | (go_at_call 134; refine (rbool_of _ _).mono ?_; rintro e w' ⟨rfl, hb⟩; obtain ⟨c0, f0, l0⟩ := hb.at_ w.heap.size (by first | omega | (simp; done) | (simp; omega) | (simp at *; omega)); obtain ⟨c1, f1, l1⟩ := hb.at_ (w.heap.size + 1) (by first | omega | (simp; done) | (simp; omega) | (simp at *; omega)); obtain ⟨c2, f2, l2⟩ := hb.at_ (w.heap.size + 2) (by first | omega | (simp; done) | (simp; omega) | (simp at *; omega)); obtain ⟨c3, f3, l3⟩ := hb.at_ (w.heap.size + 3) (by first | omega | (simp; done) | (simp; omega) | (simp at *; omega))))
    refine back_ct rfl (Val.null).cells (.int .i64 50) rfl rfl agg_val rfl ?_ ⟨rfl, ?_⟩
    · (simp only [At, Val.cells, Val.null, Val.number, Val.truth, Val.float]; repeat (first | exact trivial | (refine ⟨?_, ?_⟩; focus go_simp)))
    · repeat (first | (with_reducible exact Ext.refl _) | (with_reducible refine Ext.set_ ?_ _ ?_; focus (first | (simp; done) | (simp; omega) | (simp at *; omega))) | (with_reducible refine Ext.alloc ?_ _) | (with_reducible refine Ext.drew ?_) | (with_reducible refine Ext.drewN ?_ _) | (with_reducible refine Ext.trans ?_ (by assumption)))
  have kb := right_kinds nb
  by_cases a1 : 1 < a.kind
  · have e1 : ¬ (a.truthy = true ∧ b.truthy = true) := by unfold Val.truthy; simp; omega
    have q1 : decide (1 < a.kind) = true := decide_eq_true a1
    rw [if_neg e1]; rw [na] at HRA; rw [nb] at HRB; clear e1 na nb ka kb
    go_enter Try.func133, Try.ntmps133
    go_wp2_with (first
      | (go_at_call 130; (first | (with_reducible refine (HRA.out _).mono ?_) | (with_reducible refine (HRB.out _).mono ?_)); rintro e w' ⟨rfl, hb⟩; obtain ⟨c0, f0, l0⟩ := hb.at_ w.heap.size (by first | omega | (simp; done) | (simp; omega) | (simp at *; omega)); obtain ⟨c1, f1, l1⟩ := hb.at_ (w.heap.size + 1) (by first | omega | (simp; done) | (simp; omega) | (simp at *; omega)); obtain ⟨c2, f2, l2⟩ := hb.at_ (w.heap.size + 2) (by first | omega | (simp; done) | (simp; omega) | (simp at *; omega)); obtain ⟨c3, f3, l3⟩ := hb.at_ (w.heap.size + 3) (by first | omega | (simp; done) | (simp; omega) | (simp at *; omega)))
      | (go_at_call 134; refine (rbool_of _ _).mono ?_; rintro e w' ⟨rfl, hb⟩; obtain ⟨c0, f0, l0⟩ := hb.at_ w.heap.size (by first | omega | (simp; done) | (simp; omega) | (simp at *; omega)); obtain ⟨c1, f1, l1⟩ := hb.at_ (w.heap.size + 1) (by first | omega | (simp; done) | (simp; omega) | (simp at *; omega)); obtain ⟨c2, f2, l2⟩ := hb.at_ (w.heap.size + 2) (by first | omega | (simp; done) | (simp; omega) | (simp at *; omega)); obtain ⟨c3, f3, l3⟩ := hb.at_ (w.heap.size + 3) (by first | omega | (simp; done) | (simp; omega) | (simp at *; omega))))
    refine back_ct rfl (Val.null).cells (.int .i64 50) rfl rfl agg_val rfl ?_ ⟨rfl, ?_⟩
    · (simp only [At, Val.cells, Val.null, Val.number, Val.truth, Val.float]; repeat (first | exact trivial | (refine ⟨?_, ?_⟩; focus go_simp)))
    · repeat (first | (with_reducible exact Ext.refl _) | (with_reducible refine Ext.set_ ?_ _ ?_; focus (first | (simp; done) | (simp; omega) | (simp at *; omega))) | (with_reducible refine Ext.alloc ?_ _) | (with_reducible refine Ext.drew ?_) | (with_reducible refine Ext.drewN ?_ _) | (with_reducible refine Ext.trans ?_ (by assumption)))
  have q1 : decide (1 < a.kind) = false := decide_eq_false a1
  by_cases b1 : 1 < b.kind
  · have e1 : ¬ (a.truthy = true ∧ b.truthy = true) := by unfold Val.truthy; simp; omega
    have q2 : decide (1 < b.kind) = true := decide_eq_true b1
    rw [if_neg e1]; rw [na] at HRA; rw [nb] at HRB; clear e1 na nb ka kb
    go_enter Try.func133, Try.ntmps133
    go_wp2_with (first
      | (go_at_call 130; (first | (with_reducible refine (HRA.out _).mono ?_) | (with_reducible refine (HRB.out _).mono ?_)); rintro e w' ⟨rfl, hb⟩; obtain ⟨c0, f0, l0⟩ := hb.at_ w.heap.size (by first | omega | (simp; done) | (simp; omega) | (simp at *; omega)); obtain ⟨c1, f1, l1⟩ := hb.at_ (w.heap.size + 1) (by first | omega | (simp; done) | (simp; omega) | (simp at *; omega)); obtain ⟨c2, f2, l2⟩ := hb.at_ (w.heap.size + 2) (by first | omega | (simp; done) | (simp; omega) | (simp at *; omega)); obtain ⟨c3, f3, l3⟩ := hb.at_ (w.heap.size + 3) (by first | omega | (simp; done) | (simp; omega) | (simp at *; omega)))
      | (go_at_call 134; refine (rbool_of _ _).mono ?_; rintro e w' ⟨rfl, hb⟩; obtain ⟨c0, f0, l0⟩ := hb.at_ w.heap.size (by first | omega | (simp; done) | (simp; omega) | (simp at *; omega)); obtain ⟨c1, f1, l1⟩ := hb.at_ (w.heap.size + 1) (by first | omega | (simp; done) | (simp; omega) | (simp at *; omega)); obtain ⟨c2, f2, l2⟩ := hb.at_ (w.heap.size + 2) (by first | omega | (simp; done) | (simp; omega) | (simp at *; omega)); obtain ⟨c3, f3, l3⟩ := hb.at_ (w.heap.size + 3) (by first | omega | (simp; done) | (simp; omega) | (simp at *; omega))))
    refine back_ct rfl (Val.null).cells (.int .i64 50) rfl rfl agg_val rfl ?_ ⟨rfl, ?_⟩
    · (simp only [At, Val.cells, Val.null, Val.number, Val.truth, Val.float]; repeat (first | exact trivial | (refine ⟨?_, ?_⟩; focus go_simp)))
    · repeat (first | (with_reducible exact Ext.refl _) | (with_reducible refine Ext.set_ ?_ _ ?_; focus (first | (simp; done) | (simp; omega) | (simp at *; omega))) | (with_reducible refine Ext.alloc ?_ _) | (with_reducible refine Ext.drew ?_) | (with_reducible refine Ext.drewN ?_ _) | (with_reducible refine Ext.trans ?_ (by assumption)))
  have q2 : decide (1 < b.kind) = false := decide_eq_false b1
  have e1 : a.truthy = true ∧ b.truthy = true := by unfold Val.truthy; simp [na, nb]; omega
  rw [if_pos e1]; clear e1
  have ia := right_int na a1
  rw [na] at HRA
  have ib := right_int nb b1
  rw [nb] at HRB
  clear na nb ka kb
  obtain ⟨AK, AI, AF, AT⟩ := a
  dsimp only at *
  obtain ⟨BK, BI, BF, BT⟩ := b
  dsimp only at *
  rcases ia with ⟨rfl, rfl⟩ | ⟨rfl, rfl⟩ | ⟨rfl, rfl⟩ <;> rcases ib with ⟨rfl, rfl⟩ | ⟨rfl, rfl⟩ | ⟨rfl, rfl⟩
  · show Calls _ _ _ _ fun e w' => e = .returned (.tuple #[(Val.null).enc, .int .i64 0]) ∧ Ext w w'
    go_enter Try.func133, Try.ntmps133
    go_wp2_with (first
      | (go_at_call 130; (first | (with_reducible refine (HRA.out _).mono ?_) | (with_reducible refine (HRB.out _).mono ?_)); rintro e w' ⟨rfl, hb⟩; obtain ⟨c0, f0, l0⟩ := hb.at_ w.heap.size (by first | omega | (simp; done) | (simp; omega) | (simp at *; omega)); obtain ⟨c1, f1, l1⟩ := hb.at_ (w.heap.size + 1) (by first | omega | (simp; done) | (simp; omega) | (simp at *; omega)); obtain ⟨c2, f2, l2⟩ := hb.at_ (w.heap.size + 2) (by first | omega | (simp; done) | (simp; omega) | (simp at *; omega)); obtain ⟨c3, f3, l3⟩ := hb.at_ (w.heap.size + 3) (by first | omega | (simp; done) | (simp; omega) | (simp at *; omega)))
      | (go_at_call 134; refine (rbool_of _ _).mono ?_; rintro e w' ⟨rfl, hb⟩; obtain ⟨c0, f0, l0⟩ := hb.at_ w.heap.size (by first | omega | (simp; done) | (simp; omega) | (simp at *; omega)); obtain ⟨c1, f1, l1⟩ := hb.at_ (w.heap.size + 1) (by first | omega | (simp; done) | (simp; omega) | (simp at *; omega)); obtain ⟨c2, f2, l2⟩ := hb.at_ (w.heap.size + 2) (by first | omega | (simp; done) | (simp; omega) | (simp at *; omega)); obtain ⟨c3, f3, l3⟩ := hb.at_ (w.heap.size + 3) (by first | omega | (simp; done) | (simp; omega) | (simp at *; omega))))
    refine back_ct rfl (Val.null).cells (.int .i64 0) rfl rfl agg_val rfl ?_ ⟨rfl, ?_⟩
    · (simp only [At, Val.cells, Val.null, Val.number, Val.truth, Val.float]; repeat (first | exact trivial | (refine ⟨?_, ?_⟩; focus go_simp)))
    · repeat (first | (with_reducible exact Ext.refl _) | (with_reducible refine Ext.set_ ?_ _ ?_; focus (first | (simp; done) | (simp; omega) | (simp at *; omega))) | (with_reducible refine Ext.alloc ?_ _) | (with_reducible refine Ext.drew ?_) | (with_reducible refine Ext.drewN ?_ _) | (with_reducible refine Ext.trans ?_ (by assumption)))
  · show Calls _ _ _ _ fun e w' => e = .returned (.tuple #[(Val.null).enc, .int .i64 0]) ∧ Ext w w'
    go_enter Try.func133, Try.ntmps133
    go_wp2_with (first
      | (go_at_call 130; (first | (with_reducible refine (HRA.out _).mono ?_) | (with_reducible refine (HRB.out _).mono ?_)); rintro e w' ⟨rfl, hb⟩; obtain ⟨c0, f0, l0⟩ := hb.at_ w.heap.size (by first | omega | (simp; done) | (simp; omega) | (simp at *; omega)); obtain ⟨c1, f1, l1⟩ := hb.at_ (w.heap.size + 1) (by first | omega | (simp; done) | (simp; omega) | (simp at *; omega)); obtain ⟨c2, f2, l2⟩ := hb.at_ (w.heap.size + 2) (by first | omega | (simp; done) | (simp; omega) | (simp at *; omega)); obtain ⟨c3, f3, l3⟩ := hb.at_ (w.heap.size + 3) (by first | omega | (simp; done) | (simp; omega) | (simp at *; omega)))
      | (go_at_call 134; refine (rbool_of _ _).mono ?_; rintro e w' ⟨rfl, hb⟩; obtain ⟨c0, f0, l0⟩ := hb.at_ w.heap.size (by first | omega | (simp; done) | (simp; omega) | (simp at *; omega)); obtain ⟨c1, f1, l1⟩ := hb.at_ (w.heap.size + 1) (by first | omega | (simp; done) | (simp; omega) | (simp at *; omega)); obtain ⟨c2, f2, l2⟩ := hb.at_ (w.heap.size + 2) (by first | omega | (simp; done) | (simp; omega) | (simp at *; omega)); obtain ⟨c3, f3, l3⟩ := hb.at_ (w.heap.size + 3) (by first | omega | (simp; done) | (simp; omega) | (simp at *; omega))))
    refine back_ct rfl (Val.null).cells (.int .i64 0) rfl rfl agg_val rfl ?_ ⟨rfl, ?_⟩
    · (simp only [At, Val.cells, Val.null, Val.number, Val.truth, Val.float]; repeat (first | exact trivial | (refine ⟨?_, ?_⟩; focus go_simp)))
    · repeat (first | (with_reducible exact Ext.refl _) | (with_reducible refine Ext.set_ ?_ _ ?_; focus (first | (simp; done) | (simp; omega) | (simp at *; omega))) | (with_reducible refine Ext.alloc ?_ _) | (with_reducible refine Ext.drew ?_) | (with_reducible refine Ext.drewN ?_ _) | (with_reducible refine Ext.trans ?_ (by assumption)))
  · show Calls _ _ _ _ fun e w' => e = .returned (.tuple #[(Val.truth true).enc, .int .i64 0]) ∧ Ext w w'
    go_enter Try.func133, Try.ntmps133
    go_wp2_with (first
      | (go_at_call 130; (first | (with_reducible refine (HRA.out _).mono ?_) | (with_reducible refine (HRB.out _).mono ?_)); rintro e w' ⟨rfl, hb⟩; obtain ⟨c0, f0, l0⟩ := hb.at_ w.heap.size (by first | omega | (simp; done) | (simp; omega) | (simp at *; omega)); obtain ⟨c1, f1, l1⟩ := hb.at_ (w.heap.size + 1) (by first | omega | (simp; done) | (simp; omega) | (simp at *; omega)); obtain ⟨c2, f2, l2⟩ := hb.at_ (w.heap.size + 2) (by first | omega | (simp; done) | (simp; omega) | (simp at *; omega)); obtain ⟨c3, f3, l3⟩ := hb.at_ (w.heap.size + 3) (by first | omega | (simp; done) | (simp; omega) | (simp at *; omega)))
      | (go_at_call 134; refine (rbool_of _ _).mono ?_; rintro e w' ⟨rfl, hb⟩; obtain ⟨c0, f0, l0⟩ := hb.at_ w.heap.size (by first | omega | (simp; done) | (simp; omega) | (simp at *; omega)); obtain ⟨c1, f1, l1⟩ := hb.at_ (w.heap.size + 1) (by first | omega | (simp; done) | (simp; omega) | (simp at *; omega)); obtain ⟨c2, f2, l2⟩ := hb.at_ (w.heap.size + 2) (by first | omega | (simp; done) | (simp; omega) | (simp at *; omega)); obtain ⟨c3, f3, l3⟩ := hb.at_ (w.heap.size + 3) (by first | omega | (simp; done) | (simp; omega) | (simp at *; omega))))
    refine back_ct rfl (Val.truth true).cells (.int .i64 0) rfl rfl agg_val rfl ?_ ⟨rfl, ?_⟩
    · (simp only [At, Val.cells, Val.null, Val.number, Val.truth, Val.float]; repeat (first | exact trivial | (refine ⟨?_, ?_⟩; focus go_simp)))
    · repeat (first | (with_reducible exact Ext.refl _) | (with_reducible refine Ext.set_ ?_ _ ?_; focus (first | (simp; done) | (simp; omega) | (simp at *; omega))) | (with_reducible refine Ext.alloc ?_ _) | (with_reducible refine Ext.drew ?_) | (with_reducible refine Ext.drewN ?_ _) | (with_reducible refine Ext.trans ?_ (by assumption)))
  · show Calls _ _ _ _ fun e w' => e = .returned (.tuple #[(Val.null).enc, .int .i64 0]) ∧ Ext w w'
    go_enter Try.func133, Try.ntmps133
    go_wp2_with (first
      | (go_at_call 130; (first | (with_reducible refine (HRA.out _).mono ?_) | (with_reducible refine (HRB.out _).mono ?_)); rintro e w' ⟨rfl, hb⟩; obtain ⟨c0, f0, l0⟩ := hb.at_ w.heap.size (by first | omega | (simp; done) | (simp; omega) | (simp at *; omega)); obtain ⟨c1, f1, l1⟩ := hb.at_ (w.heap.size + 1) (by first | omega | (simp; done) | (simp; omega) | (simp at *; omega)); obtain ⟨c2, f2, l2⟩ := hb.at_ (w.heap.size + 2) (by first | omega | (simp; done) | (simp; omega) | (simp at *; omega)); obtain ⟨c3, f3, l3⟩ := hb.at_ (w.heap.size + 3) (by first | omega | (simp; done) | (simp; omega) | (simp at *; omega)))
      | (go_at_call 134; refine (rbool_of _ _).mono ?_; rintro e w' ⟨rfl, hb⟩; obtain ⟨c0, f0, l0⟩ := hb.at_ w.heap.size (by first | omega | (simp; done) | (simp; omega) | (simp at *; omega)); obtain ⟨c1, f1, l1⟩ := hb.at_ (w.heap.size + 1) (by first | omega | (simp; done) | (simp; omega) | (simp at *; omega)); obtain ⟨c2, f2, l2⟩ := hb.at_ (w.heap.size + 2) (by first | omega | (simp; done) | (simp; omega) | (simp at *; omega)); obtain ⟨c3, f3, l3⟩ := hb.at_ (w.heap.size + 3) (by first | omega | (simp; done) | (simp; omega) | (simp at *; omega))))
    refine back_ct rfl (Val.null).cells (.int .i64 0) rfl rfl agg_val rfl ?_ ⟨rfl, ?_⟩
    · (simp only [At, Val.cells, Val.null, Val.number, Val.truth, Val.float]; repeat (first | exact trivial | (refine ⟨?_, ?_⟩; focus go_simp)))
    · repeat (first | (with_reducible exact Ext.refl _) | (with_reducible refine Ext.set_ ?_ _ ?_; focus (first | (simp; done) | (simp; omega) | (simp at *; omega))) | (with_reducible refine Ext.alloc ?_ _) | (with_reducible refine Ext.drew ?_) | (with_reducible refine Ext.drewN ?_ _) | (with_reducible refine Ext.trans ?_ (by assumption)))
  · show Calls _ _ _ _ fun e w' => e = .returned (.tuple #[(Val.truth false).enc, .int .i64 0]) ∧ Ext w w'
    go_enter Try.func133, Try.ntmps133
    go_wp2_with (first
      | (go_at_call 130; (first | (with_reducible refine (HRA.out _).mono ?_) | (with_reducible refine (HRB.out _).mono ?_)); rintro e w' ⟨rfl, hb⟩; obtain ⟨c0, f0, l0⟩ := hb.at_ w.heap.size (by first | omega | (simp; done) | (simp; omega) | (simp at *; omega)); obtain ⟨c1, f1, l1⟩ := hb.at_ (w.heap.size + 1) (by first | omega | (simp; done) | (simp; omega) | (simp at *; omega)); obtain ⟨c2, f2, l2⟩ := hb.at_ (w.heap.size + 2) (by first | omega | (simp; done) | (simp; omega) | (simp at *; omega)); obtain ⟨c3, f3, l3⟩ := hb.at_ (w.heap.size + 3) (by first | omega | (simp; done) | (simp; omega) | (simp at *; omega)))
      | (go_at_call 134; refine (rbool_of _ _).mono ?_; rintro e w' ⟨rfl, hb⟩; obtain ⟨c0, f0, l0⟩ := hb.at_ w.heap.size (by first | omega | (simp; done) | (simp; omega) | (simp at *; omega)); obtain ⟨c1, f1, l1⟩ := hb.at_ (w.heap.size + 1) (by first | omega | (simp; done) | (simp; omega) | (simp at *; omega)); obtain ⟨c2, f2, l2⟩ := hb.at_ (w.heap.size + 2) (by first | omega | (simp; done) | (simp; omega) | (simp at *; omega)); obtain ⟨c3, f3, l3⟩ := hb.at_ (w.heap.size + 3) (by first | omega | (simp; done) | (simp; omega) | (simp at *; omega))))
    refine back_ct rfl (Val.truth false).cells (.int .i64 0) rfl rfl agg_val rfl ?_ ⟨rfl, ?_⟩
    · (simp only [At, Val.cells, Val.null, Val.number, Val.truth, Val.float]; repeat (first | exact trivial | (refine ⟨?_, ?_⟩; focus go_simp)))
    · repeat (first | (with_reducible exact Ext.refl _) | (with_reducible refine Ext.set_ ?_ _ ?_; focus (first | (simp; done) | (simp; omega) | (simp at *; omega))) | (with_reducible refine Ext.alloc ?_ _) | (with_reducible refine Ext.drew ?_) | (with_reducible refine Ext.drewN ?_ _) | (with_reducible refine Ext.trans ?_ (by assumption)))
  · show Calls _ _ _ _ fun e w' => e = .returned (.tuple #[(Val.truth true).enc, .int .i64 0]) ∧ Ext w w'
    go_enter Try.func133, Try.ntmps133
    go_wp2_with (first
      | (go_at_call 130; (first | (with_reducible refine (HRA.out _).mono ?_) | (with_reducible refine (HRB.out _).mono ?_)); rintro e w' ⟨rfl, hb⟩; obtain ⟨c0, f0, l0⟩ := hb.at_ w.heap.size (by first | omega | (simp; done) | (simp; omega) | (simp at *; omega)); obtain ⟨c1, f1, l1⟩ := hb.at_ (w.heap.size + 1) (by first | omega | (simp; done) | (simp; omega) | (simp at *; omega)); obtain ⟨c2, f2, l2⟩ := hb.at_ (w.heap.size + 2) (by first | omega | (simp; done) | (simp; omega) | (simp at *; omega)); obtain ⟨c3, f3, l3⟩ := hb.at_ (w.heap.size + 3) (by first | omega | (simp; done) | (simp; omega) | (simp at *; omega)))
      | (go_at_call 134; refine (rbool_of _ _).mono ?_; rintro e w' ⟨rfl, hb⟩; obtain ⟨c0, f0, l0⟩ := hb.at_ w.heap.size (by first | omega | (simp; done) | (simp; omega) | (simp at *; omega)); obtain ⟨c1, f1, l1⟩ := hb.at_ (w.heap.size + 1) (by first | omega | (simp; done) | (simp; omega) | (simp at *; omega)); obtain ⟨c2, f2, l2⟩ := hb.at_ (w.heap.size + 2) (by first | omega | (simp; done) | (simp; omega) | (simp at *; omega)); obtain ⟨c3, f3, l3⟩ := hb.at_ (w.heap.size + 3) (by first | omega | (simp; done) | (simp; omega) | (simp at *; omega))))
    refine back_ct rfl (Val.truth true).cells (.int .i64 0) rfl rfl agg_val rfl ?_ ⟨rfl, ?_⟩
    · (simp only [At, Val.cells, Val.null, Val.number, Val.truth, Val.float]; repeat (first | exact trivial | (refine ⟨?_, ?_⟩; focus go_simp)))
    · repeat (first | (with_reducible exact Ext.refl _) | (with_reducible refine Ext.set_ ?_ _ ?_; focus (first | (simp; done) | (simp; omega) | (simp at *; omega))) | (with_reducible refine Ext.alloc ?_ _) | (with_reducible refine Ext.drew ?_) | (with_reducible refine Ext.drewN ?_ _) | (with_reducible refine Ext.trans ?_ (by assumption)))
  · show Calls _ _ _ _ fun e w' => e = .returned (.tuple #[(Val.truth true).enc, .int .i64 0]) ∧ Ext w w'
    go_enter Try.func133, Try.ntmps133
    go_wp2_with (first
      | (go_at_call 130; (first | (with_reducible refine (HRA.out _).mono ?_) | (with_reducible refine (HRB.out _).mono ?_)); rintro e w' ⟨rfl, hb⟩; obtain ⟨c0, f0, l0⟩ := hb.at_ w.heap.size (by first | omega | (simp; done) | (simp; omega) | (simp at *; omega)); obtain ⟨c1, f1, l1⟩ := hb.at_ (w.heap.size + 1) (by first | omega | (simp; done) | (simp; omega) | (simp at *; omega)); obtain ⟨c2, f2, l2⟩ := hb.at_ (w.heap.size + 2) (by first | omega | (simp; done) | (simp; omega) | (simp at *; omega)); obtain ⟨c3, f3, l3⟩ := hb.at_ (w.heap.size + 3) (by first | omega | (simp; done) | (simp; omega) | (simp at *; omega)))
      | (go_at_call 134; refine (rbool_of _ _).mono ?_; rintro e w' ⟨rfl, hb⟩; obtain ⟨c0, f0, l0⟩ := hb.at_ w.heap.size (by first | omega | (simp; done) | (simp; omega) | (simp at *; omega)); obtain ⟨c1, f1, l1⟩ := hb.at_ (w.heap.size + 1) (by first | omega | (simp; done) | (simp; omega) | (simp at *; omega)); obtain ⟨c2, f2, l2⟩ := hb.at_ (w.heap.size + 2) (by first | omega | (simp; done) | (simp; omega) | (simp at *; omega)); obtain ⟨c3, f3, l3⟩ := hb.at_ (w.heap.size + 3) (by first | omega | (simp; done) | (simp; omega) | (simp at *; omega))))
    refine back_ct rfl (Val.truth true).cells (.int .i64 0) rfl rfl agg_val rfl ?_ ⟨rfl, ?_⟩
    · (simp only [At, Val.cells, Val.null, Val.number, Val.truth, Val.float]; repeat (first | exact trivial | (refine ⟨?_, ?_⟩; focus go_simp)))
    · repeat (first | (with_reducible exact Ext.refl _) | (with_reducible refine Ext.set_ ?_ _ ?_; focus (first | (simp; done) | (simp; omega) | (simp at *; omega))) | (with_reducible refine Ext.alloc ?_ _) | (with_reducible refine Ext.drew ?_) | (with_reducible refine Ext.drewN ?_ _) | (with_reducible refine Ext.trans ?_ (by assumption)))
  · show Calls _ _ _ _ fun e w' => e = .returned (.tuple #[(Val.truth true).enc, .int .i64 0]) ∧ Ext w w'
    go_enter Try.func133, Try.ntmps133
    go_wp2_with (first
      | (go_at_call 130; (first | (with_reducible refine (HRA.out _).mono ?_) | (with_reducible refine (HRB.out _).mono ?_)); rintro e w' ⟨rfl, hb⟩; obtain ⟨c0, f0, l0⟩ := hb.at_ w.heap.size (by first | omega | (simp; done) | (simp; omega) | (simp at *; omega)); obtain ⟨c1, f1, l1⟩ := hb.at_ (w.heap.size + 1) (by first | omega | (simp; done) | (simp; omega) | (simp at *; omega)); obtain ⟨c2, f2, l2⟩ := hb.at_ (w.heap.size + 2) (by first | omega | (simp; done) | (simp; omega) | (simp at *; omega)); obtain ⟨c3, f3, l3⟩ := hb.at_ (w.heap.size + 3) (by first | omega | (simp; done) | (simp; omega) | (simp at *; omega)))
      | (go_at_call 134; refine (rbool_of _ _).mono ?_; rintro e w' ⟨rfl, hb⟩; obtain ⟨c0, f0, l0⟩ := hb.at_ w.heap.size (by first | omega | (simp; done) | (simp; omega) | (simp at *; omega)); obtain ⟨c1, f1, l1⟩ := hb.at_ (w.heap.size + 1) (by first | omega | (simp; done) | (simp; omega) | (simp at *; omega)); obtain ⟨c2, f2, l2⟩ := hb.at_ (w.heap.size + 2) (by first | omega | (simp; done) | (simp; omega) | (simp at *; omega)); obtain ⟨c3, f3, l3⟩ := hb.at_ (w.heap.size + 3) (by first | omega | (simp; done) | (simp; omega) | (simp at *; omega))))
    refine back_ct rfl (Val.truth true).cells (.int .i64 0) rfl rfl agg_val rfl ?_ ⟨rfl, ?_⟩
    · (simp only [At, Val.cells, Val.null, Val.number, Val.truth, Val.float]; repeat (first | exact trivial | (refine ⟨?_, ?_⟩; focus go_simp)))
    · repeat (first | (with_reducible exact Ext.refl _) | (with_reducible refine Ext.set_ ?_ _ ?_; focus (first | (simp; done) | (simp; omega) | (simp at *; omega))) | (with_reducible refine Ext.alloc ?_ _) | (with_reducible refine Ext.drew ?_) | (with_reducible refine Ext.drewN ?_ _) | (with_reducible refine Ext.trans ?_ (by assumption)))
  · show Calls _ _ _ _ fun e w' => e = .returned (.tuple #[(Val.truth true).enc, .int .i64 0]) ∧ Ext w w'
    go_enter Try.func133, Try.ntmps133
    go_wp2_with (first
      | (go_at_call 130; (first | (with_reducible refine (HRA.out _).mono ?_) | (with_reducible refine (HRB.out _).mono ?_)); rintro e w' ⟨rfl, hb⟩; obtain ⟨c0, f0, l0⟩ := hb.at_ w.heap.size (by first | omega | (simp; done) | (simp; omega) | (simp at *; omega)); obtain ⟨c1, f1, l1⟩ := hb.at_ (w.heap.size + 1) (by first | omega | (simp; done) | (simp; omega) | (simp at *; omega)); obtain ⟨c2, f2, l2⟩ := hb.at_ (w.heap.size + 2) (by first | omega | (simp; done) | (simp; omega) | (simp at *; omega)); obtain ⟨c3, f3, l3⟩ := hb.at_ (w.heap.size + 3) (by first | omega | (simp; done) | (simp; omega) | (simp at *; omega)))
      | (go_at_call 134; refine (rbool_of _ _).mono ?_; rintro e w' ⟨rfl, hb⟩; obtain ⟨c0, f0, l0⟩ := hb.at_ w.heap.size (by first | omega | (simp; done) | (simp; omega) | (simp at *; omega)); obtain ⟨c1, f1, l1⟩ := hb.at_ (w.heap.size + 1) (by first | omega | (simp; done) | (simp; omega) | (simp at *; omega)); obtain ⟨c2, f2, l2⟩ := hb.at_ (w.heap.size + 2) (by first | omega | (simp; done) | (simp; omega) | (simp at *; omega)); obtain ⟨c3, f3, l3⟩ := hb.at_ (w.heap.size + 3) (by first | omega | (simp; done) | (simp; omega) | (simp at *; omega))))
    refine back_ct rfl (Val.truth true).cells (.int .i64 0) rfl rfl agg_val rfl ?_ ⟨rfl, ?_⟩
    · (simp only [At, Val.cells, Val.null, Val.number, Val.truth, Val.float]; repeat (first | exact trivial | (refine ⟨?_, ?_⟩; focus go_simp)))
    · repeat (first | (with_reducible exact Ext.refl _) | (with_reducible refine Ext.set_ ?_ _ ?_; focus (first | (simp; done) | (simp; omega) | (simp at *; omega))) | (with_reducible refine Ext.alloc ?_ _) | (with_reducible refine Ext.drew ?_) | (with_reducible refine Ext.drewN ?_ _) | (with_reducible refine Ext.trans ?_ (by assumption)))

set_option maxRecDepth 100000 in
set_option maxHeartbeats 20000000 in
theorem rboth12_of (a b : Val) (w : World) (hfa : a.flt < 18446744073709551616) (hfb : b.flt < 18446744073709551616) :
    Calls Try.prog 133 #[.int .i64 12, .agg #[.int .i64 a.kind, .int .i64 a.int, .float .f64 a.flt, .string a.text], .agg #[.int .i64 b.kind, .int .i64 b.int, .float .f64 b.flt, .string b.text]] w
      fun e w' => e = .returned (.tuple #[(Val.both 12 a b).1.enc, .int .i64 (Val.both 12 a b).2]) ∧ Ext w w' := by
  have HRA := Lib.hid (fun w => rright_of a w hfa)
  have HRB := Lib.hid (fun w => rright_of b w hfb)
  clear hfa hfb
  unfold Val.both Val.both2
  rw [if_neg (by decide)]
  simp only [if_true, if_false, Int.reduceEq]
  cases na : a.right
  · have e1 : ¬ (a.truthy = true ∧ a.truthy = true) := by unfold Val.truthy; simp [na]
    rw [if_neg e1]; rw [na] at HRA; clear e1 na
    go_enter Try.func133, Try.ntmps133
    go_wp2_with (first
      | (go_at_call 130; (first | (with_reducible refine (HRA.out _).mono ?_) | (with_reducible refine (HRB.out _).mono ?_)); rintro e w' ⟨rfl, hb⟩; obtain ⟨c0, f0, l0⟩ := hb.at_ w.heap.size (by first | omega | (simp; done) | (simp; omega) | (simp at *; omega)); obtain ⟨c1, f1, l1⟩ := hb.at_ (w.heap.size + 1) (by first | omega | (simp; done) | (simp; omega) | (simp at *; omega)); obtain ⟨c2, f2, l2⟩ := hb.at_ (w.heap.size + 2) (by first | omega | (simp; done) | (simp; omega) | (simp at *; omega)); obtain ⟨c3, f3, l3⟩ := hb.at_ (w.heap.size + 3) (by first | omega | (simp; done) | (simp; omega) | (simp at *; omega)))
      | (go_at_call 134; refine (rbool_of _ _).mono ?_; rintro e w' ⟨rfl, hb⟩; obtain ⟨c0, f0, l0⟩ := hb.at_ w.heap.size (by first | omega | (simp; done) | (simp; omega) | (simp at *; omega)); obtain ⟨c1, f1, l1⟩ := hb.at_ (w.heap.size + 1) (by first | omega | (simp; done) | (simp; omega) | (simp at *; omega)); obtain ⟨c2, f2, l2⟩ := hb.at_ (w.heap.size + 2) (by first | omega | (simp; done) | (simp; omega) | (simp at *; omega)); obtain ⟨c3, f3, l3⟩ := hb.at_ (w.heap.size + 3) (by first | omega | (simp; done) | (simp; omega) | (simp at *; omega))))
    refine back_ct rfl (Val.null).cells (.int .i64 50) rfl rfl agg_val rfl ?_ ⟨rfl, ?_⟩
    · (simp only [At, Val.cells, Val.null, Val.number, Val.truth, Val.float]; repeat (first | exact trivial | (refine ⟨?_, ?_⟩; focus go_simp)))
    · repeat (first | (with_reducible exact Ext.refl _) | (with_reducible refine Ext.set_ ?_ _ ?_; focus (first | (simp; done) | (simp; omega) | (simp at *; omega))) | (with_reducible refine Ext.alloc ?_ _) | (with_reducible refine Ext.drew ?_) | (with_reducible refine Ext.drewN ?_ _) | (with_reducible refine Ext.trans ?_ (by assumption)))
  have ka := right_kinds na
  have nb := na
  have kb := ka
  by_cases a1 : 1 < a.kind
  · have e1 : ¬ (a.truthy = true ∧ a.truthy = true) := by unfold Val.truthy; simp; omega
    have q1 : decide (1 < a.kind) = true := decide_eq_true a1
    rw [if_neg e1]; rw [na] at HRA; clear e1 na nb ka kb
    go_enter Try.func133, Try.ntmps133
    go_wp2_with (first
      | (go_at_call 130; (first | (with_reducible refine (HRA.out _).mono ?_) | (with_reducible refine (HRB.out _).mono ?_)); rintro e w' ⟨rfl, hb⟩; obtain ⟨c0, f0, l0⟩ := hb.at_ w.heap.size (by first | omega | (simp; done) | (simp; omega) | (simp at *; omega)); obtain ⟨c1, f1, l1⟩ := hb.at_ (w.heap.size + 1) (by first | omega | (simp; done) | (simp; omega) | (simp at *; omega)); obtain ⟨c2, f2, l2⟩ := hb.at_ (w.heap.size + 2) (by first | omega | (simp; done) | (simp; omega) | (simp at *; omega)); obtain ⟨c3, f3, l3⟩ := hb.at_ (w.heap.size + 3) (by first | omega | (simp; done) | (simp; omega) | (simp at *; omega)))
      | (go_at_call 134; refine (rbool_of _ _).mono ?_; rintro e w' ⟨rfl, hb⟩; obtain ⟨c0, f0, l0⟩ := hb.at_ w.heap.size (by first | omega | (simp; done) | (simp; omega) | (simp at *; omega)); obtain ⟨c1, f1, l1⟩ := hb.at_ (w.heap.size + 1) (by first | omega | (simp; done) | (simp; omega) | (simp at *; omega)); obtain ⟨c2, f2, l2⟩ := hb.at_ (w.heap.size + 2) (by first | omega | (simp; done) | (simp; omega) | (simp at *; omega)); obtain ⟨c3, f3, l3⟩ := hb.at_ (w.heap.size + 3) (by first | omega | (simp; done) | (simp; omega) | (simp at *; omega))))
    refine back_ct rfl (Val.null).cells (.int .i64 50) rfl rfl agg_val rfl ?_ ⟨rfl, ?_⟩
    · (simp only [At, Val.cells, Val.null, Val.number, Val.truth, Val.float]; repeat (first | exact trivial | (refine ⟨?_, ?_⟩; focus go_simp)))
    · repeat (first | (with_reducible exact Ext.refl _) | (with_reducible refine Ext.set_ ?_ _ ?_; focus (first | (simp; done) | (simp; omega) | (simp at *; omega))) | (with_reducible refine Ext.alloc ?_ _) | (with_reducible refine Ext.drew ?_) | (with_reducible refine Ext.drewN ?_ _) | (with_reducible refine Ext.trans ?_ (by assumption)))
  have q1 : decide (1 < a.kind) = false := decide_eq_false a1
  have e1 : a.truthy = true ∧ a.truthy = true := by unfold Val.truthy; simp [na, nb]; omega
  rw [if_pos e1]; clear e1
  have ia := right_int na a1
  rw [na] at HRA
  clear na nb ka kb
  obtain ⟨AK, AI, AF, AT⟩ := a
  dsimp only at *
  rcases ia with ⟨rfl, rfl⟩ | ⟨rfl, rfl⟩ | ⟨rfl, rfl⟩
  · show Calls _ _ _ _ fun e w' => e = .returned (.tuple #[(Val.null).enc, .int .i64 0]) ∧ Ext w w'
    go_enter Try.func133, Try.ntmps133
    go_wp2_with (first
      | (go_at_call 130; (first | (with_reducible refine (HRA.out _).mono ?_) | (with_reducible refine (HRB.out _).mono ?_)); rintro e w' ⟨rfl, hb⟩; obtain ⟨c0, f0, l0⟩ := hb.at_ w.heap.size (by first | omega | (simp; done) | (simp; omega) | (simp at *; omega)); obtain ⟨c1, f1, l1⟩ := hb.at_ (w.heap.size + 1) (by first | omega | (simp; done) | (simp; omega) | (simp at *; omega)); obtain ⟨c2, f2, l2⟩ := hb.at_ (w.heap.size + 2) (by first | omega | (simp; done) | (simp; omega) | (simp at *; omega)); obtain ⟨c3, f3, l3⟩ := hb.at_ (w.heap.size + 3) (by first | omega | (simp; done) | (simp; omega) | (simp at *; omega)))
      | (go_at_call 134; refine (rbool_of _ _).mono ?_; rintro e w' ⟨rfl, hb⟩; obtain ⟨c0, f0, l0⟩ := hb.at_ w.heap.size (by first | omega | (simp; done) | (simp; omega) | (simp at *; omega)); obtain ⟨c1, f1, l1⟩ := hb.at_ (w.heap.size + 1) (by first | omega | (simp; done) | (simp; omega) | (simp at *; omega)); obtain ⟨c2, f2, l2⟩ := hb.at_ (w.heap.size + 2) (by first | omega | (simp; done) | (simp; omega) | (simp at *; omega)); obtain ⟨c3, f3, l3⟩ := hb.at_ (w.heap.size + 3) (by first | omega | (simp; done) | (simp; omega) | (simp at *; omega))))
    refine back_ct rfl (Val.null).cells (.int .i64 0) rfl rfl agg_val rfl ?_ ⟨rfl, ?_⟩
    · (simp only [At, Val.cells, Val.null, Val.number, Val.truth, Val.float]; repeat (first | exact trivial | (refine ⟨?_, ?_⟩; focus go_simp)))
    · repeat (first | (with_reducible exact Ext.refl _) | (with_reducible refine Ext.set_ ?_ _ ?_; focus (first | (simp; done) | (simp; omega) | (simp at *; omega))) | (with_reducible refine Ext.alloc ?_ _) | (with_reducible refine Ext.drew ?_) | (with_reducible refine Ext.drewN ?_ _) | (with_reducible refine Ext.trans ?_ (by assumption)))
  · show Calls _ _ _ _ fun e w' => e = .returned (.tuple #[(Val.truth true).enc, .int .i64 0]) ∧ Ext w w'
    go_enter Try.func133, Try.ntmps133
    go_wp2_with (first
      | (go_at_call 130; (first | (with_reducible refine (HRA.out _).mono ?_) | (with_reducible refine (HRB.out _).mono ?_)); rintro e w' ⟨rfl, hb⟩; obtain ⟨c0, f0, l0⟩ := hb.at_ w.heap.size (by first | omega | (simp; done) | (simp; omega) | (simp at *; omega)); obtain ⟨c1, f1, l1⟩ := hb.at_ (w.heap.size + 1) (by first | omega | (simp; done) | (simp; omega) | (simp at *; omega)); obtain ⟨c2, f2, l2⟩ := hb.at_ (w.heap.size + 2) (by first | omega | (simp; done) | (simp; omega) | (simp at *; omega)); obtain ⟨c3, f3, l3⟩ := hb.at_ (w.heap.size + 3) (by first | omega | (simp; done) | (simp; omega) | (simp at *; omega)))
      | (go_at_call 134; refine (rbool_of _ _).mono ?_; rintro e w' ⟨rfl, hb⟩; obtain ⟨c0, f0, l0⟩ := hb.at_ w.heap.size (by first | omega | (simp; done) | (simp; omega) | (simp at *; omega)); obtain ⟨c1, f1, l1⟩ := hb.at_ (w.heap.size + 1) (by first | omega | (simp; done) | (simp; omega) | (simp at *; omega)); obtain ⟨c2, f2, l2⟩ := hb.at_ (w.heap.size + 2) (by first | omega | (simp; done) | (simp; omega) | (simp at *; omega)); obtain ⟨c3, f3, l3⟩ := hb.at_ (w.heap.size + 3) (by first | omega | (simp; done) | (simp; omega) | (simp at *; omega))))
    refine back_ct rfl (Val.truth true).cells (.int .i64 0) rfl rfl agg_val rfl ?_ ⟨rfl, ?_⟩
    · (simp only [At, Val.cells, Val.null, Val.number, Val.truth, Val.float]; repeat (first | exact trivial | (refine ⟨?_, ?_⟩; focus go_simp)))
    · repeat (first | (with_reducible exact Ext.refl _) | (with_reducible refine Ext.set_ ?_ _ ?_; focus (first | (simp; done) | (simp; omega) | (simp at *; omega))) | (with_reducible refine Ext.alloc ?_ _) | (with_reducible refine Ext.drew ?_) | (with_reducible refine Ext.drewN ?_ _) | (with_reducible refine Ext.trans ?_ (by assumption)))
  · show Calls _ _ _ _ fun e w' => e = .returned (.tuple #[(Val.truth false).enc, .int .i64 0]) ∧ Ext w w'
    go_enter Try.func133, Try.ntmps133
    go_wp2_with (first
      | (go_at_call 130; (first | (with_reducible refine (HRA.out _).mono ?_) | (with_reducible refine (HRB.out _).mono ?_)); rintro e w' ⟨rfl, hb⟩; obtain ⟨c0, f0, l0⟩ := hb.at_ w.heap.size (by first | omega | (simp; done) | (simp; omega) | (simp at *; omega)); obtain ⟨c1, f1, l1⟩ := hb.at_ (w.heap.size + 1) (by first | omega | (simp; done) | (simp; omega) | (simp at *; omega)); obtain ⟨c2, f2, l2⟩ := hb.at_ (w.heap.size + 2) (by first | omega | (simp; done) | (simp; omega) | (simp at *; omega)); obtain ⟨c3, f3, l3⟩ := hb.at_ (w.heap.size + 3) (by first | omega | (simp; done) | (simp; omega) | (simp at *; omega)))
      | (go_at_call 134; refine (rbool_of _ _).mono ?_; rintro e w' ⟨rfl, hb⟩; obtain ⟨c0, f0, l0⟩ := hb.at_ w.heap.size (by first | omega | (simp; done) | (simp; omega) | (simp at *; omega)); obtain ⟨c1, f1, l1⟩ := hb.at_ (w.heap.size + 1) (by first | omega | (simp; done) | (simp; omega) | (simp at *; omega)); obtain ⟨c2, f2, l2⟩ := hb.at_ (w.heap.size + 2) (by first | omega | (simp; done) | (simp; omega) | (simp at *; omega)); obtain ⟨c3, f3, l3⟩ := hb.at_ (w.heap.size + 3) (by first | omega | (simp; done) | (simp; omega) | (simp at *; omega))))
    refine back_ct rfl (Val.truth false).cells (.int .i64 0) rfl rfl agg_val rfl ?_ ⟨rfl, ?_⟩
    · (simp only [At, Val.cells, Val.null, Val.number, Val.truth, Val.float]; repeat (first | exact trivial | (refine ⟨?_, ?_⟩; focus go_simp)))
    · repeat (first | (with_reducible exact Ext.refl _) | (with_reducible refine Ext.set_ ?_ _ ?_; focus (first | (simp; done) | (simp; omega) | (simp at *; omega))) | (with_reducible refine Ext.alloc ?_ _) | (with_reducible refine Ext.drew ?_) | (with_reducible refine Ext.drewN ?_ _) | (with_reducible refine Ext.trans ?_ (by assumption)))
end Go.Proofs.Ytlcdjaclahhdnaa
