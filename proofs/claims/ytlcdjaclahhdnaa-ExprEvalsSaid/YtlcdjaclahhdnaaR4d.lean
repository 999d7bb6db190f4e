/- The calls of tabularyref04.number, Bool, Test. Printed by wip/tools/gen_r4d.py. -/
import Derived.Test.YtlcdjaclahhdnaaR4c
namespace Go.Proofs.Ytlcdjaclahhdnaa
open Go.RowKit
set_option linter.unusedSimpArgs false
set_option linter.unusedVariables false

theorem right_kinds {v : Val} (h : v.right = true) : v.kind = 0 ∨ v.kind = 1 ∨ v.kind = 2 ∨ v.kind = 3 ∨ v.kind = 4 := by
  by_cases h0 : v.kind = 0
  · exact .inl h0
  by_cases h1 : v.kind = 1
  · exact .inr (.inl h1)
  by_cases h2 : v.kind = 2
  · exact .inr (.inr (.inl h2))
  by_cases h3 : v.kind = 3
  · exact .inr (.inr (.inr (.inl h3)))
  by_cases h4 : v.kind = 4
  · exact .inr (.inr (.inr (.inr h4)))
  unfold Val.right at h
  rw [if_neg h0, if_neg h1, if_neg h2, if_neg h3, if_neg h4] at h
  cases h
set_option maxHeartbeats 1000000 in
theorem rnumber_of (v : Val) (w : World) (hx : v.flt < 18446744073709551616) :
    Calls Try.prog 151 #[.agg #[.int .i64 v.kind, .int .i64 v.int, .float .f64 v.flt, .string v.text]] w fun e w' => e = .returned (.bool v.numeric) ∧ Ext w w' := by
  go_enter Try.func151, Try.ntmps151
  go_wp2_with (go_at_call 130; refine (rright_of v _ hx).mono ?_; rintro e w' ⟨rfl, hb⟩; obtain ⟨c0, f0, l0⟩ := hb.at_ w.heap.size (by first | omega | (simp; done) | (simp; omega) | (simp at *; omega)))
  all_goals
    go_ret
    refine ⟨ret_bool ?_, ?_⟩
    · go_tidy; cases hr : v.right
      · simp_all [Val.numeric]
      · rcases right_kinds hr with h | h | h | h | h <;> simp_all [Val.numeric]
    · repeat (first | (with_reducible exact Ext.refl _) | (with_reducible refine Ext.set_ ?_ _ ?_; focus (first | (simp; done) | (simp; omega) | (simp at *; omega))) | (with_reducible refine Ext.alloc ?_ _) | (with_reducible refine Ext.drew ?_) | (with_reducible refine Ext.drewN ?_ _) | (with_reducible refine Ext.trans ?_ (by assumption)))
set_option maxHeartbeats 1000000 in
theorem rbool_of (b : Bool) (w : World) : Calls Try.prog 134 #[.bool b] w fun e w' => e = .returned (Val.truth b).enc ∧ Ext w w' := by
  cases b
  all_goals
    go_enter Try.func134, Try.ntmps134
    go_wp2_with fail
  · refine back_cell rfl (Val.truth false).cells rfl agg_val rfl ?_ ⟨rfl, ?_⟩
    · (simp only [At, Val.cells, Val.null, Val.number, Val.truth, Val.float]; repeat (first | exact trivial | (refine ⟨?_, ?_⟩; focus go_simp)))
    · repeat (first | (with_reducible exact Ext.refl _) | (with_reducible refine Ext.set_ ?_ _ ?_; focus (first | (simp; done) | (simp; omega) | (simp at *; omega))) | (with_reducible refine Ext.alloc ?_ _) | (with_reducible refine Ext.drew ?_) | (with_reducible refine Ext.drewN ?_ _) | (with_reducible refine Ext.trans ?_ (by assumption)))
  · refine back_cell rfl (Val.truth true).cells rfl agg_val rfl ?_ ⟨rfl, ?_⟩
    · (simp only [At, Val.cells, Val.null, Val.number, Val.truth, Val.float]; repeat (first | exact trivial | (refine ⟨?_, ?_⟩; focus go_simp)))
    · repeat (first | (with_reducible exact Ext.refl _) | (with_reducible refine Ext.set_ ?_ _ ?_; focus (first | (simp; done) | (simp; omega) | (simp at *; omega))) | (with_reducible refine Ext.alloc ?_ _) | (with_reducible refine Ext.drew ?_) | (with_reducible refine Ext.drewN ?_ _) | (with_reducible refine Ext.trans ?_ (by assumption)))

set_option maxRecDepth 100000 in
set_option maxHeartbeats 20000000 in
theorem rtest_of (op : Int) (a b : Val) (w : World) (hfa : a.flt < 18446744073709551616) (hfb : b.flt < 18446744073709551616) (h1 : 7 ≤ op) (h2 : op ≤ 9) :
    Calls Try.prog 132 #[.int .i64 op, .agg #[.int .i64 a.kind, .int .i64 a.int, .float .f64 a.flt, .string a.text], .agg #[.int .i64 b.kind, .int .i64 b.int, .float .f64 b.flt, .string b.text]] w
      fun e w' => e = .returned (.tuple #[(Val.test op a b).1.enc, .int .i64 (Val.test op a b).2]) ∧ Ext w w' := by
  have HRA := Lib.hid (fun w => rright_of a w hfa)
  have HRB := Lib.hid (fun w => rright_of b w hfb)
  have HCM := Lib.hid (fun w => rcmp_of a b w hfa hfb)
  have e0 : ¬(op < 7 ∨ 9 < op) := by omega
  clear hfa hfb
  cases na : a.right
  · rw [na] at HRA
    have e1 : Val.test op a b = (Val.null, 50) := by unfold Val.test; rw [if_neg e0]; simp [na]
    rw [e1]; clear e1 na e0
    go_enter Try.func132, Try.ntmps132
    go_wp2_with (first
      | (go_at_call 130; (first | (with_reducible refine (HRA.out _).mono ?_) | (with_reducible refine (HRB.out _).mono ?_)); rintro e w' ⟨rfl, hb⟩; obtain ⟨c0, f0, l0⟩ := hb.at_ w.heap.size (by first | omega | (simp; done) | (simp; omega) | (simp at *; omega)); obtain ⟨c1, f1, l1⟩ := hb.at_ (w.heap.size + 1) (by first | omega | (simp; done) | (simp; omega) | (simp at *; omega)); obtain ⟨c2, f2, l2⟩ := hb.at_ (w.heap.size + 2) (by first | omega | (simp; done) | (simp; omega) | (simp at *; omega)); obtain ⟨c3, f3, l3⟩ := hb.at_ (w.heap.size + 3) (by first | omega | (simp; done) | (simp; omega) | (simp at *; omega)))
      | (go_at_call 98; refine (HCM.out _).mono ?_; rintro e w' ⟨rfl, hb⟩; obtain ⟨c0, f0, l0⟩ := hb.at_ w.heap.size (by first | omega | (simp; done) | (simp; omega) | (simp at *; omega)); obtain ⟨c1, f1, l1⟩ := hb.at_ (w.heap.size + 1) (by first | omega | (simp; done) | (simp; omega) | (simp at *; omega)); obtain ⟨c2, f2, l2⟩ := hb.at_ (w.heap.size + 2) (by first | omega | (simp; done) | (simp; omega) | (simp at *; omega)); obtain ⟨c3, f3, l3⟩ := hb.at_ (w.heap.size + 3) (by first | omega | (simp; done) | (simp; omega) | (simp at *; omega)))
      | (go_at_call 134; refine (rbool_of _ _).mono ?_; rintro e w' ⟨rfl, hb⟩; obtain ⟨c0, f0, l0⟩ := hb.at_ w.heap.size (by first | omega | (simp; done) | (simp; omega) | (simp at *; omega)); obtain ⟨c1, f1, l1⟩ := hb.at_ (w.heap.size + 1) (by first | omega | (simp; done) | (simp; omega) | (simp at *; omega)); obtain ⟨c2, f2, l2⟩ := hb.at_ (w.heap.size + 2) (by first | omega | (simp; done) | (simp; omega) | (simp at *; omega)); obtain ⟨c3, f3, l3⟩ := hb.at_ (w.heap.size + 3) (by first | omega | (simp; done) | (simp; omega) | (simp at *; omega))))
    refine back_ct rfl (Val.null).cells (.int .i64 50) rfl rfl agg_val rfl ?_ ⟨rfl, ?_⟩
    · (simp only [At, Val.cells, Val.null, Val.number, Val.truth, Val.float]; repeat (first | exact trivial | (refine ⟨?_, ?_⟩; focus go_simp)))
    · repeat (first | (with_reducible exact Ext.refl _) | (with_reducible refine Ext.set_ ?_ _ ?_; focus (first | (simp; done) | (simp; omega) | (simp at *; omega))) | (with_reducible refine Ext.alloc ?_ _) | (with_reducible refine Ext.drew ?_) | (with_reducible refine Ext.drewN ?_ _) | (with_reducible refine Ext.trans ?_ (by assumption)))
  cases nb : b.right
  · rw [na] at HRA; rw [nb] at HRB
    have e1 : Val.test op a b = (Val.null, 50) := by unfold Val.test; rw [if_neg e0]; simp [nb]
    rw [e1]; clear e1 na nb e0
    go_enter Try.func132, Try.ntmps132
    go_wp2_with (first
      | (go_at_call 130; (first | (with_reducible refine (HRA.out _).mono ?_) | (with_reducible refine (HRB.out _).mono ?_)); rintro e w' ⟨rfl, hb⟩; obtain ⟨c0, f0, l0⟩ := hb.at_ w.heap.size (by first | omega | (simp; done) | (simp; omega) | (simp at *; omega)); obtain ⟨c1, f1, l1⟩ := hb.at_ (w.heap.size + 1) (by first | omega | (simp; done) | (simp; omega) | (simp at *; omega)); obtain ⟨c2, f2, l2⟩ := hb.at_ (w.heap.size + 2) (by first | omega | (simp; done) | (simp; omega) | (simp at *; omega)); obtain ⟨c3, f3, l3⟩ := hb.at_ (w.heap.size + 3) (by first | omega | (simp; done) | (simp; omega) | (simp at *; omega)))
      | (go_at_call 98; refine (HCM.out _).mono ?_; rintro e w' ⟨rfl, hb⟩; obtain ⟨c0, f0, l0⟩ := hb.at_ w.heap.size (by first | omega | (simp; done) | (simp; omega) | (simp at *; omega)); obtain ⟨c1, f1, l1⟩ := hb.at_ (w.heap.size + 1) (by first | omega | (simp; done) | (simp; omega) | (simp at *; omega)); obtain ⟨c2, f2, l2⟩ := hb.at_ (w.heap.size + 2) (by first | omega | (simp; done) | (simp; omega) | (simp at *; omega)); obtain ⟨c3, f3, l3⟩ := hb.at_ (w.heap.size + 3) (by first | omega | (simp; done) | (simp; omega) | (simp at *; omega)))
      | (go_at_call 134; refine (rbool_of _ _).mono ?_; rintro e w' ⟨rfl, hb⟩; obtain ⟨c0, f0, l0⟩ := hb.at_ w.heap.size (by first | omega | (simp; done) | (simp; omega) | (simp at *; omega)); obtain ⟨c1, f1, l1⟩ := hb.at_ (w.heap.size + 1) (by first | omega | (simp; done) | (simp; omega) | (simp at *; omega)); obtain ⟨c2, f2, l2⟩ := hb.at_ (w.heap.size + 2) (by first | omega | (simp; done) | (simp; omega) | (simp at *; omega)); obtain ⟨c3, f3, l3⟩ := hb.at_ (w.heap.size + 3) (by first | omega | (simp; done) | (simp; omega) | (simp at *; omega))))
    refine back_ct rfl (Val.null).cells (.int .i64 50) rfl rfl agg_val rfl ?_ ⟨rfl, ?_⟩
    · (simp only [At, Val.cells, Val.null, Val.number, Val.truth, Val.float]; repeat (first | exact trivial | (refine ⟨?_, ?_⟩; focus go_simp)))
    · repeat (first | (with_reducible exact Ext.refl _) | (with_reducible refine Ext.set_ ?_ _ ?_; focus (first | (simp; done) | (simp; omega) | (simp at *; omega))) | (with_reducible refine Ext.alloc ?_ _) | (with_reducible refine Ext.drew ?_) | (with_reducible refine Ext.drewN ?_ _) | (with_reducible refine Ext.trans ?_ (by assumption)))
  have e9 : Val.test op a b = (if a.kind = 0 ∨ b.kind = 0 then (Val.null, 0) else if a.kind = b.kind then (Val.truth (if op = 7 then a.cmp b == 0 else if op = 8 then decide (a.cmp b < 0) else decide (a.cmp b ≤ 0)), 0) else (Val.null, 50)) := by
    unfold Val.test; rw [if_neg e0, if_pos ⟨na, nb⟩]
  rw [e9]; rw [na] at HRA; rw [nb] at HRB
  clear e9 na nb e0
  by_cases ka : a.kind = 0
  · have q1 : (a.kind != 0) = false := by simp [ka]
    have q2 : (a.kind == 0) = true := by simp [ka]
    rw [if_pos (.inl ka)]
    clear ka
    go_enter Try.func132, Try.ntmps132
    go_wp2_with (first
      | (go_at_call 130; (first | (with_reducible refine (HRA.out _).mono ?_) | (with_reducible refine (HRB.out _).mono ?_)); rintro e w' ⟨rfl, hb⟩; obtain ⟨c0, f0, l0⟩ := hb.at_ w.heap.size (by first | omega | (simp; done) | (simp; omega) | (simp at *; omega)); obtain ⟨c1, f1, l1⟩ := hb.at_ (w.heap.size + 1) (by first | omega | (simp; done) | (simp; omega) | (simp at *; omega)); obtain ⟨c2, f2, l2⟩ := hb.at_ (w.heap.size + 2) (by first | omega | (simp; done) | (simp; omega) | (simp at *; omega)); obtain ⟨c3, f3, l3⟩ := hb.at_ (w.heap.size + 3) (by first | omega | (simp; done) | (simp; omega) | (simp at *; omega)))
      | (go_at_call 98; refine (HCM.out _).mono ?_; rintro e w' ⟨rfl, hb⟩; obtain ⟨c0, f0, l0⟩ := hb.at_ w.heap.size (by first | omega | (simp; done) | (simp; omega) | (simp at *; omega)); obtain ⟨c1, f1, l1⟩ := hb.at_ (w.heap.size + 1) (by first | omega | (simp; done) | (simp; omega) | (simp at *; omega)); obtain ⟨c2, f2, l2⟩ := hb.at_ (w.heap.size + 2) (by first | omega | (simp; done) | (simp; omega) | (simp at *; omega)); obtain ⟨c3, f3, l3⟩ := hb.at_ (w.heap.size + 3) (by first | omega | (simp; done) | (simp; omega) | (simp at *; omega)))
      | (go_at_call 134; refine (rbool_of _ _).mono ?_; rintro e w' ⟨rfl, hb⟩; obtain ⟨c0, f0, l0⟩ := hb.at_ w.heap.size (by first | omega | (simp; done) | (simp; omega) | (simp at *; omega)); obtain ⟨c1, f1, l1⟩ := hb.at_ (w.heap.size + 1) (by first | omega | (simp; done) | (simp; omega) | (simp at *; omega)); obtain ⟨c2, f2, l2⟩ := hb.at_ (w.heap.size + 2) (by first | omega | (simp; done) | (simp; omega) | (simp at *; omega)); obtain ⟨c3, f3, l3⟩ := hb.at_ (w.heap.size + 3) (by first | omega | (simp; done) | (simp; omega) | (simp at *; omega))))
    refine back_ct rfl (Val.null).cells (.int .i64 0) rfl rfl agg_val rfl ?_ ⟨rfl, ?_⟩
    · (simp only [At, Val.cells, Val.null, Val.number, Val.truth, Val.float]; repeat (first | exact trivial | (refine ⟨?_, ?_⟩; focus go_simp)))
    · repeat (first | (with_reducible exact Ext.refl _) | (with_reducible refine Ext.set_ ?_ _ ?_; focus (first | (simp; done) | (simp; omega) | (simp at *; omega))) | (with_reducible refine Ext.alloc ?_ _) | (with_reducible refine Ext.drew ?_) | (with_reducible refine Ext.drewN ?_ _) | (with_reducible refine Ext.trans ?_ (by assumption)))
  have q1 : (a.kind != 0) = true := by simpa using ka
  have q2 : (a.kind == 0) = false := by simpa using ka
  by_cases kb : b.kind = 0
  · have q3 : (b.kind != 0) = false := by simp [kb]
    have q4 : (b.kind == 0) = true := by simp [kb]
    rw [if_pos (.inr kb)]
    clear ka kb
    go_enter Try.func132, Try.ntmps132
    go_wp2_with (first
      | (go_at_call 130; (first | (with_reducible refine (HRA.out _).mono ?_) | (with_reducible refine (HRB.out _).mono ?_)); rintro e w' ⟨rfl, hb⟩; obtain ⟨c0, f0, l0⟩ := hb.at_ w.heap.size (by first | omega | (simp; done) | (simp; omega) | (simp at *; omega)); obtain ⟨c1, f1, l1⟩ := hb.at_ (w.heap.size + 1) (by first | omega | (simp; done) | (simp; omega) | (simp at *; omega)); obtain ⟨c2, f2, l2⟩ := hb.at_ (w.heap.size + 2) (by first | omega | (simp; done) | (simp; omega) | (simp at *; omega)); obtain ⟨c3, f3, l3⟩ := hb.at_ (w.heap.size + 3) (by first | omega | (simp; done) | (simp; omega) | (simp at *; omega)))
      | (go_at_call 98; refine (HCM.out _).mono ?_; rintro e w' ⟨rfl, hb⟩; obtain ⟨c0, f0, l0⟩ := hb.at_ w.heap.size (by first | omega | (simp; done) | (simp; omega) | (simp at *; omega)); obtain ⟨c1, f1, l1⟩ := hb.at_ (w.heap.size + 1) (by first | omega | (simp; done) | (simp; omega) | (simp at *; omega)); obtain ⟨c2, f2, l2⟩ := hb.at_ (w.heap.size + 2) (by first | omega | (simp; done) | (simp; omega) | (simp at *; omega)); obtain ⟨c3, f3, l3⟩ := hb.at_ (w.heap.size + 3) (by first | omega | (simp; done) | (simp; omega) | (simp at *; omega)))
      | (go_at_call 134; refine (rbool_of _ _).mono ?_; rintro e w' ⟨rfl, hb⟩; obtain ⟨c0, f0, l0⟩ := hb.at_ w.heap.size (by first | omega | (simp; done) | (simp; omega) | (simp at *; omega)); obtain ⟨c1, f1, l1⟩ := hb.at_ (w.heap.size + 1) (by first | omega | (simp; done) | (simp; omega) | (simp at *; omega)); obtain ⟨c2, f2, l2⟩ := hb.at_ (w.heap.size + 2) (by first | omega | (simp; done) | (simp; omega) | (simp at *; omega)); obtain ⟨c3, f3, l3⟩ := hb.at_ (w.heap.size + 3) (by first | omega | (simp; done) | (simp; omega) | (simp at *; omega))))
    refine back_ct rfl (Val.null).cells (.int .i64 0) rfl rfl agg_val rfl ?_ ⟨rfl, ?_⟩
    · (simp only [At, Val.cells, Val.null, Val.number, Val.truth, Val.float]; repeat (first | exact trivial | (refine ⟨?_, ?_⟩; focus go_simp)))
    · repeat (first | (with_reducible exact Ext.refl _) | (with_reducible refine Ext.set_ ?_ _ ?_; focus (first | (simp; done) | (simp; omega) | (simp at *; omega))) | (with_reducible refine Ext.alloc ?_ _) | (with_reducible refine Ext.drew ?_) | (with_reducible refine Ext.drewN ?_ _) | (with_reducible refine Ext.trans ?_ (by assumption)))
  have q3 : (b.kind != 0) = true := by simpa using kb
  have q4 : (b.kind == 0) = false := by simpa using kb
  rw [if_neg (by omega)]
  by_cases kk : a.kind = b.kind
  · have q5 : (a.kind != b.kind) = false := by simp [kk]
    rw [if_pos kk]
    clear ka kb kk
    generalize a.cmp b = c at *
    obtain rfl | rfl | rfl : op = 7 ∨ op = 8 ∨ op = 9 := by omega
    · show Calls _ _ _ _ fun e w' => e = .returned (.tuple #[(Val.truth (c == 0)).enc, .int .i64 0]) ∧ Ext w w'
      rcases Int.lt_trichotomy c 0 with h | h | h
      · have r1 : (c == 0) = false := by simp; omega
        have r2 : decide (c < 0) = true := by simp; omega
        have r3 : (c == 0) = false := by simp; omega
        rw [r3]
        clear h r3
        go_enter Try.func132, Try.ntmps132
        go_wp2_with (first
          | (go_at_call 130; (first | (with_reducible refine (HRA.out _).mono ?_) | (with_reducible refine (HRB.out _).mono ?_)); rintro e w' ⟨rfl, hb⟩; obtain ⟨c0, f0, l0⟩ := hb.at_ w.heap.size (by first | omega | (simp; done) | (simp; omega) | (simp at *; omega)); obtain ⟨c1, f1, l1⟩ := hb.at_ (w.heap.size + 1) (by first | omega | (simp; done) | (simp; omega) | (simp at *; omega)); obtain ⟨c2, f2, l2⟩ := hb.at_ (w.heap.size + 2) (by first | omega | (simp; done) | (simp; omega) | (simp at *; omega)); obtain ⟨c3, f3, l3⟩ := hb.at_ (w.heap.size + 3) (by first | omega | (simp; done) | (simp; omega) | (simp at *; omega)))
          | (go_at_call 98; refine (HCM.out _).mono ?_; rintro e w' ⟨rfl, hb⟩; obtain ⟨c0, f0, l0⟩ := hb.at_ w.heap.size (by first | omega | (simp; done) | (simp; omega) | (simp at *; omega)); obtain ⟨c1, f1, l1⟩ := hb.at_ (w.heap.size + 1) (by first | omega | (simp; done) | (simp; omega) | (simp at *; omega)); obtain ⟨c2, f2, l2⟩ := hb.at_ (w.heap.size + 2) (by first | omega | (simp; done) | (simp; omega) | (simp at *; omega)); obtain ⟨c3, f3, l3⟩ := hb.at_ (w.heap.size + 3) (by first | omega | (simp; done) | (simp; omega) | (simp at *; omega)))
          | (go_at_call 134; refine (rbool_of _ _).mono ?_; rintro e w' ⟨rfl, hb⟩; obtain ⟨c0, f0, l0⟩ := hb.at_ w.heap.size (by first | omega | (simp; done) | (simp; omega) | (simp at *; omega)); obtain ⟨c1, f1, l1⟩ := hb.at_ (w.heap.size + 1) (by first | omega | (simp; done) | (simp; omega) | (simp at *; omega)); obtain ⟨c2, f2, l2⟩ := hb.at_ (w.heap.size + 2) (by first | omega | (simp; done) | (simp; omega) | (simp at *; omega)); obtain ⟨c3, f3, l3⟩ := hb.at_ (w.heap.size + 3) (by first | omega | (simp; done) | (simp; omega) | (simp at *; omega))))
        refine back_ct rfl (Val.truth false).cells (.int .i64 0) rfl rfl agg_val rfl ?_ ⟨rfl, ?_⟩
        · (simp only [At, Val.cells, Val.null, Val.number, Val.truth, Val.float]; repeat (first | exact trivial | (refine ⟨?_, ?_⟩; focus go_simp)))
        · repeat (first | (with_reducible exact Ext.refl _) | (with_reducible refine Ext.set_ ?_ _ ?_; focus (first | (simp; done) | (simp; omega) | (simp at *; omega))) | (with_reducible refine Ext.alloc ?_ _) | (with_reducible refine Ext.drew ?_) | (with_reducible refine Ext.drewN ?_ _) | (with_reducible refine Ext.trans ?_ (by assumption)))
      · have r1 : (c == 0) = true := by simp; omega
        have r2 : decide (c < 0) = false := by simp; omega
        have r3 : (c == 0) = true := by simp; omega
        rw [r3]
        clear h r3
        go_enter Try.func132, Try.ntmps132
        go_wp2_with (first
          | (go_at_call 130; (first | (with_reducible refine (HRA.out _).mono ?_) | (with_reducible refine (HRB.out _).mono ?_)); rintro e w' ⟨rfl, hb⟩; obtain ⟨c0, f0, l0⟩ := hb.at_ w.heap.size (by first | omega | (simp; done) | (simp; omega) | (simp at *; omega)); obtain ⟨c1, f1, l1⟩ := hb.at_ (w.heap.size + 1) (by first | omega | (simp; done) | (simp; omega) | (simp at *; omega)); obtain ⟨c2, f2, l2⟩ := hb.at_ (w.heap.size + 2) (by first | omega | (simp; done) | (simp; omega) | (simp at *; omega)); obtain ⟨c3, f3, l3⟩ := hb.at_ (w.heap.size + 3) (by first | omega | (simp; done) | (simp; omega) | (simp at *; omega)))
          | (go_at_call 98; refine (HCM.out _).mono ?_; rintro e w' ⟨rfl, hb⟩; obtain ⟨c0, f0, l0⟩ := hb.at_ w.heap.size (by first | omega | (simp; done) | (simp; omega) | (simp at *; omega)); obtain ⟨c1, f1, l1⟩ := hb.at_ (w.heap.size + 1) (by first | omega | (simp; done) | (simp; omega) | (simp at *; omega)); obtain ⟨c2, f2, l2⟩ := hb.at_ (w.heap.size + 2) (by first | omega | (simp; done) | (simp; omega) | (simp at *; omega)); obtain ⟨c3, f3, l3⟩ := hb.at_ (w.heap.size + 3) (by first | omega | (simp; done) | (simp; omega) | (simp at *; omega)))
          | (go_at_call 134; refine (rbool_of _ _).mono ?_; rintro e w' ⟨rfl, hb⟩; obtain ⟨c0, f0, l0⟩ := hb.at_ w.heap.size (by first | omega | (simp; done) | (simp; omega) | (simp at *; omega)); obtain ⟨c1, f1, l1⟩ := hb.at_ (w.heap.size + 1) (by first | omega | (simp; done) | (simp; omega) | (simp at *; omega)); obtain ⟨c2, f2, l2⟩ := hb.at_ (w.heap.size + 2) (by first | omega | (simp; done) | (simp; omega) | (simp at *; omega)); obtain ⟨c3, f3, l3⟩ := hb.at_ (w.heap.size + 3) (by first | omega | (simp; done) | (simp; omega) | (simp at *; omega))))
        refine back_ct rfl (Val.truth true).cells (.int .i64 0) rfl rfl agg_val rfl ?_ ⟨rfl, ?_⟩
        · (simp only [At, Val.cells, Val.null, Val.number, Val.truth, Val.float]; repeat (first | exact trivial | (refine ⟨?_, ?_⟩; focus go_simp)))
        · repeat (first | (with_reducible exact Ext.refl _) | (with_reducible refine Ext.set_ ?_ _ ?_; focus (first | (simp; done) | (simp; omega) | (simp at *; omega))) | (with_reducible refine Ext.alloc ?_ _) | (with_reducible refine Ext.drew ?_) | (with_reducible refine Ext.drewN ?_ _) | (with_reducible refine Ext.trans ?_ (by assumption)))
      · have r1 : (c == 0) = false := by simp; omega
        have r2 : decide (c < 0) = false := by simp; omega
        have r3 : (c == 0) = false := by simp; omega
        rw [r3]
        clear h r3
        go_enter Try.func132, Try.ntmps132
        go_wp2_with (first
          | (go_at_call 130; (first | (with_reducible refine (HRA.out _).mono ?_) | (with_reducible refine (HRB.out _).mono ?_)); rintro e w' ⟨rfl, hb⟩; obtain ⟨c0, f0, l0⟩ := hb.at_ w.heap.size (by first | omega | (simp; done) | (simp; omega) | (simp at *; omega)); obtain ⟨c1, f1, l1⟩ := hb.at_ (w.heap.size + 1) (by first | omega | (simp; done) | (simp; omega) | (simp at *; omega)); obtain ⟨c2, f2, l2⟩ := hb.at_ (w.heap.size + 2) (by first | omega | (simp; done) | (simp; omega) | (simp at *; omega)); obtain ⟨c3, f3, l3⟩ := hb.at_ (w.heap.size + 3) (by first | omega | (simp; done) | (simp; omega) | (simp at *; omega)))
          | (go_at_call 98; refine (HCM.out _).mono ?_; rintro e w' ⟨rfl, hb⟩; obtain ⟨c0, f0, l0⟩ := hb.at_ w.heap.size (by first | omega | (simp; done) | (simp; omega) | (simp at *; omega)); obtain ⟨c1, f1, l1⟩ := hb.at_ (w.heap.size + 1) (by first | omega | (simp; done) | (simp; omega) | (simp at *; omega)); obtain ⟨c2, f2, l2⟩ := hb.at_ (w.heap.size + 2) (by first | omega | (simp; done) | (simp; omega) | (simp at *; omega)); obtain ⟨c3, f3, l3⟩ := hb.at_ (w.heap.size + 3) (by first | omega | (simp; done) | (simp; omega) | (simp at *; omega)))
          | (go_at_call 134; refine (rbool_of _ _).mono ?_; rintro e w' ⟨rfl, hb⟩; obtain ⟨c0, f0, l0⟩ := hb.at_ w.heap.size (by first | omega | (simp; done) | (simp; omega) | (simp at *; omega)); obtain ⟨c1, f1, l1⟩ := hb.at_ (w.heap.size + 1) (by first | omega | (simp; done) | (simp; omega) | (simp at *; omega)); obtain ⟨c2, f2, l2⟩ := hb.at_ (w.heap.size + 2) (by first | omega | (simp; done) | (simp; omega) | (simp at *; omega)); obtain ⟨c3, f3, l3⟩ := hb.at_ (w.heap.size + 3) (by first | omega | (simp; done) | (simp; omega) | (simp at *; omega))))
        refine back_ct rfl (Val.truth false).cells (.int .i64 0) rfl rfl agg_val rfl ?_ ⟨rfl, ?_⟩
        · (simp only [At, Val.cells, Val.null, Val.number, Val.truth, Val.float]; repeat (first | exact trivial | (refine ⟨?_, ?_⟩; focus go_simp)))
        · repeat (first | (with_reducible exact Ext.refl _) | (with_reducible refine Ext.set_ ?_ _ ?_; focus (first | (simp; done) | (simp; omega) | (simp at *; omega))) | (with_reducible refine Ext.alloc ?_ _) | (with_reducible refine Ext.drew ?_) | (with_reducible refine Ext.drewN ?_ _) | (with_reducible refine Ext.trans ?_ (by assumption)))
    · show Calls _ _ _ _ fun e w' => e = .returned (.tuple #[(Val.truth (decide (c < 0))).enc, .int .i64 0]) ∧ Ext w w'
      rcases Int.lt_trichotomy c 0 with h | h | h
      · have r1 : (c == 0) = false := by simp; omega
        have r2 : decide (c < 0) = true := by simp; omega
        have r3 : (decide (c < 0)) = true := by simp; omega
        rw [r3]
        clear h r3
        go_enter Try.func132, Try.ntmps132
        go_wp2_with (first
          | (go_at_call 130; (first | (with_reducible refine (HRA.out _).mono ?_) | (with_reducible refine (HRB.out _).mono ?_)); rintro e w' ⟨rfl, hb⟩; obtain ⟨c0, f0, l0⟩ := hb.at_ w.heap.size (by first | omega | (simp; done) | (simp; omega) | (simp at *; omega)); obtain ⟨c1, f1, l1⟩ := hb.at_ (w.heap.size + 1) (by first | omega | (simp; done) | (simp; omega) | (simp at *; omega)); obtain ⟨c2, f2, l2⟩ := hb.at_ (w.heap.size + 2) (by first | omega | (simp; done) | (simp; omega) | (simp at *; omega)); obtain ⟨c3, f3, l3⟩ := hb.at_ (w.heap.size + 3) (by first | omega | (simp; done) | (simp; omega) | (simp at *; omega)))
          | (go_at_call 98; refine (HCM.out _).mono ?_; rintro e w' ⟨rfl, hb⟩; obtain ⟨c0, f0, l0⟩ := hb.at_ w.heap.size (by first | omega | (simp; done) | (simp; omega) | (simp at *; omega)); obtain ⟨c1, f1, l1⟩ := hb.at_ (w.heap.size + 1) (by first | omega | (simp; done) | (simp; omega) | (simp at *; omega)); obtain ⟨c2, f2, l2⟩ := hb.at_ (w.heap.size + 2) (by first | omega | (simp; done) | (simp; omega) | (simp at *; omega)); obtain ⟨c3, f3, l3⟩ := hb.at_ (w.heap.size + 3) (by first | omega | (simp; done) | (simp; omega) | (simp at *; omega)))
          | (go_at_call 134; refine (rbool_of _ _).mono ?_; rintro e w' ⟨rfl, hb⟩; obtain ⟨c0, f0, l0⟩ := hb.at_ w.heap.size (by first | omega | (simp; done) | (simp; omega) | (simp at *; omega)); obtain ⟨c1, f1, l1⟩ := hb.at_ (w.heap.size + 1) (by first | omega | (simp; done) | (simp; omega) | (simp at *; omega)); obtain ⟨c2, f2, l2⟩ := hb.at_ (w.heap.size + 2) (by first | omega | (simp; done) | (simp; omega) | (simp at *; omega)); obtain ⟨c3, f3, l3⟩ := hb.at_ (w.heap.size + 3) (by first | omega | (simp; done) | (simp; omega) | (simp at *; omega))))
        refine back_ct rfl (Val.truth true).cells (.int .i64 0) rfl rfl agg_val rfl ?_ ⟨rfl, ?_⟩
        · (simp only [At, Val.cells, Val.null, Val.number, Val.truth, Val.float]; repeat (first | exact trivial | (refine ⟨?_, ?_⟩; focus go_simp)))
        · repeat (first | (with_reducible exact Ext.refl _) | (with_reducible refine Ext.set_ ?_ _ ?_; focus (first | (simp; done) | (simp; omega) | (simp at *; omega))) | (with_reducible refine Ext.alloc ?_ _) | (with_reducible refine Ext.drew ?_) | (with_reducible refine Ext.drewN ?_ _) | (with_reducible refine Ext.trans ?_ (by assumption)))
      · have r1 : (c == 0) = true := by simp; omega
        have r2 : decide (c < 0) = false := by simp; omega
        have r3 : (decide (c < 0)) = false := by simp; omega
        rw [r3]
        clear h r3
        go_enter Try.func132, Try.ntmps132
        go_wp2_with (first
          | (go_at_call 130; (first | (with_reducible refine (HRA.out _).mono ?_) | (with_reducible refine (HRB.out _).mono ?_)); rintro e w' ⟨rfl, hb⟩; obtain ⟨c0, f0, l0⟩ := hb.at_ w.heap.size (by first | omega | (simp; done) | (simp; omega) | (simp at *; omega)); obtain ⟨c1, f1, l1⟩ := hb.at_ (w.heap.size + 1) (by first | omega | (simp; done) | (simp; omega) | (simp at *; omega)); obtain ⟨c2, f2, l2⟩ := hb.at_ (w.heap.size + 2) (by first | omega | (simp; done) | (simp; omega) | (simp at *; omega)); obtain ⟨c3, f3, l3⟩ := hb.at_ (w.heap.size + 3) (by first | omega | (simp; done) | (simp; omega) | (simp at *; omega)))
          | (go_at_call 98; refine (HCM.out _).mono ?_; rintro e w' ⟨rfl, hb⟩; obtain ⟨c0, f0, l0⟩ := hb.at_ w.heap.size (by first | omega | (simp; done) | (simp; omega) | (simp at *; omega)); obtain ⟨c1, f1, l1⟩ := hb.at_ (w.heap.size + 1) (by first | omega | (simp; done) | (simp; omega) | (simp at *; omega)); obtain ⟨c2, f2, l2⟩ := hb.at_ (w.heap.size + 2) (by first | omega | (simp; done) | (simp; omega) | (simp at *; omega)); obtain ⟨c3, f3, l3⟩ := hb.at_ (w.heap.size + 3) (by first | omega | (simp; done) | (simp; omega) | (simp at *; omega)))
          | (go_at_call 134; refine (rbool_of _ _).mono ?_; rintro e w' ⟨rfl, hb⟩; obtain ⟨c0, f0, l0⟩ := hb.at_ w.heap.size (by first | omega | (simp; done) | (simp; omega) | (simp at *; omega)); obtain ⟨c1, f1, l1⟩ := hb.at_ (w.heap.size + 1) (by first | omega | (simp; done) | (simp; omega) | (simp at *; omega)); obtain ⟨c2, f2, l2⟩ := hb.at_ (w.heap.size + 2) (by first | omega | (simp; done) | (simp; omega) | (simp at *; omega)); obtain ⟨c3, f3, l3⟩ := hb.at_ (w.heap.size + 3) (by first | omega | (simp; done) | (simp; omega) | (simp at *; omega))))
        refine back_ct rfl (Val.truth false).cells (.int .i64 0) rfl rfl agg_val rfl ?_ ⟨rfl, ?_⟩
        · (simp only [At, Val.cells, Val.null, Val.number, Val.truth, Val.float]; repeat (first | exact trivial | (refine ⟨?_, ?_⟩; focus go_simp)))
        · repeat (first | (with_reducible exact Ext.refl _) | (with_reducible refine Ext.set_ ?_ _ ?_; focus (first | (simp; done) | (simp; omega) | (simp at *; omega))) | (with_reducible refine Ext.alloc ?_ _) | (with_reducible refine Ext.drew ?_) | (with_reducible refine Ext.drewN ?_ _) | (with_reducible refine Ext.trans ?_ (by assumption)))
      · have r1 : (c == 0) = false := by simp; omega
        have r2 : decide (c < 0) = false := by simp; omega
        have r3 : (decide (c < 0)) = false := by simp; omega
        rw [r3]
        clear h r3
        go_enter Try.func132, Try.ntmps132
        go_wp2_with (first
          | (go_at_call 130; (first | (with_reducible refine (HRA.out _).mono ?_) | (with_reducible refine (HRB.out _).mono ?_)); rintro e w' ⟨rfl, hb⟩; obtain ⟨c0, f0, l0⟩ := hb.at_ w.heap.size (by first | omega | (simp; done) | (simp; omega) | (simp at *; omega)); obtain ⟨c1, f1, l1⟩ := hb.at_ (w.heap.size + 1) (by first | omega | (simp; done) | (simp; omega) | (simp at *; omega)); obtain ⟨c2, f2, l2⟩ := hb.at_ (w.heap.size + 2) (by first | omega | (simp; done) | (simp; omega) | (simp at *; omega)); obtain ⟨c3, f3, l3⟩ := hb.at_ (w.heap.size + 3) (by first | omega | (simp; done) | (simp; omega) | (simp at *; omega)))
          | (go_at_call 98; refine (HCM.out _).mono ?_; rintro e w' ⟨rfl, hb⟩; obtain ⟨c0, f0, l0⟩ := hb.at_ w.heap.size (by first | omega | (simp; done) | (simp; omega) | (simp at *; omega)); obtain ⟨c1, f1, l1⟩ := hb.at_ (w.heap.size + 1) (by first | omega | (simp; done) | (simp; omega) | (simp at *; omega)); obtain ⟨c2, f2, l2⟩ := hb.at_ (w.heap.size + 2) (by first | omega | (simp; done) | (simp; omega) | (simp at *; omega)); obtain ⟨c3, f3, l3⟩ := hb.at_ (w.heap.size + 3) (by first | omega | (simp; done) | (simp; omega) | (simp at *; omega)))
          | (go_at_call 134; refine (rbool_of _ _).mono ?_; rintro e w' ⟨rfl, hb⟩; obtain ⟨c0, f0, l0⟩ := hb.at_ w.heap.size (by first | omega | (simp; done) | (simp; omega) | (simp at *; omega)); obtain ⟨c1, f1, l1⟩ := hb.at_ (w.heap.size + 1) (by first | omega | (simp; done) | (simp; omega) | (simp at *; omega)); obtain ⟨c2, f2, l2⟩ := hb.at_ (w.heap.size + 2) (by first | omega | (simp; done) | (simp; omega) | (simp at *; omega)); obtain ⟨c3, f3, l3⟩ := hb.at_ (w.heap.size + 3) (by first | omega | (simp; done) | (simp; omega) | (simp at *; omega))))
        refine back_ct rfl (Val.truth false).cells (.int .i64 0) rfl rfl agg_val rfl ?_ ⟨rfl, ?_⟩
        · (simp only [At, Val.cells, Val.null, Val.number, Val.truth, Val.float]; repeat (first | exact trivial | (refine ⟨?_, ?_⟩; focus go_simp)))
        · repeat (first | (with_reducible exact Ext.refl _) | (with_reducible refine Ext.set_ ?_ _ ?_; focus (first | (simp; done) | (simp; omega) | (simp at *; omega))) | (with_reducible refine Ext.alloc ?_ _) | (with_reducible refine Ext.drew ?_) | (with_reducible refine Ext.drewN ?_ _) | (with_reducible refine Ext.trans ?_ (by assumption)))
    · show Calls _ _ _ _ fun e w' => e = .returned (.tuple #[(Val.truth (decide (c ≤ 0))).enc, .int .i64 0]) ∧ Ext w w'
      rcases Int.lt_trichotomy c 0 with h | h | h
      · have r1 : (c == 0) = false := by simp; omega
        have r2 : decide (c < 0) = true := by simp; omega
        have r3 : (decide (c ≤ 0)) = true := by simp; omega
        rw [r3]
        clear h r3
        go_enter Try.func132, Try.ntmps132
        go_wp2_with (first
          | (go_at_call 130; (first | (with_reducible refine (HRA.out _).mono ?_) | (with_reducible refine (HRB.out _).mono ?_)); rintro e w' ⟨rfl, hb⟩; obtain ⟨c0, f0, l0⟩ := hb.at_ w.heap.size (by first | omega | (simp; done) | (simp; omega) | (simp at *; omega)); obtain ⟨c1, f1, l1⟩ := hb.at_ (w.heap.size + 1) (by first | omega | (simp; done) | (simp; omega) | (simp at *; omega)); obtain ⟨c2, f2, l2⟩ := hb.at_ (w.heap.size + 2) (by first | omega | (simp; done) | (simp; omega) | (simp at *; omega)); obtain ⟨c3, f3, l3⟩ := hb.at_ (w.heap.size + 3) (by first | omega | (simp; done) | (simp; omega) | (simp at *; omega)))
          | (go_at_call 98; refine (HCM.out _).mono ?_; rintro e w' ⟨rfl, hb⟩; obtain ⟨c0, f0, l0⟩ := hb.at_ w.heap.size (by first | omega | (simp; done) | (simp; omega) | (simp at *; omega)); obtain ⟨c1, f1, l1⟩ := hb.at_ (w.heap.size + 1) (by first | omega | (simp; done) | (simp; omega) | (simp at *; omega)); obtain ⟨c2, f2, l2⟩ := hb.at_ (w.heap.size + 2) (by first | omega | (simp; done) | (simp; omega) | (simp at *; omega)); obtain ⟨c3, f3, l3⟩ := hb.at_ (w.heap.size + 3) (by first | omega | (simp; done) | (simp; omega) | (simp at *; omega)))
          | (go_at_call 134; refine (rbool_of _ _).mono ?_; rintro e w' ⟨rfl, hb⟩; obtain ⟨c0, f0, l0⟩ := hb.at_ w.heap.size (by first | omega | (simp; done) | (simp; omega) | (simp at *; omega)); obtain ⟨c1, f1, l1⟩ := hb.at_ (w.heap.size + 1) (by first | omega | (simp; done) | (simp; omega) | (simp at *; omega)); obtain ⟨c2, f2, l2⟩ := hb.at_ (w.heap.size + 2) (by first | omega | (simp; done) | (simp; omega) | (simp at *; omega)); obtain ⟨c3, f3, l3⟩ := hb.at_ (w.heap.size + 3) (by first | omega | (simp; done) | (simp; omega) | (simp at *; omega))))
        refine back_ct rfl (Val.truth true).cells (.int .i64 0) rfl rfl agg_val rfl ?_ ⟨rfl, ?_⟩
        · (simp only [At, Val.cells, Val.null, Val.number, Val.truth, Val.float]; repeat (first | exact trivial | (refine ⟨?_, ?_⟩; focus go_simp)))
        · repeat (first | (with_reducible exact Ext.refl _) | (with_reducible refine Ext.set_ ?_ _ ?_; focus (first | (simp; done) | (simp; omega) | (simp at *; omega))) | (with_reducible refine Ext.alloc ?_ _) | (with_reducible refine Ext.drew ?_) | (with_reducible refine Ext.drewN ?_ _) | (with_reducible refine Ext.trans ?_ (by assumption)))
      · have r1 : (c == 0) = true := by simp; omega
        have r2 : decide (c < 0) = false := by simp; omega
        have r3 : (decide (c ≤ 0)) = true := by simp; omega
        rw [r3]
        clear h r3
        go_enter Try.func132, Try.ntmps132
        go_wp2_with (first
          | (go_at_call 130; (first | (with_reducible refine (HRA.out _).mono ?_) | (with_reducible refine (HRB.out _).mono ?_)); rintro e w' ⟨rfl, hb⟩; obtain ⟨c0, f0, l0⟩ := hb.at_ w.heap.size (by first | omega | (simp; done) | (simp; omega) | (simp at *; omega)); obtain ⟨c1, f1, l1⟩ := hb.at_ (w.heap.size + 1) (by first | omega | (simp; done) | (simp; omega) | (simp at *; omega)); obtain ⟨c2, f2, l2⟩ := hb.at_ (w.heap.size + 2) (by first | omega | (simp; done) | (simp; omega) | (simp at *; omega)); obtain ⟨c3, f3, l3⟩ := hb.at_ (w.heap.size + 3) (by first | omega | (simp; done) | (simp; omega) | (simp at *; omega)))
          | (go_at_call 98; refine (HCM.out _).mono ?_; rintro e w' ⟨rfl, hb⟩; obtain ⟨c0, f0, l0⟩ := hb.at_ w.heap.size (by first | omega | (simp; done) | (simp; omega) | (simp at *; omega)); obtain ⟨c1, f1, l1⟩ := hb.at_ (w.heap.size + 1) (by first | omega | (simp; done) | (simp; omega) | (simp at *; omega)); obtain ⟨c2, f2, l2⟩ := hb.at_ (w.heap.size + 2) (by first | omega | (simp; done) | (simp; omega) | (simp at *; omega)); obtain ⟨c3, f3, l3⟩ := hb.at_ (w.heap.size + 3) (by first | omega | (simp; done) | (simp; omega) | (simp at *; omega)))
          | (go_at_call 134; refine (rbool_of _ _).mono ?_; rintro e w' ⟨rfl, hb⟩; obtain ⟨c0, f0, l0⟩ := hb.at_ w.heap.size (by first | omega | (simp; done) | (simp; omega) | (simp at *; omega)); obtain ⟨c1, f1, l1⟩ := hb.at_ (w.heap.size + 1) (by first | omega | (simp; done) | (simp; omega) | (simp at *; omega)); obtain ⟨c2, f2, l2⟩ := hb.at_ (w.heap.size + 2) (by first | omega | (simp; done) | (simp; omega) | (simp at *; omega)); obtain ⟨c3, f3, l3⟩ := hb.at_ (w.heap.size + 3) (by first | omega | (simp; done) | (simp; omega) | (simp at *; omega))))
        refine back_ct rfl (Val.truth true).cells (.int .i64 0) rfl rfl agg_val rfl ?_ ⟨rfl, ?_⟩
        · (simp only [At, Val.cells, Val.null, Val.number, Val.truth, Val.float]; repeat (first | exact trivial | (refine ⟨?_, ?_⟩; focus go_simp)))
        · repeat (first | (with_reducible exact Ext.refl _) | (with_reducible refine Ext.set_ ?_ _ ?_; focus (first | (simp; done) | (simp; omega) | (simp at *; omega))) | (with_reducible refine Ext.alloc ?_ _) | (with_reducible refine Ext.drew ?_) | (with_reducible refine Ext.drewN ?_ _) | (with_reducible refine Ext.trans ?_ (by assumption)))
      · have r1 : (c == 0) = false := by simp; omega
        have r2 : decide (c < 0) = false := by simp; omega
        have r3 : (decide (c ≤ 0)) = false := by simp; omega
        rw [r3]
        clear h r3
        go_enter Try.func132, Try.ntmps132
        go_wp2_with (first
          | (go_at_call 130; (first | (with_reducible refine (HRA.out _).mono ?_) | (with_reducible refine (HRB.out _).mono ?_)); rintro e w' ⟨rfl, hb⟩; obtain ⟨c0, f0, l0⟩ := hb.at_ w.heap.size (by first | omega | (simp; done) | (simp; omega) | (simp at *; omega)); obtain ⟨c1, f1, l1⟩ := hb.at_ (w.heap.size + 1) (by first | omega | (simp; done) | (simp; omega) | (simp at *; omega)); obtain ⟨c2, f2, l2⟩ := hb.at_ (w.heap.size + 2) (by first | omega | (simp; done) | (simp; omega) | (simp at *; omega)); obtain ⟨c3, f3, l3⟩ := hb.at_ (w.heap.size + 3) (by first | omega | (simp; done) | (simp; omega) | (simp at *; omega)))
          | (go_at_call 98; refine (HCM.out _).mono ?_; rintro e w' ⟨rfl, hb⟩; obtain ⟨c0, f0, l0⟩ := hb.at_ w.heap.size (by first | omega | (simp; done) | (simp; omega) | (simp at *; omega)); obtain ⟨c1, f1, l1⟩ := hb.at_ (w.heap.size + 1) (by first | omega | (simp; done) | (simp; omega) | (simp at *; omega)); obtain ⟨c2, f2, l2⟩ := hb.at_ (w.heap.size + 2) (by first | omega | (simp; done) | (simp; omega) | (simp at *; omega)); obtain ⟨c3, f3, l3⟩ := hb.at_ (w.heap.size + 3) (by first | omega | (simp; done) | (simp; omega) | (simp at *; omega)))
          | (go_at_call 134; refine (rbool_of _ _).mono ?_; rintro e w' ⟨rfl, hb⟩; obtain ⟨c0, f0, l0⟩ := hb.at_ w.heap.size (by first | omega | (simp; done) | (simp; omega) | (simp at *; omega)); obtain ⟨c1, f1, l1⟩ := hb.at_ (w.heap.size + 1) (by first | omega | (simp; done) | (simp; omega) | (simp at *; omega)); obtain ⟨c2, f2, l2⟩ := hb.at_ (w.heap.size + 2) (by first | omega | (simp; done) | (simp; omega) | (simp at *; omega)); obtain ⟨c3, f3, l3⟩ := hb.at_ (w.heap.size + 3) (by first | omega | (simp; done) | (simp; omega) | (simp at *; omega))))
        refine back_ct rfl (Val.truth false).cells (.int .i64 0) rfl rfl agg_val rfl ?_ ⟨rfl, ?_⟩
        · (simp only [At, Val.cells, Val.null, Val.number, Val.truth, Val.float]; repeat (first | exact trivial | (refine ⟨?_, ?_⟩; focus go_simp)))
        · repeat (first | (with_reducible exact Ext.refl _) | (with_reducible refine Ext.set_ ?_ _ ?_; focus (first | (simp; done) | (simp; omega) | (simp at *; omega))) | (with_reducible refine Ext.alloc ?_ _) | (with_reducible refine Ext.drew ?_) | (with_reducible refine Ext.drewN ?_ _) | (with_reducible refine Ext.trans ?_ (by assumption)))
  · have q5 : (a.kind != b.kind) = true := by simpa using kk
    rw [if_neg kk]
    clear ka kb kk
    go_enter Try.func132, Try.ntmps132
    go_wp2_with (first
      | (go_at_call 130; (first | (with_reducible refine (HRA.out _).mono ?_) | (with_reducible refine (HRB.out _).mono ?_)); rintro e w' ⟨rfl, hb⟩; obtain ⟨c0, f0, l0⟩ := hb.at_ w.heap.size (by first | omega | (simp; done) | (simp; omega) | (simp at *; omega)); obtain ⟨c1, f1, l1⟩ := hb.at_ (w.heap.size + 1) (by first | omega | (simp; done) | (simp; omega) | (simp at *; omega)); obtain ⟨c2, f2, l2⟩ := hb.at_ (w.heap.size + 2) (by first | omega | (simp; done) | (simp; omega) | (simp at *; omega)); obtain ⟨c3, f3, l3⟩ := hb.at_ (w.heap.size + 3) (by first | omega | (simp; done) | (simp; omega) | (simp at *; omega)))
      | (go_at_call 98; refine (HCM.out _).mono ?_; rintro e w' ⟨rfl, hb⟩; obtain ⟨c0, f0, l0⟩ := hb.at_ w.heap.size (by first | omega | (simp; done) | (simp; omega) | (simp at *; omega)); obtain ⟨c1, f1, l1⟩ := hb.at_ (w.heap.size + 1) (by first | omega | (simp; done) | (simp; omega) | (simp at *; omega)); obtain ⟨c2, f2, l2⟩ := hb.at_ (w.heap.size + 2) (by first | omega | (simp; done) | (simp; omega) | (simp at *; omega)); obtain ⟨c3, f3, l3⟩ := hb.at_ (w.heap.size + 3) (by first | omega | (simp; done) | (simp; omega) | (simp at *; omega)))
      | (go_at_call 134; refine (rbool_of _ _).mono ?_; rintro e w' ⟨rfl, hb⟩; obtain ⟨c0, f0, l0⟩ := hb.at_ w.heap.size (by first | omega | (simp; done) | (simp; omega) | (simp at *; omega)); obtain ⟨c1, f1, l1⟩ := hb.at_ (w.heap.size + 1) (by first | omega | (simp; done) | (simp; omega) | (simp at *; omega)); obtain ⟨c2, f2, l2⟩ := hb.at_ (w.heap.size + 2) (by first | omega | (simp; done) | (simp; omega) | (simp at *; omega)); obtain ⟨c3, f3, l3⟩ := hb.at_ (w.heap.size + 3) (by first | omega | (simp; done) | (simp; omega) | (simp at *; omega))))
    refine back_ct rfl (Val.null).cells (.int .i64 50) rfl rfl agg_val rfl ?_ ⟨rfl, ?_⟩
    · (simp only [At, Val.cells, Val.null, Val.number, Val.truth, Val.float]; repeat (first | exact trivial | (refine ⟨?_, ?_⟩; focus go_simp)))
    · repeat (first | (with_reducible exact Ext.refl _) | (with_reducible refine Ext.set_ ?_ _ ?_; focus (first | (simp; done) | (simp; omega) | (simp at *; omega))) | (with_reducible refine Ext.alloc ?_ _) | (with_reducible refine Ext.drew ?_) | (with_reducible refine Ext.drewN ?_ _) | (with_reducible refine Ext.trans ?_ (by assumption)))
end Go.Proofs.Ytlcdjaclahhdnaa
