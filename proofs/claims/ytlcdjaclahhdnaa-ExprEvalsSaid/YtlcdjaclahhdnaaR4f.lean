/- The call of tabularyref04.Calc. Printed by wip/tools/gen_r4f.py. -/
import Derived.Test.YtlcdjaclahhdnaaR4d
import Derived.Test.YtlcdjaclahhdnaaLike
namespace Go.Proofs.Ytlcdjaclahhdnaa
open Go.RowKit
set_option linter.unusedSimpArgs false
set_option linter.unusedVariables false

/-- What is reckoned, a NaN like any other. -/
def CalcR (w : World) (r : Val × Int) (e : Ending) (w' : World) : Prop := ∃ v : Val, e = .returned (.tuple #[v.enc, .int .i64 r.2]) ∧ v.like r.1 ∧ v.Ok ∧ Ext w w'
theorem right_two {v : Val} (h : v.right = true) (hk : v.kind = 2) : v = Val.number v.int := by
  have hf := (Val.right_iff v).1 h
  cases hf <;> simp_all [Val.number]
theorem right_three {v : Val} (h : v.right = true) (hk : v.kind = 3) : v = Val.float v.flt := by
  have hf := (Val.right_iff v).1 h
  cases hf <;> simp_all [Val.float]
theorem zero_lt64 : (0 : Nat) < 18446744073709551616 := by decide
theorem numeric_number (n : Int) : (Val.number n).numeric = true := by simp [Val.numeric, Val.right, Val.number]
theorem numeric_float (x : Nat) : (Val.float x).numeric = true := by simp [Val.numeric, Val.right, Val.float]
theorem plainR_number (n : Int) : (Val.number n).plainR = Val.number n := by
  unfold Val.plainR
  rw [if_pos (by simp [Val.right, Val.number]), if_neg (by simp [Val.number])]
theorem plainR_float (x : Nat) : (Val.float x).plainR = if isZ x = true then Val.float 0 else Val.float x := by
  unfold Val.plainR
  rw [if_pos (by simp [Val.right, Val.float])]
  simp [Val.float]
theorem float_like2 {r z : Nat} (h : plainF r = z) : (Val.float r).plainR.like (Val.float z) := by
  subst h
  rw [plainR_float]
  by_cases hz : isZ r = true
  · rw [if_pos hz]
    have : plainF r = 0 := by unfold plainF; rw [if_neg (fun hn => (nan_ne hn).2 hz), if_pos hz]
    rw [this]; exact Val.like.refl _
  · rw [if_neg hz]
    refine ⟨rfl, rfl, rfl, ?_⟩
    by_cases hn : isNaN r = true
    · right
      refine ⟨hn, ?_⟩
      show isNaN (plainF r) = true
      unfold plainF; rw [if_pos hn]; decide
    · left
      show r = plainF r
      unfold plainF; rw [if_neg hn, if_neg hz]
theorem floatR_ok {r : Nat} (hr : r < 18446744073709551616) : (Val.float r).plainR.Ok := by
  rw [plainR_float]; split
  · exact float_ok (by decide)
  · exact float_ok hr

set_option maxRecDepth 100000 in
set_option maxHeartbeats 20000000 in
theorem rcalc_bad (op : Int) (a b : Val) (w : World) (hfa : a.flt < 18446744073709551616) (hfb : b.flt < 18446744073709551616) (h1 : 3 ≤ op) (h2 : op < 6) (hno : a.numeric = false ∨ b.numeric = false ∨ a.kind = 0 ∨ b.kind = 0 ∨ a.kind ≠ b.kind) :
    Calls Try.prog 131 #[.int .i64 op, .agg #[.int .i64 a.kind, .int .i64 a.int, .float .f64 a.flt, .string a.text], .agg #[.int .i64 b.kind, .int .i64 b.int, .float .f64 b.flt, .string b.text]] w (CalcR w (Val.calc2 op a b)) := by
  have HNA := Lib.hid (fun w => rnumber_of a w hfa)
  have HNB := Lib.hid (fun w => rnumber_of b w hfb)
  have o6 : (op == 6) = false := by simp; omega
  clear hfa hfb
  cases na : a.numeric
  · have e1 : Val.calc2 op a b = (Val.null, 50) := by unfold Val.calc2; rw [if_neg (by simp [na])]
    rw [e1]; rw [na] at HNA; clear e1 na hno
    go_enter Try.func131, Try.ntmps131
    go_wp2_with (first
      | (go_at_call 151; (first | (with_reducible refine (HNA.out _).mono ?_) | (with_reducible refine (HNB.out _).mono ?_)); rintro e w' ⟨rfl, hb⟩; obtain ⟨c0, f0, l0⟩ := hb.at_ w.heap.size (by first | omega | (simp; done) | (simp; omega) | (simp at *; omega)); obtain ⟨c1, f1, l1⟩ := hb.at_ (w.heap.size + 1) (by first | omega | (simp; done) | (simp; omega) | (simp at *; omega)); obtain ⟨c2, f2, l2⟩ := hb.at_ (w.heap.size + 2) (by first | omega | (simp; done) | (simp; omega) | (simp at *; omega)); obtain ⟨c3, f3, l3⟩ := hb.at_ (w.heap.size + 3) (by first | omega | (simp; done) | (simp; omega) | (simp at *; omega))))
    refine back_ct rfl (Val.null).cells (.int .i64 50) rfl rfl agg_val rfl ?_ ⟨_, rfl, Val.like.refl _, Val.null_ok, ?_⟩
    · (simp only [At, Val.cells, Val.null, Val.number, Val.truth, Val.float]; repeat (first | exact trivial | (refine ⟨?_, ?_⟩; focus go_simp)))
    · repeat (first | (with_reducible exact Ext.refl _) | (with_reducible refine Ext.set_ ?_ _ ?_; focus (first | (simp; done) | (simp; omega) | (simp at *; omega))) | (with_reducible refine Ext.alloc ?_ _) | (with_reducible refine Ext.drew ?_) | (with_reducible refine Ext.drewN ?_ _) | (with_reducible refine Ext.trans ?_ (by assumption)))
  cases nb : b.numeric
  · have e1 : Val.calc2 op a b = (Val.null, 50) := by unfold Val.calc2; rw [if_neg (by simp [nb])]
    rw [e1]; rw [na] at HNA; rw [nb] at HNB; clear e1 na nb hno
    go_enter Try.func131, Try.ntmps131
    go_wp2_with (first
      | (go_at_call 151; (first | (with_reducible refine (HNA.out _).mono ?_) | (with_reducible refine (HNB.out _).mono ?_)); rintro e w' ⟨rfl, hb⟩; obtain ⟨c0, f0, l0⟩ := hb.at_ w.heap.size (by first | omega | (simp; done) | (simp; omega) | (simp at *; omega)); obtain ⟨c1, f1, l1⟩ := hb.at_ (w.heap.size + 1) (by first | omega | (simp; done) | (simp; omega) | (simp at *; omega)); obtain ⟨c2, f2, l2⟩ := hb.at_ (w.heap.size + 2) (by first | omega | (simp; done) | (simp; omega) | (simp at *; omega)); obtain ⟨c3, f3, l3⟩ := hb.at_ (w.heap.size + 3) (by first | omega | (simp; done) | (simp; omega) | (simp at *; omega))))
    refine back_ct rfl (Val.null).cells (.int .i64 50) rfl rfl agg_val rfl ?_ ⟨_, rfl, Val.like.refl _, Val.null_ok, ?_⟩
    · (simp only [At, Val.cells, Val.null, Val.number, Val.truth, Val.float]; repeat (first | exact trivial | (refine ⟨?_, ?_⟩; focus go_simp)))
    · repeat (first | (with_reducible exact Ext.refl _) | (with_reducible refine Ext.set_ ?_ _ ?_; focus (first | (simp; done) | (simp; omega) | (simp at *; omega))) | (with_reducible refine Ext.alloc ?_ _) | (with_reducible refine Ext.drew ?_) | (with_reducible refine Ext.drewN ?_ _) | (with_reducible refine Ext.trans ?_ (by assumption)))
  have e9 : Val.calc2 op a b = (if a.kind = 0 ∨ b.kind = 0 then (Val.null, 0) else if a.kind = b.kind then (if a.kind = 2 then (Val.number (whole op a.int b.int), 0) else (Val.float (broken op a.flt b.flt), 0)) else (Val.null, 50)) := by
    unfold Val.calc2; rw [if_pos ⟨na, nb⟩]
  rw [na] at HNA; rw [nb] at HNB
  rw [e9]
  by_cases ka : a.kind = 0
  · have q1 : (a.kind != 0) = false := by simp [ka]
    have q2 : (a.kind == 0) = true := by simp [ka]
    rw [if_pos (.inl ka)]; clear ka e9 na nb hno
    go_enter Try.func131, Try.ntmps131
    go_wp2_with (first
      | (go_at_call 151; (first | (with_reducible refine (HNA.out _).mono ?_) | (with_reducible refine (HNB.out _).mono ?_)); rintro e w' ⟨rfl, hb⟩; obtain ⟨c0, f0, l0⟩ := hb.at_ w.heap.size (by first | omega | (simp; done) | (simp; omega) | (simp at *; omega)); obtain ⟨c1, f1, l1⟩ := hb.at_ (w.heap.size + 1) (by first | omega | (simp; done) | (simp; omega) | (simp at *; omega)); obtain ⟨c2, f2, l2⟩ := hb.at_ (w.heap.size + 2) (by first | omega | (simp; done) | (simp; omega) | (simp at *; omega)); obtain ⟨c3, f3, l3⟩ := hb.at_ (w.heap.size + 3) (by first | omega | (simp; done) | (simp; omega) | (simp at *; omega))))
    refine back_ct rfl (Val.null).cells (.int .i64 0) rfl rfl agg_val rfl ?_ ⟨_, rfl, Val.like.refl _, Val.null_ok, ?_⟩
    · (simp only [At, Val.cells, Val.null, Val.number, Val.truth, Val.float]; repeat (first | exact trivial | (refine ⟨?_, ?_⟩; focus go_simp)))
    · repeat (first | (with_reducible exact Ext.refl _) | (with_reducible refine Ext.set_ ?_ _ ?_; focus (first | (simp; done) | (simp; omega) | (simp at *; omega))) | (with_reducible refine Ext.alloc ?_ _) | (with_reducible refine Ext.drew ?_) | (with_reducible refine Ext.drewN ?_ _) | (with_reducible refine Ext.trans ?_ (by assumption)))
  have q1 : (a.kind != 0) = true := by simpa using ka
  have q2 : (a.kind == 0) = false := by simpa using ka
  by_cases kb : b.kind = 0
  · have q3 : (b.kind != 0) = false := by simp [kb]
    have q4 : (b.kind == 0) = true := by simp [kb]
    rw [if_pos (.inr kb)]; clear ka kb e9 na nb hno
    go_enter Try.func131, Try.ntmps131
    go_wp2_with (first
      | (go_at_call 151; (first | (with_reducible refine (HNA.out _).mono ?_) | (with_reducible refine (HNB.out _).mono ?_)); rintro e w' ⟨rfl, hb⟩; obtain ⟨c0, f0, l0⟩ := hb.at_ w.heap.size (by first | omega | (simp; done) | (simp; omega) | (simp at *; omega)); obtain ⟨c1, f1, l1⟩ := hb.at_ (w.heap.size + 1) (by first | omega | (simp; done) | (simp; omega) | (simp at *; omega)); obtain ⟨c2, f2, l2⟩ := hb.at_ (w.heap.size + 2) (by first | omega | (simp; done) | (simp; omega) | (simp at *; omega)); obtain ⟨c3, f3, l3⟩ := hb.at_ (w.heap.size + 3) (by first | omega | (simp; done) | (simp; omega) | (simp at *; omega))))
    refine back_ct rfl (Val.null).cells (.int .i64 0) rfl rfl agg_val rfl ?_ ⟨_, rfl, Val.like.refl _, Val.null_ok, ?_⟩
    · (simp only [At, Val.cells, Val.null, Val.number, Val.truth, Val.float]; repeat (first | exact trivial | (refine ⟨?_, ?_⟩; focus go_simp)))
    · repeat (first | (with_reducible exact Ext.refl _) | (with_reducible refine Ext.set_ ?_ _ ?_; focus (first | (simp; done) | (simp; omega) | (simp at *; omega))) | (with_reducible refine Ext.alloc ?_ _) | (with_reducible refine Ext.drew ?_) | (with_reducible refine Ext.drewN ?_ _) | (with_reducible refine Ext.trans ?_ (by assumption)))
  have q3 : (b.kind != 0) = true := by simpa using kb
  have q4 : (b.kind == 0) = false := by simpa using kb
  have kk : a.kind ≠ b.kind := by
    rcases hno with h | h | h | h | h
    · rw [na] at h; cases h
    · rw [nb] at h; cases h
    · exact absurd h ka
    · exact absurd h kb
    · exact h
  have q5 : (a.kind != b.kind) = true := by simpa using kk
  rw [if_neg (by omega), if_neg kk]
  clear ka kb kk e9 na nb hno
  go_enter Try.func131, Try.ntmps131
  go_wp2_with (first
    | (go_at_call 151; (first | (with_reducible refine (HNA.out _).mono ?_) | (with_reducible refine (HNB.out _).mono ?_)); rintro e w' ⟨rfl, hb⟩; obtain ⟨c0, f0, l0⟩ := hb.at_ w.heap.size (by first | omega | (simp; done) | (simp; omega) | (simp at *; omega)); obtain ⟨c1, f1, l1⟩ := hb.at_ (w.heap.size + 1) (by first | omega | (simp; done) | (simp; omega) | (simp at *; omega)); obtain ⟨c2, f2, l2⟩ := hb.at_ (w.heap.size + 2) (by first | omega | (simp; done) | (simp; omega) | (simp at *; omega)); obtain ⟨c3, f3, l3⟩ := hb.at_ (w.heap.size + 3) (by first | omega | (simp; done) | (simp; omega) | (simp at *; omega))))
  refine back_ct rfl (Val.null).cells (.int .i64 50) rfl rfl agg_val rfl ?_ ⟨_, rfl, Val.like.refl _, Val.null_ok, ?_⟩
  · (simp only [At, Val.cells, Val.null, Val.number, Val.truth, Val.float]; repeat (first | exact trivial | (refine ⟨?_, ?_⟩; focus go_simp)))
  · repeat (first | (with_reducible exact Ext.refl _) | (with_reducible refine Ext.set_ ?_ _ ?_; focus (first | (simp; done) | (simp; omega) | (simp at *; omega))) | (with_reducible refine Ext.alloc ?_ _) | (with_reducible refine Ext.drew ?_) | (with_reducible refine Ext.drewN ?_ _) | (with_reducible refine Ext.trans ?_ (by assumption)))

set_option maxRecDepth 100000 in
set_option maxHeartbeats 20000000 in
theorem rcalc_two3 (n m : Int) (w : World) :
    Calls Try.prog 131 #[.int .i64 3, .agg #[.int .i64 2, .int .i64 n, .float .f64 0, .string ⟨#[]⟩], .agg #[.int .i64 2, .int .i64 m, .float .f64 0, .string ⟨#[]⟩]] w (CalcR w (Val.number (whole 3 n m), 0)) := by
  have HNA : Hid (∀ w, Calls Try.prog 151 #[.agg #[.int .i64 2, .int .i64 n, .float .f64 0, .string ⟨#[]⟩]] w fun e w' => e = .returned (.bool true) ∧ Ext w w') := Lib.hid fun w => by have h := rnumber_of (Val.number n) w zero_lt64; rw [numeric_number] at h; exact h
  have HNB : Hid (∀ w, Calls Try.prog 151 #[.agg #[.int .i64 2, .int .i64 m, .float .f64 0, .string ⟨#[]⟩]] w fun e w' => e = .returned (.bool true) ∧ Ext w w') := Lib.hid fun w => by have h := rnumber_of (Val.number m) w zero_lt64; rw [numeric_number] at h; exact h
  have hF : ∀ w, (binOp .add 22 (.float .f64 0) (.float .f64 0)).run Try.prog w = .ok (.float .f64 0) w := fun w => run_float_arith w .add _ .f64 0 0 0 (by decide +kernel)
  have HP : Hid (∀ w, Calls Try.prog 141 #[.agg #[.int .i64 2, .int .i64 (whole 3 n m), .float .f64 0, .string ⟨#[]⟩]] w fun e w' => e = .returned (Val.number (whole 3 n m)).enc ∧ Ext w w') := Lib.hid fun w => by
    have h := rplain_of (Val.number (whole 3 n m)) w zero_lt64
    rw [plainR_number] at h; exact h
  have hr := whole_range 3 n m
  obtain ⟨z, hz⟩ : ∃ z, z = whole 3 n m := ⟨_, rfl⟩
  have hz2 : wrap64 (n + m) = z := by rw [hz]; rfl
  rw [← hz] at HP hr ⊢
  clear hz
  go_enter Try.func131, Try.ntmps131
  go_wp2_with (first
  | (go_at_call 151; (first | (with_reducible refine (HNA.out _).mono ?_) | (with_reducible refine (HNB.out _).mono ?_)); rintro e w' ⟨rfl, hb⟩; obtain ⟨c0, f0, l0⟩ := hb.at_ w.heap.size (by first | omega | (simp; done) | (simp; omega) | (simp at *; omega)); obtain ⟨c1, f1, l1⟩ := hb.at_ (w.heap.size + 1) (by first | omega | (simp; done) | (simp; omega) | (simp at *; omega)); obtain ⟨c2, f2, l2⟩ := hb.at_ (w.heap.size + 2) (by first | omega | (simp; done) | (simp; omega) | (simp at *; omega)); obtain ⟨c3, f3, l3⟩ := hb.at_ (w.heap.size + 3) (by first | omega | (simp; done) | (simp; omega) | (simp at *; omega)))
  | (go_at_call 141; refine (HP.out _).mono ?_; rintro e w9 ⟨rfl, hb⟩; obtain ⟨c2, f2, l2⟩ := hb.at_ (w.heap.size + 2) (by first | omega | (simp; done) | (simp; omega) | (simp at *; omega))))
  refine back_ct rfl (Val.number z).cells (.int .i64 0) rfl rfl agg_val rfl ?_ ⟨_, rfl, Val.like.refl _, number_ok hr, ?_⟩
  · (simp only [At, Val.cells, Val.null, Val.number, Val.truth, Val.float]; repeat (first | exact trivial | (refine ⟨?_, ?_⟩; focus go_simp)))
  · repeat (first | (with_reducible exact Ext.refl _) | (with_reducible refine Ext.set_ ?_ _ ?_; focus (first | (simp; done) | (simp; omega) | (simp at *; omega))) | (with_reducible refine Ext.alloc ?_ _) | (with_reducible refine Ext.drew ?_) | (with_reducible refine Ext.drewN ?_ _) | (with_reducible refine Ext.trans ?_ (by assumption)))

set_option maxRecDepth 100000 in
set_option maxHeartbeats 20000000 in
theorem rcalc_two4 (n m : Int) (w : World) :
    Calls Try.prog 131 #[.int .i64 4, .agg #[.int .i64 2, .int .i64 n, .float .f64 0, .string ⟨#[]⟩], .agg #[.int .i64 2, .int .i64 m, .float .f64 0, .string ⟨#[]⟩]] w (CalcR w (Val.number (whole 4 n m), 0)) := by
  have HNA : Hid (∀ w, Calls Try.prog 151 #[.agg #[.int .i64 2, .int .i64 n, .float .f64 0, .string ⟨#[]⟩]] w fun e w' => e = .returned (.bool true) ∧ Ext w w') := Lib.hid fun w => by have h := rnumber_of (Val.number n) w zero_lt64; rw [numeric_number] at h; exact h
  have HNB : Hid (∀ w, Calls Try.prog 151 #[.agg #[.int .i64 2, .int .i64 m, .float .f64 0, .string ⟨#[]⟩]] w fun e w' => e = .returned (.bool true) ∧ Ext w w') := Lib.hid fun w => by have h := rnumber_of (Val.number m) w zero_lt64; rw [numeric_number] at h; exact h
  have hF : ∀ w, (binOp .sub 22 (.float .f64 0) (.float .f64 0)).run Try.prog w = .ok (.float .f64 0) w := fun w => run_float_arith w .sub _ .f64 0 0 0 (by decide +kernel)
  have HP : Hid (∀ w, Calls Try.prog 141 #[.agg #[.int .i64 2, .int .i64 (whole 4 n m), .float .f64 0, .string ⟨#[]⟩]] w fun e w' => e = .returned (Val.number (whole 4 n m)).enc ∧ Ext w w') := Lib.hid fun w => by
    have h := rplain_of (Val.number (whole 4 n m)) w zero_lt64
    rw [plainR_number] at h; exact h
  have hr := whole_range 4 n m
  obtain ⟨z, hz⟩ : ∃ z, z = whole 4 n m := ⟨_, rfl⟩
  have hz2 : wrap64 (n - m) = z := by rw [hz]; rfl
  rw [← hz] at HP hr ⊢
  clear hz
  go_enter Try.func131, Try.ntmps131
  go_wp2_with (first
  | (go_at_call 151; (first | (with_reducible refine (HNA.out _).mono ?_) | (with_reducible refine (HNB.out _).mono ?_)); rintro e w' ⟨rfl, hb⟩; obtain ⟨c0, f0, l0⟩ := hb.at_ w.heap.size (by first | omega | (simp; done) | (simp; omega) | (simp at *; omega)); obtain ⟨c1, f1, l1⟩ := hb.at_ (w.heap.size + 1) (by first | omega | (simp; done) | (simp; omega) | (simp at *; omega)); obtain ⟨c2, f2, l2⟩ := hb.at_ (w.heap.size + 2) (by first | omega | (simp; done) | (simp; omega) | (simp at *; omega)); obtain ⟨c3, f3, l3⟩ := hb.at_ (w.heap.size + 3) (by first | omega | (simp; done) | (simp; omega) | (simp at *; omega)))
  | (go_at_call 141; refine (HP.out _).mono ?_; rintro e w9 ⟨rfl, hb⟩; obtain ⟨c2, f2, l2⟩ := hb.at_ (w.heap.size + 2) (by first | omega | (simp; done) | (simp; omega) | (simp at *; omega))))
  refine back_ct rfl (Val.number z).cells (.int .i64 0) rfl rfl agg_val rfl ?_ ⟨_, rfl, Val.like.refl _, number_ok hr, ?_⟩
  · (simp only [At, Val.cells, Val.null, Val.number, Val.truth, Val.float]; repeat (first | exact trivial | (refine ⟨?_, ?_⟩; focus go_simp)))
  · repeat (first | (with_reducible exact Ext.refl _) | (with_reducible refine Ext.set_ ?_ _ ?_; focus (first | (simp; done) | (simp; omega) | (simp at *; omega))) | (with_reducible refine Ext.alloc ?_ _) | (with_reducible refine Ext.drew ?_) | (with_reducible refine Ext.drewN ?_ _) | (with_reducible refine Ext.trans ?_ (by assumption)))

set_option maxRecDepth 100000 in
set_option maxHeartbeats 20000000 in
theorem rcalc_two5 (n m : Int) (w : World) :
    Calls Try.prog 131 #[.int .i64 5, .agg #[.int .i64 2, .int .i64 n, .float .f64 0, .string ⟨#[]⟩], .agg #[.int .i64 2, .int .i64 m, .float .f64 0, .string ⟨#[]⟩]] w (CalcR w (Val.number (whole 5 n m), 0)) := by
  have HNA : Hid (∀ w, Calls Try.prog 151 #[.agg #[.int .i64 2, .int .i64 n, .float .f64 0, .string ⟨#[]⟩]] w fun e w' => e = .returned (.bool true) ∧ Ext w w') := Lib.hid fun w => by have h := rnumber_of (Val.number n) w zero_lt64; rw [numeric_number] at h; exact h
  have HNB : Hid (∀ w, Calls Try.prog 151 #[.agg #[.int .i64 2, .int .i64 m, .float .f64 0, .string ⟨#[]⟩]] w fun e w' => e = .returned (.bool true) ∧ Ext w w') := Lib.hid fun w => by have h := rnumber_of (Val.number m) w zero_lt64; rw [numeric_number] at h; exact h
  have hF : ∀ w, (binOp .mul 22 (.float .f64 0) (.float .f64 0)).run Try.prog w = .ok (.float .f64 0) w := fun w => run_float_arith w .mul _ .f64 0 0 0 (by decide +kernel)
  have HP : Hid (∀ w, Calls Try.prog 141 #[.agg #[.int .i64 2, .int .i64 (whole 5 n m), .float .f64 0, .string ⟨#[]⟩]] w fun e w' => e = .returned (Val.number (whole 5 n m)).enc ∧ Ext w w') := Lib.hid fun w => by
    have h := rplain_of (Val.number (whole 5 n m)) w zero_lt64
    rw [plainR_number] at h; exact h
  have hr := whole_range 5 n m
  obtain ⟨z, hz⟩ : ∃ z, z = whole 5 n m := ⟨_, rfl⟩
  have hz2 : wrap64 (n * m) = z := by rw [hz]; rfl
  rw [← hz] at HP hr ⊢
  clear hz
  go_enter Try.func131, Try.ntmps131
  go_wp2_with (first
  | (go_at_call 151; (first | (with_reducible refine (HNA.out _).mono ?_) | (with_reducible refine (HNB.out _).mono ?_)); rintro e w' ⟨rfl, hb⟩; obtain ⟨c0, f0, l0⟩ := hb.at_ w.heap.size (by first | omega | (simp; done) | (simp; omega) | (simp at *; omega)); obtain ⟨c1, f1, l1⟩ := hb.at_ (w.heap.size + 1) (by first | omega | (simp; done) | (simp; omega) | (simp at *; omega)); obtain ⟨c2, f2, l2⟩ := hb.at_ (w.heap.size + 2) (by first | omega | (simp; done) | (simp; omega) | (simp at *; omega)); obtain ⟨c3, f3, l3⟩ := hb.at_ (w.heap.size + 3) (by first | omega | (simp; done) | (simp; omega) | (simp at *; omega)))
  | (go_at_call 141; refine (HP.out _).mono ?_; rintro e w9 ⟨rfl, hb⟩; obtain ⟨c2, f2, l2⟩ := hb.at_ (w.heap.size + 2) (by first | omega | (simp; done) | (simp; omega) | (simp at *; omega))))
  refine back_ct rfl (Val.number z).cells (.int .i64 0) rfl rfl agg_val rfl ?_ ⟨_, rfl, Val.like.refl _, number_ok hr, ?_⟩
  · (simp only [At, Val.cells, Val.null, Val.number, Val.truth, Val.float]; repeat (first | exact trivial | (refine ⟨?_, ?_⟩; focus go_simp)))
  · repeat (first | (with_reducible exact Ext.refl _) | (with_reducible refine Ext.set_ ?_ _ ?_; focus (first | (simp; done) | (simp; omega) | (simp at *; omega))) | (with_reducible refine Ext.alloc ?_ _) | (with_reducible refine Ext.drew ?_) | (with_reducible refine Ext.drewN ?_ _) | (with_reducible refine Ext.trans ?_ (by assumption)))

set_option maxRecDepth 100000 in
set_option maxHeartbeats 20000000 in
theorem rcalc_three3 (x y : Nat) (w : World) (hx : x < 18446744073709551616) (hy : y < 18446744073709551616) :
    Calls Try.prog 131 #[.int .i64 3, .agg #[.int .i64 3, .int .i64 0, .float .f64 x, .string ⟨#[]⟩], .agg #[.int .i64 3, .int .i64 0, .float .f64 y, .string ⟨#[]⟩]] w (CalcR w (Val.float (broken 3 x y), 0)) := by
  have HNA : Hid (∀ w, Calls Try.prog 151 #[.agg #[.int .i64 3, .int .i64 0, .float .f64 x, .string ⟨#[]⟩]] w fun e w' => e = .returned (.bool true) ∧ Ext w w') := Lib.hid fun w => by have h := rnumber_of (Val.float x) w hx; rw [numeric_float] at h; exact h
  have HNB : Hid (∀ w, Calls Try.prog 151 #[.agg #[.int .i64 3, .int .i64 0, .float .f64 y, .string ⟨#[]⟩]] w fun e w' => e = .returned (.bool true) ∧ Ext w w') := Lib.hid fun w => by have h := rnumber_of (Val.float y) w hy; rw [numeric_float] at h; exact h
  have HP : Hid (∀ r w, r < 18446744073709551616 → Calls Try.prog 141 #[.agg #[.int .i64 3, .int .i64 0, .float .f64 r, .string ⟨#[]⟩]] w fun e w' => e = .returned (Val.float r).plainR.enc ∧ Ext w w') := Lib.hid fun r w hr => rplain_of (Val.float r) w hr
  have HBR : Hid (broken 3 x y = match floatBits .add .f64 x y with | some r => plainF r | none => 9221120237041090561) := Lib.hid (by unfold broken brokenBits; rfl)
  cases hf : floatBits .add .f64 x y with
  | some r =>
    have hF : ∀ w, (binOp .add 22 (.float .f64 x) (.float .f64 y)).run Try.prog w = .ok (.float .f64 r) w := fun w => run_float_arith w .add _ .f64 x y r hf
    have hw := floatBits_wf hf
    have hr : r < 18446744073709551616 := by simpa [Lit.wf] using hw
    have HL : Hid (plainF r = broken 3 x y) := Lib.hid (by rw [HBR.out, hf])
    generalize broken 3 x y = z at *
    clear hf hw hx hy HBR
    go_enter Try.func131, Try.ntmps131
    go_wp2_with (first
      | (go_at_call 151; (first | (with_reducible refine (HNA.out _).mono ?_) | (with_reducible refine (HNB.out _).mono ?_)); rintro e w' ⟨rfl, hb⟩; obtain ⟨c0, f0, l0⟩ := hb.at_ w.heap.size (by first | omega | (simp; done) | (simp; omega) | (simp at *; omega)); obtain ⟨c1, f1, l1⟩ := hb.at_ (w.heap.size + 1) (by first | omega | (simp; done) | (simp; omega) | (simp at *; omega)); obtain ⟨c2, f2, l2⟩ := hb.at_ (w.heap.size + 2) (by first | omega | (simp; done) | (simp; omega) | (simp at *; omega)); obtain ⟨c3, f3, l3⟩ := hb.at_ (w.heap.size + 3) (by first | omega | (simp; done) | (simp; omega) | (simp at *; omega)))
      | (go_at_call 141; refine (HP.out _ _ hr).mono ?_; rintro e w9 ⟨rfl, hb⟩; obtain ⟨c2, f2, l2⟩ := hb.at_ (w.heap.size + 2) (by first | omega | (simp; done) | (simp; omega) | (simp at *; omega))))
    refine back_ct rfl ((Val.float r).plainR).cells (.int .i64 0) rfl rfl agg_val rfl ?_ ⟨_, rfl, float_like2 HL.out, floatR_ok hr, ?_⟩
    · (simp only [At, Val.cells, Val.null, Val.number, Val.truth, Val.float]; repeat (first | exact trivial | (refine ⟨?_, ?_⟩; focus go_simp)))
    · repeat (first | (with_reducible exact Ext.refl _) | (with_reducible refine Ext.set_ ?_ _ ?_; focus (first | (simp; done) | (simp; omega) | (simp at *; omega))) | (with_reducible refine Ext.alloc ?_ _) | (with_reducible refine Ext.drew ?_) | (with_reducible refine Ext.drewN ?_ _) | (with_reducible refine Ext.trans ?_ (by assumption)))
  | none =>
    have hF : ∀ w, (binOp .add 22 (.float .f64 x) (.float .f64 y)).run Try.prog w = .ok (.float .f64 (Question.cut (.nanBits .f64 x y) (w.tape w.drawn (.nanBits .f64 x y)))) w.drew := fun w => by
      unfold floatBits at hf
      simp only at hf
      simp [binOp, Op.floatArith, hf, choose, Sem.run, Question.forced] <;> rfl
    have HC := Lib.hid (fun t => nan_cut x y t)
    have HL : Hid (∀ t, plainF (Question.cut (.nanBits .f64 x y) t) = broken 3 x y) := Lib.hid fun t => by rw [HBR.out, hf]; simp only [plainF, (nan_cut x y t).1, if_true]
    generalize broken 3 x y = z at *
    have HQ : Hid (∀ r w, r < 18446744073709551616 → plainF r = z → Calls Try.prog 141 #[.agg #[.int .i64 3, .int .i64 0, .float .f64 r, .string ⟨#[]⟩]] w fun e w' => ∃ v : Val, e = .returned v.enc ∧ v.like (Val.float z) ∧ v.Ok ∧ Ext w w') := Lib.hid fun r w h1 h2 => (HP.out r w h1).mono fun e w' ⟨h3, h4⟩ => ⟨_, h3, float_like2 h2, floatR_ok h1, h4⟩
    clear hf hx hy HBR
    go_enter Try.func131, Try.ntmps131
    go_wp2_with (first
      | (go_at_call 151; (first | (with_reducible refine (HNA.out _).mono ?_) | (with_reducible refine (HNB.out _).mono ?_)); rintro e w' ⟨rfl, hb⟩; obtain ⟨c0, f0, l0⟩ := hb.at_ w.heap.size (by first | omega | (simp; done) | (simp; omega) | (simp at *; omega)); obtain ⟨c1, f1, l1⟩ := hb.at_ (w.heap.size + 1) (by first | omega | (simp; done) | (simp; omega) | (simp at *; omega)); obtain ⟨c2, f2, l2⟩ := hb.at_ (w.heap.size + 2) (by first | omega | (simp; done) | (simp; omega) | (simp at *; omega)); obtain ⟨c3, f3, l3⟩ := hb.at_ (w.heap.size + 3) (by first | omega | (simp; done) | (simp; omega) | (simp at *; omega)))
      | (go_at_call 141; refine (HQ.out _ _ (HC.out _).2 (HL.out _)).mono ?_; rintro e w9 ⟨v9, rfl, hl9, ho9, hb⟩; obtain ⟨c2, f2, l2⟩ := hb.at_ (w.heap.size + 2) (by first | omega | (simp; done) | (simp; omega) | (simp at *; omega))))
    refine back_ct rfl v9.cells (.int .i64 0) rfl rfl agg_val rfl ?_ ⟨v9, rfl, hl9, ho9, ?_⟩
    · (simp only [At, Val.cells, Val.null, Val.number, Val.truth, Val.float]; repeat (first | exact trivial | (refine ⟨?_, ?_⟩; focus go_simp)))
    · repeat (first | (with_reducible exact Ext.refl _) | (with_reducible refine Ext.set_ ?_ _ ?_; focus (first | (simp; done) | (simp; omega) | (simp at *; omega))) | (with_reducible refine Ext.alloc ?_ _) | (with_reducible refine Ext.drew ?_) | (with_reducible refine Ext.drewN ?_ _) | (with_reducible refine Ext.trans ?_ (by assumption)))

set_option maxRecDepth 100000 in
set_option maxHeartbeats 20000000 in
theorem rcalc_three4 (x y : Nat) (w : World) (hx : x < 18446744073709551616) (hy : y < 18446744073709551616) :
    Calls Try.prog 131 #[.int .i64 4, .agg #[.int .i64 3, .int .i64 0, .float .f64 x, .string ⟨#[]⟩], .agg #[.int .i64 3, .int .i64 0, .float .f64 y, .string ⟨#[]⟩]] w (CalcR w (Val.float (broken 4 x y), 0)) := by
  have HNA : Hid (∀ w, Calls Try.prog 151 #[.agg #[.int .i64 3, .int .i64 0, .float .f64 x, .string ⟨#[]⟩]] w fun e w' => e = .returned (.bool true) ∧ Ext w w') := Lib.hid fun w => by have h := rnumber_of (Val.float x) w hx; rw [numeric_float] at h; exact h
  have HNB : Hid (∀ w, Calls Try.prog 151 #[.agg #[.int .i64 3, .int .i64 0, .float .f64 y, .string ⟨#[]⟩]] w fun e w' => e = .returned (.bool true) ∧ Ext w w') := Lib.hid fun w => by have h := rnumber_of (Val.float y) w hy; rw [numeric_float] at h; exact h
  have HP : Hid (∀ r w, r < 18446744073709551616 → Calls Try.prog 141 #[.agg #[.int .i64 3, .int .i64 0, .float .f64 r, .string ⟨#[]⟩]] w fun e w' => e = .returned (Val.float r).plainR.enc ∧ Ext w w') := Lib.hid fun r w hr => rplain_of (Val.float r) w hr
  have HBR : Hid (broken 4 x y = match floatBits .sub .f64 x y with | some r => plainF r | none => 9221120237041090561) := Lib.hid (by unfold broken brokenBits; rfl)
  cases hf : floatBits .sub .f64 x y with
  | some r =>
    have hF : ∀ w, (binOp .sub 22 (.float .f64 x) (.float .f64 y)).run Try.prog w = .ok (.float .f64 r) w := fun w => run_float_arith w .sub _ .f64 x y r hf
    have hw := floatBits_wf hf
    have hr : r < 18446744073709551616 := by simpa [Lit.wf] using hw
    have HL : Hid (plainF r = broken 4 x y) := Lib.hid (by rw [HBR.out, hf])
    generalize broken 4 x y = z at *
    clear hf hw hx hy HBR
    go_enter Try.func131, Try.ntmps131
    go_wp2_with (first
      | (go_at_call 151; (first | (with_reducible refine (HNA.out _).mono ?_) | (with_reducible refine (HNB.out _).mono ?_)); rintro e w' ⟨rfl, hb⟩; obtain ⟨c0, f0, l0⟩ := hb.at_ w.heap.size (by first | omega | (simp; done) | (simp; omega) | (simp at *; omega)); obtain ⟨c1, f1, l1⟩ := hb.at_ (w.heap.size + 1) (by first | omega | (simp; done) | (simp; omega) | (simp at *; omega)); obtain ⟨c2, f2, l2⟩ := hb.at_ (w.heap.size + 2) (by first | omega | (simp; done) | (simp; omega) | (simp at *; omega)); obtain ⟨c3, f3, l3⟩ := hb.at_ (w.heap.size + 3) (by first | omega | (simp; done) | (simp; omega) | (simp at *; omega)))
      | (go_at_call 141; refine (HP.out _ _ hr).mono ?_; rintro e w9 ⟨rfl, hb⟩; obtain ⟨c2, f2, l2⟩ := hb.at_ (w.heap.size + 2) (by first | omega | (simp; done) | (simp; omega) | (simp at *; omega))))
    refine back_ct rfl ((Val.float r).plainR).cells (.int .i64 0) rfl rfl agg_val rfl ?_ ⟨_, rfl, float_like2 HL.out, floatR_ok hr, ?_⟩
    · (simp only [At, Val.cells, Val.null, Val.number, Val.truth, Val.float]; repeat (first | exact trivial | (refine ⟨?_, ?_⟩; focus go_simp)))
    · repeat (first | (with_reducible exact Ext.refl _) | (with_reducible refine Ext.set_ ?_ _ ?_; focus (first | (simp; done) | (simp; omega) | (simp at *; omega))) | (with_reducible refine Ext.alloc ?_ _) | (with_reducible refine Ext.drew ?_) | (with_reducible refine Ext.drewN ?_ _) | (with_reducible refine Ext.trans ?_ (by assumption)))
  | none =>
    have hF : ∀ w, (binOp .sub 22 (.float .f64 x) (.float .f64 y)).run Try.prog w = .ok (.float .f64 (Question.cut (.nanBits .f64 x y) (w.tape w.drawn (.nanBits .f64 x y)))) w.drew := fun w => by
      unfold floatBits at hf
      simp only at hf
      simp [binOp, Op.floatArith, hf, choose, Sem.run, Question.forced] <;> rfl
    have HC := Lib.hid (fun t => nan_cut x y t)
    have HL : Hid (∀ t, plainF (Question.cut (.nanBits .f64 x y) t) = broken 4 x y) := Lib.hid fun t => by rw [HBR.out, hf]; simp only [plainF, (nan_cut x y t).1, if_true]
    generalize broken 4 x y = z at *
    have HQ : Hid (∀ r w, r < 18446744073709551616 → plainF r = z → Calls Try.prog 141 #[.agg #[.int .i64 3, .int .i64 0, .float .f64 r, .string ⟨#[]⟩]] w fun e w' => ∃ v : Val, e = .returned v.enc ∧ v.like (Val.float z) ∧ v.Ok ∧ Ext w w') := Lib.hid fun r w h1 h2 => (HP.out r w h1).mono fun e w' ⟨h3, h4⟩ => ⟨_, h3, float_like2 h2, floatR_ok h1, h4⟩
    clear hf hx hy HBR
    go_enter Try.func131, Try.ntmps131
    go_wp2_with (first
      | (go_at_call 151; (first | (with_reducible refine (HNA.out _).mono ?_) | (with_reducible refine (HNB.out _).mono ?_)); rintro e w' ⟨rfl, hb⟩; obtain ⟨c0, f0, l0⟩ := hb.at_ w.heap.size (by first | omega | (simp; done) | (simp; omega) | (simp at *; omega)); obtain ⟨c1, f1, l1⟩ := hb.at_ (w.heap.size + 1) (by first | omega | (simp; done) | (simp; omega) | (simp at *; omega)); obtain ⟨c2, f2, l2⟩ := hb.at_ (w.heap.size + 2) (by first | omega | (simp; done) | (simp; omega) | (simp at *; omega)); obtain ⟨c3, f3, l3⟩ := hb.at_ (w.heap.size + 3) (by first | omega | (simp; done) | (simp; omega) | (simp at *; omega)))
      | (go_at_call 141; refine (HQ.out _ _ (HC.out _).2 (HL.out _)).mono ?_; rintro e w9 ⟨v9, rfl, hl9, ho9, hb⟩; obtain ⟨c2, f2, l2⟩ := hb.at_ (w.heap.size + 2) (by first | omega | (simp; done) | (simp; omega) | (simp at *; omega))))
    refine back_ct rfl v9.cells (.int .i64 0) rfl rfl agg_val rfl ?_ ⟨v9, rfl, hl9, ho9, ?_⟩
    · (simp only [At, Val.cells, Val.null, Val.number, Val.truth, Val.float]; repeat (first | exact trivial | (refine ⟨?_, ?_⟩; focus go_simp)))
    · repeat (first | (with_reducible exact Ext.refl _) | (with_reducible refine Ext.set_ ?_ _ ?_; focus (first | (simp; done) | (simp; omega) | (simp at *; omega))) | (with_reducible refine Ext.alloc ?_ _) | (with_reducible refine Ext.drew ?_) | (with_reducible refine Ext.drewN ?_ _) | (with_reducible refine Ext.trans ?_ (by assumption)))

set_option maxRecDepth 100000 in
set_option maxHeartbeats 20000000 in
theorem rcalc_three5 (x y : Nat) (w : World) (hx : x < 18446744073709551616) (hy : y < 18446744073709551616) :
    Calls Try.prog 131 #[.int .i64 5, .agg #[.int .i64 3, .int .i64 0, .float .f64 x, .string ⟨#[]⟩], .agg #[.int .i64 3, .int .i64 0, .float .f64 y, .string ⟨#[]⟩]] w (CalcR w (Val.float (broken 5 x y), 0)) := by
  have HNA : Hid (∀ w, Calls Try.prog 151 #[.agg #[.int .i64 3, .int .i64 0, .float .f64 x, .string ⟨#[]⟩]] w fun e w' => e = .returned (.bool true) ∧ Ext w w') := Lib.hid fun w => by have h := rnumber_of (Val.float x) w hx; rw [numeric_float] at h; exact h
  have HNB : Hid (∀ w, Calls Try.prog 151 #[.agg #[.int .i64 3, .int .i64 0, .float .f64 y, .string ⟨#[]⟩]] w fun e w' => e = .returned (.bool true) ∧ Ext w w') := Lib.hid fun w => by have h := rnumber_of (Val.float y) w hy; rw [numeric_float] at h; exact h
  have HP : Hid (∀ r w, r < 18446744073709551616 → Calls Try.prog 141 #[.agg #[.int .i64 3, .int .i64 0, .float .f64 r, .string ⟨#[]⟩]] w fun e w' => e = .returned (Val.float r).plainR.enc ∧ Ext w w') := Lib.hid fun r w hr => rplain_of (Val.float r) w hr
  have HBR : Hid (broken 5 x y = match floatBits .mul .f64 x y with | some r => plainF r | none => 9221120237041090561) := Lib.hid (by unfold broken brokenBits; rfl)
  cases hf : floatBits .mul .f64 x y with
  | some r =>
    have hF : ∀ w, (binOp .mul 22 (.float .f64 x) (.float .f64 y)).run Try.prog w = .ok (.float .f64 r) w := fun w => run_float_arith w .mul _ .f64 x y r hf
    have hw := floatBits_wf hf
    have hr : r < 18446744073709551616 := by simpa [Lit.wf] using hw
    have HL : Hid (plainF r = broken 5 x y) := Lib.hid (by rw [HBR.out, hf])
    generalize broken 5 x y = z at *
    clear hf hw hx hy HBR
    go_enter Try.func131, Try.ntmps131
    go_wp2_with (first
      | (go_at_call 151; (first | (with_reducible refine (HNA.out _).mono ?_) | (with_reducible refine (HNB.out _).mono ?_)); rintro e w' ⟨rfl, hb⟩; obtain ⟨c0, f0, l0⟩ := hb.at_ w.heap.size (by first | omega | (simp; done) | (simp; omega) | (simp at *; omega)); obtain ⟨c1, f1, l1⟩ := hb.at_ (w.heap.size + 1) (by first | omega | (simp; done) | (simp; omega) | (simp at *; omega)); obtain ⟨c2, f2, l2⟩ := hb.at_ (w.heap.size + 2) (by first | omega | (simp; done) | (simp; omega) | (simp at *; omega)); obtain ⟨c3, f3, l3⟩ := hb.at_ (w.heap.size + 3) (by first | omega | (simp; done) | (simp; omega) | (simp at *; omega)))
      | (go_at_call 141; refine (HP.out _ _ hr).mono ?_; rintro e w9 ⟨rfl, hb⟩; obtain ⟨c2, f2, l2⟩ := hb.at_ (w.heap.size + 2) (by first | omega | (simp; done) | (simp; omega) | (simp at *; omega))))
    refine back_ct rfl ((Val.float r).plainR).cells (.int .i64 0) rfl rfl agg_val rfl ?_ ⟨_, rfl, float_like2 HL.out, floatR_ok hr, ?_⟩
    · (simp only [At, Val.cells, Val.null, Val.number, Val.truth, Val.float]; repeat (first | exact trivial | (refine ⟨?_, ?_⟩; focus go_simp)))
    · repeat (first | (with_reducible exact Ext.refl _) | (with_reducible refine Ext.set_ ?_ _ ?_; focus (first | (simp; done) | (simp; omega) | (simp at *; omega))) | (with_reducible refine Ext.alloc ?_ _) | (with_reducible refine Ext.drew ?_) | (with_reducible refine Ext.drewN ?_ _) | (with_reducible refine Ext.trans ?_ (by assumption)))
  | none =>
    have hF : ∀ w, (binOp .mul 22 (.float .f64 x) (.float .f64 y)).run Try.prog w = .ok (.float .f64 (Question.cut (.nanBits .f64 x y) (w.tape w.drawn (.nanBits .f64 x y)))) w.drew := fun w => by
      unfold floatBits at hf
      simp only at hf
      simp [binOp, Op.floatArith, hf, choose, Sem.run, Question.forced] <;> rfl
    have HC := Lib.hid (fun t => nan_cut x y t)
    have HL : Hid (∀ t, plainF (Question.cut (.nanBits .f64 x y) t) = broken 5 x y) := Lib.hid fun t => by rw [HBR.out, hf]; simp only [plainF, (nan_cut x y t).1, if_true]
    generalize broken 5 x y = z at *
    have HQ : Hid (∀ r w, r < 18446744073709551616 → plainF r = z → Calls Try.prog 141 #[.agg #[.int .i64 3, .int .i64 0, .float .f64 r, .string ⟨#[]⟩]] w fun e w' => ∃ v : Val, e = .returned v.enc ∧ v.like (Val.float z) ∧ v.Ok ∧ Ext w w') := Lib.hid fun r w h1 h2 => (HP.out r w h1).mono fun e w' ⟨h3, h4⟩ => ⟨_, h3, float_like2 h2, floatR_ok h1, h4⟩
    clear hf hx hy HBR
    go_enter Try.func131, Try.ntmps131
    go_wp2_with (first
      | (go_at_call 151; (first | (with_reducible refine (HNA.out _).mono ?_) | (with_reducible refine (HNB.out _).mono ?_)); rintro e w' ⟨rfl, hb⟩; obtain ⟨c0, f0, l0⟩ := hb.at_ w.heap.size (by first | omega | (simp; done) | (simp; omega) | (simp at *; omega)); obtain ⟨c1, f1, l1⟩ := hb.at_ (w.heap.size + 1) (by first | omega | (simp; done) | (simp; omega) | (simp at *; omega)); obtain ⟨c2, f2, l2⟩ := hb.at_ (w.heap.size + 2) (by first | omega | (simp; done) | (simp; omega) | (simp at *; omega)); obtain ⟨c3, f3, l3⟩ := hb.at_ (w.heap.size + 3) (by first | omega | (simp; done) | (simp; omega) | (simp at *; omega)))
      | (go_at_call 141; refine (HQ.out _ _ (HC.out _).2 (HL.out _)).mono ?_; rintro e w9 ⟨v9, rfl, hl9, ho9, hb⟩; obtain ⟨c2, f2, l2⟩ := hb.at_ (w.heap.size + 2) (by first | omega | (simp; done) | (simp; omega) | (simp at *; omega))))
    refine back_ct rfl v9.cells (.int .i64 0) rfl rfl agg_val rfl ?_ ⟨v9, rfl, hl9, ho9, ?_⟩
    · (simp only [At, Val.cells, Val.null, Val.number, Val.truth, Val.float]; repeat (first | exact trivial | (refine ⟨?_, ?_⟩; focus go_simp)))
    · repeat (first | (with_reducible exact Ext.refl _) | (with_reducible refine Ext.set_ ?_ _ ?_; focus (first | (simp; done) | (simp; omega) | (simp at *; omega))) | (with_reducible refine Ext.alloc ?_ _) | (with_reducible refine Ext.drew ?_) | (with_reducible refine Ext.drewN ?_ _) | (with_reducible refine Ext.trans ?_ (by assumption)))

set_option maxRecDepth 100000 in
set_option maxHeartbeats 20000000 in
theorem rcalc_neg (a b : Val) (w : World) (hfa : a.flt < 18446744073709551616) (hi : -9223372036854775808 ≤ a.int ∧ a.int ≤ 9223372036854775807) :
    Calls Try.prog 131 #[.int .i64 6, .agg #[.int .i64 a.kind, .int .i64 a.int, .float .f64 a.flt, .string a.text], .agg #[.int .i64 b.kind, .int .i64 b.int, .float .f64 b.flt, .string b.text]] w (CalcR w (Val.calc2 6 a a)) := by
  have HNA := Lib.hid (fun w => rnumber_of a w hfa)
  have HNB := HNA
  cases na : a.numeric
  · have e1 : Val.calc2 6 a a = (Val.null, 50) := by unfold Val.calc2; rw [if_neg (by simp [na])]
    rw [e1]; rw [na] at HNA HNB; clear e1 na
    go_enter Try.func131, Try.ntmps131
    go_wp2_with (first
      | (go_at_call 151; (first | (with_reducible refine (HNA.out _).mono ?_) | (with_reducible refine (HNB.out _).mono ?_)); rintro e w' ⟨rfl, hb⟩; obtain ⟨c0, f0, l0⟩ := hb.at_ w.heap.size (by first | omega | (simp; done) | (simp; omega) | (simp at *; omega)); obtain ⟨c1, f1, l1⟩ := hb.at_ (w.heap.size + 1) (by first | omega | (simp; done) | (simp; omega) | (simp at *; omega)); obtain ⟨c2, f2, l2⟩ := hb.at_ (w.heap.size + 2) (by first | omega | (simp; done) | (simp; omega) | (simp at *; omega)); obtain ⟨c3, f3, l3⟩ := hb.at_ (w.heap.size + 3) (by first | omega | (simp; done) | (simp; omega) | (simp at *; omega))))
    refine back_ct rfl (Val.null).cells (.int .i64 50) rfl rfl agg_val rfl ?_ ⟨_, rfl, Val.like.refl _, Val.null_ok, ?_⟩
    · (simp only [At, Val.cells, Val.null, Val.number, Val.truth, Val.float]; repeat (first | exact trivial | (refine ⟨?_, ?_⟩; focus go_simp)))
    · repeat (first | (with_reducible exact Ext.refl _) | (with_reducible refine Ext.set_ ?_ _ ?_; focus (first | (simp; done) | (simp; omega) | (simp at *; omega))) | (with_reducible refine Ext.alloc ?_ _) | (with_reducible refine Ext.drew ?_) | (with_reducible refine Ext.drewN ?_ _) | (with_reducible refine Ext.trans ?_ (by assumption)))
  have hr : a.right = true := by unfold Val.numeric at na; simp at na; exact na.1
  rw [na] at HNA HNB
  by_cases ka : a.kind = 0
  · have q1 : (a.kind != 0) = false := by simp [ka]
    have q2 : (a.kind == 0) = true := by simp [ka]
    have e1 : Val.calc2 6 a a = (Val.null, 0) := by unfold Val.calc2; rw [if_pos ⟨na, na⟩, if_pos (.inl ka)]
    rw [e1]; clear ka e1 na hr
    go_enter Try.func131, Try.ntmps131
    go_wp2_with (first
      | (go_at_call 151; (first | (with_reducible refine (HNA.out _).mono ?_) | (with_reducible refine (HNB.out _).mono ?_)); rintro e w' ⟨rfl, hb⟩; obtain ⟨c0, f0, l0⟩ := hb.at_ w.heap.size (by first | omega | (simp; done) | (simp; omega) | (simp at *; omega)); obtain ⟨c1, f1, l1⟩ := hb.at_ (w.heap.size + 1) (by first | omega | (simp; done) | (simp; omega) | (simp at *; omega)); obtain ⟨c2, f2, l2⟩ := hb.at_ (w.heap.size + 2) (by first | omega | (simp; done) | (simp; omega) | (simp at *; omega)); obtain ⟨c3, f3, l3⟩ := hb.at_ (w.heap.size + 3) (by first | omega | (simp; done) | (simp; omega) | (simp at *; omega))))
    refine back_ct rfl (Val.null).cells (.int .i64 0) rfl rfl agg_val rfl ?_ ⟨_, rfl, Val.like.refl _, Val.null_ok, ?_⟩
    · (simp only [At, Val.cells, Val.null, Val.number, Val.truth, Val.float]; repeat (first | exact trivial | (refine ⟨?_, ?_⟩; focus go_simp)))
    · repeat (first | (with_reducible exact Ext.refl _) | (with_reducible refine Ext.set_ ?_ _ ?_; focus (first | (simp; done) | (simp; omega) | (simp at *; omega))) | (with_reducible refine Ext.alloc ?_ _) | (with_reducible refine Ext.drew ?_) | (with_reducible refine Ext.drewN ?_ _) | (with_reducible refine Ext.trans ?_ (by assumption)))
  by_cases k2 : a.kind = 2
  · have e1 := right_two hr k2
    generalize a.int = n at *
    subst e1
    have e2 : Val.calc2 6 (Val.number n) (Val.number n) = (Val.number (wrap64 (-n)), 0) := by unfold Val.calc2; rw [if_pos ⟨na, na⟩]; simp [Val.number, whole]
    rw [e2]
    have HP : Hid (∀ w, Calls Try.prog 141 #[.agg #[.int .i64 2, .int .i64 (wrap64 (-n)), .float .f64 0, .string ⟨#[]⟩]] w fun e w' => e = .returned (Val.number (wrap64 (-n))).enc ∧ Ext w w') := Lib.hid fun w => by
      have h := rplain_of (Val.number (wrap64 (-n))) w zero_lt64
      rw [plainR_number] at h; exact h
    have hz := wrap64_range (-n)
    obtain ⟨z, hz2⟩ : ∃ z, wrap64 (-n) = z := ⟨_, rfl⟩
    rw [hz2] at HP hz ⊢
    clear e2 na hr ka k2 hfa hi
    show Calls Try.prog 131 #[.int .i64 6, .agg #[.int .i64 2, .int .i64 n, .float .f64 0, .string ⟨#[]⟩], .agg #[.int .i64 b.kind, .int .i64 b.int, .float .f64 b.flt, .string b.text]] w (CalcR w (Val.number z, 0))
    change Hid (∀ w, Calls Try.prog 151 #[.agg #[.int .i64 2, .int .i64 n, .float .f64 0, .string ⟨#[]⟩]] w fun e w' => e = .returned (.bool true) ∧ Ext w w') at HNA
    change Hid (∀ w, Calls Try.prog 151 #[.agg #[.int .i64 2, .int .i64 n, .float .f64 0, .string ⟨#[]⟩]] w fun e w' => e = .returned (.bool true) ∧ Ext w w') at HNB
    go_enter Try.func131, Try.ntmps131
    go_wp2_with (first
  | (go_at_call 151; (first | (with_reducible refine (HNA.out _).mono ?_) | (with_reducible refine (HNB.out _).mono ?_)); rintro e w' ⟨rfl, hb⟩; obtain ⟨c0, f0, l0⟩ := hb.at_ w.heap.size (by first | omega | (simp; done) | (simp; omega) | (simp at *; omega)); obtain ⟨c1, f1, l1⟩ := hb.at_ (w.heap.size + 1) (by first | omega | (simp; done) | (simp; omega) | (simp at *; omega)); obtain ⟨c2, f2, l2⟩ := hb.at_ (w.heap.size + 2) (by first | omega | (simp; done) | (simp; omega) | (simp at *; omega)); obtain ⟨c3, f3, l3⟩ := hb.at_ (w.heap.size + 3) (by first | omega | (simp; done) | (simp; omega) | (simp at *; omega)))
  | (go_at_call 141; refine (HP.out _).mono ?_; rintro e w9 ⟨rfl, hb⟩; obtain ⟨c2, f2, l2⟩ := hb.at_ (w.heap.size + 2) (by first | omega | (simp; done) | (simp; omega) | (simp at *; omega))))
    refine back_ct rfl (Val.number z).cells (.int .i64 0) rfl rfl agg_val rfl ?_ ⟨_, rfl, Val.like.refl _, number_ok hz, ?_⟩
    · (simp only [At, Val.cells, Val.null, Val.number, Val.truth, Val.float]; repeat (first | exact trivial | (refine ⟨?_, ?_⟩; focus go_simp)))
    · repeat (first | (with_reducible exact Ext.refl _) | (with_reducible refine Ext.set_ ?_ _ ?_; focus (first | (simp; done) | (simp; omega) | (simp at *; omega))) | (with_reducible refine Ext.alloc ?_ _) | (with_reducible refine Ext.drew ?_) | (with_reducible refine Ext.drewN ?_ _) | (with_reducible refine Ext.trans ?_ (by assumption)))
  have k3 : a.kind = 3 := by
    unfold Val.numeric at na; simp at na
    have := right_kinds hr
    omega
  have e1 := right_three hr k3
  generalize a.flt = x at *
  subst e1
  have e2 : Val.calc2 6 (Val.float x) (Val.float x) = (Val.float (broken 6 x x), 0) := by unfold Val.calc2; rw [if_pos ⟨na, na⟩]; simp [Val.float]
  rw [e2]
  have HP : Hid (∀ r w, r < 18446744073709551616 → Calls Try.prog 141 #[.agg #[.int .i64 3, .int .i64 0, .float .f64 r, .string ⟨#[]⟩]] w fun e w' => e = .returned (Val.float r).plainR.enc ∧ Ext w w') := Lib.hid fun r w hr => rplain_of (Val.float r) w hr
  have HL : Hid (plainF (Op.negFloat .f64 x) = broken 6 x x) := Lib.hid (by simp [broken, brokenBits])
  have hr9 := neg_lt hfa
  generalize broken 6 x x = z at *
  clear e2 na hr ka k2 k3 hfa hi
  show Calls Try.prog 131 #[.int .i64 6, .agg #[.int .i64 3, .int .i64 0, .float .f64 x, .string ⟨#[]⟩], .agg #[.int .i64 b.kind, .int .i64 b.int, .float .f64 b.flt, .string b.text]] w (CalcR w (Val.float z, 0))
  change Hid (∀ w, Calls Try.prog 151 #[.agg #[.int .i64 3, .int .i64 0, .float .f64 x, .string ⟨#[]⟩]] w fun e w' => e = .returned (.bool true) ∧ Ext w w') at HNA
  change Hid (∀ w, Calls Try.prog 151 #[.agg #[.int .i64 3, .int .i64 0, .float .f64 x, .string ⟨#[]⟩]] w fun e w' => e = .returned (.bool true) ∧ Ext w w') at HNB
  go_enter Try.func131, Try.ntmps131
  go_wp2_with (first
  | (go_at_call 151; (first | (with_reducible refine (HNA.out _).mono ?_) | (with_reducible refine (HNB.out _).mono ?_)); rintro e w' ⟨rfl, hb⟩; obtain ⟨c0, f0, l0⟩ := hb.at_ w.heap.size (by first | omega | (simp; done) | (simp; omega) | (simp at *; omega)); obtain ⟨c1, f1, l1⟩ := hb.at_ (w.heap.size + 1) (by first | omega | (simp; done) | (simp; omega) | (simp at *; omega)); obtain ⟨c2, f2, l2⟩ := hb.at_ (w.heap.size + 2) (by first | omega | (simp; done) | (simp; omega) | (simp at *; omega)); obtain ⟨c3, f3, l3⟩ := hb.at_ (w.heap.size + 3) (by first | omega | (simp; done) | (simp; omega) | (simp at *; omega)))
  | (go_at_call 141; refine (HP.out _ _ hr9).mono ?_; rintro e w9 ⟨rfl, hb⟩; obtain ⟨c2, f2, l2⟩ := hb.at_ (w.heap.size + 2) (by first | omega | (simp; done) | (simp; omega) | (simp at *; omega))))
  refine back_ct rfl ((Val.float _).plainR).cells (.int .i64 0) rfl rfl agg_val rfl ?_ ⟨_, rfl, float_like2 HL.out, floatR_ok hr9, ?_⟩
  · (simp only [At, Val.cells, Val.null, Val.number, Val.truth, Val.float]; repeat (first | exact trivial | (refine ⟨?_, ?_⟩; focus go_simp)))
  · repeat (first | (with_reducible exact Ext.refl _) | (with_reducible refine Ext.set_ ?_ _ ?_; focus (first | (simp; done) | (simp; omega) | (simp at *; omega))) | (with_reducible refine Ext.alloc ?_ _) | (with_reducible refine Ext.drew ?_) | (with_reducible refine Ext.drewN ?_ _) | (with_reducible refine Ext.trans ?_ (by assumption)))
theorem numeric_right {v : Val} (h : v.numeric = true) : v.right = true ∧ v.kind ≠ 1 ∧ v.kind ≠ 4 := by
  unfold Val.numeric at h; simpa using h
theorem rcalc_of (op : Int) (a b : Val) (w : World) (ha : a.Ok) (hb : b.Ok) (h1 : 3 ≤ op) (h2 : op ≤ 6) :
    Calls Try.prog 131 #[.int .i64 op, .agg #[.int .i64 a.kind, .int .i64 a.int, .float .f64 a.flt, .string a.text], .agg #[.int .i64 b.kind, .int .i64 b.int, .float .f64 b.flt, .string b.text]] w (CalcR w (Val.calc op a b)) := by
  unfold Val.calc
  rw [if_neg (by omega)]
  by_cases h6 : op = 6
  · subst h6; rw [if_pos rfl]; exact rcalc_neg a b w ha.flt ha.int
  rw [if_neg h6]
  by_cases hno : a.numeric = false ∨ b.numeric = false ∨ a.kind = 0 ∨ b.kind = 0 ∨ a.kind ≠ b.kind
  · exact rcalc_bad op a b w ha.flt hb.flt h1 (by omega) hno
  have na : a.numeric = true := by cases h : a.numeric; exact absurd (.inl h) hno; rfl
  have nb : b.numeric = true := by cases h : b.numeric; exact absurd (.inr (.inl h)) hno; rfl
  have ka : ¬ a.kind = 0 := fun h => hno (.inr (.inr (.inl h)))
  have kb : ¬ b.kind = 0 := fun h => hno (.inr (.inr (.inr (.inl h))))
  have kk : a.kind = b.kind := Decidable.byContradiction fun h => hno (.inr (.inr (.inr (.inr h))))
  have hka := right_kinds (numeric_right na).1
  have na1 := (numeric_right na).2
  have e9 : Val.calc2 op a b = (if a.kind = 2 then (Val.number (whole op a.int b.int), 0) else (Val.float (broken op a.flt b.flt), 0)) := by
    unfold Val.calc2; rw [if_pos ⟨na, nb⟩, if_neg (by omega), if_pos kk]
  rw [e9]
  by_cases k2 : a.kind = 2
  · rw [if_pos k2]
    have ea := right_two (numeric_right na).1 k2
    have eb := right_two (numeric_right nb).1 (kk ▸ k2)
    generalize a.int = n at *
    generalize b.int = m at *
    subst ea eb
    obtain rfl | rfl | rfl : op = 3 ∨ op = 4 ∨ op = 5 := by omega
    · exact rcalc_two3 n m w
    · exact rcalc_two4 n m w
    · exact rcalc_two5 n m w
  · rw [if_neg k2]
    have hxa := ha.flt; have hxb := hb.flt
    have ea := right_three (numeric_right na).1 (by omega)
    have eb := right_three (numeric_right nb).1 (by omega)
    clear ha hb
    generalize a.flt = n at *
    generalize b.flt = m at *
    subst ea eb
    obtain rfl | rfl | rfl : op = 3 ∨ op = 4 ∨ op = 5 := by omega
    · exact rcalc_three3 n m w hxa hxb
    · exact rcalc_three4 n m w hxa hxb
    · exact rcalc_three5 n m w hxa hxb
end Go.Proofs.Ytlcdjaclahhdnaa
