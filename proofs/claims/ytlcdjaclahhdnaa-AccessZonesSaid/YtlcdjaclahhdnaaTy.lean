/- The calls of expr.numeric, expr.truth, expr.one. Printed by wip/tools/gen_ty.py. -/
import Derived.Test.YtlcdjaclahhdnaaEv
namespace Go.Proofs.Ytlcdjaclahhdnaa
open Go.RowKit
set_option linter.unusedSimpArgs false
set_option linter.unusedVariables false

def numericK (k : Int) : Bool := k == 0 || k == 2 || k == 3
def truthK (k : Int) : Bool := k == 0 || k == 1
def anyK (_ : Int) : Bool := true
set_option maxHeartbeats 400000 in
theorem numericK_of (k : Int) (w : World) : Calls Try.prog 138 #[.int .i64 k] w fun e w' => e = .returned (.bool (numericK k)) ∧ w = w' := by
  go_enter Try.func138, Try.ntmps138
  go_wp2
  all_goals (go_ret; refine ⟨ret_bool ?_, rfl⟩; go_tidy; simp_all [numericK])
set_option maxHeartbeats 400000 in
theorem truthK_of (k : Int) (w : World) : Calls Try.prog 140 #[.int .i64 k] w fun e w' => e = .returned (.bool (truthK k)) ∧ w = w' := by
  go_enter Try.func140, Try.ntmps140
  go_wp2
  all_goals (go_ret; refine ⟨ret_bool ?_, rfl⟩; go_tidy; simp_all [truthK])
set_option maxHeartbeats 400000 in
theorem anyK_of (k : Int) (w : World) : Calls Try.prog 139 #[.int .i64 k] w fun e w' => e = .returned (.bool (anyK k)) ∧ w = w' := by
  go_enter Try.func139, Try.ntmps139
  go_wp2
  go_ret
  exact ⟨rfl, rfl⟩

/-- The type of two parts; a number above 0: what is given up with. -/
def oneR (may : Int → Bool) (a b : Int) : Int × Int := if may a = true ∧ may b = true ∧ (a = 0 ∨ b = 0 ∨ a = b) then (max a b, 0) else (0, 50)
def TyR (r : Int × Int) (ev : Ending) : Prop := ev = if r.2 = 0 then .returned (.int .i64 r.1) else .panicked (chainE r.2)
theorem TyR.ok {r : Int × Int} {ev : Ending} (h : r.2 = 0) (he : TyR r ev) : ev = .returned (.int .i64 r.1) := by unfold TyR at he; rw [if_pos h] at he; exact he
theorem TyR.bad {r : Int × Int} {ev : Ending} (h : r.2 ≠ 0) (he : TyR r ev) : ev = .panicked (chainE r.2) := by unfold TyR at he; rw [if_neg h] at he; exact he
set_option maxHeartbeats 1000000 in
theorem one_numericK (a b : Int) (w : World) : Calls Try.prog 137 #[.int .i64 a, .int .i64 b, .func (.func 138) #[] #[]] w fun e w' => TyR (oneR numericK a b) e ∧ w = w' := by
  have hm : ∀ k w, Calls Try.prog 138 #[.int .i64 k] w fun e w' => e = .returned (.bool (numericK k)) ∧ w = w' := numericK_of
  have HM := Lib.hid hm; clear hm
  have hch : chainE 50 = [{ v := .iface 35 (.int .i64 50), recovered := false }] := rfl
  cases ha : numericK a
  · have e1 : oneR numericK a b = (0, 50) := by simp [oneR, ha]
    rw [e1]; clear e1
    have ha' := Lib.hid ha; clear ha
    go_enter Try.func137, Try.ntmps137
    go_wp2_with (go_at_call 138; refine (HM.out _ _).mono ?_; rintro e w' ⟨rfl, rfl⟩; (try rw [ha'.out]))
    all_goals exact ⟨rfl, rfl, rfl⟩
  cases hb : numericK b
  · have e1 : oneR numericK a b = (0, 50) := by simp [oneR, hb]
    rw [e1]; clear e1
    have ha' := Lib.hid ha; have hb' := Lib.hid hb; clear ha hb
    go_enter Try.func137, Try.ntmps137
    go_wp2_with (go_at_call 138; refine (HM.out _ _).mono ?_; rintro e w' ⟨rfl, rfl⟩; first | rw [ha'.out] | rw [hb'.out])
    all_goals exact ⟨rfl, rfl, rfl⟩
  have ha' := Lib.hid ha; have hb' := Lib.hid hb
  by_cases hc : a = 0 ∨ b = 0 ∨ a = b
  · have e1 : oneR numericK a b = (max a b, 0) := by simp only [oneR, ha, hb, true_and, if_pos hc]
    rw [e1]; clear e1 ha hb
    go_enter Try.func137, Try.ntmps137
    by_cases h0 : a = 0
    · subst h0
      go_wp2_with (go_at_call 138; refine (HM.out _ _).mono ?_; rintro e w' ⟨rfl, rfl⟩; first | rw [ha'.out] | rw [hb'.out])
      all_goals (go_ret; refine ⟨?_, rfl⟩; unfold TyR; rw [if_pos rfl]; (first | rfl | (refine ret_int ?_; show _ = max _ _; omega)))
    · by_cases h1 : b = 0
      · subst h1
        go_wp2_with (go_at_call 138; refine (HM.out _ _).mono ?_; rintro e w' ⟨rfl, rfl⟩; first | rw [ha'.out] | rw [hb'.out])
        all_goals (go_ret; refine ⟨?_, rfl⟩; unfold TyR; rw [if_pos rfl]; (first | rfl | (refine ret_int ?_; show _ = max _ _; omega)))
      · have h2 : a = b := by omega
        subst h2
        go_wp2_with (go_at_call 138; refine (HM.out _ _).mono ?_; rintro e w' ⟨rfl, rfl⟩; first | rw [ha'.out] | rw [hb'.out])
        all_goals (go_ret; refine ⟨?_, rfl⟩; unfold TyR; rw [if_pos rfl]; (first | rfl | (refine ret_int ?_; show _ = max _ _; omega)))
  · have e1 : oneR numericK a b = (0, 50) := by simp only [oneR, if_neg (show ¬(numericK a = true ∧ numericK b = true ∧ (a = 0 ∨ b = 0 ∨ a = b)) from fun h => hc h.2.2)]
    rw [e1]; clear e1 ha hb
    have h0 : (a != 0) = true := by simp; omega
    have h1 : (b != 0) = true := by simp; omega
    have h2 : (a != b) = true := by simp; omega
    go_enter Try.func137, Try.ntmps137
    go_wp2_with (go_at_call 138; refine (HM.out _ _).mono ?_; rintro e w' ⟨rfl, rfl⟩; first | rw [ha'.out] | rw [hb'.out])
    all_goals exact ⟨rfl, rfl, rfl⟩
set_option maxHeartbeats 1000000 in
theorem one_truthK (a b : Int) (w : World) : Calls Try.prog 137 #[.int .i64 a, .int .i64 b, .func (.func 140) #[] #[]] w fun e w' => TyR (oneR truthK a b) e ∧ w = w' := by
  have hm : ∀ k w, Calls Try.prog 140 #[.int .i64 k] w fun e w' => e = .returned (.bool (truthK k)) ∧ w = w' := truthK_of
  have HM := Lib.hid hm; clear hm
  have hch : chainE 50 = [{ v := .iface 35 (.int .i64 50), recovered := false }] := rfl
  cases ha : truthK a
  · have e1 : oneR truthK a b = (0, 50) := by simp [oneR, ha]
    rw [e1]; clear e1
    have ha' := Lib.hid ha; clear ha
    go_enter Try.func137, Try.ntmps137
    go_wp2_with (go_at_call 140; refine (HM.out _ _).mono ?_; rintro e w' ⟨rfl, rfl⟩; (try rw [ha'.out]))
    all_goals exact ⟨rfl, rfl, rfl⟩
  cases hb : truthK b
  · have e1 : oneR truthK a b = (0, 50) := by simp [oneR, hb]
    rw [e1]; clear e1
    have ha' := Lib.hid ha; have hb' := Lib.hid hb; clear ha hb
    go_enter Try.func137, Try.ntmps137
    go_wp2_with (go_at_call 140; refine (HM.out _ _).mono ?_; rintro e w' ⟨rfl, rfl⟩; first | rw [ha'.out] | rw [hb'.out])
    all_goals exact ⟨rfl, rfl, rfl⟩
  have ha' := Lib.hid ha; have hb' := Lib.hid hb
  by_cases hc : a = 0 ∨ b = 0 ∨ a = b
  · have e1 : oneR truthK a b = (max a b, 0) := by simp only [oneR, ha, hb, true_and, if_pos hc]
    rw [e1]; clear e1 ha hb
    go_enter Try.func137, Try.ntmps137
    by_cases h0 : a = 0
    · subst h0
      go_wp2_with (go_at_call 140; refine (HM.out _ _).mono ?_; rintro e w' ⟨rfl, rfl⟩; first | rw [ha'.out] | rw [hb'.out])
      all_goals (go_ret; refine ⟨?_, rfl⟩; unfold TyR; rw [if_pos rfl]; (first | rfl | (refine ret_int ?_; show _ = max _ _; omega)))
    · by_cases h1 : b = 0
      · subst h1
        go_wp2_with (go_at_call 140; refine (HM.out _ _).mono ?_; rintro e w' ⟨rfl, rfl⟩; first | rw [ha'.out] | rw [hb'.out])
        all_goals (go_ret; refine ⟨?_, rfl⟩; unfold TyR; rw [if_pos rfl]; (first | rfl | (refine ret_int ?_; show _ = max _ _; omega)))
      · have h2 : a = b := by omega
        subst h2
        go_wp2_with (go_at_call 140; refine (HM.out _ _).mono ?_; rintro e w' ⟨rfl, rfl⟩; first | rw [ha'.out] | rw [hb'.out])
        all_goals (go_ret; refine ⟨?_, rfl⟩; unfold TyR; rw [if_pos rfl]; (first | rfl | (refine ret_int ?_; show _ = max _ _; omega)))
  · have e1 : oneR truthK a b = (0, 50) := by simp only [oneR, if_neg (show ¬(truthK a = true ∧ truthK b = true ∧ (a = 0 ∨ b = 0 ∨ a = b)) from fun h => hc h.2.2)]
    rw [e1]; clear e1 ha hb
    have h0 : (a != 0) = true := by simp; omega
    have h1 : (b != 0) = true := by simp; omega
    have h2 : (a != b) = true := by simp; omega
    go_enter Try.func137, Try.ntmps137
    go_wp2_with (go_at_call 140; refine (HM.out _ _).mono ?_; rintro e w' ⟨rfl, rfl⟩; first | rw [ha'.out] | rw [hb'.out])
    all_goals exact ⟨rfl, rfl, rfl⟩
set_option maxHeartbeats 1000000 in
theorem one_anyK (a b : Int) (w : World) : Calls Try.prog 137 #[.int .i64 a, .int .i64 b, .func (.func 139) #[] #[]] w fun e w' => TyR (oneR anyK a b) e ∧ w = w' := by
  have hm : ∀ k w, Calls Try.prog 139 #[.int .i64 k] w fun e w' => e = .returned (.bool (anyK k)) ∧ w = w' := anyK_of
  have HM := Lib.hid hm; clear hm
  have hch : chainE 50 = [{ v := .iface 35 (.int .i64 50), recovered := false }] := rfl
  cases ha : anyK a
  · have e1 : oneR anyK a b = (0, 50) := by simp [oneR, ha]
    rw [e1]; clear e1
    have ha' := Lib.hid ha; clear ha
    go_enter Try.func137, Try.ntmps137
    go_wp2_with (go_at_call 139; refine (HM.out _ _).mono ?_; rintro e w' ⟨rfl, rfl⟩; (try rw [ha'.out]))
    all_goals exact ⟨rfl, rfl, rfl⟩
  cases hb : anyK b
  · have e1 : oneR anyK a b = (0, 50) := by simp [oneR, hb]
    rw [e1]; clear e1
    have ha' := Lib.hid ha; have hb' := Lib.hid hb; clear ha hb
    go_enter Try.func137, Try.ntmps137
    go_wp2_with (go_at_call 139; refine (HM.out _ _).mono ?_; rintro e w' ⟨rfl, rfl⟩; first | rw [ha'.out] | rw [hb'.out])
    all_goals exact ⟨rfl, rfl, rfl⟩
  have ha' := Lib.hid ha; have hb' := Lib.hid hb
  by_cases hc : a = 0 ∨ b = 0 ∨ a = b
  · have e1 : oneR anyK a b = (max a b, 0) := by simp only [oneR, ha, hb, true_and, if_pos hc]
    rw [e1]; clear e1 ha hb
    go_enter Try.func137, Try.ntmps137
    by_cases h0 : a = 0
    · subst h0
      go_wp2_with (go_at_call 139; refine (HM.out _ _).mono ?_; rintro e w' ⟨rfl, rfl⟩; first | rw [ha'.out] | rw [hb'.out])
      all_goals (go_ret; refine ⟨?_, rfl⟩; unfold TyR; rw [if_pos rfl]; (first | rfl | (refine ret_int ?_; show _ = max _ _; omega)))
    · by_cases h1 : b = 0
      · subst h1
        go_wp2_with (go_at_call 139; refine (HM.out _ _).mono ?_; rintro e w' ⟨rfl, rfl⟩; first | rw [ha'.out] | rw [hb'.out])
        all_goals (go_ret; refine ⟨?_, rfl⟩; unfold TyR; rw [if_pos rfl]; (first | rfl | (refine ret_int ?_; show _ = max _ _; omega)))
      · have h2 : a = b := by omega
        subst h2
        go_wp2_with (go_at_call 139; refine (HM.out _ _).mono ?_; rintro e w' ⟨rfl, rfl⟩; first | rw [ha'.out] | rw [hb'.out])
        all_goals (go_ret; refine ⟨?_, rfl⟩; unfold TyR; rw [if_pos rfl]; (first | rfl | (refine ret_int ?_; show _ = max _ _; omega)))
  · have e1 : oneR anyK a b = (0, 50) := by simp only [oneR, if_neg (show ¬(anyK a = true ∧ anyK b = true ∧ (a = 0 ∨ b = 0 ∨ a = b)) from fun h => hc h.2.2)]
    rw [e1]; clear e1 ha hb
    have h0 : (a != 0) = true := by simp; omega
    have h1 : (b != 0) = true := by simp; omega
    have h2 : (a != b) = true := by simp; omega
    go_enter Try.func137, Try.ntmps137
    go_wp2_with (go_at_call 139; refine (HM.out _ _).mono ?_; rintro e w' ⟨rfl, rfl⟩; first | rw [ha'.out] | rw [hb'.out])
    all_goals exact ⟨rfl, rfl, rfl⟩
end Go.Proofs.Ytlcdjaclahhdnaa
