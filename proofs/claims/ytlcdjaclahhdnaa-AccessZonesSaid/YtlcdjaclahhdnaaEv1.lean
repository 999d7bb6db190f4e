/- The calls of expr.eval on an expression of one part. Printed by wip/tools/gen_ev.py. -/
import Derived.Test.YtlcdjaclahhdnaaEv
namespace Go.Proofs.Ytlcdjaclahhdnaa
open Go.RowKit
set_option linter.unusedSimpArgs false
set_option linter.unusedVariables false

set_option maxRecDepth 100000 in
set_option maxHeartbeats 4000000 in
theorem eval1_6 (r c : Int) (v : Val) (g o cap : Nat) (rv : Value) (rows : List (List Val)) (w : World) (e0 : Ex) (s0 : Value) (r0 : Val × Int) (HAT0 : Hid (∀ w', Ext w w' → At w' g (o + 0 * 8) (e0.cells s0))) (HC0 : Hid (∀ w', Ext w w' → Calls Try.prog 86 #[.agg (e0.cells s0).toArray, rv] w' (EvR w' r0))) (hok0 : r0.1.Ok) :
    Calls Try.prog 86 #[.agg (exCells 6 r c v (.slice (some ⟨g, o, none⟩) 1 cap)).toArray, rv] w (EvR w (evalHead rows 6 r c v [r0])) := by
  have HW := Lib.hid (EvW.start w (exCells 6 r c v (.slice (some ⟨g, o, none⟩) 1 cap)))
  unfold exCells nullCells at *
  unfold Ex.cells exCells at HAT0 HC0
  by_cases hz0 : r0.2 ≠ 0
  · have e1 : evalHead rows 6 r c v [r0] = (Val.null, r0.2) := by simp [evalHead, hz0]
    rw [e1]
    have HZ0 := Lib.hid hz0; clear e1 hz0
    go_enter Try.func86, Try.ntmps86
    go_wp2_with (first | (refine wpList_wish rfl fun K hK => wp_cell Try.underlying25 rfl _ rfl rfl (HW.out.x.cells.get 7 _ rfl) (hK _ _ ?_)) | (refine wpList_wish rfl fun K hK => wp_cell Try.underlying3 rfl _ rfl rfl (HW.out.x.cells.get 0 _ rfl) (hK _ _ ?_)) | (refine wpList_wish rfl fun K hK => wp_idxS (i := 0) Try.underlying25 size_ex (.tmp 12) _ rfl rfl rfl (by decide) (hK _ _ ?_)) | (refine wpList_wish rfl fun K hK => wp_loadA (vs := [.int .i64 e0.kind, .int .i64 e0.rel, .int .i64 e0.col, .int .i64 e0.const.kind, .int .i64 e0.const.int, .float .f64 e0.const.flt, .string e0.const.text, s0]) agg_ex (.tmp 13) rfl rfl (HAT0.out _ HW.out.ext) (hK _ _ ?_)) | (refine wpList_storeA (val_one r0.1) HW.out.a sizeVal rfl rfl (.tmp 5) (.tmp 16) rfl rfl rfl ?_; intro u1 hb1 hb2; have HW := Lib.hid (HW.out.setA hb1 hb2); clear hb1 hb2) | (go_at_call_of 86 e0.kind; refine (HC0.out _ HW.out.ext).mono ?_; rintro ev w1 h; obtain ⟨rfl, hb⟩ := EvR.bad HZ0.out h; have HW := Lib.hid (HW.out.grow hb); clear hb h))
    refine ⟨rfl, ?_⟩
    unfold EvR
    rw [if_neg HZ0.out]
    exact ⟨rfl, HW.out.ext⟩
  replace hz0 : r0.2 = 0 := Decidable.not_not.1 hz0
  have HZ0 := Lib.hid hz0
  have e1 : evalHead rows 6 r c v [r0] = Val.calc 6 r0.1 Val.null := by simp [evalHead, hz0]
  rw [e1]; clear e1 hz0
  have HOP := Lib.hid (fun w => neg_of r0.1 Val.null w hok0.flt)
  generalize Val.calc 6 r0.1 Val.null = q at *
  obtain ⟨q, m⟩ := q
  simp only at HOP
  unfold Val.null at HOP
  by_cases hm : m = 0
  · subst hm
    go_enter Try.func86, Try.ntmps86
    go_wp2_with (first | (refine wpList_wish rfl fun K hK => wp_cell Try.underlying25 rfl _ rfl rfl (HW.out.x.cells.get 7 _ rfl) (hK _ _ ?_)) | (refine wpList_wish rfl fun K hK => wp_cell Try.underlying3 rfl _ rfl rfl (HW.out.x.cells.get 0 _ rfl) (hK _ _ ?_)) | (refine wpList_wish rfl fun K hK => wp_idxS (i := 0) Try.underlying25 size_ex (.tmp 12) _ rfl rfl rfl (by decide) (hK _ _ ?_)) | (refine wpList_wish rfl fun K hK => wp_loadA (vs := [.int .i64 e0.kind, .int .i64 e0.rel, .int .i64 e0.col, .int .i64 e0.const.kind, .int .i64 e0.const.int, .float .f64 e0.const.flt, .string e0.const.text, s0]) agg_ex (.tmp 13) rfl rfl (HAT0.out _ HW.out.ext) (hK _ _ ?_)) | (refine wpList_storeA (val_one r0.1) HW.out.a sizeVal rfl rfl (.tmp 5) (.tmp 16) rfl rfl rfl ?_; intro u1 hb1 hb2; have HW := Lib.hid (HW.out.setA hb1 hb2); clear hb1 hb2) | (go_at_call_of 86 e0.kind; refine (HC0.out _ HW.out.ext).mono ?_; rintro ev w1 h; obtain ⟨rfl, hb⟩ := EvR.ok HZ0.out h; have HW := Lib.hid (HW.out.grow hb); clear hb h) | (refine wpList_wish rfl fun K hK => wp_loadA (vs := [.int .i64 r0.1.kind, .int .i64 r0.1.int, .float .f64 r0.1.flt, .string r0.1.text]) agg_val (.tmp _) rfl rfl HW.out.a.cells (hK _ _ ?_)) | (refine wpList_wish rfl fun K hK => wp_loadA (vs := [.int .i64 0, .int .i64 0, .float .f64 0, .string ⟨#[]⟩]) agg_val (.tmp _) rfl rfl HW.out.b.cells (hK _ _ ?_)) | (go_at_call 63; refine (HOP.out _).mono ?_; rintro ev w5 ⟨rfl, hb⟩; have HW := Lib.hid (HW.out.grow hb); clear hb) | (go_at_call 113; refine (must_ok q _).mono ?_; rintro ev w6 ⟨rfl, hb⟩; have HW := Lib.hid (HW.out.grow hb); clear hb) | (refine wpList_storeA (val_one q) HW.out.r sizeVal rfl rfl (.tmp 4) _ rfl rfl rfl ?_; intro u3 hb1 hb2; have HW := Lib.hid (HW.out.setR hb1 hb2); clear hb1 hb2))
    refine back_cell rfl (Val.cells q) rfl agg_val rfl HW.out.r.cells ⟨rfl, HW.out.ext⟩
  · have HM := Lib.hid hm
    go_enter Try.func86, Try.ntmps86
    go_wp2_with (first | (refine wpList_wish rfl fun K hK => wp_cell Try.underlying25 rfl _ rfl rfl (HW.out.x.cells.get 7 _ rfl) (hK _ _ ?_)) | (refine wpList_wish rfl fun K hK => wp_cell Try.underlying3 rfl _ rfl rfl (HW.out.x.cells.get 0 _ rfl) (hK _ _ ?_)) | (refine wpList_wish rfl fun K hK => wp_idxS (i := 0) Try.underlying25 size_ex (.tmp 12) _ rfl rfl rfl (by decide) (hK _ _ ?_)) | (refine wpList_wish rfl fun K hK => wp_loadA (vs := [.int .i64 e0.kind, .int .i64 e0.rel, .int .i64 e0.col, .int .i64 e0.const.kind, .int .i64 e0.const.int, .float .f64 e0.const.flt, .string e0.const.text, s0]) agg_ex (.tmp 13) rfl rfl (HAT0.out _ HW.out.ext) (hK _ _ ?_)) | (refine wpList_storeA (val_one r0.1) HW.out.a sizeVal rfl rfl (.tmp 5) (.tmp 16) rfl rfl rfl ?_; intro u1 hb1 hb2; have HW := Lib.hid (HW.out.setA hb1 hb2); clear hb1 hb2) | (go_at_call_of 86 e0.kind; refine (HC0.out _ HW.out.ext).mono ?_; rintro ev w1 h; obtain ⟨rfl, hb⟩ := EvR.ok HZ0.out h; have HW := Lib.hid (HW.out.grow hb); clear hb h) | (refine wpList_wish rfl fun K hK => wp_loadA (vs := [.int .i64 r0.1.kind, .int .i64 r0.1.int, .float .f64 r0.1.flt, .string r0.1.text]) agg_val (.tmp _) rfl rfl HW.out.a.cells (hK _ _ ?_)) | (refine wpList_wish rfl fun K hK => wp_loadA (vs := [.int .i64 0, .int .i64 0, .float .f64 0, .string ⟨#[]⟩]) agg_val (.tmp _) rfl rfl HW.out.b.cells (hK _ _ ?_)) | (go_at_call 63; refine (HOP.out _).mono ?_; rintro ev w5 ⟨rfl, hb⟩; have HW := Lib.hid (HW.out.grow hb); clear hb) | (go_at_call 113; refine (must_bad q m HM.out _).mono ?_; rintro ev w6 ⟨rfl, hb⟩; have HW := Lib.hid (HW.out.grow hb); clear hb))
    refine ⟨rfl, ?_⟩
    unfold EvR
    rw [if_neg HM.out]
    exact ⟨rfl, HW.out.ext⟩
set_option maxRecDepth 100000 in
set_option maxHeartbeats 4000000 in
theorem eval1_12 (r c : Int) (v : Val) (g o cap : Nat) (rv : Value) (rows : List (List Val)) (w : World) (e0 : Ex) (s0 : Value) (r0 : Val × Int) (HAT0 : Hid (∀ w', Ext w w' → At w' g (o + 0 * 8) (e0.cells s0))) (HC0 : Hid (∀ w', Ext w w' → Calls Try.prog 86 #[.agg (e0.cells s0).toArray, rv] w' (EvR w' r0))) (hok0 : r0.1.Ok) :
    Calls Try.prog 86 #[.agg (exCells 12 r c v (.slice (some ⟨g, o, none⟩) 1 cap)).toArray, rv] w (EvR w (evalHead rows 12 r c v [r0])) := by
  have HW := Lib.hid (EvW.start w (exCells 12 r c v (.slice (some ⟨g, o, none⟩) 1 cap)))
  unfold exCells nullCells at *
  unfold Ex.cells exCells at HAT0 HC0
  by_cases hz0 : r0.2 ≠ 0
  · have e1 : evalHead rows 12 r c v [r0] = (Val.null, r0.2) := by simp [evalHead, hz0]
    rw [e1]
    have HZ0 := Lib.hid hz0; clear e1 hz0
    go_enter Try.func86, Try.ntmps86
    go_wp2_with (first | (refine wpList_wish rfl fun K hK => wp_cell Try.underlying25 rfl _ rfl rfl (HW.out.x.cells.get 7 _ rfl) (hK _ _ ?_)) | (refine wpList_wish rfl fun K hK => wp_cell Try.underlying3 rfl _ rfl rfl (HW.out.x.cells.get 0 _ rfl) (hK _ _ ?_)) | (refine wpList_wish rfl fun K hK => wp_idxS (i := 0) Try.underlying25 size_ex (.tmp 12) _ rfl rfl rfl (by decide) (hK _ _ ?_)) | (refine wpList_wish rfl fun K hK => wp_loadA (vs := [.int .i64 e0.kind, .int .i64 e0.rel, .int .i64 e0.col, .int .i64 e0.const.kind, .int .i64 e0.const.int, .float .f64 e0.const.flt, .string e0.const.text, s0]) agg_ex (.tmp 13) rfl rfl (HAT0.out _ HW.out.ext) (hK _ _ ?_)) | (refine wpList_storeA (val_one r0.1) HW.out.a sizeVal rfl rfl (.tmp 5) (.tmp 16) rfl rfl rfl ?_; intro u1 hb1 hb2; have HW := Lib.hid (HW.out.setA hb1 hb2); clear hb1 hb2) | (go_at_call_of 86 e0.kind; refine (HC0.out _ HW.out.ext).mono ?_; rintro ev w1 h; obtain ⟨rfl, hb⟩ := EvR.bad HZ0.out h; have HW := Lib.hid (HW.out.grow hb); clear hb h))
    refine ⟨rfl, ?_⟩
    unfold EvR
    rw [if_neg HZ0.out]
    exact ⟨rfl, HW.out.ext⟩
  replace hz0 : r0.2 = 0 := Decidable.not_not.1 hz0
  have HZ0 := Lib.hid hz0
  have e1 : evalHead rows 12 r c v [r0] = Val.both 12 r0.1 Val.null := by simp [evalHead, hz0]
  rw [e1]; clear e1 hz0
  have HOP := Lib.hid (fun w => both_of 12 r0.1 Val.null w hok0.flt (by decide) (by omega))
  generalize Val.both 12 r0.1 Val.null = q at *
  obtain ⟨q, m⟩ := q
  simp only at HOP
  unfold Val.null at HOP
  by_cases hm : m = 0
  · subst hm
    go_enter Try.func86, Try.ntmps86
    go_wp2_with (first | (refine wpList_wish rfl fun K hK => wp_cell Try.underlying25 rfl _ rfl rfl (HW.out.x.cells.get 7 _ rfl) (hK _ _ ?_)) | (refine wpList_wish rfl fun K hK => wp_cell Try.underlying3 rfl _ rfl rfl (HW.out.x.cells.get 0 _ rfl) (hK _ _ ?_)) | (refine wpList_wish rfl fun K hK => wp_idxS (i := 0) Try.underlying25 size_ex (.tmp 12) _ rfl rfl rfl (by decide) (hK _ _ ?_)) | (refine wpList_wish rfl fun K hK => wp_loadA (vs := [.int .i64 e0.kind, .int .i64 e0.rel, .int .i64 e0.col, .int .i64 e0.const.kind, .int .i64 e0.const.int, .float .f64 e0.const.flt, .string e0.const.text, s0]) agg_ex (.tmp 13) rfl rfl (HAT0.out _ HW.out.ext) (hK _ _ ?_)) | (refine wpList_storeA (val_one r0.1) HW.out.a sizeVal rfl rfl (.tmp 5) (.tmp 16) rfl rfl rfl ?_; intro u1 hb1 hb2; have HW := Lib.hid (HW.out.setA hb1 hb2); clear hb1 hb2) | (go_at_call_of 86 e0.kind; refine (HC0.out _ HW.out.ext).mono ?_; rintro ev w1 h; obtain ⟨rfl, hb⟩ := EvR.ok HZ0.out h; have HW := Lib.hid (HW.out.grow hb); clear hb h) | (refine wpList_wish rfl fun K hK => wp_loadA (vs := [.int .i64 r0.1.kind, .int .i64 r0.1.int, .float .f64 r0.1.flt, .string r0.1.text]) agg_val (.tmp _) rfl rfl HW.out.a.cells (hK _ _ ?_)) | (refine wpList_wish rfl fun K hK => wp_loadA (vs := [.int .i64 0, .int .i64 0, .float .f64 0, .string ⟨#[]⟩]) agg_val (.tmp _) rfl rfl HW.out.b.cells (hK _ _ ?_)) | (go_at_call 64; refine (HOP.out _).mono ?_; rintro ev w5 ⟨rfl, hb⟩; have HW := Lib.hid (HW.out.grow hb); clear hb) | (go_at_call 113; refine (must_ok q _).mono ?_; rintro ev w6 ⟨rfl, hb⟩; have HW := Lib.hid (HW.out.grow hb); clear hb) | (refine wpList_storeA (val_one q) HW.out.r sizeVal rfl rfl (.tmp 4) _ rfl rfl rfl ?_; intro u3 hb1 hb2; have HW := Lib.hid (HW.out.setR hb1 hb2); clear hb1 hb2))
    refine back_cell rfl (Val.cells q) rfl agg_val rfl HW.out.r.cells ⟨rfl, HW.out.ext⟩
  · have HM := Lib.hid hm
    go_enter Try.func86, Try.ntmps86
    go_wp2_with (first | (refine wpList_wish rfl fun K hK => wp_cell Try.underlying25 rfl _ rfl rfl (HW.out.x.cells.get 7 _ rfl) (hK _ _ ?_)) | (refine wpList_wish rfl fun K hK => wp_cell Try.underlying3 rfl _ rfl rfl (HW.out.x.cells.get 0 _ rfl) (hK _ _ ?_)) | (refine wpList_wish rfl fun K hK => wp_idxS (i := 0) Try.underlying25 size_ex (.tmp 12) _ rfl rfl rfl (by decide) (hK _ _ ?_)) | (refine wpList_wish rfl fun K hK => wp_loadA (vs := [.int .i64 e0.kind, .int .i64 e0.rel, .int .i64 e0.col, .int .i64 e0.const.kind, .int .i64 e0.const.int, .float .f64 e0.const.flt, .string e0.const.text, s0]) agg_ex (.tmp 13) rfl rfl (HAT0.out _ HW.out.ext) (hK _ _ ?_)) | (refine wpList_storeA (val_one r0.1) HW.out.a sizeVal rfl rfl (.tmp 5) (.tmp 16) rfl rfl rfl ?_; intro u1 hb1 hb2; have HW := Lib.hid (HW.out.setA hb1 hb2); clear hb1 hb2) | (go_at_call_of 86 e0.kind; refine (HC0.out _ HW.out.ext).mono ?_; rintro ev w1 h; obtain ⟨rfl, hb⟩ := EvR.ok HZ0.out h; have HW := Lib.hid (HW.out.grow hb); clear hb h) | (refine wpList_wish rfl fun K hK => wp_loadA (vs := [.int .i64 r0.1.kind, .int .i64 r0.1.int, .float .f64 r0.1.flt, .string r0.1.text]) agg_val (.tmp _) rfl rfl HW.out.a.cells (hK _ _ ?_)) | (refine wpList_wish rfl fun K hK => wp_loadA (vs := [.int .i64 0, .int .i64 0, .float .f64 0, .string ⟨#[]⟩]) agg_val (.tmp _) rfl rfl HW.out.b.cells (hK _ _ ?_)) | (go_at_call 64; refine (HOP.out _).mono ?_; rintro ev w5 ⟨rfl, hb⟩; have HW := Lib.hid (HW.out.grow hb); clear hb) | (go_at_call 113; refine (must_bad q m HM.out _).mono ?_; rintro ev w6 ⟨rfl, hb⟩; have HW := Lib.hid (HW.out.grow hb); clear hb))
    refine ⟨rfl, ?_⟩
    unfold EvR
    rw [if_neg HM.out]
    exact ⟨rfl, HW.out.ext⟩
set_option maxRecDepth 100000 in
set_option maxHeartbeats 4000000 in
theorem eval1_13 (r c : Int) (v : Val) (g o cap : Nat) (rv : Value) (rows : List (List Val)) (w : World) (e0 : Ex) (s0 : Value) (r0 : Val × Int) (HAT0 : Hid (∀ w', Ext w w' → At w' g (o + 0 * 8) (e0.cells s0))) (HC0 : Hid (∀ w', Ext w w' → Calls Try.prog 86 #[.agg (e0.cells s0).toArray, rv] w' (EvR w' r0))) (hok0 : r0.1.Ok) :
    Calls Try.prog 86 #[.agg (exCells 13 r c v (.slice (some ⟨g, o, none⟩) 1 cap)).toArray, rv] w (EvR w (evalHead rows 13 r c v [r0])) := by
  have HW := Lib.hid (EvW.start w (exCells 13 r c v (.slice (some ⟨g, o, none⟩) 1 cap)))
  unfold exCells nullCells at *
  unfold Ex.cells exCells at HAT0 HC0
  by_cases hz0 : r0.2 ≠ 0
  · have e1 : evalHead rows 13 r c v [r0] = (Val.null, r0.2) := by simp [evalHead, hz0]
    rw [e1]
    have HZ0 := Lib.hid hz0; clear e1 hz0
    go_enter Try.func86, Try.ntmps86
    go_wp2_with (first | (refine wpList_wish rfl fun K hK => wp_cell Try.underlying25 rfl _ rfl rfl (HW.out.x.cells.get 7 _ rfl) (hK _ _ ?_)) | (refine wpList_wish rfl fun K hK => wp_cell Try.underlying3 rfl _ rfl rfl (HW.out.x.cells.get 0 _ rfl) (hK _ _ ?_)) | (refine wpList_wish rfl fun K hK => wp_idxS (i := 0) Try.underlying25 size_ex (.tmp 12) _ rfl rfl rfl (by decide) (hK _ _ ?_)) | (refine wpList_wish rfl fun K hK => wp_loadA (vs := [.int .i64 e0.kind, .int .i64 e0.rel, .int .i64 e0.col, .int .i64 e0.const.kind, .int .i64 e0.const.int, .float .f64 e0.const.flt, .string e0.const.text, s0]) agg_ex (.tmp 13) rfl rfl (HAT0.out _ HW.out.ext) (hK _ _ ?_)) | (refine wpList_storeA (val_one r0.1) HW.out.a sizeVal rfl rfl (.tmp 5) (.tmp 16) rfl rfl rfl ?_; intro u1 hb1 hb2; have HW := Lib.hid (HW.out.setA hb1 hb2); clear hb1 hb2) | (go_at_call_of 86 e0.kind; refine (HC0.out _ HW.out.ext).mono ?_; rintro ev w1 h; obtain ⟨rfl, hb⟩ := EvR.bad HZ0.out h; have HW := Lib.hid (HW.out.grow hb); clear hb h))
    refine ⟨rfl, ?_⟩
    unfold EvR
    rw [if_neg HZ0.out]
    exact ⟨rfl, HW.out.ext⟩
  replace hz0 : r0.2 = 0 := Decidable.not_not.1 hz0
  have HZ0 := Lib.hid hz0
  have e1 : evalHead rows 13 r c v [r0] = (Val.truth (r0.1.kind == 0), 0) := by simp [evalHead, hz0]
  rw [e1]; clear e1 hz0
  have HT := Lib.hid (fun w => truth_of (r0.1.kind == 0) w)
  obtain ⟨q, hq⟩ : ∃ q, q = Val.truth (r0.1.kind == 0) := ⟨_, rfl⟩
  rw [← hq] at HT ⊢; clear hq
  go_enter Try.func86, Try.ntmps86
  go_wp2_with (first | (refine wpList_wish rfl fun K hK => wp_cell Try.underlying25 rfl _ rfl rfl (HW.out.x.cells.get 7 _ rfl) (hK _ _ ?_)) | (refine wpList_wish rfl fun K hK => wp_cell Try.underlying3 rfl _ rfl rfl (HW.out.x.cells.get 0 _ rfl) (hK _ _ ?_)) | (refine wpList_wish rfl fun K hK => wp_idxS (i := 0) Try.underlying25 size_ex (.tmp 12) _ rfl rfl rfl (by decide) (hK _ _ ?_)) | (refine wpList_wish rfl fun K hK => wp_loadA (vs := [.int .i64 e0.kind, .int .i64 e0.rel, .int .i64 e0.col, .int .i64 e0.const.kind, .int .i64 e0.const.int, .float .f64 e0.const.flt, .string e0.const.text, s0]) agg_ex (.tmp 13) rfl rfl (HAT0.out _ HW.out.ext) (hK _ _ ?_)) | (refine wpList_storeA (val_one r0.1) HW.out.a sizeVal rfl rfl (.tmp 5) (.tmp 16) rfl rfl rfl ?_; intro u1 hb1 hb2; have HW := Lib.hid (HW.out.setA hb1 hb2); clear hb1 hb2) | (go_at_call_of 86 e0.kind; refine (HC0.out _ HW.out.ext).mono ?_; rintro ev w1 h; obtain ⟨rfl, hb⟩ := EvR.ok HZ0.out h; have HW := Lib.hid (HW.out.grow hb); clear hb h) | (refine wpList_wish rfl fun K hK => wp_cell Try.underlying3 rfl _ rfl rfl (HW.out.a.cells.get 0 _ rfl) (hK _ _ ?_)) | (go_at_call 65; refine (HT.out _).mono ?_; rintro ev w5 ⟨rfl, hb⟩; have HW := Lib.hid (HW.out.grow hb); clear hb) | (refine wpList_storeA (val_one q) HW.out.r sizeVal rfl rfl (.tmp 4) _ rfl rfl rfl ?_; intro u3 hb1 hb2; have HW := Lib.hid (HW.out.setR hb1 hb2); clear hb1 hb2))
  refine back_cell rfl (Val.cells q) rfl agg_val rfl HW.out.r.cells ⟨rfl, HW.out.ext⟩
end Go.Proofs.Ytlcdjaclahhdnaa
