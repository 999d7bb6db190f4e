/- The call of the law ExprSound: true, whatever the expression, tables and rows. Printed by wip/tools/gen_sound.py. -/
import Derived.Test.YtlcdjaclahhdnaaSound
import Derived.Test.YtlcdjaclahhdnaaBulk
import Derived.Test.YtlcdjaclahhdnaaHolds
import Derived.Test.YtlcdjaclahhdnaaW22
import Derived.Deep.DeepCutAuto
namespace Go.Proofs.Ytlcdjaclahhdnaa
open Go.RowKit
set_option linter.unusedSimpArgs false
set_option linter.unusedVariables false

theorem ExsIn.one {w : World} {e : Ex} {se : Value} {A : Array Value} (he : Ex.In w e se) (hA : A = (exsCells [e] [se]).toArray) : ExsIn (w.alloc (.cells A 27)) (.slice (some ⟨w.heap.size, 0, none⟩) 1 1) [e] := by
  refine ExsIn.new rfl rfl (by decide) (by decide) hA ?_
  intro i hi hj
  match i, hi with
  | 0, _ => exact he

set_option maxRecDepth 100000 in
set_option maxHeartbeats 20000000 in
theorem sound_walk (e : Ex) (se tv rv : Value) (tabs : List (List Int)) (rows : List (List Val)) (w : World) (hine : Ex.In w e se) (htabs : TabsIn w tv tabs) (hrows : RowsIn w rv rows) :
    Calls Try.prog 8 #[.agg (e.cells se).toArray, tv, rv] w fun ev w' => ev = .returned (.bool true) ∧ Ext w w' := by
  obtain ⟨_, EA, ecap, rfl, _⟩ := hine.mk_inv.2.2.2.2
  obtain ⟨TA, tc, rfl⟩ : ∃ TA tc, tv = .slice TA tabs.length tc := by obtain ⟨_, A, c, h, _⟩ := htabs; exact ⟨A, c, h⟩
  obtain ⟨RA, rc, rfl, _⟩ := hrows.val
  have hro : ∀ r ∈ rows, ∀ v ∈ r, v.Ok := fun r hr v hv => by
    obtain ⟨i, hi, rfl⟩ := List.getElem_of_mem hr
    obtain ⟨_, _, _, _, _, _, _, _, _, h8⟩ := hrows.at_ i hi
    exact h8.ok v hv
  have HOK := Lib.hid (Eval_ok hro e w _ hine)
  have HE := Lib.hid hine; have HT := Lib.hid htabs; have HR := Lib.hid hrows
  clear hine htabs hrows hro
  have hbe : BoxAt (w.alloc (.cells (e.cells (.slice EA e.kids.length ecap)).toArray 27)) w.heap.size (e.cells (.slice EA e.kids.length ecap)) := BoxAt.new rfl rfl
  have hE0 : Ext w (w.alloc (.cells (e.cells (.slice EA e.kids.length ecap)).toArray 27)) := (Ext.refl _).alloc _
  have HBE := Lib.hid hbe; have HE0 := Lib.hid hE0
  clear hbe hE0
  unfold Ex.cells exCells at *
  go_enter Try.func8, Try.ntmps8
  go_upto_region 3 with (go_at_call 13; refine (works22 _).mono ?_; rintro ev W ⟨rfl, hb1⟩; have hEW := HE0.out.trans hb1; have HBE1 := Lib.hid (HBE.out.ext hb1); have HEW := Lib.hid hEW; clear HBE HE0 hb1 hEW)
  have HIE : Hid (∀ u, Ext W u → Ex.In u e (.slice EA e.kids.length ecap)) := Lib.hid fun u h => Ex.In.ext (HEW.out.trans h) _ _ HE.out
  have HTW : Hid (∀ u, Ext W u → TabsIn u (.slice TA tabs.length tc) tabs) := Lib.hid fun u h => HT.out.ext (HEW.out.trans h)
  have HRW : Hid (∀ u, Ext W u → RowsIn u (.slice RA rows.length rc) rows) := Lib.hid fun u h => HR.out.ext (HEW.out.trans h)
  have HLE : Hid (∀ u, Ext W u → At u w.heap.size 0 [.int .i64 e.kind, .int .i64 e.rel, .int .i64 e.col, .int .i64 e.const.kind, .int .i64 e.const.int, .float .f64 e.const.flt, .string e.const.text, (.slice EA e.kids.length ecap)]) := Lib.hid fun u h => (HBE1.out.ext h).cells
  clear HE HT HR HBE1
  have HX1 : Hid (ExsIn (W.alloc (.cells (exsCells [e] [.slice EA e.kids.length ecap]).toArray 27)) (.slice (some ⟨W.heap.size, 0, none⟩) 1 1) [e]) := Lib.hid (ExsIn.one (HIE.out _ (Ext.refl _)) rfl)
  have HFIT : Hid (∀ u, Ext W u → Calls Try.prog 35 #[.slice TA tabs.length tc, .slice RA rows.length rc] u fun ev w' => ev = .returned (.bool (fitR tabs rows)) ∧ Ext u w') := Lib.hid fun u h => fit_of _ _ tabs rows u (HTW.out u h) (HRW.out u h)
  have HS := Lib.hid (fun h => @type_sound tabs rows h e)
  have HZ := Lib.hid (type_zero tabs e)
  have HTY : Hid (∀ u, Ext W u → Calls Try.prog 36 #[.agg [.int .i64 e.kind, .int .i64 e.rel, .int .i64 e.col, .int .i64 e.const.kind, .int .i64 e.const.int, .float .f64 e.const.flt, .string e.const.text, (.slice EA e.kids.length ecap)].toArray, .slice TA tabs.length tc] u fun ev w' => ev = .returned (.tuple #[.int .i64 (e.type tabs).1, .int .i64 (e.type tabs).2]) ∧ Ext u w') := Lib.hid fun u h => Type_of e _ u _ tabs (HIE.out u h) (HTW.out u h)
  have HEV : Hid (∀ u, Ext W u → Calls Try.prog 28 #[.agg [.int .i64 e.kind, .int .i64 e.rel, .int .i64 e.col, .int .i64 e.const.kind, .int .i64 e.const.int, .float .f64 e.const.flt, .string e.const.text, (.slice EA e.kids.length ecap)].toArray, .slice RA rows.length rc] u fun ev w' => ev = .returned (.tuple #[(e.Eval rows).1.enc, .int .i64 (e.Eval rows).2]) ∧ Ext u w') := Lib.hid fun u h => Eval_of e _ u _ rows (HIE.out u h) (HRW.out u h)
  generalize e.type tabs = t at *
  generalize e.Eval rows = q at *
  unfold Val.enc at HEV
  have HRI := Lib.hid (fun u => right_of q.1 u HOK.out.flt)
  unfold Val.enc at HRI
  clear HOK
  by_cases h40 : tabs.length ≤ 40
  · have h40' : ¬ (40 : Int) < (tabs.length : Int) := by omega
    cases hfit : fitR tabs rows
    · rw [hfit] at HFIT
      clear hfit
      go_wp2_with (first
        | (refine wpList_wish rfl fun K hK => wp_loadA (vs := [.int .i64 e.kind, .int .i64 e.rel, .int .i64 e.col, .int .i64 e.const.kind, .int .i64 e.const.int, .float .f64 e.const.flt, .string e.const.text, (.slice EA e.kids.length ecap)]) agg_ex (.tmp 3) rfl rfl (HLE.out _ (by repeat (first | (with_reducible exact Ext.refl _) | (with_reducible refine Ext.set_ ?_ _ ?_; focus (first | (simp; done) | (simp; omega) | (simp at *; omega))) | (with_reducible refine Ext.alloc ?_ _) | (with_reducible refine Ext.drew ?_) | (with_reducible refine Ext.drewN ?_ _) | (with_reducible refine Ext.trans ?_ (by assumption))))) (hK _ _ ?_))
        | (go_at_call 14; refine (great_of [e] _ rows _ _ HX1.out (HRW.out _ ((Ext.refl _).alloc _))).mono ?_; rintro ev w2 ⟨hh, rfl⟩; obtain ⟨b1, rfl, hb1⟩ := hh.get; clear hb1; cases b1)
        | (go_at_call 35; refine (HFIT.out _ ((Ext.refl _).alloc _)).mono ?_; rintro ev w3 ⟨rfl, hb3⟩; have HE3 := Lib.hid (HEW.out.trans (((Ext.refl _).alloc _).trans hb3)); clear hb3))
      · go_ret
        exact ⟨rfl, HE3.out⟩
      · go_ret
        exact ⟨rfl, HEW.out.trans ((Ext.refl _).alloc _)⟩
    · rw [hfit] at HFIT
      have hS := HS.out hfit
      have HS2 := Lib.hid hS
      clear hfit HS hS
      go_upto_region 5 with (first
        | (refine wpList_wish rfl fun K hK => wp_loadA (vs := [.int .i64 e.kind, .int .i64 e.rel, .int .i64 e.col, .int .i64 e.const.kind, .int .i64 e.const.int, .float .f64 e.const.flt, .string e.const.text, (.slice EA e.kids.length ecap)]) agg_ex (.tmp 3) rfl rfl (HLE.out _ (by repeat (first | (with_reducible exact Ext.refl _) | (with_reducible refine Ext.set_ ?_ _ ?_; focus (first | (simp; done) | (simp; omega) | (simp at *; omega))) | (with_reducible refine Ext.alloc ?_ _) | (with_reducible refine Ext.drew ?_) | (with_reducible refine Ext.drewN ?_ _) | (with_reducible refine Ext.trans ?_ (by assumption))))) (hK _ _ ?_))
        | (go_at_call 14; refine (great_of [e] _ rows _ _ HX1.out (HRW.out _ ((Ext.refl _).alloc _))).mono ?_; rintro ev w2 ⟨hh, rfl⟩; obtain ⟨b1, rfl, hb1⟩ := hh.get; clear hb1; cases b1)
        | (go_at_call 35; refine (HFIT.out _ ((Ext.refl _).alloc _)).mono ?_; rintro ev w3 ⟨rfl, hb3⟩; have hW3 : Ext W w3 := ((Ext.refl _).alloc _).trans hb3; clear hb3))
      · by_cases ht : t.2 = 0
        · have ht' : (t.2 != 0) = false := by simp [ht]
          obtain ⟨hq1, hq2, hq3⟩ := HS2.out ht
          have hq1' : (q.2 == 0) = true := by simpa using hq1
          rw [hq2] at HRI
          clear HS2 HZ ht hq2
          have HQ1 := Lib.hid hq1; clear hq1
          by_cases hk0 : q.1.kind = 0
          · have hk' : (q.1.kind == 0) = true := by simpa using hk0
            clear hq3 hk0
            go_wp2_with (first
              | (refine wpList_wish rfl fun K hK => wp_loadA (vs := [.int .i64 e.kind, .int .i64 e.rel, .int .i64 e.col, .int .i64 e.const.kind, .int .i64 e.const.int, .float .f64 e.const.flt, .string e.const.text, (.slice EA e.kids.length ecap)]) agg_ex (.tmp 3) rfl rfl (HLE.out _ (by repeat (first | (with_reducible exact Ext.refl _) | (with_reducible refine Ext.set_ ?_ _ ?_; focus (first | (simp; done) | (simp; omega) | (simp at *; omega))) | (with_reducible refine Ext.alloc ?_ _) | (with_reducible refine Ext.drew ?_) | (with_reducible refine Ext.drewN ?_ _) | (with_reducible refine Ext.trans ?_ (by assumption))))) (hK _ _ ?_))
              | (go_at_call 36; refine (HTY.out _ hW3).mono ?_; rintro ev w4 ⟨rfl, hb4⟩; have hW4 := hW3.trans hb4; clear hb4)
              | (go_at_call 28; refine (HEV.out _ hW4).mono ?_; rintro ev w5 ⟨rfl, hb5⟩; have hW5 := hW4.trans hb5; clear hb5)
              | (refine wpList_wish rfl fun K hK => wp_loadA (vs := [.int .i64 q.1.kind, .int .i64 q.1.int, .float .f64 q.1.flt, .string q.1.text]) agg_val (.tmp 9) rfl rfl (At.new rfl _ _ _ rfl) (hK _ _ ?_))
              | (go_at_call 27; refine (HRI.out _).mono ?_; rintro ev w6 ⟨rfl, hb6⟩; have hW6 := (hW5.alloc _).trans hb6; have p9 := ((BoxAt.new (w := w5) (vs := [.int .i64 q.1.kind, .int .i64 q.1.int, .float .f64 q.1.flt, .string q.1.text]) (t := 24) rfl rfl).ext hb6).cells.1; clear hb6))
            go_ret
            exact ⟨rfl, HEW.out.trans hW6⟩
          · have hk' : (q.1.kind == 0) = false := by simpa using hk0
            have hk2 : q.1.kind = t.1 := by omega
            have hk2' : (q.1.kind == t.1) = true := by simpa using hk2
            clear hq3 hk0 hk2
            go_wp2_with (first
              | (refine wpList_wish rfl fun K hK => wp_loadA (vs := [.int .i64 e.kind, .int .i64 e.rel, .int .i64 e.col, .int .i64 e.const.kind, .int .i64 e.const.int, .float .f64 e.const.flt, .string e.const.text, (.slice EA e.kids.length ecap)]) agg_ex (.tmp 3) rfl rfl (HLE.out _ (by repeat (first | (with_reducible exact Ext.refl _) | (with_reducible refine Ext.set_ ?_ _ ?_; focus (first | (simp; done) | (simp; omega) | (simp at *; omega))) | (with_reducible refine Ext.alloc ?_ _) | (with_reducible refine Ext.drew ?_) | (with_reducible refine Ext.drewN ?_ _) | (with_reducible refine Ext.trans ?_ (by assumption))))) (hK _ _ ?_))
              | (go_at_call 36; refine (HTY.out _ hW3).mono ?_; rintro ev w4 ⟨rfl, hb4⟩; have hW4 := hW3.trans hb4; clear hb4)
              | (go_at_call 28; refine (HEV.out _ hW4).mono ?_; rintro ev w5 ⟨rfl, hb5⟩; have hW5 := hW4.trans hb5; clear hb5)
              | (refine wpList_wish rfl fun K hK => wp_loadA (vs := [.int .i64 q.1.kind, .int .i64 q.1.int, .float .f64 q.1.flt, .string q.1.text]) agg_val (.tmp 9) rfl rfl (At.new rfl _ _ _ rfl) (hK _ _ ?_))
              | (go_at_call 27; refine (HRI.out _).mono ?_; rintro ev w6 ⟨rfl, hb6⟩; have hW6 := (hW5.alloc _).trans hb6; have p9 := ((BoxAt.new (w := w5) (vs := [.int .i64 q.1.kind, .int .i64 q.1.int, .float .f64 q.1.flt, .string q.1.text]) (t := 24) rfl rfl).ext hb6).cells.1; clear hb6))
            go_ret
            exact ⟨rfl, HEW.out.trans hW6⟩
        · have ht' : (t.2 != 0) = true := by simpa using ht
          have hz := HZ.out ht
          have hz' : (t.1 == 0) = true := by simpa using hz
          clear HS2 HZ ht hz
          go_wp2_with (first
            | (refine wpList_wish rfl fun K hK => wp_loadA (vs := [.int .i64 e.kind, .int .i64 e.rel, .int .i64 e.col, .int .i64 e.const.kind, .int .i64 e.const.int, .float .f64 e.const.flt, .string e.const.text, (.slice EA e.kids.length ecap)]) agg_ex (.tmp 3) rfl rfl (HLE.out _ (by repeat (first | (with_reducible exact Ext.refl _) | (with_reducible refine Ext.set_ ?_ _ ?_; focus (first | (simp; done) | (simp; omega) | (simp at *; omega))) | (with_reducible refine Ext.alloc ?_ _) | (with_reducible refine Ext.drew ?_) | (with_reducible refine Ext.drewN ?_ _) | (with_reducible refine Ext.trans ?_ (by assumption))))) (hK _ _ ?_))
            | (go_at_call 36; refine (HTY.out _ hW3).mono ?_; rintro ev w4 ⟨rfl, hb4⟩; have hW4 := hW3.trans hb4; clear hb4))
          go_ret
          exact ⟨rfl, HEW.out.trans hW4⟩
      · go_ret
        exact ⟨rfl, HEW.out.trans ((Ext.refl _).alloc _)⟩
  · have h40' : (40 : Int) < (tabs.length : Int) := by omega
    go_wp2_with (first
      | (refine wpList_wish rfl fun K hK => wp_loadA (vs := [.int .i64 e.kind, .int .i64 e.rel, .int .i64 e.col, .int .i64 e.const.kind, .int .i64 e.const.int, .float .f64 e.const.flt, .string e.const.text, (.slice EA e.kids.length ecap)]) agg_ex (.tmp 3) rfl rfl (HLE.out _ (by repeat (first | (with_reducible exact Ext.refl _) | (with_reducible refine Ext.set_ ?_ _ ?_; focus (first | (simp; done) | (simp; omega) | (simp at *; omega))) | (with_reducible refine Ext.alloc ?_ _) | (with_reducible refine Ext.drew ?_) | (with_reducible refine Ext.drewN ?_ _) | (with_reducible refine Ext.trans ?_ (by assumption))))) (hK _ _ ?_))
      | (go_at_call 14; refine (great_of [e] _ rows _ _ HX1.out (HRW.out _ ((Ext.refl _).alloc _))).mono ?_; rintro ev w2 ⟨hh, rfl⟩; obtain ⟨b1, rfl, hb1⟩ := hh.get; clear hb1; cases b1))
    all_goals
      go_ret
      exact ⟨rfl, HEW.out.trans ((Ext.refl _).alloc _)⟩
end Go.Proofs.Ytlcdjaclahhdnaa
