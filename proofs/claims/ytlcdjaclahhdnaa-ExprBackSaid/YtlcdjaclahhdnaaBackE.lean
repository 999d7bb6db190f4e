/- The call of the law ExprBack: true, whatever the expression and the bytes behind it. -/
import Derived.Test.YtlcdjaclahhdnaaTakeA
import Derived.Test.YtlcdjaclahhdnaaBack
import Derived.Test.YtlcdjaclahhdnaaSafeA
namespace Go.Proofs.Ytlcdjaclahhdnaa
open Go.RowKit
set_option linter.unusedSimpArgs false
set_option linter.unusedVariables false

theorem exsIn_one {w : World} {e : Ex} {se : Value} {A : Array Value} (he : Ex.In w e se) (hA : A = (exsCells [e] [se]).toArray) : ExsIn (w.alloc (.cells A 27)) (.slice (some ⟨w.heap.size, 0, none⟩) 1 1) [e] := by
  refine ExsIn.new rfl rfl (by decide) (by decide) hA ?_
  intro i hi hj
  match i, hi with
  | 0, _ => exact he
theorem put_ne (e : Ex) : e.put ≠ [] := by cases e; simp [Ex.put]

set_option maxRecDepth 100000 in
set_option maxHeartbeats 20000000 in
theorem backE_walk (e : Ex) (se x : Value) (l : List Nat) (w : World) (hine : Ex.In w e se) (hx : BytesIn w x l) :
    Calls Try.prog 3 #[.agg (e.cells se).toArray, x] w fun ev w' => ev = .returned (.bool true) ∧ Ext w w' := by
  obtain ⟨-, EA, ecap, rfl, -⟩ := hine.mk_inv.2.2.2.2
  obtain ⟨oa, n, c, rfl, hn⟩ : ∃ oa n c, x = .slice oa n c ∧ n = l.length := by
    rcases hx with ⟨rfl, rfl⟩ | ⟨ad, c, rfl, _⟩
    · exact ⟨none, 0, 0, rfl, rfl⟩
    · exact ⟨some ad, _, c, rfl, rfl⟩
  subst hn
  have hok := Ex.In.oks _ _ hine
  have HOK := Lib.hid hok
  have HE := Lib.hid hine; have HX := Lib.hid hx
  have hbe : BoxAt (w.alloc (.cells (e.cells (.slice EA e.kids.length ecap)).toArray 27)) w.heap.size (e.cells (.slice EA e.kids.length ecap)) := BoxAt.new rfl rfl
  have hE0 : Ext w (w.alloc (.cells (e.cells (.slice EA e.kids.length ecap)).toArray 27)) := (Ext.refl _).alloc _
  have HBE := Lib.hid hbe; have HE0 := Lib.hid hE0
  clear hbe hE0 hine hx hok
  unfold Ex.cells exCells at *
  go_enter Try.func3, Try.ntmps3
  go_upto_region 3 with (go_at_call 13; refine (works22 _).mono ?_; rintro ev W ⟨rfl, hb1⟩; have hEW := HE0.out.trans hb1; have HBE1 := Lib.hid (HBE.out.ext hb1); have HEW := Lib.hid hEW; clear HBE HE0 hb1 hEW)
  have HIE : Hid (∀ u, Ext W u → Ex.In u e (.slice EA e.kids.length ecap)) := Lib.hid fun u h => Ex.In.ext (HEW.out.trans h) _ _ HE.out
  have HXW : Hid (∀ u, Ext W u → BytesIn u (.slice oa l.length c) l) := Lib.hid fun u h => HX.out.ext (HEW.out.trans h)
  have HLE : Hid (∀ u, Ext W u → At u w.heap.size 0 [.int .i64 e.kind, .int .i64 e.rel, .int .i64 e.col, .int .i64 e.const.kind, .int .i64 e.const.int, .float .f64 e.const.flt, .string e.const.text, (.slice EA e.kids.length ecap)]) := Lib.hid fun u h => (HBE1.out.ext h).cells
  have HBW : Hid (∀ u, Ext W u → BoxAt u w.heap.size [.int .i64 e.kind, .int .i64 e.rel, .int .i64 e.col, .int .i64 e.const.kind, .int .i64 e.const.int, .float .f64 e.const.flt, .string e.const.text, (.slice EA e.kids.length ecap)]) := Lib.hid fun u h => HBE1.out.ext h
  have hwW : w.heap.size < W.heap.size := HBE1.out.lt
  clear HE HX HBE1
  have HX1 : Hid (ExsIn (W.alloc (.cells (exsCells [e] [.slice EA e.kids.length ecap]).toArray 27)) (.slice (some ⟨W.heap.size, 0, none⟩) 1 1) [e]) := Lib.hid (exsIn_one (HIE.out _ (Ext.refl _)) rfl)
  have HFO : Hid (∀ u, Ext W u → Calls Try.prog 15 #[.agg [.int .i64 e.kind, .int .i64 e.rel, .int .i64 e.col, .int .i64 e.const.kind, .int .i64 e.const.int, .float .f64 e.const.flt, .string e.const.text, (.slice EA e.kids.length ecap)].toArray] u fun ev w' => ev = .returned (.bool (decide (0 ≤ e.count 1 400))) ∧ Ext u w') := Lib.hid fun u h => formed_of e _ u (HIE.out u h)
  have hgn : Hid (∀ u, RowsIn u (.slice none 0 0) []) := Lib.hid fun u => ⟨⟨none, 0, rfl, Nat.le_refl _, fun _ => rfl, fun h => absurd rfl h⟩, by simp, by simp⟩
  unfold exsCells at HX1
  simp only [exsCells, Ex.cells, exCells, List.append_nil] at HX1
  by_cases h1000 : l.length ≤ 1000
  · have hq : decide ((1000 : Int) < (l.length : Int)) = false := by simp; omega
    by_cases hf : 0 ≤ e.count 1 400
    · have hwf := Ex.count_wf e 1 400 hf
      have hcs := Ex.count_says e 1 400 hf
      have hn4 : e.nodes ≤ 400 := by omega
      have hh : 1 + e.high ≤ 25 := by omega
      have HPU : Hid (∀ u, Ext W u → Calls Try.prog 17 #[.slice none 0 0, .agg [.int .i64 e.kind, .int .i64 e.rel, .int .i64 e.col, .int .i64 e.const.kind, .int .i64 e.const.int, .float .f64 e.const.flt, .string e.const.text, (.slice EA e.kids.length ecap)].toArray] u fun ev w' => ∃ v', ev = .returned v' ∧ OwnB w' u.heap.size v' e.put ∧ Wr 5 u.heap.size u w' ∧ e.put.length ≤ 101 * e.nodes) := Lib.hid fun u h => by
        have h1 := put_of u u.heap.size (Nat.le_refl _) e _ (.slice none 0 0) [] u (HIE.out u h) hwf (Ext.refl _) (Nat.le_refl _) (OwnB.nil _ _) (by simp; omega)
        rw [List.nil_append] at h1
        exact h1
      have HTA : Hid (∀ r B rest u, Rd u r B (e.put ++ rest) → Calls Try.prog 18 #[.pointer (some ⟨r, 0, none⟩)] u fun ev w' => ∃ A n cap, ev = .returned (.tuple #[.agg (e.plain.cells (.slice A n cap)).toArray, .int .i64 0]) ∧ Ex.In w' e.plain (.slice A n cap) ∧ Rd w' r B rest ∧ ButS (fun k => k = r) u w') := Lib.hid fun r B rest u h => take_of_ex r B e rest u HOK.out hwf hh hn4 h
      have HSA := Lib.hid (fun s t u h1 h2 => by have h := exsame_of e.plain e s t u h1 h2; rw [Ex.same_plain e HOK.out hwf] at h; exact h)
      have HFP := Lib.hid (fun s u h1 => by have h := formed_of e.plain s u h1; rw [Ex.count_plain e 1 400 HOK.out hf, decide_eq_true hf] at h; exact h)
      have hd : decide (0 ≤ e.count 1 400) = true := decide_eq_true hf
      rw [hd] at HFO
      have hln : 101 * e.nodes ≤ 40400 := by omega
      clear hcs hwf hf hd hh
      have HPN := Lib.hid (put_ne e)
      unfold Ex.cells exCells at HTA HSA HFP
      go_upto_region 5 with (first
        | (simp only [hq])
        | (refine wpList_wish rfl fun K hK => wp_loadA (vs := [.int .i64 e.kind, .int .i64 e.rel, .int .i64 e.col, .int .i64 e.const.kind, .int .i64 e.const.int, .float .f64 e.const.flt, .string e.const.text, (.slice EA e.kids.length ecap)]) agg_ex (.tmp 2) rfl rfl (HLE.out _ (by repeat (first | (with_reducible exact Ext.refl _) | (with_reducible refine Ext.set_ ?_ _ ?_; focus (first | (simp; done) | (simp; omega) | (simp at *; omega))) | (with_reducible refine Ext.alloc ?_ _) | (with_reducible refine Ext.drew ?_) | (with_reducible refine Ext.drewN ?_ _) | (with_reducible refine Ext.trans ?_ (by assumption))))) (hK _ _ ?_))
        | (go_at_call 14; refine (great_of [e] _ [] _ _ HX1.out (hgn.out _)).mono ?_; rintro ev w2 ⟨hh, rfl⟩; obtain ⟨b1, rfl, hb1⟩ := hh.get; clear hb1; cases b1)
        | (go_at_call 15; refine (HFO.out _ (by repeat (first | (with_reducible exact Ext.refl _) | (with_reducible refine Ext.set_ ?_ _ ?_; focus (first | (simp; done) | (simp; omega) | (simp at *; omega))) | (with_reducible refine Ext.alloc ?_ _) | (with_reducible refine Ext.drew ?_) | (with_reducible refine Ext.drewN ?_ _) | (with_reducible refine Ext.trans ?_ (by assumption))))).mono ?_; rintro ev w3 ⟨rfl, hb3⟩))
      rotate_left
      · go_ret
        exact ⟨rfl, HEW.out.trans (by repeat (first | (with_reducible exact Ext.refl _) | (with_reducible refine Ext.set_ ?_ _ ?_; focus (first | (simp; done) | (simp; omega) | (simp at *; omega))) | (with_reducible refine Ext.alloc ?_ _) | (with_reducible refine Ext.drew ?_) | (with_reducible refine Ext.drewN ?_ _) | (with_reducible refine Ext.trans ?_ (by assumption))))⟩
      refine nameW (fun u => Ext W u) (by repeat (first | (with_reducible exact Ext.refl _) | (with_reducible refine Ext.set_ ?_ _ ?_; focus (first | (simp; done) | (simp; omega) | (simp at *; omega))) | (with_reducible refine Ext.alloc ?_ _) | (with_reducible refine Ext.drew ?_) | (with_reducible refine Ext.drewN ?_ _) | (with_reducible refine Ext.trans ?_ (by assumption)))) ?_
      intro U hEU
      clear hb3 HX1 HFO
      go_wp2_with (first
        | (refine wpList_wish rfl fun K hK => wp_loadA (vs := [.int .i64 e.kind, .int .i64 e.rel, .int .i64 e.col, .int .i64 e.const.kind, .int .i64 e.const.int, .float .f64 e.const.flt, .string e.const.text, (.slice EA e.kids.length ecap)]) agg_ex (.tmp 2) rfl rfl (HLE.out _ hEU) (hK _ _ ?_))
        | (refine wpList_wish rfl fun K hK => wp_loadA (vs := [.int .i64 e.kind, .int .i64 e.rel, .int .i64 e.col, .int .i64 e.const.kind, .int .i64 e.const.int, .float .f64 e.const.flt, .string e.const.text, (.slice EA e.kids.length ecap)]) agg_ex (.tmp 2) rfl rfl (HLE.out _ (hE4.trans ((Ext.refl _).alloc _))) (hK _ _ ?_))
        | (refine wpList_wish rfl fun K hK => wp_loadA (vs := [.int .i64 e.plain.kind, .int .i64 e.plain.rel, .int .i64 e.plain.col, .int .i64 e.plain.const.kind, .int .i64 e.plain.const.int, .float .f64 e.plain.const.flt, .string e.plain.const.text, (.slice A4 n4 c4)]) agg_ex (.tmp 6) rfl rfl (BoxAt.ext (by repeat (first | (with_reducible exact Ext.refl _) | (with_reducible refine Ext.set_ ?_ _ ?_; focus (first | (simp; done) | (simp; omega) | (simp at *; omega))) | (with_reducible refine Ext.alloc ?_ _) | (with_reducible refine Ext.drew ?_) | (with_reducible refine Ext.drewN ?_ _) | (with_reducible refine Ext.trans ?_ (by assumption)))) (BoxAt.new (w := w4) (t := 27) (vs := [.int .i64 e.plain.kind, .int .i64 e.plain.rel, .int .i64 e.plain.col, .int .i64 e.plain.const.kind, .int .i64 e.plain.const.int, .float .f64 e.plain.const.flt, .string e.plain.const.text, (.slice A4 n4 c4)]) rfl rfl)).cells (hK _ _ ?_))
        | (go_at_call 17; refine (HPU.out _ hEU).mono ?_; rintro ev w1 ⟨v1, rfl, ho1, hw1, hl1⟩; have hs1 := hw1.size; have hE1 : Ext W w1 := hEU.trans (hw1.to_ext (Nat.le_refl _)))
        | (at_builtin; refine wpList_bytes (l := e.put) (m := l) (base := U.heap.size) rfl (.tmp 24) (.tmp 25) rfl rfl ho1 rfl ?_ ?_ ?_ ?_ ?_; (focus exact HXW.out _ hE1); (focus omega); (focus omega); (focus omega); intro v2 w2 ho2 hw2; obtain ⟨g, cc, rfl, hg1, hg2, hgc, hga⟩ := ho2.some (by simp [HPN.out]); have hE2 : Ext W w2 := hEU.trans ((hw1.trans hw2).to_ext (Nat.le_refl _)); have HGA := Lib.hid hga; have hs2 := hE2.size; clear hga)
        | (go_at_call 16; refine (read_of g _ cc 0 _ (e.put ++ l) hg2 List.length_append (List.length_append ▸ hgc) HGA.out).mono ?_; rintro e' w3 ⟨rfl, hr3, hb3⟩; have HR3 := Lib.hid hr3; have hE3 : Ext W w3 := hE2.trans hb3; clear hr3 hb3)
        | (go_at_call 18; refine (HTA.out _ g l _ HR3.out).mono ?_; rintro ev w4 ⟨A4, n4, c4, rfl, hi4, hr4, hb4⟩; have hE4 : Ext W w4 := ButS.to_ext hE3 hb4 (fun k hk => by subst hk; omega); have HI4 := Lib.hid hi4; have HR4 := Lib.hid hr4; clear hi4 hr4 hb4)
        | (go_at_call 19; refine (HSA.out _ _ _ (Ex.In.ext ((Ext.refl _).alloc _) _ _ HI4.out) (HIE.out _ (hE4.trans ((Ext.refl _).alloc _)))).mono ?_; rintro ev w5 ⟨rfl, hb5⟩; have hE5 : Hid (Ext w4 w5) := Lib.hid (((Ext.refl _).alloc _).trans hb5))
        | (go_at_call 15; refine (HFP.out _ _ (Ex.In.ext hE5.out _ _ HI4.out)).mono ?_; rintro ev w6 ⟨rfl, hb6⟩; have hE6 : Hid (Ext w4 w6) := Lib.hid (hE5.out.trans hb6); clear hb6)
        | (go_at_call 20; refine (left_of _ g l _ (HR4.out.ext hE6.out)).mono ?_; rintro e' w7 ⟨rfl, rfl⟩))
      go_ret
      refine ⟨?_, HEW.out.trans (hE4.trans hE6.out)⟩
      rfl
    · have hd : decide (0 ≤ e.count 1 400) = false := decide_eq_false hf
      rw [hd] at HFO
      clear hd hf
      go_wp2_with (first
        | (simp only [hq])
        | (refine wpList_wish rfl fun K hK => wp_loadA (vs := [.int .i64 e.kind, .int .i64 e.rel, .int .i64 e.col, .int .i64 e.const.kind, .int .i64 e.const.int, .float .f64 e.const.flt, .string e.const.text, (.slice EA e.kids.length ecap)]) agg_ex (.tmp 2) rfl rfl (HLE.out _ (by repeat (first | (with_reducible exact Ext.refl _) | (with_reducible refine Ext.set_ ?_ _ ?_; focus (first | (simp; done) | (simp; omega) | (simp at *; omega))) | (with_reducible refine Ext.alloc ?_ _) | (with_reducible refine Ext.drew ?_) | (with_reducible refine Ext.drewN ?_ _) | (with_reducible refine Ext.trans ?_ (by assumption))))) (hK _ _ ?_))
        | (go_at_call 14; refine (great_of [e] _ [] _ _ HX1.out (hgn.out _)).mono ?_; rintro ev w2 ⟨hh, rfl⟩; obtain ⟨b1, rfl, hb1⟩ := hh.get; clear hb1; cases b1)
        | (go_at_call 15; refine (HFO.out _ (by repeat (first | (with_reducible exact Ext.refl _) | (with_reducible refine Ext.set_ ?_ _ ?_; focus (first | (simp; done) | (simp; omega) | (simp at *; omega))) | (with_reducible refine Ext.alloc ?_ _) | (with_reducible refine Ext.drew ?_) | (with_reducible refine Ext.drewN ?_ _) | (with_reducible refine Ext.trans ?_ (by assumption))))).mono ?_; rintro ev w3 ⟨rfl, hb3⟩))
      all_goals go_ret
      all_goals exact ⟨rfl, HEW.out.trans (by repeat (first | (with_reducible exact Ext.refl _) | (with_reducible refine Ext.set_ ?_ _ ?_; focus (first | (simp; done) | (simp; omega) | (simp at *; omega))) | (with_reducible refine Ext.alloc ?_ _) | (with_reducible refine Ext.drew ?_) | (with_reducible refine Ext.drewN ?_ _) | (with_reducible refine Ext.trans ?_ (by assumption))))⟩
  · have hq : decide ((1000 : Int) < (l.length : Int)) = true := by simp; omega
    go_wp2_with (first
        | (simp only [hq])
        | (refine wpList_wish rfl fun K hK => wp_loadA (vs := [.int .i64 e.kind, .int .i64 e.rel, .int .i64 e.col, .int .i64 e.const.kind, .int .i64 e.const.int, .float .f64 e.const.flt, .string e.const.text, (.slice EA e.kids.length ecap)]) agg_ex (.tmp 2) rfl rfl (HLE.out _ (by repeat (first | (with_reducible exact Ext.refl _) | (with_reducible refine Ext.set_ ?_ _ ?_; focus (first | (simp; done) | (simp; omega) | (simp at *; omega))) | (with_reducible refine Ext.alloc ?_ _) | (with_reducible refine Ext.drew ?_) | (with_reducible refine Ext.drewN ?_ _) | (with_reducible refine Ext.trans ?_ (by assumption))))) (hK _ _ ?_))
        | (go_at_call 14; refine (great_of [e] _ [] _ _ HX1.out (hgn.out _)).mono ?_; rintro ev w2 ⟨hh, rfl⟩; obtain ⟨b1, rfl, hb1⟩ := hh.get; clear hb1; cases b1))
    all_goals go_ret
    all_goals exact ⟨rfl, HEW.out.trans (by repeat (first | (with_reducible exact Ext.refl _) | (with_reducible refine Ext.set_ ?_ _ ?_; focus (first | (simp; done) | (simp; omega) | (simp at *; omega))) | (with_reducible refine Ext.alloc ?_ _) | (with_reducible refine Ext.drew ?_) | (with_reducible refine Ext.drewN ?_ _) | (with_reducible refine Ext.trans ?_ (by assumption))))⟩
end Go.Proofs.Ytlcdjaclahhdnaa
