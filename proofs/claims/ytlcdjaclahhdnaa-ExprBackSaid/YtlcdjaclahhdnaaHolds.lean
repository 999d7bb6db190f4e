/- Lists of expressions that hold: plain. The call of expr.Holds. -/
import Derived.Test.YtlcdjaclahhdnaaEval
namespace Go.Proofs.Ytlcdjaclahhdnaa
open Go.RowKit
set_option linter.unusedSimpArgs false
set_option linter.unusedVariables false

/-- expr.Holds. -/
def holds (rows : List (List Val)) : List Ex → Bool × Int
  | [] => (true, 0)
  | e :: l => if (e.Eval rows).2 ≠ 0 then (false, (e.Eval rows).2) else if (e.Eval rows).1.kind ≠ 1 ∨ (e.Eval rows).1.int ≠ 1 then (false, 0) else holds rows l
theorem holds_drop (rows : List (List Val)) (l : List Ex) (i : Nat) (hi : i < l.length) :
    holds rows (l.drop i) = if (l[i].Eval rows).2 ≠ 0 then (false, (l[i].Eval rows).2) else if (l[i].Eval rows).1.kind ≠ 1 ∨ (l[i].Eval rows).1.int ≠ 1 then (false, 0) else holds rows (l.drop (i + 1)) := by
  rw [List.drop_eq_getElem_cons hi]; rfl
theorem Eval_ok {rows : List (List Val)} (h : ∀ r ∈ rows, ∀ v ∈ r, v.Ok) (e : Ex) (w : World) (s : Value) (hin : Ex.In w e s) : (e.Eval rows).1.Ok := by
  unfold Ex.Eval
  split
  · split
    · exact Ex.eval_ok h e w s hin
    · exact Val.null_ok
  · exact Val.null_ok
end Go.Proofs.Ytlcdjaclahhdnaa
namespace Go.Proofs.Ytlcdjaclahhdnaa
open Go.RowKit
set_option linter.unusedSimpArgs false
set_option linter.unusedVariables false

set_option maxRecDepth 100000 in
set_option maxHeartbeats 2000000 in
theorem holds_of (l : List Ex) (x : Value) (w : World) (rv : Value) (rows : List (List Val)) (hx : ExsIn w x l) (hrows : RowsIn w rv rows) :
    Calls Try.prog 30 #[x, rv] w fun ev w' => ev = .returned (.tuple #[.bool (holds rows l).1, .int .i64 (holds rows l).2]) ∧ Ext w w' := by
  obtain ⟨hlm, A, cap, rfl, _⟩ := hx.2 |> fun h => (⟨hx.1, h⟩ : l.length ≤ 9223372036854775807 ∧ _)
  have HX := Lib.hid hx; have HR := Lib.hid hrows
  clear hx hrows
  go_enter Try.func30, Try.ntmps30
  go_wp2_with fail
  go_loopw [12] (fun y wr => ∃ i : Nat, y = .int .i64 (i : Int) ∧ i ≤ l.length ∧ holds rows l = holds rows (l.drop i) ∧ Ext w wr) (fun y _ => l.length - (intOf y).toNat)
  case atStart => exact ⟨0, rfl, by omega, rfl, Ext.refl _⟩
  case round =>
    rename_i hrel
    obtain ⟨i, rfl, hi, hh, hE⟩ := hrel
    have HH := Lib.hid hh; clear hh
    by_cases hlt : i < l.length
    · have hlt' : (i : Int) < (l.length : Int) := by omega
      have hw : wrap64 ((i : Int) + 1) = (i : Int) + 1 := by unfold wrap64; omega
      obtain ⟨g, o, s', rfl, _, hat, hin2, hg⟩ := (HX.out.ext hE).get i hlt
      obtain ⟨_, A', cap', rfl, _⟩ := (Ex.In.mk_inv hin2).2.2.2.2
      have HD := Lib.hid (holds_drop rows l i hlt)
      have hcall := Lib.hid (fun u (he : Ext wr u) => Eval_of l[i] (.slice A' l[i].kids.length cap') u rv rows (Ex.In.ext he _ _ hin2) ((HR.out.ext hE).ext he))
      have HAT := Lib.hid hat
      clear hat hin2
      unfold Ex.cells exCells at HAT hcall
      generalize l[i] = e at *
      generalize e.Eval rows = q at *
      by_cases h1 : q.2 = 0
      · by_cases h2 : q.1.kind = 1
        · by_cases h3 : q.1.int = 1
          · go_wp2_with (first
            | (refine wpList_wish rfl fun K hK => wp_idxS (i := i) Try.underlying25 size_ex (.tmp 10) _ rfl rfl rfl hlt (hK _ _ ?_))
            | (refine wpList_wish rfl fun K hK => wp_loadA (vs := [.int .i64 e.kind, .int .i64 e.rel, .int .i64 e.col, .int .i64 e.const.kind, .int .i64 e.const.int, .float .f64 e.const.flt, .string e.const.text, .slice A' e.kids.length cap']) agg_ex (.tmp 14) rfl rfl HAT.out (hK _ _ ?_))
            | (refine wpList_wish rfl fun K hK => wp_loadA (vs := [.int .i64 e.kind, .int .i64 e.rel, .int .i64 e.col, .int .i64 e.const.kind, .int .i64 e.const.int, .float .f64 e.const.flt, .string e.const.text, .slice A' e.kids.length cap']) agg_ex (.tmp 7) rfl rfl (At.new rfl _ _ _ rfl) (hK _ _ ?_))
            | (go_at_call 28; refine (hcall.out _ ((Ext.refl _).alloc _)).mono ?_; rintro ev w2 ⟨rfl, hb⟩))
            refine ⟨⟨i + 1, by simp, by omega, ?_, ?_⟩, by simp [intOf] <;> omega⟩
            · rw [HH.out, HD.out, if_neg (by simpa using h1), if_neg (by omega)]
            · have hE9 := hE.trans (((Ext.refl _).alloc _).trans hb)
              repeat (first | (with_reducible exact Ext.refl _) | (with_reducible refine Ext.set_ ?_ _ ?_; focus (first | (simp; done) | (simp; omega) | (simp at *; omega))) | (with_reducible refine Ext.alloc ?_ _) | (with_reducible refine Ext.drew ?_) | (with_reducible refine Ext.drewN ?_ _) | (with_reducible refine Ext.trans ?_ (by assumption)))
          · have h3' : (q.1.int != 1) = true := by simpa using h3
            go_wp2_with (first
            | (refine wpList_wish rfl fun K hK => wp_idxS (i := i) Try.underlying25 size_ex (.tmp 10) _ rfl rfl rfl hlt (hK _ _ ?_))
            | (refine wpList_wish rfl fun K hK => wp_loadA (vs := [.int .i64 e.kind, .int .i64 e.rel, .int .i64 e.col, .int .i64 e.const.kind, .int .i64 e.const.int, .float .f64 e.const.flt, .string e.const.text, .slice A' e.kids.length cap']) agg_ex (.tmp 14) rfl rfl HAT.out (hK _ _ ?_))
            | (refine wpList_wish rfl fun K hK => wp_loadA (vs := [.int .i64 e.kind, .int .i64 e.rel, .int .i64 e.col, .int .i64 e.const.kind, .int .i64 e.const.int, .float .f64 e.const.flt, .string e.const.text, .slice A' e.kids.length cap']) agg_ex (.tmp 7) rfl rfl (At.new rfl _ _ _ rfl) (hK _ _ ?_))
            | (go_at_call 28; refine (hcall.out _ ((Ext.refl _).alloc _)).mono ?_; rintro ev w2 ⟨rfl, hb⟩))
            all_goals go_ret2
            all_goals refine ⟨by rw [HH.out, HD.out, if_neg (by simpa using h1), if_pos (by omega)]; rfl, ?_⟩
            all_goals (have hE9 := hE.trans (((Ext.refl _).alloc _).trans hb); repeat (first | (with_reducible exact Ext.refl _) | (with_reducible refine Ext.set_ ?_ _ ?_; focus (first | (simp; done) | (simp; omega) | (simp at *; omega))) | (with_reducible refine Ext.alloc ?_ _) | (with_reducible refine Ext.drew ?_) | (with_reducible refine Ext.drewN ?_ _) | (with_reducible refine Ext.trans ?_ (by assumption))))
        · have h2' : (q.1.kind != 1) = true := by simpa using h2
          go_wp2_with (first
          | (refine wpList_wish rfl fun K hK => wp_idxS (i := i) Try.underlying25 size_ex (.tmp 10) _ rfl rfl rfl hlt (hK _ _ ?_))
          | (refine wpList_wish rfl fun K hK => wp_loadA (vs := [.int .i64 e.kind, .int .i64 e.rel, .int .i64 e.col, .int .i64 e.const.kind, .int .i64 e.const.int, .float .f64 e.const.flt, .string e.const.text, .slice A' e.kids.length cap']) agg_ex (.tmp 14) rfl rfl HAT.out (hK _ _ ?_))
          | (refine wpList_wish rfl fun K hK => wp_loadA (vs := [.int .i64 e.kind, .int .i64 e.rel, .int .i64 e.col, .int .i64 e.const.kind, .int .i64 e.const.int, .float .f64 e.const.flt, .string e.const.text, .slice A' e.kids.length cap']) agg_ex (.tmp 7) rfl rfl (At.new rfl _ _ _ rfl) (hK _ _ ?_))
          | (go_at_call 28; refine (hcall.out _ ((Ext.refl _).alloc _)).mono ?_; rintro ev w2 ⟨rfl, hb⟩))
          all_goals go_ret2
          all_goals refine ⟨by rw [HH.out, HD.out, if_neg (by simpa using h1), if_pos (by omega)]; rfl, ?_⟩
          all_goals (have hE9 := hE.trans (((Ext.refl _).alloc _).trans hb); repeat (first | (with_reducible exact Ext.refl _) | (with_reducible refine Ext.set_ ?_ _ ?_; focus (first | (simp; done) | (simp; omega) | (simp at *; omega))) | (with_reducible refine Ext.alloc ?_ _) | (with_reducible refine Ext.drew ?_) | (with_reducible refine Ext.drewN ?_ _) | (with_reducible refine Ext.trans ?_ (by assumption))))
      · have h1' : (q.2 != 0) = true := by simpa using h1
        go_wp2_with (first
          | (refine wpList_wish rfl fun K hK => wp_idxS (i := i) Try.underlying25 size_ex (.tmp 10) _ rfl rfl rfl hlt (hK _ _ ?_))
          | (refine wpList_wish rfl fun K hK => wp_loadA (vs := [.int .i64 e.kind, .int .i64 e.rel, .int .i64 e.col, .int .i64 e.const.kind, .int .i64 e.const.int, .float .f64 e.const.flt, .string e.const.text, .slice A' e.kids.length cap']) agg_ex (.tmp 14) rfl rfl HAT.out (hK _ _ ?_))
          | (refine wpList_wish rfl fun K hK => wp_loadA (vs := [.int .i64 e.kind, .int .i64 e.rel, .int .i64 e.col, .int .i64 e.const.kind, .int .i64 e.const.int, .float .f64 e.const.flt, .string e.const.text, .slice A' e.kids.length cap']) agg_ex (.tmp 7) rfl rfl (At.new rfl _ _ _ rfl) (hK _ _ ?_))
          | (go_at_call 28; refine (hcall.out _ ((Ext.refl _).alloc _)).mono ?_; rintro ev w2 ⟨rfl, hb⟩))
        all_goals go_ret2
        all_goals refine ⟨by rw [HH.out, HD.out, if_pos (by simpa using h1)]; rfl, ?_⟩
        all_goals (have hE9 := hE.trans (((Ext.refl _).alloc _).trans hb); repeat (first | (with_reducible exact Ext.refl _) | (with_reducible refine Ext.set_ ?_ _ ?_; focus (first | (simp; done) | (simp; omega) | (simp at *; omega))) | (with_reducible refine Ext.alloc ?_ _) | (with_reducible refine Ext.drew ?_) | (with_reducible refine Ext.drewN ?_ _) | (with_reducible refine Ext.trans ?_ (by assumption))))
    · have hlt' : ¬ ((i : Int) < (l.length : Int)) := by omega
      obtain rfl : i = l.length := by omega
      have e1 : holds rows l = (true, 0) := by rw [HH.out, List.drop_of_length_le (Nat.le_refl _)]; rfl
      rw [e1]
      go_wp2_with fail
      go_ret2
      exact ⟨rfl, hE⟩
end Go.Proofs.Ytlcdjaclahhdnaa
