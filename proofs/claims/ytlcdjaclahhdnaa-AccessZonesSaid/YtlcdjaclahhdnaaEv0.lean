/- The call of expr.eval on a column: one way. The call of expr.eval on a column: one way. The call of expr.eval on a column: one way. The call of expr.eval on a column. -/
import Derived.Test.YtlcdjaclahhdnaaEv0a
import Derived.Test.YtlcdjaclahhdnaaQ
namespace Go.Proofs.Ytlcdjaclahhdnaa
open Go.RowKit
set_option linter.unusedSimpArgs false
set_option linter.unusedVariables false
attribute [local irreducible] wpQuiet

set_option maxRecDepth 100000 in
set_option maxHeartbeats 8000000 in
theorem eval_col_r (R C : Nat) (v : Val) (A : Option Addr) (cap : Nat) (rv : Value) (rows : List (List Val)) (w : World) (hrows : RowsIn w rv rows) (h1 : ¬ R < rows.length) :
    Calls Try.prog 86 #[.agg (exCells 1 (R : Int) (C : Int) v (.slice A 0 cap)).toArray, rv] w fun e w' => e = .returned (lookup rows (R : Int) (C : Int)).enc ∧ Ext w w' := by
  obtain ⟨RA, rc, rfl, hrc⟩ := hrows.val
  have HR := Lib.hid hrows; clear hrows hrc
  have hq1 : decide ((R : Int) < (rows.length : Int)) = false := by simp; omega
  have hq1n : decide (R < rows.length) = false := by simp; omega
  have HL := Lib.hid (show lookup rows (R : Int) (C : Int) = Val.null by unfold lookup; simp [List.getElem?_eq_none (show rows.length ≤ R by omega)])
  generalize lookup rows (R : Int) (C : Int) = u at *
  unfold exCells
  go_enter Try.func86, Try.ntmps86
  go_wp2_with fail
  refine wp_region_extF (fun u => Ext w u ∧ BoxAt u w.heap.size (exCells 1 (R : Int) (C : Int) v (.slice A 0 cap)) ∧ BoxAt u (w.heap.size + 1) nullCells) ⟨?_, ?_, ?_⟩ (by kernel_rfl) (by kernel_rfl) ?_
  · repeat (first | (with_reducible exact Ext.refl _) | (with_reducible refine Ext.set_ ?_ _ ?_; focus (first | (simp; done) | (simp; omega) | (simp at *; omega))) | (with_reducible refine Ext.alloc ?_ _) | (with_reducible refine Ext.drew ?_) | (with_reducible refine Ext.drewN ?_ _) | (with_reducible refine Ext.trans ?_ (by assumption)))
  · exact (((BoxAt.new rfl rfl).ext ((Ext.refl _).alloc _)).ext ((Ext.refl _).alloc _)).ext ((Ext.refl _).alloc _)
  · exact ((BoxAt.new (by simp) rfl).ext ((Ext.refl _).alloc _)).ext ((Ext.refl _).alloc _)
  rintro wq ⟨hEu, hb, hr⟩
  have hbox := Lib.hid hb; have HRB := Lib.hid hr; clear hb hr
  (repeat (first | (refine wpQuiet_step (fun K hK => ?_); go_simp; refine hK _ ?_; clear hK K) | (simp only [hq1]) | (simp only [hq1n]) | (refine quiet_cell2 (.tmp 31) rfl rfl Try.underlying3 rfl rfl (fun w' hw => (hbox.out.ext hw).cells.get 1 _ rfl) ?_) | (refine wpQuiet_step (fun K hK => ?_); go_simp; first | (refine hK _ ?_; clear hK K) | (refine ⟨_, fun w hw => rfl, hK _ ?_⟩; clear hK K))))
  refine wpQuiet_nil ?_
  intro w1 hE
  have hE0 := hEu.trans hE
  have HR1 := Lib.hid (HRB.out.ext hE)
  go_wp2_with (refine wpList_storeA null_one HR1.out sizeVal rfl rfl (.tmp 4) _ rfl rfl rfl ?_; intro w3 hb1 hb2)
  refine back_cell rfl (Val.cells Val.null) rfl agg_val rfl hb1.cells ⟨?_, ?_⟩
  · rw [HL.out]; rfl
  · exact But.to_ext hE0 hb2 (by omega)

end Go.Proofs.Ytlcdjaclahhdnaa
namespace Go.Proofs.Ytlcdjaclahhdnaa
open Go.RowKit
set_option linter.unusedSimpArgs false
set_option linter.unusedVariables false
attribute [local irreducible] wpQuiet

set_option maxRecDepth 100000 in
set_option maxHeartbeats 8000000 in
theorem eval_col_c (R C : Nat) (v : Val) (A : Option Addr) (cap : Nat) (rv : Value) (rows : List (List Val)) (w : World) (hrows : RowsIn w rv rows) (h1 : R < rows.length) (h2 : ¬ C < rows[R].length) :
    Calls Try.prog 86 #[.agg (exCells 1 (R : Int) (C : Int) v (.slice A 0 cap)).toArray, rv] w fun e w' => e = .returned (lookup rows (R : Int) (C : Int)).enc ∧ Ext w w' := by
  obtain ⟨RA, rc, rfl, hrc⟩ := hrows.val
  have HR := Lib.hid hrows; clear hrows hrc
  obtain ⟨g, o, B, m, cb, rfl, _, hm, hcell, hvals⟩ := HR.out.at_ R h1
  have hg := cell_lt hcell
  have HV := Lib.hid hvals; have HC := Lib.hid hcell
  have e1 : rows[R]? = some rows[R] := List.getElem?_eq_getElem h1
  subst hm
  have hq1 : decide ((R : Int) < (rows.length : Int)) = true := by simp; omega
  have hrl : rows[R].length = rows[R].length := rfl
  have e2 : rows[R][C]? = none := List.getElem?_eq_none (by omega)
  have hq2 : decide ((C : Int) < (rows[R].length : Int)) = false := by simp; omega
  have hq2n : decide (C < rows[R].length) = false := by simp; omega
  have hl : lookup rows (R : Int) (C : Int) = Val.null := by
    unfold lookup; simp [e1, e2]
  have HL := Lib.hid hl
  clear hl e1 e2 hvals hcell hrl
  generalize rows[R].length = rl at *
  unfold exCells
  go_enter Try.func86, Try.ntmps86
  go_wp2_with fail
  refine wp_region_extF (fun u => Ext w u ∧ BoxAt u w.heap.size (exCells 1 (R : Int) (C : Int) v (.slice A 0 cap)) ∧ BoxAt u (w.heap.size + 1) nullCells) ⟨?_, ?_, ?_⟩ (by kernel_rfl) (by kernel_rfl) ?_
  · repeat (first | (with_reducible exact Ext.refl _) | (with_reducible refine Ext.set_ ?_ _ ?_; focus (first | (simp; done) | (simp; omega) | (simp at *; omega))) | (with_reducible refine Ext.alloc ?_ _) | (with_reducible refine Ext.drew ?_) | (with_reducible refine Ext.drewN ?_ _) | (with_reducible refine Ext.trans ?_ (by assumption)))
  · exact (((BoxAt.new rfl rfl).ext ((Ext.refl _).alloc _)).ext ((Ext.refl _).alloc _)).ext ((Ext.refl _).alloc _)
  · exact ((BoxAt.new (by simp) rfl).ext ((Ext.refl _).alloc _)).ext ((Ext.refl _).alloc _)
  rintro wq ⟨hEu, hb, hr⟩
  have hbox := Lib.hid hb; have HRB := Lib.hid hr; clear hb hr
  have HC2 : Hid (∀ w', Ext wq w' → w'.cell? ⟨g, o + R * 1, none⟩ = some (.slice B rl cb)) := Lib.hid (fun w' hw => by rw [Nat.mul_one]; exact ((hEu.trans hw).cell hg).trans HC.out)
  (repeat (first | (refine wpQuiet_step (fun K hK => ?_); go_simp; refine hK _ ?_; clear hK K) | (simp only [hq1]) | (refine quiet_cell2 (.tmp 31) rfl rfl Try.underlying3 rfl rfl (fun w' hw => (hbox.out.ext hw).cells.get 1 _ rfl) ?_) | (simp only [hq2]) | (simp only [hq2n]) | (refine quiet_cell2 (.tmp 37) rfl rfl Try.underlying3 rfl rfl (fun w' hw => (hbox.out.ext hw).cells.get 2 _ rfl) ?_) | (refine quiet_cell2 (.tmp 40) rfl rfl Try.underlying3 rfl rfl (fun w' hw => (hbox.out.ext hw).cells.get 1 _ rfl) ?_) | (refine quiet_idxS2 (i := R) (.tmp 39) _ rfl rfl Try.underlying50 size_slice59 rfl rfl h1 ?_) | (refine quiet_cell2 (.tmp 42) rfl rfl Try.underlying59 rfl rfl (fun w' hw => HC2.out w' hw) ?_) | (refine wpQuiet_step (fun K hK => ?_); go_simp; first | (refine hK _ ?_; clear hK K) | (refine ⟨_, fun w hw => rfl, hK _ ?_⟩; clear hK K))))
  refine wpQuiet_nil ?_
  intro w1 hE
  have hE0 := hEu.trans hE
  have HR1 := Lib.hid (HRB.out.ext hE)
  go_wp2_with (refine wpList_storeA null_one HR1.out sizeVal rfl rfl (.tmp 4) _ rfl rfl rfl ?_; intro w3 hb1 hb2)
  refine back_cell rfl (Val.cells Val.null) rfl agg_val rfl hb1.cells ⟨?_, ?_⟩
  · rw [HL.out]; rfl
  · exact But.to_ext hE0 hb2 (by omega)

end Go.Proofs.Ytlcdjaclahhdnaa
namespace Go.Proofs.Ytlcdjaclahhdnaa
open Go.RowKit
set_option linter.unusedSimpArgs false
set_option linter.unusedVariables false

set_option maxRecDepth 100000 in
set_option maxHeartbeats 8000000 in
theorem eval_col_in (R C : Nat) (v : Val) (A : Option Addr) (cap : Nat) (rv : Value) (rows : List (List Val)) (w : World) (hrows : RowsIn w rv rows) (h1 : R < rows.length) (h2 : C < rows[R].length) :
    Calls Try.prog 86 #[.agg (exCells 1 (R : Int) (C : Int) v (.slice A 0 cap)).toArray, rv] w fun e w' => e = .returned (lookup rows (R : Int) (C : Int)).enc ∧ Ext w w' := by
  obtain ⟨RA, rc, rfl, hrc⟩ := hrows.val
  have HR := Lib.hid hrows; clear hrows hrc
  obtain ⟨g, o, B, m, cb, rfl, _, hm, hcell, hvals⟩ := HR.out.at_ R h1
  have hg := cell_lt hcell
  have HV := Lib.hid hvals; have HC := Lib.hid hcell
  have e1 : rows[R]? = some rows[R] := List.getElem?_eq_getElem h1
  subst hm
  have hq1 : decide ((R : Int) < (rows.length : Int)) = true := by simp; omega
  obtain ⟨g2, o2, rfl, _, hat, hok, hg2⟩ := hvals.at_ C h2
  have hq2 : decide ((C : Int) < (rows[R].length : Int)) = true := by simp; omega
  have e2 : rows[R][C]? = some rows[R][C] := List.getElem?_eq_getElem h2
  have hl : lookup rows (R : Int) (C : Int) = if rows[R][C].right = true then rows[R][C] else Val.null := by
    unfold lookup; simp [e1, e2]
  have HL := Lib.hid hl
  have hrt := Lib.hid (fun w => right_of rows[R][C] w hok.flt)
  have HAT := Lib.hid hat
  clear hl e1 e2 hvals hcell hat hok
  generalize rows[R][C] = u at *
  generalize rows[R].length = rl at *
  unfold exCells
  go_enter Try.func86, Try.ntmps86
  go_wp2_with fail
  refine wp_region_extF (fun u => Ext w u ∧ BoxAt u w.heap.size (exCells 1 (R : Int) (C : Int) v (.slice A 0 cap)) ∧ BoxAt u (w.heap.size + 1) nullCells) ⟨?_, ?_, ?_⟩ (by kernel_rfl) (by kernel_rfl) ?_
  · repeat (first | (with_reducible exact Ext.refl _) | (with_reducible refine Ext.set_ ?_ _ ?_; focus (first | (simp; done) | (simp; omega) | (simp at *; omega))) | (with_reducible refine Ext.alloc ?_ _) | (with_reducible refine Ext.drew ?_) | (with_reducible refine Ext.drewN ?_ _) | (with_reducible refine Ext.trans ?_ (by assumption)))
  · exact (((BoxAt.new rfl rfl).ext ((Ext.refl _).alloc _)).ext ((Ext.refl _).alloc _)).ext ((Ext.refl _).alloc _)
  · exact ((BoxAt.new (by simp) rfl).ext ((Ext.refl _).alloc _)).ext ((Ext.refl _).alloc _)
  rintro wq ⟨hEu, hb, hr⟩
  have hbox := Lib.hid hb; have HRB := Lib.hid hr; clear hb hr
  have HC2 : Hid (∀ w', Ext wq w' → w'.cell? ⟨g, o + R * 1, none⟩ = some (.slice (some ⟨g2, o2, none⟩) rl cb)) := Lib.hid (fun w' hw => by rw [Nat.mul_one]; exact ((hEu.trans hw).cell hg).trans HC.out)
  (repeat (first | (simp only [hq1]) | (refine quiet_cell rfl (.tmp 31) Try.underlying3 rfl rfl rfl (fun w' hw => (hbox.out.ext hw).cells.get 1 _ rfl) ?_) | (simp only [hq2]) | (refine quiet_cell rfl (.tmp 37) Try.underlying3 rfl rfl rfl (fun w' hw => (hbox.out.ext hw).cells.get 2 _ rfl) ?_) | (refine quiet_cell rfl (.tmp 40) Try.underlying3 rfl rfl rfl (fun w' hw => (hbox.out.ext hw).cells.get 1 _ rfl) ?_) | (refine quiet_idxS (i := R) rfl Try.underlying50 size_slice59 (.tmp 39) _ rfl rfl rfl h1 ?_) | (refine quiet_cell rfl (.tmp 42) Try.underlying59 rfl rfl rfl (fun w' hw => HC2.out w' hw) ?_) | (refine quiet_cell rfl (.tmp 49) Try.underlying3 rfl rfl rfl (fun w' hw => (hbox.out.ext hw).cells.get 1 _ rfl) ?_) | (refine quiet_cell rfl (.tmp 53) Try.underlying3 rfl rfl rfl (fun w' hw => (hbox.out.ext hw).cells.get 2 _ rfl) ?_) | (refine quiet_idxS (i := R) rfl Try.underlying50 size_slice59 (.tmp 48) _ rfl rfl rfl h1 ?_) | (refine quiet_cell rfl (.tmp 51) Try.underlying59 rfl rfl rfl (fun w' hw => HC2.out w' hw) ?_) | (refine quiet_idxS (i := C) rfl Try.underlying59 sizeVal (.tmp 52) _ rfl rfl rfl h2 ?_) | (refine quiet_loadA (vs := [.int .i64 u.kind, .int .i64 u.int, .float .f64 u.flt, .string u.text]) rfl (.tmp 55) agg_val rfl rfl (fun w' hw => HAT.out.ext (hEu.trans hw) hg2) ?_) | (refine wpQuiet_step (fun K hK => ?_); go_simp; first | (refine hK _ ?_; clear hK K) | (refine ⟨_, fun w hw => rfl, hK _ ?_⟩; clear hK K) | (apply Exists.intro; refine ⟨fun w' hw => ?_, hK _ ?_⟩; (focus first | (go_at_call 27; exact (hrt.out _).mono fun _ _ ⟨h1, h2⟩ => ⟨h1, hw.trans h2⟩)); clear hK K))))
  refine wpQuiet_nil ?_
  intro w1 hE
  have hE0 := hEu.trans hE
  have hx1 := hbox.out.ext hE
  have HR1 := Lib.hid (HRB.out.ext hE)
  have HC4 := Lib.hid (HC2.out w1 hE)
  have HU4 := Lib.hid (HAT.out.ext hE0 hg2)
  cases hur : u.right
  · go_wp2_with (refine wpList_storeA null_one HR1.out sizeVal rfl rfl (.tmp 4) _ rfl rfl rfl ?_; intro w3 hb1 hb2)
    refine back_cell rfl (Val.cells Val.null) rfl agg_val rfl hb1.cells ⟨?_, ?_⟩
    · rw [HL.out, hur]; rfl
    · exact But.to_ext hE0 hb2 (by omega)
  · obtain ⟨x0, x1, x2, _⟩ := hx1.cells
    have hc4 := HC4.out
    rw [Nat.mul_one] at hc4
    obtain ⟨u0, u1, u2, u3, _⟩ := HU4.out
    go_wp2_with fail
    go_still_tail 9, (by kernel_rfl)
    clear x0 x1 x2 hc4 u0 u1 u2 u3
    change wpList _ _ _ _ _ w1.drew
    refine wpList_storeA (val_one u) (HR1.out.ext (Ext.refl _).drew) sizeVal rfl rfl (.tmp 4) (.tmp 67) rfl rfl rfl ?_
    intro w3 hb1 hb2
    go_wp2_with fail
    refine back_cell rfl (Val.cells u) rfl agg_val rfl hb1.cells ⟨?_, ?_⟩
    · rw [HL.out, hur]; rfl
    · exact But.to_ext hE0.drew hb2 (by omega)

end Go.Proofs.Ytlcdjaclahhdnaa
namespace Go.Proofs.Ytlcdjaclahhdnaa
open Go.RowKit
set_option linter.unusedSimpArgs false
set_option linter.unusedVariables false

theorem eval_col (R C : Nat) (v : Val) (A : Option Addr) (cap : Nat) (rv : Value) (rows : List (List Val)) (w : World) (hrows : RowsIn w rv rows) :
    Calls Try.prog 86 #[.agg (exCells 1 (R : Int) (C : Int) v (.slice A 0 cap)).toArray, rv] w fun e w' => e = .returned (lookup rows (R : Int) (C : Int)).enc ∧ Ext w w' := by
  by_cases h1 : R < rows.length
  · by_cases h2 : C < rows[R].length
    · exact eval_col_in R C v A cap rv rows w hrows h1 h2
    · exact eval_col_c R C v A cap rv rows w hrows h1 h2
  · exact eval_col_r R C v A cap rv rows w hrows h1
end Go.Proofs.Ytlcdjaclahhdnaa
