/- Tables in memory, by their columns' kinds; the call of expr.column. -/
import Derived.Test.YtlcdjaclahhdnaaTy
import Derived.Test.YtlcdjaclahhdnaaQ
import Derived.Test.YtlcdjaclahhdnaaVals
namespace Go.Proofs.Ytlcdjaclahhdnaa
open Go.RowKit
set_option linter.unusedSimpArgs false
set_option linter.unusedVariables false
attribute [local irreducible] wpQuiet

/-- A slice of columns, by their kinds. -/
def ColsIn (w : World) (s : Value) (cols : List Int) : Prop :=
  ∃ A c, s = .slice A cols.length c ∧ (cols ≠ [] → ∃ g o, A = some ⟨g, o, none⟩ ∧ g < w.heap.size ∧ ∀ j (hj : j < cols.length), ∃ nm : ByteArray, At w g (o + j * 2) [.string nm, .int .i64 cols[j]])
/-- A slice of tables. -/
def TabsIn (w : World) (s : Value) (tabs : List (List Int)) : Prop :=
  tabs.length ≤ 9223372036854775807 ∧ ∃ A c, s = .slice A tabs.length c ∧ (tabs ≠ [] → ∃ g o, A = some ⟨g, o, none⟩ ∧ g < w.heap.size ∧ ∀ i (hi : i < tabs.length), ∃ (nm : ByteArray) (u : Value), At w g (o + i * 2) [.string nm, u] ∧ ColsIn w u tabs[i])
theorem ColsIn.ext {w w' : World} (he : Ext w w') {s : Value} {cols : List Int} (h : ColsIn w s cols) : ColsIn w' s cols := by
  obtain ⟨A, c, h1, h2⟩ := h
  refine ⟨A, c, h1, fun hn => ?_⟩
  obtain ⟨g, o, h3, h4, h5⟩ := h2 hn
  exact ⟨g, o, h3, Nat.lt_of_lt_of_le h4 he.size, fun j hj => (h5 j hj).imp fun nm h => h.ext he h4⟩
theorem TabsIn.ext {w w' : World} (he : Ext w w') {s : Value} {tabs : List (List Int)} (h : TabsIn w s tabs) : TabsIn w' s tabs := by
  obtain ⟨h0, A, c, h1, h2⟩ := h
  refine ⟨h0, A, c, h1, fun hn => ?_⟩
  obtain ⟨g, o, h3, h4, h5⟩ := h2 hn
  refine ⟨g, o, h3, Nat.lt_of_lt_of_le h4 he.size, fun j hj => ?_⟩
  obtain ⟨nm, u, h6, h7⟩ := h5 j hj
  exact ⟨nm, u, h6.ext he h4, h7.ext he⟩
/-- A column's kind, or what is given up with. -/
def colK (tabs : List (List Int)) (r c : Int) : Int × Int :=
  match tabs[r.toNat]? with
  | some cs => (match cs[c.toNat]? with | some k => (k, 0) | none => (0, 40))
  | none => (0, 40)
theorem size_tab : (Try.prog.info? 136).map (·.size) = some 2 := by kernel_rfl
theorem size_col : (Try.prog.info? 173).map (·.size) = some 2 := by kernel_rfl

set_option maxRecDepth 100000 in
set_option maxHeartbeats 4000000 in
theorem column_r (k : Int) (R C : Nat) (v : Val) (s : Value) (A : Option Addr) (cap : Nat) (tabs : List (List Int)) (w : World) (h1 : ¬ R < tabs.length) :
    Calls Try.prog 136 #[.agg (exCells k (R : Int) (C : Int) v s).toArray, .slice A tabs.length cap] w fun e w' => e = .panicked (chainE 40) ∧ Ext w w' := by
  have hq1 : decide (tabs.length ≤ R) = true := by simp; omega
  have hbox := Lib.hid (BoxAt.new (w := w) rfl (vs := exCells k (R : Int) (C : Int) v s) (t := 27) rfl)
  go_enter Try.func136, Try.ntmps136
  go_wp2_with fail
  refine wp_region_ext (by kernel_rfl) (by kernel_rfl) ?_; (repeat (first | (refine wpQuiet_step (fun K hK => ?_); go_simp; refine hK _ ?_; clear hK K) | (simp only [hq1]) | (refine quiet_cell2 (.tmp 5) rfl rfl Try.underlying3 rfl rfl (fun w' hw => (hbox.out.ext hw).cells.get 1 _ rfl) ?_) | (refine wpQuiet_step (fun K hK => ?_); go_simp; first | (refine ⟨_, fun w hw => rfl, hK _ ?_⟩; clear hK K)))); refine wpQuiet_nil ?_
  intro w1 hE
  go_wp2_with fail
  exact ⟨rfl, rfl, ((Ext.refl w).alloc _).trans hE⟩
set_option maxRecDepth 100000 in
set_option maxHeartbeats 4000000 in
theorem column_c (k : Int) (R C : Nat) (v : Val) (s : Value) (x : Value) (tabs : List (List Int)) (w : World) (hx : TabsIn w x tabs) (h1 : R < tabs.length) (h2 : ¬ C < tabs[R].length) :
    Calls Try.prog 136 #[.agg (exCells k (R : Int) (C : Int) v s).toArray, x] w fun e w' => e = .panicked (chainE 40) ∧ Ext w w' := by
  obtain ⟨h0, A, cap, rfl, hA⟩ := hx
  obtain ⟨g, o, rfl, hg, hall⟩ := hA (fun e => by subst e; simp at h1)
  obtain ⟨nm, u, hat, B, cb, rfl, hB⟩ := hall R h1
  have HAT := Lib.hid hat
  have hq1 : decide (tabs.length ≤ R) = false := by simp; omega
  have hq2 : decide (tabs[R].length ≤ C) = true := by simp; omega
  clear hall hat hA hB
  generalize tabs[R].length = n at *
  have hbox := Lib.hid (BoxAt.new (w := w) rfl (vs := exCells k (R : Int) (C : Int) v s) (t := 27) rfl)
  go_enter Try.func136, Try.ntmps136
  go_wp2_with fail
  refine wp_region_ext (by kernel_rfl) (by kernel_rfl) ?_; (repeat (first | (refine wpQuiet_step (fun K hK => ?_); go_simp; refine hK _ ?_; clear hK K) | (simp only [hq1]) | (simp only [hq2]) | (refine quiet_cell2 (.tmp 5) rfl rfl Try.underlying3 rfl rfl (fun w' hw => (hbox.out.ext hw).cells.get 1 _ rfl) ?_) | (refine quiet_cell2 (.tmp 11) rfl rfl Try.underlying3 rfl rfl (fun w' hw => (hbox.out.ext hw).cells.get 2 _ rfl) ?_) | (refine quiet_cell2 (.tmp 14) rfl rfl Try.underlying3 rfl rfl (fun w' hw => (hbox.out.ext hw).cells.get 1 _ rfl) ?_) | (refine quiet_idxS2 (i := R) (.tmp 13) _ rfl rfl Try.underlying65 size_tab rfl rfl h1 ?_) | (refine quiet_cell2 (.tmp 17) rfl rfl Try.underlying134 rfl rfl (fun w' hw => (HAT.out.ext (((Ext.refl w).alloc _).trans hw) hg).get 1 _ rfl) ?_) | (refine wpQuiet_step (fun K hK => ?_); go_simp; first | (refine ⟨_, fun w hw => rfl, hK _ ?_⟩; clear hK K)))); refine wpQuiet_nil ?_
  intro w1 hE
  go_wp2_with fail
  exact ⟨rfl, rfl, ((Ext.refl w).alloc _).trans hE⟩
set_option maxRecDepth 100000 in
set_option maxHeartbeats 4000000 in
theorem column_in (k : Int) (R C : Nat) (v : Val) (s : Value) (x : Value) (tabs : List (List Int)) (w : World) (hx : TabsIn w x tabs) (h1 : R < tabs.length) (h2 : C < tabs[R].length) :
    Calls Try.prog 136 #[.agg (exCells k (R : Int) (C : Int) v s).toArray, x] w fun e w' => e = .returned (.int .i64 tabs[R][C]) ∧ Ext w w' := by
  obtain ⟨h0, A, cap, rfl, hA⟩ := hx
  obtain ⟨g, o, rfl, hg, hall⟩ := hA (fun e => by subst e; simp at h1)
  obtain ⟨nm, u, hat, B, cb, rfl, hB⟩ := hall R h1
  obtain ⟨g2, o2, rfl, hg2, hall2⟩ := hB (fun e => by rw [e] at h2; simp at h2)
  obtain ⟨nm2, hat2⟩ := hall2 C h2
  have HAT := Lib.hid hat; have HAT2 := Lib.hid hat2
  have hq1 : decide (tabs.length ≤ R) = false := by simp; omega
  have hq2 : decide (tabs[R].length ≤ C) = false := by simp; omega
  clear hall hat hA hB hall2 hat2
  generalize tabs[R][C] = kk at *
  generalize tabs[R].length = n at *
  have hbox := Lib.hid (BoxAt.new (w := w) rfl (vs := exCells k (R : Int) (C : Int) v s) (t := 27) rfl)
  have hE0 : Ext w (w.alloc (.cells (exCells k (R : Int) (C : Int) v s).toArray 27)) := (Ext.refl w).alloc _
  have HE0 := Lib.hid hE0; clear hE0
  go_enter Try.func136, Try.ntmps136
  go_wp2_with fail
  refine wp_region_ext (by kernel_rfl) (by kernel_rfl) ?_; (repeat (first | (simp only [hq1]) | (simp only [hq2]) | (refine quiet_cell2 (.tmp 5) rfl rfl Try.underlying3 rfl rfl (fun w' hw => (hbox.out.ext hw).cells.get 1 _ rfl) ?_) | (refine quiet_cell2 (.tmp 11) rfl rfl Try.underlying3 rfl rfl (fun w' hw => (hbox.out.ext hw).cells.get 2 _ rfl) ?_) | (refine quiet_cell2 (.tmp 14) rfl rfl Try.underlying3 rfl rfl (fun w' hw => (hbox.out.ext hw).cells.get 1 _ rfl) ?_) | (refine quiet_idxS2 (i := R) (.tmp 13) _ rfl rfl Try.underlying65 size_tab rfl rfl h1 ?_) | (refine quiet_cell2 (.tmp 17) rfl rfl Try.underlying134 rfl rfl (fun w' hw => (HAT.out.ext (HE0.out.trans hw) hg).get 1 _ rfl) ?_) | (refine wpQuiet_step (fun K hK => ?_); go_simp; first | (refine hK _ ?_; clear hK K) | (refine ⟨_, fun w hw => rfl, hK _ ?_⟩; clear hK K)))); refine wpQuiet_nil ?_
  intro w1 hE
  go_wp2_with fail
  refine wp_region_ext (by kernel_rfl) (by kernel_rfl) ?_; (repeat (first | (refine quiet_cell2 (.tmp 24) rfl rfl Try.underlying3 rfl rfl (fun w' hw => (hbox.out.ext (hE.trans hw)).cells.get 1 _ rfl) ?_) | (refine quiet_cell2 (.tmp 29) rfl rfl Try.underlying3 rfl rfl (fun w' hw => (hbox.out.ext (hE.trans hw)).cells.get 2 _ rfl) ?_) | (refine quiet_idxS2 (i := R) (.tmp 23) _ rfl rfl Try.underlying65 size_tab rfl rfl h1 ?_) | (refine quiet_cell2 (.tmp 27) rfl rfl Try.underlying134 rfl rfl (fun w' hw => (HAT.out.ext (HE0.out.trans (hE.trans hw)) hg).get 1 _ rfl) ?_) | (refine quiet_idxS2 (i := C) (.tmp 28) _ rfl rfl Try.underlying134 size_col rfl rfl h2 ?_) | (refine quiet_cell2 (.tmp 32) rfl rfl Try.underlying3 rfl rfl (fun w' hw => (HAT2.out.ext (HE0.out.trans (hE.trans hw)) hg2).get 1 _ rfl) ?_) | (refine wpQuiet_step (fun K hK => ?_); go_simp; first | (refine hK _ ?_; clear hK K) | (refine ⟨_, fun w hw => rfl, hK _ ?_⟩; clear hK K)))); refine wpQuiet_nil ?_
  intro w2 hE2
  go_wp2_with fail
  go_ret
  exact ⟨rfl, HE0.out.trans (hE.trans hE2)⟩
end Go.Proofs.Ytlcdjaclahhdnaa
