/- The calls of expr.Sides, tabularyref22.Sides. Printed by wip/tools/gen_sides.py. -/
import Derived.Test.YtlcdjaclahhdnaaCopyE
import Derived.Test.YtlcdjaclahhdnaaRelsR
import Derived.Test.YtlcdjaclahhdnaaQ
import Derived.Test.YtlcdjaclahhdnaaHd
namespace Go.Proofs.Ytlcdjaclahhdnaa
open Go.RowKit
set_option linter.unusedSimpArgs false
set_option linter.unusedVariables false
attribute [local irreducible] wpQuiet

theorem results_cct {P : Program} {fn : Func} {p q u : Tmp} {ty tz : TypeId} (h : fn.results = #[.cell p ty, .cell q tz, .tmp u]) {tmps : Array Value} {w : World} {g o g' o' : Nat} {cs ds : List Value}
    (hp : tmps.getD p undef = .pointer (some ⟨g, o, none⟩)) (hq : tmps.getD q undef = .pointer (some ⟨g', o', none⟩)) (ho : aggOk P ty cs.length = true) (ho' : aggOk P tz ds.length = true) (hc : At w g o cs) (hd : At w g' o' ds) :
    (results fn tmps).run P w = .ok (.tuple #[.agg cs.toArray, .agg ds.toArray, tmps.getD u undef]) w := by
  have hp' : tmps[p]?.getD undef = .pointer (some ⟨g, o, none⟩) := by simpa using hp
  have hq' : tmps[q]?.getD undef = .pointer (some ⟨g', o', none⟩) := by simpa using hq
  simp [results, h, hp', hq', asAddr, run_loadVar_at ho hc, run_loadVar_at ho' hd]
theorem back_cct {P : Program} {fn : Func} {R : Ending → World → Prop} {a : Act} {w : World} {p q u : Tmp} {ty tz : TypeId} (h : fn.results = #[.cell p ty, .cell q tz, .tmp u]) {g o g' o' : Nat} (cs ds : List Value) (x : Value)
    (hp : a.tmps.getD p undef = .pointer (some ⟨g, o, none⟩)) (hq : a.tmps.getD q undef = .pointer (some ⟨g', o', none⟩)) (hx : a.tmps.getD u undef = x) (ho : aggOk P ty cs.length = true) (ho' : aggOk P tz ds.length = true) (hd : a.defers = [])
    (hc : At w g o cs) (hc' : At w g' o' ds) (hR : R (.returned (.tuple #[.agg cs.toArray, .agg ds.toArray, x])) w) : bodyPost P fn R .ret a w :=
  ⟨hd, _, results_cct h hp hq ho ho' hc hc', by rw [hx]; exact hR⟩
def zeroX : Ex := .mk 0 0 0 Val.null []
theorem zeroX_in (w : World) : Ex.In w zeroX (.slice none 0 0) := by
  simp only [zeroX, Ex.In]
  refine ⟨?_, ?_, ?_, Val.null_ok, by simp, none, 0, rfl, by simp, fun _ => rfl, fun h => absurd rfl h⟩ <;> unfold I64 <;> omega
def sides2 (a b : Ex) (m1 m2 : Nat) : Ex × Ex × Bool :=
  if inSet a m1 && inSet b m2 then (a, b, true) else if inSet b m1 && inSet a m2 then (b, a, true) else (zeroX, zeroX, false)
/-- The sides of an equation. -/
def sidesE (e : Ex) (m1 m2 : Nat) : Ex × Ex × Bool :=
  if e.kind = 7 then (match e.kids with | [a, b] => sides2 a b m1 m2 | _ => (zeroX, zeroX, false)) else (zeroX, zeroX, false)
def SidesR (w : World) (r : Ex × Ex × Bool) (ev : Ending) (w' : World) : Prop :=
  ∃ s t, ev = .returned (.tuple #[.agg (r.1.cells s).toArray, .agg (r.2.1.cells t).toArray, .bool r.2.2]) ∧ Ex.In w' r.1 s ∧ Ex.In w' r.2.1 t ∧ Ext w w'
theorem SidesR.zero {w w' : World} (h : Ext w w') : SidesR w (zeroX, zeroX, false) (.returned (.tuple #[.agg zeroE.toArray, .agg zeroE.toArray, .bool false])) w' := ⟨_, _, rfl, zeroX_in _, zeroX_in _, h⟩
/-- A box of eight cells, stored into whole. -/
theorem set8 {w : World} {g : Nat} {vs : List Value} (h : BoxAt w g vs) (hl : vs.length = 8) (u0 u1 u2 u3 u4 u5 u6 u7 : Value) {w' : World}
    (hw : w' = (((((((w.setCell ⟨g, 0, none⟩ u0).setCell ⟨g, 1, none⟩ u1).setCell ⟨g, 2, none⟩ u2).setCell ⟨g, 3, none⟩ u3).setCell ⟨g, 4, none⟩ u4).setCell ⟨g, 5, none⟩ u5).setCell ⟨g, 6, none⟩ u6).setCell ⟨g, 7, none⟩ u7) :
    BoxAt w' g [u0, u1, u2, u3, u4, u5, u6, u7] ∧ ButS (fun k => k = g) w w' := by
  match vs, hl with
  | [a0, a1, a2, a3, a4, a5, a6, a7], _ =>
    rw [hw]
    exact ⟨(((((((h.putAt (i := 0) u0 (by simp)).putAt (i := 1) u1 (by simp)).putAt (i := 2) u2 (by simp)).putAt (i := 3) u3 (by simp)).putAt (i := 4) u4 (by simp)).putAt (i := 5) u5 (by simp)).putAt (i := 6) u6 (by simp)).putAt (i := 7) u7 (by simp),
      ((((((ButS.one_.trans ButS.one_).trans ButS.one_).trans ButS.one_).trans ButS.one_).trans ButS.one_).trans ButS.one_).trans ButS.one_⟩
theorem name_world {P : Program} {c : Code} {Q : Exit → Act → World → Prop} {a : Act} {w : World} (F : World → Prop) (hF : F w) (h : ∀ u, F u → c.wp P Q a u) : c.wp P Q a w := h w hF
theorem zeroE_one : ∀ u ∈ zeroE, u.oneCell' = true := ex_one

set_option maxRecDepth 100000 in
set_option maxHeartbeats 4000000 in
theorem sides_no (e : Ex) (s : Value) (m1 m2 : Nat) (w : World) (hin : Ex.In w e s) (hno : e.kind ≠ 7 ∨ e.kids.length ≠ 2) :
    Calls Try.prog 37 #[.agg (e.cells s).toArray, .int .u32 (m1 : Int), .int .u32 (m2 : Int)] w (SidesR w (zeroX, zeroX, false)) := by
  obtain ⟨-, A, cap, rfl, -⟩ := hin.mk_inv.2.2.2.2
  have hb0 : BoxAt (((w.alloc (.cells (e.cells (.slice A e.kids.length cap)).toArray 27)).alloc (.cells zeroE.toArray 27)).alloc (.cells zeroE.toArray 27)) w.heap.size (e.cells (.slice A e.kids.length cap)) := ((BoxAt.new rfl rfl).ext ((Ext.refl _).alloc _)).ext ((Ext.refl _).alloc _)
  have hb1 : BoxAt (((w.alloc (.cells (e.cells (.slice A e.kids.length cap)).toArray 27)).alloc (.cells zeroE.toArray 27)).alloc (.cells zeroE.toArray 27)) (w.heap.size + 1) zeroE := (BoxAt.new (by simp) rfl).ext ((Ext.refl _).alloc _)
  have hb2 : BoxAt (((w.alloc (.cells (e.cells (.slice A e.kids.length cap)).toArray 27)).alloc (.cells zeroE.toArray 27)).alloc (.cells zeroE.toArray 27)) (w.heap.size + 2) zeroE := BoxAt.new (by simp) rfl
  have hE := (((Ext.refl w).alloc (.cells (e.cells (.slice A e.kids.length cap)).toArray 27)).alloc (.cells zeroE.toArray 27)).alloc (.cells zeroE.toArray 27)
  have HB0 := Lib.hid hb0; have HB1 := Lib.hid hb1; have HB2 := Lib.hid hb2; have HE := Lib.hid hE
  have HC0 := HB0; have HC1 := HB1; have HC2 := HB2; have HE3 := HE
  clear hin hb0 hb1 hb2 hE HB0 HB1 HB2 HE
  unfold zeroE Ex.cells exCells Val.null at *
  obtain ⟨a0, a1, a2, a3, a4, a5, a6, a7, -⟩ := HC0.out.cells
  simp only [Nat.zero_add, Nat.reduceAdd] at a0 a1 a2 a3 a4 a5 a6 a7
  clear a1 a2 a3 a4 a5 a6
  by_cases h7 : e.kind = 7
  · have n0 : (e.kind != 7) = false := by simp [h7]
    have n1 : ((e.kids.length : Int) != 2) = true := by simp; omega
    clear hno h7
    go_enter Try.func37, Try.ntmps37
    go_wp2_with (first
      | (refine wpList_storeA (vs' := zeroE) zeroE_one HC1.out size_ex rfl rfl (.tmp 6) _ rfl rfl rfl ?_; intro w4 hq1 hq2; have HD1 := Lib.hid hq1; have HD2 := Lib.hid (But.box hq2 (by omega) HC2.out); have HE4 := Lib.hid (But.to_ext HE3.out hq2 (by omega)); clear hq1 hq2)
      | (refine wpList_storeA (vs' := zeroE) zeroE_one HD2.out size_ex rfl rfl (.tmp 7) _ rfl rfl rfl ?_; intro w5 hq1 hq2; have HF2 := Lib.hid hq1; have HF1 := Lib.hid (But.box hq2 (by omega) HD1.out); have HE5 := Lib.hid (But.to_ext HE4.out hq2 (by omega)); clear hq1 hq2))
    exact back_cct rfl zeroE zeroE (.bool false) rfl rfl rfl agg_ex agg_ex rfl HF1.out.cells HF2.out.cells (SidesR.zero HE5.out)
  · have n0 : (e.kind != 7) = true := by simp [h7]
    clear hno h7
    go_enter Try.func37, Try.ntmps37
    go_wp2_with (first
      | (refine wpList_storeA (vs' := zeroE) zeroE_one HC1.out size_ex rfl rfl (.tmp 6) _ rfl rfl rfl ?_; intro w4 hq1 hq2; have HD1 := Lib.hid hq1; have HD2 := Lib.hid (But.box hq2 (by omega) HC2.out); have HE4 := Lib.hid (But.to_ext HE3.out hq2 (by omega)); clear hq1 hq2)
      | (refine wpList_storeA (vs' := zeroE) zeroE_one HD2.out size_ex rfl rfl (.tmp 7) _ rfl rfl rfl ?_; intro w5 hq1 hq2; have HF2 := Lib.hid hq1; have HF1 := Lib.hid (But.box hq2 (by omega) HD1.out); have HE5 := Lib.hid (But.to_ext HE4.out hq2 (by omega)); clear hq1 hq2))
    exact back_cct rfl zeroE zeroE (.bool false) rfl rfl rfl agg_ex agg_ex rfl HF1.out.cells HF2.out.cells (SidesR.zero HE5.out)

set_option maxRecDepth 100000 in
set_option maxHeartbeats 4000000 in
theorem rsides_no (e : Ex) (s : Value) (m1 m2 : Nat) (w : World) (hin : Ex.In w e s) (hno : e.kind ≠ 7 ∨ e.kids.length ≠ 2) :
    Calls Try.prog 38 #[.agg (e.cells s).toArray, .int .u32 (m1 : Int), .int .u32 (m2 : Int)] w (SidesR w (zeroX, zeroX, false)) := by
  obtain ⟨-, A, cap, rfl, -⟩ := hin.mk_inv.2.2.2.2
  have hb0 : BoxAt (((w.alloc (.cells (e.cells (.slice A e.kids.length cap)).toArray 27)).alloc (.cells zeroE.toArray 27)).alloc (.cells zeroE.toArray 27)) w.heap.size (e.cells (.slice A e.kids.length cap)) := ((BoxAt.new rfl rfl).ext ((Ext.refl _).alloc _)).ext ((Ext.refl _).alloc _)
  have hb1 : BoxAt (((w.alloc (.cells (e.cells (.slice A e.kids.length cap)).toArray 27)).alloc (.cells zeroE.toArray 27)).alloc (.cells zeroE.toArray 27)) (w.heap.size + 1) zeroE := (BoxAt.new (by simp) rfl).ext ((Ext.refl _).alloc _)
  have hb2 : BoxAt (((w.alloc (.cells (e.cells (.slice A e.kids.length cap)).toArray 27)).alloc (.cells zeroE.toArray 27)).alloc (.cells zeroE.toArray 27)) (w.heap.size + 2) zeroE := BoxAt.new (by simp) rfl
  have hE := (((Ext.refl w).alloc (.cells (e.cells (.slice A e.kids.length cap)).toArray 27)).alloc (.cells zeroE.toArray 27)).alloc (.cells zeroE.toArray 27)
  have HB0 := Lib.hid hb0; have HB1 := Lib.hid hb1; have HB2 := Lib.hid hb2; have HE := Lib.hid hE
  have HC0 := Lib.hid (hb0.ext ((Ext.refl _).alloc (.cells zeroE.toArray 27))); have HC1 := Lib.hid (hb1.ext ((Ext.refl _).alloc (.cells zeroE.toArray 27))); have HC2 := Lib.hid (hb2.ext ((Ext.refl _).alloc (.cells zeroE.toArray 27))); have HE3 := Lib.hid (hE.alloc (.cells zeroE.toArray 27))
  have HC3 := Lib.hid (BoxAt.new (w := (((w.alloc (.cells (e.cells (.slice A e.kids.length cap)).toArray 27)).alloc (.cells zeroE.toArray 27)).alloc (.cells zeroE.toArray 27))) (g := w.heap.size + 3) (by simp) (vs := zeroE) (t := 27) rfl)
  clear hin hb0 hb1 hb2 hE HB0 HB1 HB2 HE
  unfold zeroE Ex.cells exCells Val.null at *
  obtain ⟨a0, a1, a2, a3, a4, a5, a6, a7, -⟩ := HC0.out.cells
  simp only [Nat.zero_add, Nat.reduceAdd] at a0 a1 a2 a3 a4 a5 a6 a7
  clear a1 a2 a3 a4 a5 a6
  by_cases h7 : e.kind = 7
  · have n0 : (e.kind != 7) = false := by simp [h7]
    have n1 : ((e.kids.length : Int) != 2) = true := by simp; omega
    clear hno h7
    go_enter Try.func38, Try.ntmps38
    go_upto_region 3 with fail
    generalize ((((w.alloc (.cells #[.int .i64 e.kind, .int .i64 e.rel, .int .i64 e.col, .int .i64 e.const.kind, .int .i64 e.const.int, .float .f64 e.const.flt, .string e.const.text, .slice A e.kids.length cap] 27)).alloc (.cells #[.int .i64 0, .int .i64 0, .int .i64 0, .int .i64 0, .int .i64 0, .float .f64 0, .string ⟨#[]⟩, .slice none 0 0] 27)).alloc (.cells #[.int .i64 0, .int .i64 0, .int .i64 0, .int .i64 0, .int .i64 0, .float .f64 0, .string ⟨#[]⟩, .slice none 0 0] 27)).alloc (.cells #[.int .i64 0, .int .i64 0, .int .i64 0, .int .i64 0, .int .i64 0, .float .f64 0, .string ⟨#[]⟩, .slice none 0 0] 27)) = W at *
    refine wp_region_held (S := ButS (fun k => k = w.heap.size + 1 ∨ k = w.heap.size + 2) W) (by kernel_rfl) ?_
    change wpAnyH _ _ _ _ _ _ _ _ W.drew
    have HS0 := Lib.hid ((ButS.refl (fun k => k = w.heap.size + 1 ∨ k = w.heap.size + 2) W).drew)
    have HZ : Hid (∀ u, ButS (fun k => k = w.heap.size + 1 ∨ k = w.heap.size + 2) W u → At u (w.heap.size + 3) 0 [.int .i64 0, .int .i64 0, .int .i64 0, .int .i64 0, .int .i64 0, .float .f64 0, .string ⟨#[]⟩, .slice none 0 0]) := Lib.hid fun u h => (ButS.box h (by omega) HC3.out).cells
    refine held_loadA (i := 0) (vs := [.int .i64 0, .int .i64 0, .int .i64 0, .int .i64 0, .int .i64 0, .float .f64 0, .string ⟨#[]⟩, .slice none 0 0]) (.tmp 9) rfl rfl (by kernel_rfl) (by kernel_rfl) (by kernel_rfl) (fun _ _ _ h => h) rfl agg_ex rfl (fun u h => HZ.out u h) HS0.out ?_
    simp only [Act.put, List.setIfInBounds_toArray, List.set_cons_zero, List.set_cons_succ]
    refine held_loadA (i := 1) (vs := [.int .i64 0, .int .i64 0, .int .i64 0, .int .i64 0, .int .i64 0, .float .f64 0, .string ⟨#[]⟩, .slice none 0 0]) (.tmp 9) rfl rfl (by kernel_rfl) (by kernel_rfl) (by kernel_rfl) (fun _ _ _ h => h) rfl agg_ex rfl (fun u h => HZ.out u h) HS0.out ?_
    simp only [Act.put, List.setIfInBounds_toArray, List.set_cons_zero, List.set_cons_succ]
    refine held_do (i := 2) rfl (by kernel_rfl) rfl fun K hK => ?_
    refine wp_storeA (vs' := zeroE) zeroE_one (HC1.out.ext (Ext.refl _).drew) size_ex rfl (.tmp 6) (.tmp 20) rfl rfl rfl ?_
    intro w4 hq1 hq2
    have HD1 := Lib.hid hq1; have HD2 := Lib.hid (But.box hq2 (by omega) (HC2.out.ext (Ext.refl _).drew)); have HE4 := Lib.hid (But.to_ext HE3.out.drew hq2 (by omega)); have HS1 := Lib.hid (HS0.out.trans (ButS.of_but (M := fun k => k = w.heap.size + 1 ∨ k = w.heap.size + 2) hq2 (.inl rfl)))
    clear hq1 hq2
    refine hK _ _ HS1.out ?_
    simp only [Act.put, List.setIfInBounds_toArray, List.set_cons_zero, List.set_cons_succ]
    clear hK K
    refine held_do (i := 3) rfl (by kernel_rfl) rfl fun K hK => ?_
    refine wp_storeA (vs' := zeroE) zeroE_one HD2.out size_ex rfl (.tmp 7) (.tmp 21) rfl rfl rfl ?_
    intro w5 hq1 hq2
    have HF2 := Lib.hid hq1; have HF1 := Lib.hid (But.box hq2 (by omega) HD1.out); have HE5 := Lib.hid (But.to_ext HE4.out hq2 (by omega)); have HS2 := Lib.hid (HS1.out.trans (ButS.of_but (M := fun k => k = w.heap.size + 1 ∨ k = w.heap.size + 2) hq2 (.inr rfl)))
    clear hq1 hq2
    refine hK _ _ HS2.out ?_
    simp only [Act.put, List.setIfInBounds_toArray, List.set_cons_zero, List.set_cons_succ]
    clear hK K
    refine held_run (i := 4) (.bool false) rfl (by kernel_rfl) (by kernel_rfl) (by kernel_rfl) (fun _ _ _ h => h) rfl (fun u _ => by go_simp) HS2.out ?_
    simp only [Act.put, List.setIfInBounds_toArray, List.set_cons_zero, List.set_cons_succ]
    refine wpAnyH_done (by kernel_rfl) ?_ _
    go_wp2_with fail
    exact back_cct rfl zeroE zeroE (.bool false) rfl rfl rfl agg_ex agg_ex rfl HF1.out.cells HF2.out.cells (SidesR.zero HE5.out)
  · have n0 : (e.kind != 7) = true := by simp [h7]
    clear hno h7
    go_enter Try.func38, Try.ntmps38
    go_upto_region 3 with fail
    generalize ((((w.alloc (.cells #[.int .i64 e.kind, .int .i64 e.rel, .int .i64 e.col, .int .i64 e.const.kind, .int .i64 e.const.int, .float .f64 e.const.flt, .string e.const.text, .slice A e.kids.length cap] 27)).alloc (.cells #[.int .i64 0, .int .i64 0, .int .i64 0, .int .i64 0, .int .i64 0, .float .f64 0, .string ⟨#[]⟩, .slice none 0 0] 27)).alloc (.cells #[.int .i64 0, .int .i64 0, .int .i64 0, .int .i64 0, .int .i64 0, .float .f64 0, .string ⟨#[]⟩, .slice none 0 0] 27)).alloc (.cells #[.int .i64 0, .int .i64 0, .int .i64 0, .int .i64 0, .int .i64 0, .float .f64 0, .string ⟨#[]⟩, .slice none 0 0] 27)) = W at *
    refine wp_region_held (S := ButS (fun k => k = w.heap.size + 1 ∨ k = w.heap.size + 2) W) (by kernel_rfl) ?_
    change wpAnyH _ _ _ _ _ _ _ _ W.drew
    have HS0 := Lib.hid ((ButS.refl (fun k => k = w.heap.size + 1 ∨ k = w.heap.size + 2) W).drew)
    have HZ : Hid (∀ u, ButS (fun k => k = w.heap.size + 1 ∨ k = w.heap.size + 2) W u → At u (w.heap.size + 3) 0 [.int .i64 0, .int .i64 0, .int .i64 0, .int .i64 0, .int .i64 0, .float .f64 0, .string ⟨#[]⟩, .slice none 0 0]) := Lib.hid fun u h => (ButS.box h (by omega) HC3.out).cells
    refine held_loadA (i := 0) (vs := [.int .i64 0, .int .i64 0, .int .i64 0, .int .i64 0, .int .i64 0, .float .f64 0, .string ⟨#[]⟩, .slice none 0 0]) (.tmp 9) rfl rfl (by kernel_rfl) (by kernel_rfl) (by kernel_rfl) (fun _ _ _ h => h) rfl agg_ex rfl (fun u h => HZ.out u h) HS0.out ?_
    simp only [Act.put, List.setIfInBounds_toArray, List.set_cons_zero, List.set_cons_succ]
    refine held_loadA (i := 1) (vs := [.int .i64 0, .int .i64 0, .int .i64 0, .int .i64 0, .int .i64 0, .float .f64 0, .string ⟨#[]⟩, .slice none 0 0]) (.tmp 9) rfl rfl (by kernel_rfl) (by kernel_rfl) (by kernel_rfl) (fun _ _ _ h => h) rfl agg_ex rfl (fun u h => HZ.out u h) HS0.out ?_
    simp only [Act.put, List.setIfInBounds_toArray, List.set_cons_zero, List.set_cons_succ]
    refine held_do (i := 2) rfl (by kernel_rfl) rfl fun K hK => ?_
    refine wp_storeA (vs' := zeroE) zeroE_one (HC1.out.ext (Ext.refl _).drew) size_ex rfl (.tmp 6) (.tmp 20) rfl rfl rfl ?_
    intro w4 hq1 hq2
    have HD1 := Lib.hid hq1; have HD2 := Lib.hid (But.box hq2 (by omega) (HC2.out.ext (Ext.refl _).drew)); have HE4 := Lib.hid (But.to_ext HE3.out.drew hq2 (by omega)); have HS1 := Lib.hid (HS0.out.trans (ButS.of_but (M := fun k => k = w.heap.size + 1 ∨ k = w.heap.size + 2) hq2 (.inl rfl)))
    clear hq1 hq2
    refine hK _ _ HS1.out ?_
    simp only [Act.put, List.setIfInBounds_toArray, List.set_cons_zero, List.set_cons_succ]
    clear hK K
    refine held_do (i := 3) rfl (by kernel_rfl) rfl fun K hK => ?_
    refine wp_storeA (vs' := zeroE) zeroE_one HD2.out size_ex rfl (.tmp 7) (.tmp 21) rfl rfl rfl ?_
    intro w5 hq1 hq2
    have HF2 := Lib.hid hq1; have HF1 := Lib.hid (But.box hq2 (by omega) HD1.out); have HE5 := Lib.hid (But.to_ext HE4.out hq2 (by omega)); have HS2 := Lib.hid (HS1.out.trans (ButS.of_but (M := fun k => k = w.heap.size + 1 ∨ k = w.heap.size + 2) hq2 (.inr rfl)))
    clear hq1 hq2
    refine hK _ _ HS2.out ?_
    simp only [Act.put, List.setIfInBounds_toArray, List.set_cons_zero, List.set_cons_succ]
    clear hK K
    refine held_run (i := 4) (.bool false) rfl (by kernel_rfl) (by kernel_rfl) (by kernel_rfl) (fun _ _ _ h => h) rfl (fun u _ => by go_simp) HS2.out ?_
    simp only [Act.put, List.setIfInBounds_toArray, List.set_cons_zero, List.set_cons_succ]
    refine wpAnyH_done (by kernel_rfl) ?_ _
    go_wp2_with fail
    exact back_cct rfl zeroE zeroE (.bool false) rfl rfl rfl agg_ex agg_ex rfl HF1.out.cells HF2.out.cells (SidesR.zero HE5.out)

set_option maxRecDepth 100000 in
set_option maxHeartbeats 8000000 in
theorem sides_yes (e a b : Ex) (s : Value) (m1 m2 : Nat) (w : World) (hin : Ex.In w e s) (h7 : e.kind = 7) (hk : e.kids = [a, b]) (hm1 : m1 < 4294967296) (hm2 : m2 < 4294967296) (hsa : a.small 500) (hsb : b.small 500) :
    Calls Try.prog 37 #[.agg (e.cells s).toArray, .int .u32 (m1 : Int), .int .u32 (m2 : Int)] w (SidesR w (sides2 a b m1 m2)) := by
  obtain ⟨-, -, -, -, hks⟩ := hin.mk_inv
  rw [hk] at hks
  obtain ⟨-, A, cap, rfl, -⟩ := hks |> fun h => (⟨h.1, h.2⟩ : _ ∧ _)
  obtain ⟨g, o, sa, rfl, -, hat0, hina, hg⟩ := hks.get 0 (by simp)
  obtain ⟨g', o', sb, hgo, -, hat1, hinb, -⟩ := hks.get 1 (by simp)
  obtain ⟨rfl, rfl⟩ : g = g' ∧ o = o' := by simpa using hgo
  simp only [List.getElem_cons_zero, List.getElem_cons_succ] at hat0 hat1 hina hinb
  obtain ⟨-, A1, cap1, rfl, -⟩ := (Ex.In.mk_inv hina).2.2.2.2
  obtain ⟨-, A2, cap2, rfl, -⟩ := (Ex.In.mk_inv hinb).2.2.2.2
  simp only [List.length_cons, List.length_nil, Nat.zero_add, Nat.reduceAdd] at *
  have HKA := Lib.hid (fun u (hu : Ext w u) => hat0.ext hu hg)
  have HKB := Lib.hid (fun u (hu : Ext w u) => hat1.ext hu hg)
  have HIA := Lib.hid (fun u (hu : Ext w u) => Ex.In.ext hu _ _ hina)
  have HIB := Lib.hid (fun u (hu : Ext w u) => Ex.In.ext hu _ _ hinb)
  have HCam1 := Lib.hid (fun u (hu : Ext w u) => sin_of a (.slice A1 a.kids.length cap1) m1 u (HIA.out u hu) hm1)
  have HCbm2 := Lib.hid (fun u (hu : Ext w u) => sin_of b (.slice A2 b.kids.length cap2) m2 u (HIB.out u hu) hm2)
  have HCbm1 := Lib.hid (fun u (hu : Ext w u) => sin_of b (.slice A2 b.kids.length cap2) m1 u (HIB.out u hu) hm1)
  have HCam2 := Lib.hid (fun u (hu : Ext w u) => sin_of a (.slice A1 a.kids.length cap1) m2 u (HIA.out u hu) hm2)
  have HPa : Hid (∀ u, Ext w u → Calls Try.prog 41 #[.agg (a.cells (.slice A1 a.kids.length cap1)).toArray] u fun ev w' => ∃ v, ev = .returned v ∧ ∃ A9 cap9, v = .agg (a.cells (.slice A9 a.kids.length cap9)).toArray ∧ Ex.In (only w' (from_ u.heap.size)) a (.slice A9 a.kids.length cap9) ∧ Ext u w') := Lib.hid fun u hu =>
    (copy_of a _ u (HIA.out u hu) hsa).mono (by
      rintro ev w' ⟨s2, rfl, ho, he⟩
      obtain ⟨A9, cap9, rfl⟩ := ho.form'
      refine ⟨_, rfl, A9, cap9, rfl, ?_, he⟩
      obtain ⟨q1, q2, q3, q4, -⟩ := (HIA.out u hu).mk_inv
      have h9 := ho.ex q1 q2 q3 q4
      cases hli : a with
      | mk a1 a2 a3 a4 a5 => rw [hli] at h9; exact h9)
  have HPb : Hid (∀ u, Ext w u → Calls Try.prog 41 #[.agg (b.cells (.slice A2 b.kids.length cap2)).toArray] u fun ev w' => ∃ v, ev = .returned v ∧ ∃ A9 cap9, v = .agg (b.cells (.slice A9 b.kids.length cap9)).toArray ∧ Ex.In (only w' (from_ u.heap.size)) b (.slice A9 b.kids.length cap9) ∧ Ext u w') := Lib.hid fun u hu =>
    (copy_of b _ u (HIB.out u hu) hsb).mono (by
      rintro ev w' ⟨s2, rfl, ho, he⟩
      obtain ⟨A9, cap9, rfl⟩ := ho.form'
      refine ⟨_, rfl, A9, cap9, rfl, ?_, he⟩
      obtain ⟨q1, q2, q3, q4, -⟩ := (HIB.out u hu).mk_inv
      have h9 := ho.ex q1 q2 q3 q4
      cases hli : b with
      | mk a1 a2 a3 a4 a5 => rw [hli] at h9; exact h9)
  have hb0 : BoxAt (((w.alloc (.cells (e.cells (.slice (some ⟨g, o, none⟩) 2 cap)).toArray 27)).alloc (.cells zeroE.toArray 27)).alloc (.cells zeroE.toArray 27)) w.heap.size (e.cells (.slice (some ⟨g, o, none⟩) 2 cap)) := ((BoxAt.new rfl rfl).ext ((Ext.refl _).alloc _)).ext ((Ext.refl _).alloc _)
  have hb1 : BoxAt (((w.alloc (.cells (e.cells (.slice (some ⟨g, o, none⟩) 2 cap)).toArray 27)).alloc (.cells zeroE.toArray 27)).alloc (.cells zeroE.toArray 27)) (w.heap.size + 1) zeroE := (BoxAt.new (by simp) rfl).ext ((Ext.refl _).alloc _)
  have hb2 : BoxAt (((w.alloc (.cells (e.cells (.slice (some ⟨g, o, none⟩) 2 cap)).toArray 27)).alloc (.cells zeroE.toArray 27)).alloc (.cells zeroE.toArray 27)) (w.heap.size + 2) zeroE := BoxAt.new (by simp) rfl
  have hE := (((Ext.refl w).alloc (.cells (e.cells (.slice (some ⟨g, o, none⟩) 2 cap)).toArray 27)).alloc (.cells zeroE.toArray 27)).alloc (.cells zeroE.toArray 27)
  have HC0 := Lib.hid hb0; have HC1 := Lib.hid hb1; have HC2 := Lib.hid hb2; have HE3 := Lib.hid hE
  have n0 : (e.kind != 7) = false := by simp [h7]
  clear hin hks hat0 hat1 hina hinb hb0 hb1 hb2 hE h7 hk hgo
  have ha7 := HC0.out.cells.get 0 _ rfl; have hb7 := HC0.out.cells.get 7 _ rfl
  simp only [Nat.zero_add] at ha7 hb7
  unfold sides2
  generalize hpa1 : inSet a m1 = pa1 at *
  generalize hpb2 : inSet b m2 = pb2 at *
  generalize hpb1 : inSet b m1 = pb1 at *
  generalize hpa2 : inSet a m2 = pa2 at *
  clear hpa1 hpb2 hpb1 hpa2
  unfold zeroE Ex.cells exCells Val.null at *
  go_enter Try.func37, Try.ntmps37
  go_upto_region 3 with fail
  generalize (((w.alloc (.cells #[.int .i64 e.kind, .int .i64 e.rel, .int .i64 e.col, .int .i64 e.const.kind, .int .i64 e.const.int, .float .f64 e.const.flt, .string e.const.text, .slice (some ⟨g, o, none⟩) 2 cap] 27)).alloc (.cells #[.int .i64 0, .int .i64 0, .int .i64 0, .int .i64 0, .int .i64 0, .float .f64 0, .string ⟨#[]⟩, .slice none 0 0] 27)).alloc (.cells #[.int .i64 0, .int .i64 0, .int .i64 0, .int .i64 0, .int .i64 0, .float .f64 0, .string ⟨#[]⟩, .slice none 0 0] 27)) = W at *
  clear ha7 hb7 n0
  refine wp_region_held (S := ButS (fun k => k = w.heap.size + 1 ∨ k = w.heap.size + 2) W) (by kernel_rfl) ?_
  change wpAnyH _ _ _ _ _ _ _ _ W.drew
  have HS0 := Lib.hid ((ButS.refl (fun k => k = w.heap.size + 1 ∨ k = w.heap.size + 2) W).drew)
  have HZ : Hid (∀ u, ButS (fun k => k = w.heap.size + 1 ∨ k = w.heap.size + 2) W u → u.cell? ⟨w.heap.size, 7, none⟩ = some (.slice (some ⟨g, o, none⟩) 2 cap)) := Lib.hid fun u h => by have := (ButS.box h (by omega) HC0.out).cells.get 7 _ rfl; simpa using this
  have HA : Hid (∀ u, ButS (fun k => k = w.heap.size + 1 ∨ k = w.heap.size + 2) W u → At u g (o + 0 * 8) [.int .i64 a.kind, .int .i64 a.rel, .int .i64 a.col, .int .i64 a.const.kind, .int .i64 a.const.int, .float .f64 a.const.flt, .string a.const.text, .slice A1 a.kids.length cap1]) := Lib.hid fun u h => (HKA.out W HE3.out).keep (h.at_ g (Nat.lt_of_lt_of_le hg HE3.out.size) (by omega)).1
  have HB : Hid (∀ u, ButS (fun k => k = w.heap.size + 1 ∨ k = w.heap.size + 2) W u → At u g (o + 1 * 8) [.int .i64 b.kind, .int .i64 b.rel, .int .i64 b.col, .int .i64 b.const.kind, .int .i64 b.const.int, .float .f64 b.const.flt, .string b.const.text, .slice A2 b.kids.length cap2]) := Lib.hid fun u h => (HKB.out W HE3.out).keep (h.at_ g (Nat.lt_of_lt_of_le hg HE3.out.size) (by omega)).1
  refine held_run (i := 0) (.pointer (some ⟨w.heap.size, 7, none⟩)) rfl (by kernel_rfl) (by kernel_rfl) (by kernel_rfl) (fun _ _ _ h => h) rfl (fun u _ => by go_simp) HS0.out ?_
  simp only [Act.put, List.setIfInBounds_toArray, List.set_cons_zero, List.set_cons_succ]
  refine held_cell (i := 1) (v := (.slice (some ⟨g, o, none⟩) 2 cap)) (.tmp 21) rfl rfl (by kernel_rfl) (by kernel_rfl) (by kernel_rfl) (fun _ _ _ h => h) rfl Try.underlying25 rfl rfl (fun u h => HZ.out u h) HS0.out ?_
  simp only [Act.put, List.setIfInBounds_toArray, List.set_cons_zero, List.set_cons_succ]
  refine held_idxS (i := 2) 0 (.tmp 22) (.const (.int .i64 0)) rfl rfl (by kernel_rfl) (by kernel_rfl) (by kernel_rfl) (fun _ _ _ h => h) rfl Try.underlying25 size_ex rfl rfl (by decide) HS0.out ?_
  simp only [Act.put, List.setIfInBounds_toArray, List.set_cons_zero, List.set_cons_succ]
  refine held_loadA (i := 3) (vs := [.int .i64 a.kind, .int .i64 a.rel, .int .i64 a.col, .int .i64 a.const.kind, .int .i64 a.const.int, .float .f64 a.const.flt, .string a.const.text, .slice A1 a.kids.length cap1]) (.tmp 23) rfl rfl (by kernel_rfl) (by kernel_rfl) (by kernel_rfl) (fun _ _ _ h => h) rfl agg_ex rfl (fun u h => HA.out u h) HS0.out ?_
  simp only [Act.put, List.setIfInBounds_toArray, List.set_cons_zero, List.set_cons_succ]
  refine held_run (i := 4) (.pointer (some ⟨w.heap.size, 7, none⟩)) rfl (by kernel_rfl) (by kernel_rfl) (by kernel_rfl) (fun _ _ _ h => h) rfl (fun u _ => by go_simp) HS0.out ?_
  simp only [Act.put, List.setIfInBounds_toArray, List.set_cons_zero, List.set_cons_succ]
  refine held_cell (i := 5) (v := (.slice (some ⟨g, o, none⟩) 2 cap)) (.tmp 25) rfl rfl (by kernel_rfl) (by kernel_rfl) (by kernel_rfl) (fun _ _ _ h => h) rfl Try.underlying25 rfl rfl (fun u h => HZ.out u h) HS0.out ?_
  simp only [Act.put, List.setIfInBounds_toArray, List.set_cons_zero, List.set_cons_succ]
  refine held_idxS (i := 6) 1 (.tmp 26) (.const (.int .i64 1)) rfl rfl (by kernel_rfl) (by kernel_rfl) (by kernel_rfl) (fun _ _ _ h => h) rfl Try.underlying25 size_ex rfl rfl (by decide) HS0.out ?_
  simp only [Act.put, List.setIfInBounds_toArray, List.set_cons_zero, List.set_cons_succ]
  refine held_loadA (i := 7) (vs := [.int .i64 b.kind, .int .i64 b.rel, .int .i64 b.col, .int .i64 b.const.kind, .int .i64 b.const.int, .float .f64 b.const.flt, .string b.const.text, .slice A2 b.kids.length cap2]) (.tmp 27) rfl rfl (by kernel_rfl) (by kernel_rfl) (by kernel_rfl) (fun _ _ _ h => h) rfl agg_ex rfl (fun u h => HB.out u h) HS0.out ?_
  simp only [Act.put, List.setIfInBounds_toArray, List.set_cons_zero, List.set_cons_succ]
  refine held_do (i := 8) rfl (by kernel_rfl) rfl fun K hK => ?_
  refine wp_storeA (vs' := [.int .i64 a.kind, .int .i64 a.rel, .int .i64 a.col, .int .i64 a.const.kind, .int .i64 a.const.int, .float .f64 a.const.flt, .string a.const.text, .slice A1 a.kids.length cap1]) ex_one (HC1.out.ext (Ext.refl _).drew) size_ex rfl (.tmp 6) (.tmp 24) rfl rfl rfl ?_
  intro w4 hq1 hq2
  have HD1 := Lib.hid hq1; have HD2 := Lib.hid (But.box hq2 (by omega) (HC2.out.ext (Ext.refl _).drew)); have HE4 := Lib.hid (But.to_ext HE3.out.drew hq2 (by omega)); have HS1 := Lib.hid (HS0.out.trans (ButS.of_but (M := fun k => k = w.heap.size + 1 ∨ k = w.heap.size + 2) hq2 (.inl rfl)))
  clear hq1 hq2
  refine hK _ _ HS1.out ?_
  simp only [Act.put, List.setIfInBounds_toArray, List.set_cons_zero, List.set_cons_succ]
  clear hK K
  refine held_do (i := 9) rfl (by kernel_rfl) rfl fun K hK => ?_
  refine wp_storeA (vs' := [.int .i64 b.kind, .int .i64 b.rel, .int .i64 b.col, .int .i64 b.const.kind, .int .i64 b.const.int, .float .f64 b.const.flt, .string b.const.text, .slice A2 b.kids.length cap2]) ex_one HD2.out size_ex rfl (.tmp 7) (.tmp 28) rfl rfl rfl ?_
  intro w5 hq1 hq2
  have HF2 := Lib.hid hq1; have HF1 := Lib.hid (But.box hq2 (by omega) HD1.out); have HE5 := Lib.hid (But.to_ext HE4.out hq2 (by omega)); have HS2 := Lib.hid (HS1.out.trans (ButS.of_but (M := fun k => k = w.heap.size + 1 ∨ k = w.heap.size + 2) hq2 (.inr rfl)))
  clear hq1 hq2
  refine hK _ _ HS2.out ?_
  simp only [Act.put, List.setIfInBounds_toArray, List.set_cons_zero, List.set_cons_succ]
  clear hK K
  refine wpAnyH_done (by kernel_rfl) ?_ _
  have HL1 : Hid (∀ u, Ext w5 u → At u (w.heap.size + 1) 0 [.int .i64 a.kind, .int .i64 a.rel, .int .i64 a.col, .int .i64 a.const.kind, .int .i64 a.const.int, .float .f64 a.const.flt, .string a.const.text, .slice A1 a.kids.length cap1]) := Lib.hid fun u h => (HF1.out.ext h).cells
  have HL2 : Hid (∀ u, Ext w5 u → At u (w.heap.size + 2) 0 [.int .i64 b.kind, .int .i64 b.rel, .int .i64 b.col, .int .i64 b.const.kind, .int .i64 b.const.int, .float .f64 b.const.flt, .string b.const.text, .slice A2 b.kids.length cap2]) := Lib.hid fun u h => (HF2.out.ext h).cells
  clear HC0 HC1 HC2 HE3 HS0 HZ HA HB HD1 HD2 HE4 HS1 HS2
  cases pa1
  · cases pb1
    · simp only [Bool.true_and, Bool.false_and, Bool.and_true, Bool.and_false, Bool.false_eq_true, if_true, if_false]
      go_wp2_with (first
        | (refine wpList_wish rfl fun K hK => wp_loadA (vs := [.int .i64 a.kind, .int .i64 a.rel, .int .i64 a.col, .int .i64 a.const.kind, .int .i64 a.const.int, .float .f64 a.const.flt, .string a.const.text, .slice A1 a.kids.length cap1]) agg_ex (.tmp 6) rfl rfl (HL1.out _ (by repeat (first | (with_reducible exact Ext.refl _) | (with_reducible refine Ext.set_ ?_ _ ?_; focus (first | (simp; done) | (simp; omega) | (simp at *; omega))) | (with_reducible refine Ext.alloc ?_ _) | (with_reducible refine Ext.drew ?_) | (with_reducible refine Ext.drewN ?_ _) | (with_reducible refine Ext.trans ?_ (by assumption))))) (hK _ _ ?_))
        | (refine wpList_wish rfl fun K hK => wp_loadA (vs := [.int .i64 b.kind, .int .i64 b.rel, .int .i64 b.col, .int .i64 b.const.kind, .int .i64 b.const.int, .float .f64 b.const.flt, .string b.const.text, .slice A2 b.kids.length cap2]) agg_ex (.tmp 7) rfl rfl (HL2.out _ (by repeat (first | (with_reducible exact Ext.refl _) | (with_reducible refine Ext.set_ ?_ _ ?_; focus (first | (simp; done) | (simp; omega) | (simp at *; omega))) | (with_reducible refine Ext.alloc ?_ _) | (with_reducible refine Ext.drew ?_) | (with_reducible refine Ext.drewN ?_ _) | (with_reducible refine Ext.trans ?_ (by assumption))))) (hK _ _ ?_))
        | (go_at_call 96; with_reducible refine (HCam1.out _ (HE5.out.trans (by repeat (first | (with_reducible exact Ext.refl _) | (with_reducible refine Ext.set_ ?_ _ ?_; focus (first | (simp; done) | (simp; omega) | (simp at *; omega))) | (with_reducible refine Ext.alloc ?_ _) | (with_reducible refine Ext.drew ?_) | (with_reducible refine Ext.drewN ?_ _) | (with_reducible refine Ext.trans ?_ (by assumption)))))).mono ?_; rintro ev wq ⟨rfl, hq⟩)
        | (go_at_call 96; with_reducible refine (HCbm2.out _ (HE5.out.trans (by repeat (first | (with_reducible exact Ext.refl _) | (with_reducible refine Ext.set_ ?_ _ ?_; focus (first | (simp; done) | (simp; omega) | (simp at *; omega))) | (with_reducible refine Ext.alloc ?_ _) | (with_reducible refine Ext.drew ?_) | (with_reducible refine Ext.drewN ?_ _) | (with_reducible refine Ext.trans ?_ (by assumption)))))).mono ?_; rintro ev wq ⟨rfl, hq⟩)
        | (go_at_call 96; with_reducible refine (HCbm1.out _ (HE5.out.trans (by repeat (first | (with_reducible exact Ext.refl _) | (with_reducible refine Ext.set_ ?_ _ ?_; focus (first | (simp; done) | (simp; omega) | (simp at *; omega))) | (with_reducible refine Ext.alloc ?_ _) | (with_reducible refine Ext.drew ?_) | (with_reducible refine Ext.drewN ?_ _) | (with_reducible refine Ext.trans ?_ (by assumption)))))).mono ?_; rintro ev wq ⟨rfl, hq⟩)
        | (go_at_call 96; with_reducible refine (HCam2.out _ (HE5.out.trans (by repeat (first | (with_reducible exact Ext.refl _) | (with_reducible refine Ext.set_ ?_ _ ?_; focus (first | (simp; done) | (simp; omega) | (simp at *; omega))) | (with_reducible refine Ext.alloc ?_ _) | (with_reducible refine Ext.drew ?_) | (with_reducible refine Ext.drewN ?_ _) | (with_reducible refine Ext.trans ?_ (by assumption)))))).mono ?_; rintro ev wq ⟨rfl, hq⟩)
        | (refine wpList_storeA (vs' := zeroE) zeroE_one (HF1.out.ext (by repeat (first | (with_reducible exact Ext.refl _) | (with_reducible refine Ext.set_ ?_ _ ?_; focus (first | (simp; done) | (simp; omega) | (simp at *; omega))) | (with_reducible refine Ext.alloc ?_ _) | (with_reducible refine Ext.drew ?_) | (with_reducible refine Ext.drewN ?_ _) | (with_reducible refine Ext.trans ?_ (by assumption))))) size_ex rfl rfl (.tmp 6) _ rfl rfl rfl ?_; intro w9 hq1 hq2; have hE9 := But.to_ext (HE5.out.trans (by repeat (first | (with_reducible exact Ext.refl _) | (with_reducible refine Ext.set_ ?_ _ ?_; focus (first | (simp; done) | (simp; omega) | (simp at *; omega))) | (with_reducible refine Ext.alloc ?_ _) | (with_reducible refine Ext.drew ?_) | (with_reducible refine Ext.drewN ?_ _) | (with_reducible refine Ext.trans ?_ (by assumption))))) hq2 (by omega); have hD2 := But.box hq2 (by omega) (HF2.out.ext (by repeat (first | (with_reducible exact Ext.refl _) | (with_reducible refine Ext.set_ ?_ _ ?_; focus (first | (simp; done) | (simp; omega) | (simp at *; omega))) | (with_reducible refine Ext.alloc ?_ _) | (with_reducible refine Ext.drew ?_) | (with_reducible refine Ext.drewN ?_ _) | (with_reducible refine Ext.trans ?_ (by assumption))))))
        | (refine wpList_storeA (vs' := zeroE) zeroE_one hD2 size_ex rfl rfl (.tmp 7) _ rfl rfl rfl ?_; intro w10 hq3 hq4))
      exact back_cct rfl zeroE zeroE (.bool false) rfl rfl rfl agg_ex agg_ex rfl (But.box hq4 (by omega) hq1).cells hq3.cells (SidesR.zero (But.to_ext hE9 hq4 (by omega)))
    · cases pa2
      · simp only [Bool.true_and, Bool.false_and, Bool.and_true, Bool.and_false, Bool.false_eq_true, if_true, if_false]
        go_wp2_with (first
          | (refine wpList_wish rfl fun K hK => wp_loadA (vs := [.int .i64 a.kind, .int .i64 a.rel, .int .i64 a.col, .int .i64 a.const.kind, .int .i64 a.const.int, .float .f64 a.const.flt, .string a.const.text, .slice A1 a.kids.length cap1]) agg_ex (.tmp 6) rfl rfl (HL1.out _ (by repeat (first | (with_reducible exact Ext.refl _) | (with_reducible refine Ext.set_ ?_ _ ?_; focus (first | (simp; done) | (simp; omega) | (simp at *; omega))) | (with_reducible refine Ext.alloc ?_ _) | (with_reducible refine Ext.drew ?_) | (with_reducible refine Ext.drewN ?_ _) | (with_reducible refine Ext.trans ?_ (by assumption))))) (hK _ _ ?_))
          | (refine wpList_wish rfl fun K hK => wp_loadA (vs := [.int .i64 b.kind, .int .i64 b.rel, .int .i64 b.col, .int .i64 b.const.kind, .int .i64 b.const.int, .float .f64 b.const.flt, .string b.const.text, .slice A2 b.kids.length cap2]) agg_ex (.tmp 7) rfl rfl (HL2.out _ (by repeat (first | (with_reducible exact Ext.refl _) | (with_reducible refine Ext.set_ ?_ _ ?_; focus (first | (simp; done) | (simp; omega) | (simp at *; omega))) | (with_reducible refine Ext.alloc ?_ _) | (with_reducible refine Ext.drew ?_) | (with_reducible refine Ext.drewN ?_ _) | (with_reducible refine Ext.trans ?_ (by assumption))))) (hK _ _ ?_))
          | (go_at_call 96; with_reducible refine (HCam1.out _ (HE5.out.trans (by repeat (first | (with_reducible exact Ext.refl _) | (with_reducible refine Ext.set_ ?_ _ ?_; focus (first | (simp; done) | (simp; omega) | (simp at *; omega))) | (with_reducible refine Ext.alloc ?_ _) | (with_reducible refine Ext.drew ?_) | (with_reducible refine Ext.drewN ?_ _) | (with_reducible refine Ext.trans ?_ (by assumption)))))).mono ?_; rintro ev wq ⟨rfl, hq⟩)
          | (go_at_call 96; with_reducible refine (HCbm2.out _ (HE5.out.trans (by repeat (first | (with_reducible exact Ext.refl _) | (with_reducible refine Ext.set_ ?_ _ ?_; focus (first | (simp; done) | (simp; omega) | (simp at *; omega))) | (with_reducible refine Ext.alloc ?_ _) | (with_reducible refine Ext.drew ?_) | (with_reducible refine Ext.drewN ?_ _) | (with_reducible refine Ext.trans ?_ (by assumption)))))).mono ?_; rintro ev wq ⟨rfl, hq⟩)
          | (go_at_call 96; with_reducible refine (HCbm1.out _ (HE5.out.trans (by repeat (first | (with_reducible exact Ext.refl _) | (with_reducible refine Ext.set_ ?_ _ ?_; focus (first | (simp; done) | (simp; omega) | (simp at *; omega))) | (with_reducible refine Ext.alloc ?_ _) | (with_reducible refine Ext.drew ?_) | (with_reducible refine Ext.drewN ?_ _) | (with_reducible refine Ext.trans ?_ (by assumption)))))).mono ?_; rintro ev wq ⟨rfl, hq⟩)
          | (go_at_call 96; with_reducible refine (HCam2.out _ (HE5.out.trans (by repeat (first | (with_reducible exact Ext.refl _) | (with_reducible refine Ext.set_ ?_ _ ?_; focus (first | (simp; done) | (simp; omega) | (simp at *; omega))) | (with_reducible refine Ext.alloc ?_ _) | (with_reducible refine Ext.drew ?_) | (with_reducible refine Ext.drewN ?_ _) | (with_reducible refine Ext.trans ?_ (by assumption)))))).mono ?_; rintro ev wq ⟨rfl, hq⟩)
          | (refine wpList_storeA (vs' := zeroE) zeroE_one (HF1.out.ext (by repeat (first | (with_reducible exact Ext.refl _) | (with_reducible refine Ext.set_ ?_ _ ?_; focus (first | (simp; done) | (simp; omega) | (simp at *; omega))) | (with_reducible refine Ext.alloc ?_ _) | (with_reducible refine Ext.drew ?_) | (with_reducible refine Ext.drewN ?_ _) | (with_reducible refine Ext.trans ?_ (by assumption))))) size_ex rfl rfl (.tmp 6) _ rfl rfl rfl ?_; intro w9 hq1 hq2; have hE9 := But.to_ext (HE5.out.trans (by repeat (first | (with_reducible exact Ext.refl _) | (with_reducible refine Ext.set_ ?_ _ ?_; focus (first | (simp; done) | (simp; omega) | (simp at *; omega))) | (with_reducible refine Ext.alloc ?_ _) | (with_reducible refine Ext.drew ?_) | (with_reducible refine Ext.drewN ?_ _) | (with_reducible refine Ext.trans ?_ (by assumption))))) hq2 (by omega); have hD2 := But.box hq2 (by omega) (HF2.out.ext (by repeat (first | (with_reducible exact Ext.refl _) | (with_reducible refine Ext.set_ ?_ _ ?_; focus (first | (simp; done) | (simp; omega) | (simp at *; omega))) | (with_reducible refine Ext.alloc ?_ _) | (with_reducible refine Ext.drew ?_) | (with_reducible refine Ext.drewN ?_ _) | (with_reducible refine Ext.trans ?_ (by assumption))))))
          | (refine wpList_storeA (vs' := zeroE) zeroE_one hD2 size_ex rfl rfl (.tmp 7) _ rfl rfl rfl ?_; intro w10 hq3 hq4))
        exact back_cct rfl zeroE zeroE (.bool false) rfl rfl rfl agg_ex agg_ex rfl (But.box hq4 (by omega) hq1).cells hq3.cells (SidesR.zero (But.to_ext hE9 hq4 (by omega)))
      · simp only [Bool.true_and, Bool.false_and, Bool.and_true, Bool.and_false, Bool.false_eq_true, if_true, if_false]
        go_upto_region 8 with (first
          | (refine wpList_wish rfl fun K hK => wp_loadA (vs := [.int .i64 a.kind, .int .i64 a.rel, .int .i64 a.col, .int .i64 a.const.kind, .int .i64 a.const.int, .float .f64 a.const.flt, .string a.const.text, .slice A1 a.kids.length cap1]) agg_ex (.tmp 6) rfl rfl (HL1.out _ (by repeat (first | (with_reducible exact Ext.refl _) | (with_reducible refine Ext.set_ ?_ _ ?_; focus (first | (simp; done) | (simp; omega) | (simp at *; omega))) | (with_reducible refine Ext.alloc ?_ _) | (with_reducible refine Ext.drew ?_) | (with_reducible refine Ext.drewN ?_ _) | (with_reducible refine Ext.trans ?_ (by assumption))))) (hK _ _ ?_))
          | (refine wpList_wish rfl fun K hK => wp_loadA (vs := [.int .i64 b.kind, .int .i64 b.rel, .int .i64 b.col, .int .i64 b.const.kind, .int .i64 b.const.int, .float .f64 b.const.flt, .string b.const.text, .slice A2 b.kids.length cap2]) agg_ex (.tmp 7) rfl rfl (HL2.out _ (by repeat (first | (with_reducible exact Ext.refl _) | (with_reducible refine Ext.set_ ?_ _ ?_; focus (first | (simp; done) | (simp; omega) | (simp at *; omega))) | (with_reducible refine Ext.alloc ?_ _) | (with_reducible refine Ext.drew ?_) | (with_reducible refine Ext.drewN ?_ _) | (with_reducible refine Ext.trans ?_ (by assumption))))) (hK _ _ ?_))
          | (go_at_call 96; with_reducible refine (HCam1.out _ (HE5.out.trans (by repeat (first | (with_reducible exact Ext.refl _) | (with_reducible refine Ext.set_ ?_ _ ?_; focus (first | (simp; done) | (simp; omega) | (simp at *; omega))) | (with_reducible refine Ext.alloc ?_ _) | (with_reducible refine Ext.drew ?_) | (with_reducible refine Ext.drewN ?_ _) | (with_reducible refine Ext.trans ?_ (by assumption)))))).mono ?_; rintro ev wq ⟨rfl, hq⟩)
          | (go_at_call 96; with_reducible refine (HCbm2.out _ (HE5.out.trans (by repeat (first | (with_reducible exact Ext.refl _) | (with_reducible refine Ext.set_ ?_ _ ?_; focus (first | (simp; done) | (simp; omega) | (simp at *; omega))) | (with_reducible refine Ext.alloc ?_ _) | (with_reducible refine Ext.drew ?_) | (with_reducible refine Ext.drewN ?_ _) | (with_reducible refine Ext.trans ?_ (by assumption)))))).mono ?_; rintro ev wq ⟨rfl, hq⟩)
          | (go_at_call 96; with_reducible refine (HCbm1.out _ (HE5.out.trans (by repeat (first | (with_reducible exact Ext.refl _) | (with_reducible refine Ext.set_ ?_ _ ?_; focus (first | (simp; done) | (simp; omega) | (simp at *; omega))) | (with_reducible refine Ext.alloc ?_ _) | (with_reducible refine Ext.drew ?_) | (with_reducible refine Ext.drewN ?_ _) | (with_reducible refine Ext.trans ?_ (by assumption)))))).mono ?_; rintro ev wq ⟨rfl, hq⟩)
          | (go_at_call 96; with_reducible refine (HCam2.out _ (HE5.out.trans (by repeat (first | (with_reducible exact Ext.refl _) | (with_reducible refine Ext.set_ ?_ _ ?_; focus (first | (simp; done) | (simp; omega) | (simp at *; omega))) | (with_reducible refine Ext.alloc ?_ _) | (with_reducible refine Ext.drew ?_) | (with_reducible refine Ext.drewN ?_ _) | (with_reducible refine Ext.trans ?_ (by assumption)))))).mono ?_; rintro ev wq ⟨rfl, hq⟩))
        refine name_world (fun u => Ext w5 u) (by repeat (first | (with_reducible exact Ext.refl _) | (with_reducible refine Ext.set_ ?_ _ ?_; focus (first | (simp; done) | (simp; omega) | (simp at *; omega))) | (with_reducible refine Ext.alloc ?_ _) | (with_reducible refine Ext.drew ?_) | (with_reducible refine Ext.drewN ?_ _) | (with_reducible refine Ext.trans ?_ (by assumption)))) ?_
        intro W6 hE6
        refine wp_region_held (S := fun _ => True) (by kernel_rfl) ?_
        change wpAnyH _ _ _ _ _ _ _ _ W6.drew
        have HX1 := (HF1.out.ext hE6).ext (Ext.refl _).drew
        have HX2 := (HF2.out.ext hE6).ext (Ext.refl _).drew
        have hE0 := (HE5.out.trans hE6).drew
        have hsz : w.heap.size + 2 < W6.heap.size := HX2.lt
        clear HL1 HL2 HCam1 HCbm2 HCbm1 HCam2
        have HE0 := Lib.hid hE0; have HY1 := Lib.hid HX1; have HY2 := Lib.hid HX2
        clear hE0 HX1 HX2 hE6
        refine held_two (i := 0) (j := 2) rfl rfl (by kernel_rfl) rfl rfl (fun K hK => ?_) (fun K hK => ?_)
        · refine wp_loadA (vs := [.int .i64 b.kind, .int .i64 b.rel, .int .i64 b.col, .int .i64 b.const.kind, .int .i64 b.const.int, .float .f64 b.const.flt, .string b.const.text, .slice A2 b.kids.length cap2]) agg_ex (.tmp 7) rfl rfl HY2.out.cells ?_
          refine hK _ _ trivial ?_
          clear hK K
          simp only [Act.put, List.setIfInBounds_toArray, List.set_cons_zero, List.set_cons_succ]
          refine held_two (i := 1) (j := 2) rfl rfl (by kernel_rfl) rfl rfl (fun K hK => ?_) (fun K hK => ?_)
          · refine wp_callF _ (fun u => by go_simp) (HPb.out _ (HE0.out)) ?_
            rintro _ w7 ⟨A7, c7, rfl, hi7, he7⟩
            refine hK _ _ trivial ?_
            clear hK K
            simp only [Act.put, List.setIfInBounds_toArray, List.set_cons_zero, List.set_cons_succ]
            refine held_do (i := 2) rfl (by kernel_rfl) rfl fun K hK => ?_
            refine wp_loadA (vs := [.int .i64 a.kind, .int .i64 a.rel, .int .i64 a.col, .int .i64 a.const.kind, .int .i64 a.const.int, .float .f64 a.const.flt, .string a.const.text, .slice A1 a.kids.length cap1]) agg_ex (.tmp 6) rfl rfl (HY1.out.ext he7).cells ?_
            refine hK _ _ trivial ?_
            clear hK K
            simp only [Act.put, List.setIfInBounds_toArray, List.set_cons_zero, List.set_cons_succ]
            refine held_do (i := 3) rfl (by kernel_rfl) rfl fun K hK => ?_
            refine wp_callF _ (fun u => by go_simp) (HPa.out _ (HE0.out.trans he7)) ?_
            rintro _ w8 ⟨A8, c8, rfl, hi8, he8⟩
            refine hK _ _ trivial ?_
            clear hK K
            simp only [Act.put, List.setIfInBounds_toArray, List.set_cons_zero, List.set_cons_succ]
            refine held_do (i := 4) rfl (by kernel_rfl) rfl fun K hK => ?_
            refine wp_storeA (vs' := [.int .i64 b.kind, .int .i64 b.rel, .int .i64 b.col, .int .i64 b.const.kind, .int .i64 b.const.int, .float .f64 b.const.flt, .string b.const.text, .slice A7 b.kids.length c7]) ex_one (HY1.out.ext (he7.trans he8)) size_ex rfl (.tmp 6) (.tmp 56) rfl rfl rfl ?_
            intro w9 hq1 hq2
            refine hK _ _ trivial ?_
            clear hK K
            simp only [Act.put, List.setIfInBounds_toArray, List.set_cons_zero, List.set_cons_succ]
            refine held_do (i := 5) rfl (by kernel_rfl) rfl fun K hK => ?_
            refine wp_storeA (vs' := [.int .i64 a.kind, .int .i64 a.rel, .int .i64 a.col, .int .i64 a.const.kind, .int .i64 a.const.int, .float .f64 a.const.flt, .string a.const.text, .slice A8 a.kids.length c8]) ex_one (But.box hq2 (by omega) (HY2.out.ext (he7.trans he8))) size_ex rfl (.tmp 7) (.tmp 58) rfl rfl rfl ?_
            intro w10 hq3 hq4
            refine hK _ _ trivial ?_
            clear hK K
            simp only [Act.put, List.setIfInBounds_toArray, List.set_cons_zero, List.set_cons_succ]
            refine held_run (i := 6) (.bool true) rfl (by kernel_rfl) (by kernel_rfl) (by kernel_rfl) (fun _ _ _ h => h) rfl (fun u _ => by go_simp) trivial ?_
            simp only [Act.put, List.setIfInBounds_toArray, List.set_cons_zero, List.set_cons_succ]
            refine wpAnyH_done (by kernel_rfl) ?_ _
            go_wp2_with fail
            have hM1 : ButS (fun k => k = w.heap.size + 1 ∨ k = w.heap.size + 2) w8 w10 := (ButS.of_but (M := fun k => k = w.heap.size + 1 ∨ k = w.heap.size + 2) hq2 (.inl rfl)).trans (ButS.of_but (M := fun k => k = w.heap.size + 1 ∨ k = w.heap.size + 2) hq4 (.inr rfl))
            have hsz7 : W6.heap.size ≤ w7.heap.size := he7.size
            have hx9 := ((hi7.from_ext (M := fun _ => False) (ButS.of_ext he8) (fun _ h => h.elim)).from_ext hM1 (fun k hk => by have hd : W6.drew.heap.size = W6.heap.size := rfl; omega)).of_from
            have hy9 := (hi8.from_ext hM1 (fun k hk => by omega)).of_from
            exact back_cct rfl [.int .i64 b.kind, .int .i64 b.rel, .int .i64 b.col, .int .i64 b.const.kind, .int .i64 b.const.int, .float .f64 b.const.flt, .string b.const.text, .slice A7 b.kids.length c7] [.int .i64 a.kind, .int .i64 a.rel, .int .i64 a.col, .int .i64 a.const.kind, .int .i64 a.const.int, .float .f64 a.const.flt, .string a.const.text, .slice A8 a.kids.length c8] (.bool true) rfl rfl rfl agg_ex agg_ex rfl (But.box hq4 (by omega) hq1).cells hq3.cells ⟨_, _, rfl, hx9, hy9, ButS.to_ext ((HE0.out.trans he7).trans he8) hM1 (fun k hk => by omega)⟩
          · refine wp_loadA (vs := [.int .i64 a.kind, .int .i64 a.rel, .int .i64 a.col, .int .i64 a.const.kind, .int .i64 a.const.int, .float .f64 a.const.flt, .string a.const.text, .slice A1 a.kids.length cap1]) agg_ex (.tmp 6) rfl rfl HY1.out.cells ?_
            refine hK _ _ trivial ?_
            clear hK K
            simp only [Act.put, List.setIfInBounds_toArray, List.set_cons_zero, List.set_cons_succ]
            refine held_do (i := 1) rfl (by kernel_rfl) rfl fun K hK => ?_
            refine wp_callF _ (fun u => by go_simp) (HPb.out _ (HE0.out)) ?_
            rintro _ w7 ⟨A7, c7, rfl, hi7, he7⟩
            refine hK _ _ trivial ?_
            clear hK K
            simp only [Act.put, List.setIfInBounds_toArray, List.set_cons_zero, List.set_cons_succ]
            refine held_do (i := 3) rfl (by kernel_rfl) rfl fun K hK => ?_
            refine wp_callF _ (fun u => by go_simp) (HPa.out _ (HE0.out.trans he7)) ?_
            rintro _ w8 ⟨A8, c8, rfl, hi8, he8⟩
            refine hK _ _ trivial ?_
            clear hK K
            simp only [Act.put, List.setIfInBounds_toArray, List.set_cons_zero, List.set_cons_succ]
            refine held_do (i := 4) rfl (by kernel_rfl) rfl fun K hK => ?_
            refine wp_storeA (vs' := [.int .i64 b.kind, .int .i64 b.rel, .int .i64 b.col, .int .i64 b.const.kind, .int .i64 b.const.int, .float .f64 b.const.flt, .string b.const.text, .slice A7 b.kids.length c7]) ex_one (HY1.out.ext (he7.trans he8)) size_ex rfl (.tmp 6) (.tmp 56) rfl rfl rfl ?_
            intro w9 hq1 hq2
            refine hK _ _ trivial ?_
            clear hK K
            simp only [Act.put, List.setIfInBounds_toArray, List.set_cons_zero, List.set_cons_succ]
            refine held_do (i := 5) rfl (by kernel_rfl) rfl fun K hK => ?_
            refine wp_storeA (vs' := [.int .i64 a.kind, .int .i64 a.rel, .int .i64 a.col, .int .i64 a.const.kind, .int .i64 a.const.int, .float .f64 a.const.flt, .string a.const.text, .slice A8 a.kids.length c8]) ex_one (But.box hq2 (by omega) (HY2.out.ext (he7.trans he8))) size_ex rfl (.tmp 7) (.tmp 58) rfl rfl rfl ?_
            intro w10 hq3 hq4
            refine hK _ _ trivial ?_
            clear hK K
            simp only [Act.put, List.setIfInBounds_toArray, List.set_cons_zero, List.set_cons_succ]
            refine held_run (i := 6) (.bool true) rfl (by kernel_rfl) (by kernel_rfl) (by kernel_rfl) (fun _ _ _ h => h) rfl (fun u _ => by go_simp) trivial ?_
            simp only [Act.put, List.setIfInBounds_toArray, List.set_cons_zero, List.set_cons_succ]
            refine wpAnyH_done (by kernel_rfl) ?_ _
            go_wp2_with fail
            have hM1 : ButS (fun k => k = w.heap.size + 1 ∨ k = w.heap.size + 2) w8 w10 := (ButS.of_but (M := fun k => k = w.heap.size + 1 ∨ k = w.heap.size + 2) hq2 (.inl rfl)).trans (ButS.of_but (M := fun k => k = w.heap.size + 1 ∨ k = w.heap.size + 2) hq4 (.inr rfl))
            have hsz7 : W6.heap.size ≤ w7.heap.size := he7.size
            have hx9 := ((hi7.from_ext (M := fun _ => False) (ButS.of_ext he8) (fun _ h => h.elim)).from_ext hM1 (fun k hk => by have hd : W6.drew.heap.size = W6.heap.size := rfl; omega)).of_from
            have hy9 := (hi8.from_ext hM1 (fun k hk => by omega)).of_from
            exact back_cct rfl [.int .i64 b.kind, .int .i64 b.rel, .int .i64 b.col, .int .i64 b.const.kind, .int .i64 b.const.int, .float .f64 b.const.flt, .string b.const.text, .slice A7 b.kids.length c7] [.int .i64 a.kind, .int .i64 a.rel, .int .i64 a.col, .int .i64 a.const.kind, .int .i64 a.const.int, .float .f64 a.const.flt, .string a.const.text, .slice A8 a.kids.length c8] (.bool true) rfl rfl rfl agg_ex agg_ex rfl (But.box hq4 (by omega) hq1).cells hq3.cells ⟨_, _, rfl, hx9, hy9, ButS.to_ext ((HE0.out.trans he7).trans he8) hM1 (fun k hk => by omega)⟩
        · refine wp_loadA (vs := [.int .i64 a.kind, .int .i64 a.rel, .int .i64 a.col, .int .i64 a.const.kind, .int .i64 a.const.int, .float .f64 a.const.flt, .string a.const.text, .slice A1 a.kids.length cap1]) agg_ex (.tmp 6) rfl rfl HY1.out.cells ?_
          refine hK _ _ trivial ?_
          clear hK K
          simp only [Act.put, List.setIfInBounds_toArray, List.set_cons_zero, List.set_cons_succ]
          refine held_do (i := 0) rfl (by kernel_rfl) rfl fun K hK => ?_
          refine wp_loadA (vs := [.int .i64 b.kind, .int .i64 b.rel, .int .i64 b.col, .int .i64 b.const.kind, .int .i64 b.const.int, .float .f64 b.const.flt, .string b.const.text, .slice A2 b.kids.length cap2]) agg_ex (.tmp 7) rfl rfl HY2.out.cells ?_
          refine hK _ _ trivial ?_
          clear hK K
          simp only [Act.put, List.setIfInBounds_toArray, List.set_cons_zero, List.set_cons_succ]
          refine held_do (i := 1) rfl (by kernel_rfl) rfl fun K hK => ?_
          refine wp_callF _ (fun u => by go_simp) (HPb.out _ (HE0.out)) ?_
          rintro _ w7 ⟨A7, c7, rfl, hi7, he7⟩
          refine hK _ _ trivial ?_
          clear hK K
          simp only [Act.put, List.setIfInBounds_toArray, List.set_cons_zero, List.set_cons_succ]
          refine held_do (i := 3) rfl (by kernel_rfl) rfl fun K hK => ?_
          refine wp_callF _ (fun u => by go_simp) (HPa.out _ (HE0.out.trans he7)) ?_
          rintro _ w8 ⟨A8, c8, rfl, hi8, he8⟩
          refine hK _ _ trivial ?_
          clear hK K
          simp only [Act.put, List.setIfInBounds_toArray, List.set_cons_zero, List.set_cons_succ]
          refine held_do (i := 4) rfl (by kernel_rfl) rfl fun K hK => ?_
          refine wp_storeA (vs' := [.int .i64 b.kind, .int .i64 b.rel, .int .i64 b.col, .int .i64 b.const.kind, .int .i64 b.const.int, .float .f64 b.const.flt, .string b.const.text, .slice A7 b.kids.length c7]) ex_one (HY1.out.ext (he7.trans he8)) size_ex rfl (.tmp 6) (.tmp 56) rfl rfl rfl ?_
          intro w9 hq1 hq2
          refine hK _ _ trivial ?_
          clear hK K
          simp only [Act.put, List.setIfInBounds_toArray, List.set_cons_zero, List.set_cons_succ]
          refine held_do (i := 5) rfl (by kernel_rfl) rfl fun K hK => ?_
          refine wp_storeA (vs' := [.int .i64 a.kind, .int .i64 a.rel, .int .i64 a.col, .int .i64 a.const.kind, .int .i64 a.const.int, .float .f64 a.const.flt, .string a.const.text, .slice A8 a.kids.length c8]) ex_one (But.box hq2 (by omega) (HY2.out.ext (he7.trans he8))) size_ex rfl (.tmp 7) (.tmp 58) rfl rfl rfl ?_
          intro w10 hq3 hq4
          refine hK _ _ trivial ?_
          clear hK K
          simp only [Act.put, List.setIfInBounds_toArray, List.set_cons_zero, List.set_cons_succ]
          refine held_run (i := 6) (.bool true) rfl (by kernel_rfl) (by kernel_rfl) (by kernel_rfl) (fun _ _ _ h => h) rfl (fun u _ => by go_simp) trivial ?_
          simp only [Act.put, List.setIfInBounds_toArray, List.set_cons_zero, List.set_cons_succ]
          refine wpAnyH_done (by kernel_rfl) ?_ _
          go_wp2_with fail
          have hM1 : ButS (fun k => k = w.heap.size + 1 ∨ k = w.heap.size + 2) w8 w10 := (ButS.of_but (M := fun k => k = w.heap.size + 1 ∨ k = w.heap.size + 2) hq2 (.inl rfl)).trans (ButS.of_but (M := fun k => k = w.heap.size + 1 ∨ k = w.heap.size + 2) hq4 (.inr rfl))
          have hsz7 : W6.heap.size ≤ w7.heap.size := he7.size
          have hx9 := ((hi7.from_ext (M := fun _ => False) (ButS.of_ext he8) (fun _ h => h.elim)).from_ext hM1 (fun k hk => by have hd : W6.drew.heap.size = W6.heap.size := rfl; omega)).of_from
          have hy9 := (hi8.from_ext hM1 (fun k hk => by omega)).of_from
          exact back_cct rfl [.int .i64 b.kind, .int .i64 b.rel, .int .i64 b.col, .int .i64 b.const.kind, .int .i64 b.const.int, .float .f64 b.const.flt, .string b.const.text, .slice A7 b.kids.length c7] [.int .i64 a.kind, .int .i64 a.rel, .int .i64 a.col, .int .i64 a.const.kind, .int .i64 a.const.int, .float .f64 a.const.flt, .string a.const.text, .slice A8 a.kids.length c8] (.bool true) rfl rfl rfl agg_ex agg_ex rfl (But.box hq4 (by omega) hq1).cells hq3.cells ⟨_, _, rfl, hx9, hy9, ButS.to_ext ((HE0.out.trans he7).trans he8) hM1 (fun k hk => by omega)⟩
  · cases pb2
    · cases pb1
      · simp only [Bool.true_and, Bool.false_and, Bool.and_true, Bool.and_false, Bool.false_eq_true, if_true, if_false]
        go_wp2_with (first
          | (refine wpList_wish rfl fun K hK => wp_loadA (vs := [.int .i64 a.kind, .int .i64 a.rel, .int .i64 a.col, .int .i64 a.const.kind, .int .i64 a.const.int, .float .f64 a.const.flt, .string a.const.text, .slice A1 a.kids.length cap1]) agg_ex (.tmp 6) rfl rfl (HL1.out _ (by repeat (first | (with_reducible exact Ext.refl _) | (with_reducible refine Ext.set_ ?_ _ ?_; focus (first | (simp; done) | (simp; omega) | (simp at *; omega))) | (with_reducible refine Ext.alloc ?_ _) | (with_reducible refine Ext.drew ?_) | (with_reducible refine Ext.drewN ?_ _) | (with_reducible refine Ext.trans ?_ (by assumption))))) (hK _ _ ?_))
          | (refine wpList_wish rfl fun K hK => wp_loadA (vs := [.int .i64 b.kind, .int .i64 b.rel, .int .i64 b.col, .int .i64 b.const.kind, .int .i64 b.const.int, .float .f64 b.const.flt, .string b.const.text, .slice A2 b.kids.length cap2]) agg_ex (.tmp 7) rfl rfl (HL2.out _ (by repeat (first | (with_reducible exact Ext.refl _) | (with_reducible refine Ext.set_ ?_ _ ?_; focus (first | (simp; done) | (simp; omega) | (simp at *; omega))) | (with_reducible refine Ext.alloc ?_ _) | (with_reducible refine Ext.drew ?_) | (with_reducible refine Ext.drewN ?_ _) | (with_reducible refine Ext.trans ?_ (by assumption))))) (hK _ _ ?_))
          | (go_at_call 96; with_reducible refine (HCam1.out _ (HE5.out.trans (by repeat (first | (with_reducible exact Ext.refl _) | (with_reducible refine Ext.set_ ?_ _ ?_; focus (first | (simp; done) | (simp; omega) | (simp at *; omega))) | (with_reducible refine Ext.alloc ?_ _) | (with_reducible refine Ext.drew ?_) | (with_reducible refine Ext.drewN ?_ _) | (with_reducible refine Ext.trans ?_ (by assumption)))))).mono ?_; rintro ev wq ⟨rfl, hq⟩)
          | (go_at_call 96; with_reducible refine (HCbm2.out _ (HE5.out.trans (by repeat (first | (with_reducible exact Ext.refl _) | (with_reducible refine Ext.set_ ?_ _ ?_; focus (first | (simp; done) | (simp; omega) | (simp at *; omega))) | (with_reducible refine Ext.alloc ?_ _) | (with_reducible refine Ext.drew ?_) | (with_reducible refine Ext.drewN ?_ _) | (with_reducible refine Ext.trans ?_ (by assumption)))))).mono ?_; rintro ev wq ⟨rfl, hq⟩)
          | (go_at_call 96; with_reducible refine (HCbm1.out _ (HE5.out.trans (by repeat (first | (with_reducible exact Ext.refl _) | (with_reducible refine Ext.set_ ?_ _ ?_; focus (first | (simp; done) | (simp; omega) | (simp at *; omega))) | (with_reducible refine Ext.alloc ?_ _) | (with_reducible refine Ext.drew ?_) | (with_reducible refine Ext.drewN ?_ _) | (with_reducible refine Ext.trans ?_ (by assumption)))))).mono ?_; rintro ev wq ⟨rfl, hq⟩)
          | (go_at_call 96; with_reducible refine (HCam2.out _ (HE5.out.trans (by repeat (first | (with_reducible exact Ext.refl _) | (with_reducible refine Ext.set_ ?_ _ ?_; focus (first | (simp; done) | (simp; omega) | (simp at *; omega))) | (with_reducible refine Ext.alloc ?_ _) | (with_reducible refine Ext.drew ?_) | (with_reducible refine Ext.drewN ?_ _) | (with_reducible refine Ext.trans ?_ (by assumption)))))).mono ?_; rintro ev wq ⟨rfl, hq⟩)
          | (refine wpList_storeA (vs' := zeroE) zeroE_one (HF1.out.ext (by repeat (first | (with_reducible exact Ext.refl _) | (with_reducible refine Ext.set_ ?_ _ ?_; focus (first | (simp; done) | (simp; omega) | (simp at *; omega))) | (with_reducible refine Ext.alloc ?_ _) | (with_reducible refine Ext.drew ?_) | (with_reducible refine Ext.drewN ?_ _) | (with_reducible refine Ext.trans ?_ (by assumption))))) size_ex rfl rfl (.tmp 6) _ rfl rfl rfl ?_; intro w9 hq1 hq2; have hE9 := But.to_ext (HE5.out.trans (by repeat (first | (with_reducible exact Ext.refl _) | (with_reducible refine Ext.set_ ?_ _ ?_; focus (first | (simp; done) | (simp; omega) | (simp at *; omega))) | (with_reducible refine Ext.alloc ?_ _) | (with_reducible refine Ext.drew ?_) | (with_reducible refine Ext.drewN ?_ _) | (with_reducible refine Ext.trans ?_ (by assumption))))) hq2 (by omega); have hD2 := But.box hq2 (by omega) (HF2.out.ext (by repeat (first | (with_reducible exact Ext.refl _) | (with_reducible refine Ext.set_ ?_ _ ?_; focus (first | (simp; done) | (simp; omega) | (simp at *; omega))) | (with_reducible refine Ext.alloc ?_ _) | (with_reducible refine Ext.drew ?_) | (with_reducible refine Ext.drewN ?_ _) | (with_reducible refine Ext.trans ?_ (by assumption))))))
          | (refine wpList_storeA (vs' := zeroE) zeroE_one hD2 size_ex rfl rfl (.tmp 7) _ rfl rfl rfl ?_; intro w10 hq3 hq4))
        exact back_cct rfl zeroE zeroE (.bool false) rfl rfl rfl agg_ex agg_ex rfl (But.box hq4 (by omega) hq1).cells hq3.cells (SidesR.zero (But.to_ext hE9 hq4 (by omega)))
      · cases pa2
        · simp only [Bool.true_and, Bool.false_and, Bool.and_true, Bool.and_false, Bool.false_eq_true, if_true, if_false]
          go_wp2_with (first
            | (refine wpList_wish rfl fun K hK => wp_loadA (vs := [.int .i64 a.kind, .int .i64 a.rel, .int .i64 a.col, .int .i64 a.const.kind, .int .i64 a.const.int, .float .f64 a.const.flt, .string a.const.text, .slice A1 a.kids.length cap1]) agg_ex (.tmp 6) rfl rfl (HL1.out _ (by repeat (first | (with_reducible exact Ext.refl _) | (with_reducible refine Ext.set_ ?_ _ ?_; focus (first | (simp; done) | (simp; omega) | (simp at *; omega))) | (with_reducible refine Ext.alloc ?_ _) | (with_reducible refine Ext.drew ?_) | (with_reducible refine Ext.drewN ?_ _) | (with_reducible refine Ext.trans ?_ (by assumption))))) (hK _ _ ?_))
            | (refine wpList_wish rfl fun K hK => wp_loadA (vs := [.int .i64 b.kind, .int .i64 b.rel, .int .i64 b.col, .int .i64 b.const.kind, .int .i64 b.const.int, .float .f64 b.const.flt, .string b.const.text, .slice A2 b.kids.length cap2]) agg_ex (.tmp 7) rfl rfl (HL2.out _ (by repeat (first | (with_reducible exact Ext.refl _) | (with_reducible refine Ext.set_ ?_ _ ?_; focus (first | (simp; done) | (simp; omega) | (simp at *; omega))) | (with_reducible refine Ext.alloc ?_ _) | (with_reducible refine Ext.drew ?_) | (with_reducible refine Ext.drewN ?_ _) | (with_reducible refine Ext.trans ?_ (by assumption))))) (hK _ _ ?_))
            | (go_at_call 96; with_reducible refine (HCam1.out _ (HE5.out.trans (by repeat (first | (with_reducible exact Ext.refl _) | (with_reducible refine Ext.set_ ?_ _ ?_; focus (first | (simp; done) | (simp; omega) | (simp at *; omega))) | (with_reducible refine Ext.alloc ?_ _) | (with_reducible refine Ext.drew ?_) | (with_reducible refine Ext.drewN ?_ _) | (with_reducible refine Ext.trans ?_ (by assumption)))))).mono ?_; rintro ev wq ⟨rfl, hq⟩)
            | (go_at_call 96; with_reducible refine (HCbm2.out _ (HE5.out.trans (by repeat (first | (with_reducible exact Ext.refl _) | (with_reducible refine Ext.set_ ?_ _ ?_; focus (first | (simp; done) | (simp; omega) | (simp at *; omega))) | (with_reducible refine Ext.alloc ?_ _) | (with_reducible refine Ext.drew ?_) | (with_reducible refine Ext.drewN ?_ _) | (with_reducible refine Ext.trans ?_ (by assumption)))))).mono ?_; rintro ev wq ⟨rfl, hq⟩)
            | (go_at_call 96; with_reducible refine (HCbm1.out _ (HE5.out.trans (by repeat (first | (with_reducible exact Ext.refl _) | (with_reducible refine Ext.set_ ?_ _ ?_; focus (first | (simp; done) | (simp; omega) | (simp at *; omega))) | (with_reducible refine Ext.alloc ?_ _) | (with_reducible refine Ext.drew ?_) | (with_reducible refine Ext.drewN ?_ _) | (with_reducible refine Ext.trans ?_ (by assumption)))))).mono ?_; rintro ev wq ⟨rfl, hq⟩)
            | (go_at_call 96; with_reducible refine (HCam2.out _ (HE5.out.trans (by repeat (first | (with_reducible exact Ext.refl _) | (with_reducible refine Ext.set_ ?_ _ ?_; focus (first | (simp; done) | (simp; omega) | (simp at *; omega))) | (with_reducible refine Ext.alloc ?_ _) | (with_reducible refine Ext.drew ?_) | (with_reducible refine Ext.drewN ?_ _) | (with_reducible refine Ext.trans ?_ (by assumption)))))).mono ?_; rintro ev wq ⟨rfl, hq⟩)
            | (refine wpList_storeA (vs' := zeroE) zeroE_one (HF1.out.ext (by repeat (first | (with_reducible exact Ext.refl _) | (with_reducible refine Ext.set_ ?_ _ ?_; focus (first | (simp; done) | (simp; omega) | (simp at *; omega))) | (with_reducible refine Ext.alloc ?_ _) | (with_reducible refine Ext.drew ?_) | (with_reducible refine Ext.drewN ?_ _) | (with_reducible refine Ext.trans ?_ (by assumption))))) size_ex rfl rfl (.tmp 6) _ rfl rfl rfl ?_; intro w9 hq1 hq2; have hE9 := But.to_ext (HE5.out.trans (by repeat (first | (with_reducible exact Ext.refl _) | (with_reducible refine Ext.set_ ?_ _ ?_; focus (first | (simp; done) | (simp; omega) | (simp at *; omega))) | (with_reducible refine Ext.alloc ?_ _) | (with_reducible refine Ext.drew ?_) | (with_reducible refine Ext.drewN ?_ _) | (with_reducible refine Ext.trans ?_ (by assumption))))) hq2 (by omega); have hD2 := But.box hq2 (by omega) (HF2.out.ext (by repeat (first | (with_reducible exact Ext.refl _) | (with_reducible refine Ext.set_ ?_ _ ?_; focus (first | (simp; done) | (simp; omega) | (simp at *; omega))) | (with_reducible refine Ext.alloc ?_ _) | (with_reducible refine Ext.drew ?_) | (with_reducible refine Ext.drewN ?_ _) | (with_reducible refine Ext.trans ?_ (by assumption))))))
            | (refine wpList_storeA (vs' := zeroE) zeroE_one hD2 size_ex rfl rfl (.tmp 7) _ rfl rfl rfl ?_; intro w10 hq3 hq4))
          exact back_cct rfl zeroE zeroE (.bool false) rfl rfl rfl agg_ex agg_ex rfl (But.box hq4 (by omega) hq1).cells hq3.cells (SidesR.zero (But.to_ext hE9 hq4 (by omega)))
        · simp only [Bool.true_and, Bool.false_and, Bool.and_true, Bool.and_false, Bool.false_eq_true, if_true, if_false]
          go_upto_region 8 with (first
            | (refine wpList_wish rfl fun K hK => wp_loadA (vs := [.int .i64 a.kind, .int .i64 a.rel, .int .i64 a.col, .int .i64 a.const.kind, .int .i64 a.const.int, .float .f64 a.const.flt, .string a.const.text, .slice A1 a.kids.length cap1]) agg_ex (.tmp 6) rfl rfl (HL1.out _ (by repeat (first | (with_reducible exact Ext.refl _) | (with_reducible refine Ext.set_ ?_ _ ?_; focus (first | (simp; done) | (simp; omega) | (simp at *; omega))) | (with_reducible refine Ext.alloc ?_ _) | (with_reducible refine Ext.drew ?_) | (with_reducible refine Ext.drewN ?_ _) | (with_reducible refine Ext.trans ?_ (by assumption))))) (hK _ _ ?_))
            | (refine wpList_wish rfl fun K hK => wp_loadA (vs := [.int .i64 b.kind, .int .i64 b.rel, .int .i64 b.col, .int .i64 b.const.kind, .int .i64 b.const.int, .float .f64 b.const.flt, .string b.const.text, .slice A2 b.kids.length cap2]) agg_ex (.tmp 7) rfl rfl (HL2.out _ (by repeat (first | (with_reducible exact Ext.refl _) | (with_reducible refine Ext.set_ ?_ _ ?_; focus (first | (simp; done) | (simp; omega) | (simp at *; omega))) | (with_reducible refine Ext.alloc ?_ _) | (with_reducible refine Ext.drew ?_) | (with_reducible refine Ext.drewN ?_ _) | (with_reducible refine Ext.trans ?_ (by assumption))))) (hK _ _ ?_))
            | (go_at_call 96; with_reducible refine (HCam1.out _ (HE5.out.trans (by repeat (first | (with_reducible exact Ext.refl _) | (with_reducible refine Ext.set_ ?_ _ ?_; focus (first | (simp; done) | (simp; omega) | (simp at *; omega))) | (with_reducible refine Ext.alloc ?_ _) | (with_reducible refine Ext.drew ?_) | (with_reducible refine Ext.drewN ?_ _) | (with_reducible refine Ext.trans ?_ (by assumption)))))).mono ?_; rintro ev wq ⟨rfl, hq⟩)
            | (go_at_call 96; with_reducible refine (HCbm2.out _ (HE5.out.trans (by repeat (first | (with_reducible exact Ext.refl _) | (with_reducible refine Ext.set_ ?_ _ ?_; focus (first | (simp; done) | (simp; omega) | (simp at *; omega))) | (with_reducible refine Ext.alloc ?_ _) | (with_reducible refine Ext.drew ?_) | (with_reducible refine Ext.drewN ?_ _) | (with_reducible refine Ext.trans ?_ (by assumption)))))).mono ?_; rintro ev wq ⟨rfl, hq⟩)
            | (go_at_call 96; with_reducible refine (HCbm1.out _ (HE5.out.trans (by repeat (first | (with_reducible exact Ext.refl _) | (with_reducible refine Ext.set_ ?_ _ ?_; focus (first | (simp; done) | (simp; omega) | (simp at *; omega))) | (with_reducible refine Ext.alloc ?_ _) | (with_reducible refine Ext.drew ?_) | (with_reducible refine Ext.drewN ?_ _) | (with_reducible refine Ext.trans ?_ (by assumption)))))).mono ?_; rintro ev wq ⟨rfl, hq⟩)
            | (go_at_call 96; with_reducible refine (HCam2.out _ (HE5.out.trans (by repeat (first | (with_reducible exact Ext.refl _) | (with_reducible refine Ext.set_ ?_ _ ?_; focus (first | (simp; done) | (simp; omega) | (simp at *; omega))) | (with_reducible refine Ext.alloc ?_ _) | (with_reducible refine Ext.drew ?_) | (with_reducible refine Ext.drewN ?_ _) | (with_reducible refine Ext.trans ?_ (by assumption)))))).mono ?_; rintro ev wq ⟨rfl, hq⟩))
          refine name_world (fun u => Ext w5 u) (by repeat (first | (with_reducible exact Ext.refl _) | (with_reducible refine Ext.set_ ?_ _ ?_; focus (first | (simp; done) | (simp; omega) | (simp at *; omega))) | (with_reducible refine Ext.alloc ?_ _) | (with_reducible refine Ext.drew ?_) | (with_reducible refine Ext.drewN ?_ _) | (with_reducible refine Ext.trans ?_ (by assumption)))) ?_
          intro W6 hE6
          refine wp_region_held (S := fun _ => True) (by kernel_rfl) ?_
          change wpAnyH _ _ _ _ _ _ _ _ W6.drew
          have HX1 := (HF1.out.ext hE6).ext (Ext.refl _).drew
          have HX2 := (HF2.out.ext hE6).ext (Ext.refl _).drew
          have hE0 := (HE5.out.trans hE6).drew
          have hsz : w.heap.size + 2 < W6.heap.size := HX2.lt
          clear HL1 HL2 HCam1 HCbm2 HCbm1 HCam2
          have HE0 := Lib.hid hE0; have HY1 := Lib.hid HX1; have HY2 := Lib.hid HX2
          clear hE0 HX1 HX2 hE6
          refine held_two (i := 0) (j := 2) rfl rfl (by kernel_rfl) rfl rfl (fun K hK => ?_) (fun K hK => ?_)
          · refine wp_loadA (vs := [.int .i64 b.kind, .int .i64 b.rel, .int .i64 b.col, .int .i64 b.const.kind, .int .i64 b.const.int, .float .f64 b.const.flt, .string b.const.text, .slice A2 b.kids.length cap2]) agg_ex (.tmp 7) rfl rfl HY2.out.cells ?_
            refine hK _ _ trivial ?_
            clear hK K
            simp only [Act.put, List.setIfInBounds_toArray, List.set_cons_zero, List.set_cons_succ]
            refine held_two (i := 1) (j := 2) rfl rfl (by kernel_rfl) rfl rfl (fun K hK => ?_) (fun K hK => ?_)
            · refine wp_callF _ (fun u => by go_simp) (HPb.out _ (HE0.out)) ?_
              rintro _ w7 ⟨A7, c7, rfl, hi7, he7⟩
              refine hK _ _ trivial ?_
              clear hK K
              simp only [Act.put, List.setIfInBounds_toArray, List.set_cons_zero, List.set_cons_succ]
              refine held_do (i := 2) rfl (by kernel_rfl) rfl fun K hK => ?_
              refine wp_loadA (vs := [.int .i64 a.kind, .int .i64 a.rel, .int .i64 a.col, .int .i64 a.const.kind, .int .i64 a.const.int, .float .f64 a.const.flt, .string a.const.text, .slice A1 a.kids.length cap1]) agg_ex (.tmp 6) rfl rfl (HY1.out.ext he7).cells ?_
              refine hK _ _ trivial ?_
              clear hK K
              simp only [Act.put, List.setIfInBounds_toArray, List.set_cons_zero, List.set_cons_succ]
              refine held_do (i := 3) rfl (by kernel_rfl) rfl fun K hK => ?_
              refine wp_callF _ (fun u => by go_simp) (HPa.out _ (HE0.out.trans he7)) ?_
              rintro _ w8 ⟨A8, c8, rfl, hi8, he8⟩
              refine hK _ _ trivial ?_
              clear hK K
              simp only [Act.put, List.setIfInBounds_toArray, List.set_cons_zero, List.set_cons_succ]
              refine held_do (i := 4) rfl (by kernel_rfl) rfl fun K hK => ?_
              refine wp_storeA (vs' := [.int .i64 b.kind, .int .i64 b.rel, .int .i64 b.col, .int .i64 b.const.kind, .int .i64 b.const.int, .float .f64 b.const.flt, .string b.const.text, .slice A7 b.kids.length c7]) ex_one (HY1.out.ext (he7.trans he8)) size_ex rfl (.tmp 6) (.tmp 56) rfl rfl rfl ?_
              intro w9 hq1 hq2
              refine hK _ _ trivial ?_
              clear hK K
              simp only [Act.put, List.setIfInBounds_toArray, List.set_cons_zero, List.set_cons_succ]
              refine held_do (i := 5) rfl (by kernel_rfl) rfl fun K hK => ?_
              refine wp_storeA (vs' := [.int .i64 a.kind, .int .i64 a.rel, .int .i64 a.col, .int .i64 a.const.kind, .int .i64 a.const.int, .float .f64 a.const.flt, .string a.const.text, .slice A8 a.kids.length c8]) ex_one (But.box hq2 (by omega) (HY2.out.ext (he7.trans he8))) size_ex rfl (.tmp 7) (.tmp 58) rfl rfl rfl ?_
              intro w10 hq3 hq4
              refine hK _ _ trivial ?_
              clear hK K
              simp only [Act.put, List.setIfInBounds_toArray, List.set_cons_zero, List.set_cons_succ]
              refine held_run (i := 6) (.bool true) rfl (by kernel_rfl) (by kernel_rfl) (by kernel_rfl) (fun _ _ _ h => h) rfl (fun u _ => by go_simp) trivial ?_
              simp only [Act.put, List.setIfInBounds_toArray, List.set_cons_zero, List.set_cons_succ]
              refine wpAnyH_done (by kernel_rfl) ?_ _
              go_wp2_with fail
              have hM1 : ButS (fun k => k = w.heap.size + 1 ∨ k = w.heap.size + 2) w8 w10 := (ButS.of_but (M := fun k => k = w.heap.size + 1 ∨ k = w.heap.size + 2) hq2 (.inl rfl)).trans (ButS.of_but (M := fun k => k = w.heap.size + 1 ∨ k = w.heap.size + 2) hq4 (.inr rfl))
              have hsz7 : W6.heap.size ≤ w7.heap.size := he7.size
              have hx9 := ((hi7.from_ext (M := fun _ => False) (ButS.of_ext he8) (fun _ h => h.elim)).from_ext hM1 (fun k hk => by have hd : W6.drew.heap.size = W6.heap.size := rfl; omega)).of_from
              have hy9 := (hi8.from_ext hM1 (fun k hk => by omega)).of_from
              exact back_cct rfl [.int .i64 b.kind, .int .i64 b.rel, .int .i64 b.col, .int .i64 b.const.kind, .int .i64 b.const.int, .float .f64 b.const.flt, .string b.const.text, .slice A7 b.kids.length c7] [.int .i64 a.kind, .int .i64 a.rel, .int .i64 a.col, .int .i64 a.const.kind, .int .i64 a.const.int, .float .f64 a.const.flt, .string a.const.text, .slice A8 a.kids.length c8] (.bool true) rfl rfl rfl agg_ex agg_ex rfl (But.box hq4 (by omega) hq1).cells hq3.cells ⟨_, _, rfl, hx9, hy9, ButS.to_ext ((HE0.out.trans he7).trans he8) hM1 (fun k hk => by omega)⟩
            · refine wp_loadA (vs := [.int .i64 a.kind, .int .i64 a.rel, .int .i64 a.col, .int .i64 a.const.kind, .int .i64 a.const.int, .float .f64 a.const.flt, .string a.const.text, .slice A1 a.kids.length cap1]) agg_ex (.tmp 6) rfl rfl HY1.out.cells ?_
              refine hK _ _ trivial ?_
              clear hK K
              simp only [Act.put, List.setIfInBounds_toArray, List.set_cons_zero, List.set_cons_succ]
              refine held_do (i := 1) rfl (by kernel_rfl) rfl fun K hK => ?_
              refine wp_callF _ (fun u => by go_simp) (HPb.out _ (HE0.out)) ?_
              rintro _ w7 ⟨A7, c7, rfl, hi7, he7⟩
              refine hK _ _ trivial ?_
              clear hK K
              simp only [Act.put, List.setIfInBounds_toArray, List.set_cons_zero, List.set_cons_succ]
              refine held_do (i := 3) rfl (by kernel_rfl) rfl fun K hK => ?_
              refine wp_callF _ (fun u => by go_simp) (HPa.out _ (HE0.out.trans he7)) ?_
              rintro _ w8 ⟨A8, c8, rfl, hi8, he8⟩
              refine hK _ _ trivial ?_
              clear hK K
              simp only [Act.put, List.setIfInBounds_toArray, List.set_cons_zero, List.set_cons_succ]
              refine held_do (i := 4) rfl (by kernel_rfl) rfl fun K hK => ?_
              refine wp_storeA (vs' := [.int .i64 b.kind, .int .i64 b.rel, .int .i64 b.col, .int .i64 b.const.kind, .int .i64 b.const.int, .float .f64 b.const.flt, .string b.const.text, .slice A7 b.kids.length c7]) ex_one (HY1.out.ext (he7.trans he8)) size_ex rfl (.tmp 6) (.tmp 56) rfl rfl rfl ?_
              intro w9 hq1 hq2
              refine hK _ _ trivial ?_
              clear hK K
              simp only [Act.put, List.setIfInBounds_toArray, List.set_cons_zero, List.set_cons_succ]
              refine held_do (i := 5) rfl (by kernel_rfl) rfl fun K hK => ?_
              refine wp_storeA (vs' := [.int .i64 a.kind, .int .i64 a.rel, .int .i64 a.col, .int .i64 a.const.kind, .int .i64 a.const.int, .float .f64 a.const.flt, .string a.const.text, .slice A8 a.kids.length c8]) ex_one (But.box hq2 (by omega) (HY2.out.ext (he7.trans he8))) size_ex rfl (.tmp 7) (.tmp 58) rfl rfl rfl ?_
              intro w10 hq3 hq4
              refine hK _ _ trivial ?_
              clear hK K
              simp only [Act.put, List.setIfInBounds_toArray, List.set_cons_zero, List.set_cons_succ]
              refine held_run (i := 6) (.bool true) rfl (by kernel_rfl) (by kernel_rfl) (by kernel_rfl) (fun _ _ _ h => h) rfl (fun u _ => by go_simp) trivial ?_
              simp only [Act.put, List.setIfInBounds_toArray, List.set_cons_zero, List.set_cons_succ]
              refine wpAnyH_done (by kernel_rfl) ?_ _
              go_wp2_with fail
              have hM1 : ButS (fun k => k = w.heap.size + 1 ∨ k = w.heap.size + 2) w8 w10 := (ButS.of_but (M := fun k => k = w.heap.size + 1 ∨ k = w.heap.size + 2) hq2 (.inl rfl)).trans (ButS.of_but (M := fun k => k = w.heap.size + 1 ∨ k = w.heap.size + 2) hq4 (.inr rfl))
              have hsz7 : W6.heap.size ≤ w7.heap.size := he7.size
              have hx9 := ((hi7.from_ext (M := fun _ => False) (ButS.of_ext he8) (fun _ h => h.elim)).from_ext hM1 (fun k hk => by have hd : W6.drew.heap.size = W6.heap.size := rfl; omega)).of_from
              have hy9 := (hi8.from_ext hM1 (fun k hk => by omega)).of_from
              exact back_cct rfl [.int .i64 b.kind, .int .i64 b.rel, .int .i64 b.col, .int .i64 b.const.kind, .int .i64 b.const.int, .float .f64 b.const.flt, .string b.const.text, .slice A7 b.kids.length c7] [.int .i64 a.kind, .int .i64 a.rel, .int .i64 a.col, .int .i64 a.const.kind, .int .i64 a.const.int, .float .f64 a.const.flt, .string a.const.text, .slice A8 a.kids.length c8] (.bool true) rfl rfl rfl agg_ex agg_ex rfl (But.box hq4 (by omega) hq1).cells hq3.cells ⟨_, _, rfl, hx9, hy9, ButS.to_ext ((HE0.out.trans he7).trans he8) hM1 (fun k hk => by omega)⟩
          · refine wp_loadA (vs := [.int .i64 a.kind, .int .i64 a.rel, .int .i64 a.col, .int .i64 a.const.kind, .int .i64 a.const.int, .float .f64 a.const.flt, .string a.const.text, .slice A1 a.kids.length cap1]) agg_ex (.tmp 6) rfl rfl HY1.out.cells ?_
            refine hK _ _ trivial ?_
            clear hK K
            simp only [Act.put, List.setIfInBounds_toArray, List.set_cons_zero, List.set_cons_succ]
            refine held_do (i := 0) rfl (by kernel_rfl) rfl fun K hK => ?_
            refine wp_loadA (vs := [.int .i64 b.kind, .int .i64 b.rel, .int .i64 b.col, .int .i64 b.const.kind, .int .i64 b.const.int, .float .f64 b.const.flt, .string b.const.text, .slice A2 b.kids.length cap2]) agg_ex (.tmp 7) rfl rfl HY2.out.cells ?_
            refine hK _ _ trivial ?_
            clear hK K
            simp only [Act.put, List.setIfInBounds_toArray, List.set_cons_zero, List.set_cons_succ]
            refine held_do (i := 1) rfl (by kernel_rfl) rfl fun K hK => ?_
            refine wp_callF _ (fun u => by go_simp) (HPb.out _ (HE0.out)) ?_
            rintro _ w7 ⟨A7, c7, rfl, hi7, he7⟩
            refine hK _ _ trivial ?_
            clear hK K
            simp only [Act.put, List.setIfInBounds_toArray, List.set_cons_zero, List.set_cons_succ]
            refine held_do (i := 3) rfl (by kernel_rfl) rfl fun K hK => ?_
            refine wp_callF _ (fun u => by go_simp) (HPa.out _ (HE0.out.trans he7)) ?_
            rintro _ w8 ⟨A8, c8, rfl, hi8, he8⟩
            refine hK _ _ trivial ?_
            clear hK K
            simp only [Act.put, List.setIfInBounds_toArray, List.set_cons_zero, List.set_cons_succ]
            refine held_do (i := 4) rfl (by kernel_rfl) rfl fun K hK => ?_
            refine wp_storeA (vs' := [.int .i64 b.kind, .int .i64 b.rel, .int .i64 b.col, .int .i64 b.const.kind, .int .i64 b.const.int, .float .f64 b.const.flt, .string b.const.text, .slice A7 b.kids.length c7]) ex_one (HY1.out.ext (he7.trans he8)) size_ex rfl (.tmp 6) (.tmp 56) rfl rfl rfl ?_
            intro w9 hq1 hq2
            refine hK _ _ trivial ?_
            clear hK K
            simp only [Act.put, List.setIfInBounds_toArray, List.set_cons_zero, List.set_cons_succ]
            refine held_do (i := 5) rfl (by kernel_rfl) rfl fun K hK => ?_
            refine wp_storeA (vs' := [.int .i64 a.kind, .int .i64 a.rel, .int .i64 a.col, .int .i64 a.const.kind, .int .i64 a.const.int, .float .f64 a.const.flt, .string a.const.text, .slice A8 a.kids.length c8]) ex_one (But.box hq2 (by omega) (HY2.out.ext (he7.trans he8))) size_ex rfl (.tmp 7) (.tmp 58) rfl rfl rfl ?_
            intro w10 hq3 hq4
            refine hK _ _ trivial ?_
            clear hK K
            simp only [Act.put, List.setIfInBounds_toArray, List.set_cons_zero, List.set_cons_succ]
            refine held_run (i := 6) (.bool true) rfl (by kernel_rfl) (by kernel_rfl) (by kernel_rfl) (fun _ _ _ h => h) rfl (fun u _ => by go_simp) trivial ?_
            simp only [Act.put, List.setIfInBounds_toArray, List.set_cons_zero, List.set_cons_succ]
            refine wpAnyH_done (by kernel_rfl) ?_ _
            go_wp2_with fail
            have hM1 : ButS (fun k => k = w.heap.size + 1 ∨ k = w.heap.size + 2) w8 w10 := (ButS.of_but (M := fun k => k = w.heap.size + 1 ∨ k = w.heap.size + 2) hq2 (.inl rfl)).trans (ButS.of_but (M := fun k => k = w.heap.size + 1 ∨ k = w.heap.size + 2) hq4 (.inr rfl))
            have hsz7 : W6.heap.size ≤ w7.heap.size := he7.size
            have hx9 := ((hi7.from_ext (M := fun _ => False) (ButS.of_ext he8) (fun _ h => h.elim)).from_ext hM1 (fun k hk => by have hd : W6.drew.heap.size = W6.heap.size := rfl; omega)).of_from
            have hy9 := (hi8.from_ext hM1 (fun k hk => by omega)).of_from
            exact back_cct rfl [.int .i64 b.kind, .int .i64 b.rel, .int .i64 b.col, .int .i64 b.const.kind, .int .i64 b.const.int, .float .f64 b.const.flt, .string b.const.text, .slice A7 b.kids.length c7] [.int .i64 a.kind, .int .i64 a.rel, .int .i64 a.col, .int .i64 a.const.kind, .int .i64 a.const.int, .float .f64 a.const.flt, .string a.const.text, .slice A8 a.kids.length c8] (.bool true) rfl rfl rfl agg_ex agg_ex rfl (But.box hq4 (by omega) hq1).cells hq3.cells ⟨_, _, rfl, hx9, hy9, ButS.to_ext ((HE0.out.trans he7).trans he8) hM1 (fun k hk => by omega)⟩
    · simp only [Bool.true_and, Bool.false_and, Bool.and_true, Bool.and_false, Bool.false_eq_true, if_true, if_false]
      go_upto_region 6 with (first
        | (refine wpList_wish rfl fun K hK => wp_loadA (vs := [.int .i64 a.kind, .int .i64 a.rel, .int .i64 a.col, .int .i64 a.const.kind, .int .i64 a.const.int, .float .f64 a.const.flt, .string a.const.text, .slice A1 a.kids.length cap1]) agg_ex (.tmp 6) rfl rfl (HL1.out _ (by repeat (first | (with_reducible exact Ext.refl _) | (with_reducible refine Ext.set_ ?_ _ ?_; focus (first | (simp; done) | (simp; omega) | (simp at *; omega))) | (with_reducible refine Ext.alloc ?_ _) | (with_reducible refine Ext.drew ?_) | (with_reducible refine Ext.drewN ?_ _) | (with_reducible refine Ext.trans ?_ (by assumption))))) (hK _ _ ?_))
        | (refine wpList_wish rfl fun K hK => wp_loadA (vs := [.int .i64 b.kind, .int .i64 b.rel, .int .i64 b.col, .int .i64 b.const.kind, .int .i64 b.const.int, .float .f64 b.const.flt, .string b.const.text, .slice A2 b.kids.length cap2]) agg_ex (.tmp 7) rfl rfl (HL2.out _ (by repeat (first | (with_reducible exact Ext.refl _) | (with_reducible refine Ext.set_ ?_ _ ?_; focus (first | (simp; done) | (simp; omega) | (simp at *; omega))) | (with_reducible refine Ext.alloc ?_ _) | (with_reducible refine Ext.drew ?_) | (with_reducible refine Ext.drewN ?_ _) | (with_reducible refine Ext.trans ?_ (by assumption))))) (hK _ _ ?_))
        | (go_at_call 96; with_reducible refine (HCam1.out _ (HE5.out.trans (by repeat (first | (with_reducible exact Ext.refl _) | (with_reducible refine Ext.set_ ?_ _ ?_; focus (first | (simp; done) | (simp; omega) | (simp at *; omega))) | (with_reducible refine Ext.alloc ?_ _) | (with_reducible refine Ext.drew ?_) | (with_reducible refine Ext.drewN ?_ _) | (with_reducible refine Ext.trans ?_ (by assumption)))))).mono ?_; rintro ev wq ⟨rfl, hq⟩)
        | (go_at_call 96; with_reducible refine (HCbm2.out _ (HE5.out.trans (by repeat (first | (with_reducible exact Ext.refl _) | (with_reducible refine Ext.set_ ?_ _ ?_; focus (first | (simp; done) | (simp; omega) | (simp at *; omega))) | (with_reducible refine Ext.alloc ?_ _) | (with_reducible refine Ext.drew ?_) | (with_reducible refine Ext.drewN ?_ _) | (with_reducible refine Ext.trans ?_ (by assumption)))))).mono ?_; rintro ev wq ⟨rfl, hq⟩)
        | (go_at_call 96; with_reducible refine (HCbm1.out _ (HE5.out.trans (by repeat (first | (with_reducible exact Ext.refl _) | (with_reducible refine Ext.set_ ?_ _ ?_; focus (first | (simp; done) | (simp; omega) | (simp at *; omega))) | (with_reducible refine Ext.alloc ?_ _) | (with_reducible refine Ext.drew ?_) | (with_reducible refine Ext.drewN ?_ _) | (with_reducible refine Ext.trans ?_ (by assumption)))))).mono ?_; rintro ev wq ⟨rfl, hq⟩)
        | (go_at_call 96; with_reducible refine (HCam2.out _ (HE5.out.trans (by repeat (first | (with_reducible exact Ext.refl _) | (with_reducible refine Ext.set_ ?_ _ ?_; focus (first | (simp; done) | (simp; omega) | (simp at *; omega))) | (with_reducible refine Ext.alloc ?_ _) | (with_reducible refine Ext.drew ?_) | (with_reducible refine Ext.drewN ?_ _) | (with_reducible refine Ext.trans ?_ (by assumption)))))).mono ?_; rintro ev wq ⟨rfl, hq⟩))
      refine name_world (fun u => Ext w5 u) (by repeat (first | (with_reducible exact Ext.refl _) | (with_reducible refine Ext.set_ ?_ _ ?_; focus (first | (simp; done) | (simp; omega) | (simp at *; omega))) | (with_reducible refine Ext.alloc ?_ _) | (with_reducible refine Ext.drew ?_) | (with_reducible refine Ext.drewN ?_ _) | (with_reducible refine Ext.trans ?_ (by assumption)))) ?_
      intro W6 hE6
      refine wp_region_held (S := fun _ => True) (by kernel_rfl) ?_
      change wpAnyH _ _ _ _ _ _ _ _ W6.drew
      have HX1 := (HF1.out.ext hE6).ext (Ext.refl _).drew
      have HX2 := (HF2.out.ext hE6).ext (Ext.refl _).drew
      have hE0 := (HE5.out.trans hE6).drew
      have hsz : w.heap.size + 2 < W6.heap.size := HX2.lt
      clear HL1 HL2 HCam1 HCbm2 HCbm1 HCam2
      have HE0 := Lib.hid hE0; have HY1 := Lib.hid HX1; have HY2 := Lib.hid HX2
      clear hE0 HX1 HX2 hE6
      refine held_two (i := 0) (j := 2) rfl rfl (by kernel_rfl) rfl rfl (fun K hK => ?_) (fun K hK => ?_)
      · refine wp_loadA (vs := [.int .i64 a.kind, .int .i64 a.rel, .int .i64 a.col, .int .i64 a.const.kind, .int .i64 a.const.int, .float .f64 a.const.flt, .string a.const.text, .slice A1 a.kids.length cap1]) agg_ex (.tmp 6) rfl rfl HY1.out.cells ?_
        refine hK _ _ trivial ?_
        clear hK K
        simp only [Act.put, List.setIfInBounds_toArray, List.set_cons_zero, List.set_cons_succ]
        refine held_two (i := 1) (j := 2) rfl rfl (by kernel_rfl) rfl rfl (fun K hK => ?_) (fun K hK => ?_)
        · refine wp_callF _ (fun u => by go_simp) (HPa.out _ (HE0.out)) ?_
          rintro _ w7 ⟨A7, c7, rfl, hi7, he7⟩
          refine hK _ _ trivial ?_
          clear hK K
          simp only [Act.put, List.setIfInBounds_toArray, List.set_cons_zero, List.set_cons_succ]
          refine held_do (i := 2) rfl (by kernel_rfl) rfl fun K hK => ?_
          refine wp_loadA (vs := [.int .i64 b.kind, .int .i64 b.rel, .int .i64 b.col, .int .i64 b.const.kind, .int .i64 b.const.int, .float .f64 b.const.flt, .string b.const.text, .slice A2 b.kids.length cap2]) agg_ex (.tmp 7) rfl rfl (HY2.out.ext he7).cells ?_
          refine hK _ _ trivial ?_
          clear hK K
          simp only [Act.put, List.setIfInBounds_toArray, List.set_cons_zero, List.set_cons_succ]
          refine held_do (i := 3) rfl (by kernel_rfl) rfl fun K hK => ?_
          refine wp_callF _ (fun u => by go_simp) (HPb.out _ (HE0.out.trans he7)) ?_
          rintro _ w8 ⟨A8, c8, rfl, hi8, he8⟩
          refine hK _ _ trivial ?_
          clear hK K
          simp only [Act.put, List.setIfInBounds_toArray, List.set_cons_zero, List.set_cons_succ]
          refine held_do (i := 4) rfl (by kernel_rfl) rfl fun K hK => ?_
          refine wp_storeA (vs' := [.int .i64 a.kind, .int .i64 a.rel, .int .i64 a.col, .int .i64 a.const.kind, .int .i64 a.const.int, .float .f64 a.const.flt, .string a.const.text, .slice A7 a.kids.length c7]) ex_one (HY1.out.ext (he7.trans he8)) size_ex rfl (.tmp 6) (.tmp 41) rfl rfl rfl ?_
          intro w9 hq1 hq2
          refine hK _ _ trivial ?_
          clear hK K
          simp only [Act.put, List.setIfInBounds_toArray, List.set_cons_zero, List.set_cons_succ]
          refine held_do (i := 5) rfl (by kernel_rfl) rfl fun K hK => ?_
          refine wp_storeA (vs' := [.int .i64 b.kind, .int .i64 b.rel, .int .i64 b.col, .int .i64 b.const.kind, .int .i64 b.const.int, .float .f64 b.const.flt, .string b.const.text, .slice A8 b.kids.length c8]) ex_one (But.box hq2 (by omega) (HY2.out.ext (he7.trans he8))) size_ex rfl (.tmp 7) (.tmp 43) rfl rfl rfl ?_
          intro w10 hq3 hq4
          refine hK _ _ trivial ?_
          clear hK K
          simp only [Act.put, List.setIfInBounds_toArray, List.set_cons_zero, List.set_cons_succ]
          refine held_run (i := 6) (.bool true) rfl (by kernel_rfl) (by kernel_rfl) (by kernel_rfl) (fun _ _ _ h => h) rfl (fun u _ => by go_simp) trivial ?_
          simp only [Act.put, List.setIfInBounds_toArray, List.set_cons_zero, List.set_cons_succ]
          refine wpAnyH_done (by kernel_rfl) ?_ _
          go_wp2_with fail
          have hM1 : ButS (fun k => k = w.heap.size + 1 ∨ k = w.heap.size + 2) w8 w10 := (ButS.of_but (M := fun k => k = w.heap.size + 1 ∨ k = w.heap.size + 2) hq2 (.inl rfl)).trans (ButS.of_but (M := fun k => k = w.heap.size + 1 ∨ k = w.heap.size + 2) hq4 (.inr rfl))
          have hsz7 : W6.heap.size ≤ w7.heap.size := he7.size
          have hx9 := ((hi7.from_ext (M := fun _ => False) (ButS.of_ext he8) (fun _ h => h.elim)).from_ext hM1 (fun k hk => by have hd : W6.drew.heap.size = W6.heap.size := rfl; omega)).of_from
          have hy9 := (hi8.from_ext hM1 (fun k hk => by omega)).of_from
          exact back_cct rfl [.int .i64 a.kind, .int .i64 a.rel, .int .i64 a.col, .int .i64 a.const.kind, .int .i64 a.const.int, .float .f64 a.const.flt, .string a.const.text, .slice A7 a.kids.length c7] [.int .i64 b.kind, .int .i64 b.rel, .int .i64 b.col, .int .i64 b.const.kind, .int .i64 b.const.int, .float .f64 b.const.flt, .string b.const.text, .slice A8 b.kids.length c8] (.bool true) rfl rfl rfl agg_ex agg_ex rfl (But.box hq4 (by omega) hq1).cells hq3.cells ⟨_, _, rfl, hx9, hy9, ButS.to_ext ((HE0.out.trans he7).trans he8) hM1 (fun k hk => by omega)⟩
        · refine wp_loadA (vs := [.int .i64 b.kind, .int .i64 b.rel, .int .i64 b.col, .int .i64 b.const.kind, .int .i64 b.const.int, .float .f64 b.const.flt, .string b.const.text, .slice A2 b.kids.length cap2]) agg_ex (.tmp 7) rfl rfl HY2.out.cells ?_
          refine hK _ _ trivial ?_
          clear hK K
          simp only [Act.put, List.setIfInBounds_toArray, List.set_cons_zero, List.set_cons_succ]
          refine held_do (i := 1) rfl (by kernel_rfl) rfl fun K hK => ?_
          refine wp_callF _ (fun u => by go_simp) (HPa.out _ (HE0.out)) ?_
          rintro _ w7 ⟨A7, c7, rfl, hi7, he7⟩
          refine hK _ _ trivial ?_
          clear hK K
          simp only [Act.put, List.setIfInBounds_toArray, List.set_cons_zero, List.set_cons_succ]
          refine held_do (i := 3) rfl (by kernel_rfl) rfl fun K hK => ?_
          refine wp_callF _ (fun u => by go_simp) (HPb.out _ (HE0.out.trans he7)) ?_
          rintro _ w8 ⟨A8, c8, rfl, hi8, he8⟩
          refine hK _ _ trivial ?_
          clear hK K
          simp only [Act.put, List.setIfInBounds_toArray, List.set_cons_zero, List.set_cons_succ]
          refine held_do (i := 4) rfl (by kernel_rfl) rfl fun K hK => ?_
          refine wp_storeA (vs' := [.int .i64 a.kind, .int .i64 a.rel, .int .i64 a.col, .int .i64 a.const.kind, .int .i64 a.const.int, .float .f64 a.const.flt, .string a.const.text, .slice A7 a.kids.length c7]) ex_one (HY1.out.ext (he7.trans he8)) size_ex rfl (.tmp 6) (.tmp 41) rfl rfl rfl ?_
          intro w9 hq1 hq2
          refine hK _ _ trivial ?_
          clear hK K
          simp only [Act.put, List.setIfInBounds_toArray, List.set_cons_zero, List.set_cons_succ]
          refine held_do (i := 5) rfl (by kernel_rfl) rfl fun K hK => ?_
          refine wp_storeA (vs' := [.int .i64 b.kind, .int .i64 b.rel, .int .i64 b.col, .int .i64 b.const.kind, .int .i64 b.const.int, .float .f64 b.const.flt, .string b.const.text, .slice A8 b.kids.length c8]) ex_one (But.box hq2 (by omega) (HY2.out.ext (he7.trans he8))) size_ex rfl (.tmp 7) (.tmp 43) rfl rfl rfl ?_
          intro w10 hq3 hq4
          refine hK _ _ trivial ?_
          clear hK K
          simp only [Act.put, List.setIfInBounds_toArray, List.set_cons_zero, List.set_cons_succ]
          refine held_run (i := 6) (.bool true) rfl (by kernel_rfl) (by kernel_rfl) (by kernel_rfl) (fun _ _ _ h => h) rfl (fun u _ => by go_simp) trivial ?_
          simp only [Act.put, List.setIfInBounds_toArray, List.set_cons_zero, List.set_cons_succ]
          refine wpAnyH_done (by kernel_rfl) ?_ _
          go_wp2_with fail
          have hM1 : ButS (fun k => k = w.heap.size + 1 ∨ k = w.heap.size + 2) w8 w10 := (ButS.of_but (M := fun k => k = w.heap.size + 1 ∨ k = w.heap.size + 2) hq2 (.inl rfl)).trans (ButS.of_but (M := fun k => k = w.heap.size + 1 ∨ k = w.heap.size + 2) hq4 (.inr rfl))
          have hsz7 : W6.heap.size ≤ w7.heap.size := he7.size
          have hx9 := ((hi7.from_ext (M := fun _ => False) (ButS.of_ext he8) (fun _ h => h.elim)).from_ext hM1 (fun k hk => by have hd : W6.drew.heap.size = W6.heap.size := rfl; omega)).of_from
          have hy9 := (hi8.from_ext hM1 (fun k hk => by omega)).of_from
          exact back_cct rfl [.int .i64 a.kind, .int .i64 a.rel, .int .i64 a.col, .int .i64 a.const.kind, .int .i64 a.const.int, .float .f64 a.const.flt, .string a.const.text, .slice A7 a.kids.length c7] [.int .i64 b.kind, .int .i64 b.rel, .int .i64 b.col, .int .i64 b.const.kind, .int .i64 b.const.int, .float .f64 b.const.flt, .string b.const.text, .slice A8 b.kids.length c8] (.bool true) rfl rfl rfl agg_ex agg_ex rfl (But.box hq4 (by omega) hq1).cells hq3.cells ⟨_, _, rfl, hx9, hy9, ButS.to_ext ((HE0.out.trans he7).trans he8) hM1 (fun k hk => by omega)⟩
      · refine wp_loadA (vs := [.int .i64 b.kind, .int .i64 b.rel, .int .i64 b.col, .int .i64 b.const.kind, .int .i64 b.const.int, .float .f64 b.const.flt, .string b.const.text, .slice A2 b.kids.length cap2]) agg_ex (.tmp 7) rfl rfl HY2.out.cells ?_
        refine hK _ _ trivial ?_
        clear hK K
        simp only [Act.put, List.setIfInBounds_toArray, List.set_cons_zero, List.set_cons_succ]
        refine held_do (i := 0) rfl (by kernel_rfl) rfl fun K hK => ?_
        refine wp_loadA (vs := [.int .i64 a.kind, .int .i64 a.rel, .int .i64 a.col, .int .i64 a.const.kind, .int .i64 a.const.int, .float .f64 a.const.flt, .string a.const.text, .slice A1 a.kids.length cap1]) agg_ex (.tmp 6) rfl rfl HY1.out.cells ?_
        refine hK _ _ trivial ?_
        clear hK K
        simp only [Act.put, List.setIfInBounds_toArray, List.set_cons_zero, List.set_cons_succ]
        refine held_do (i := 1) rfl (by kernel_rfl) rfl fun K hK => ?_
        refine wp_callF _ (fun u => by go_simp) (HPa.out _ (HE0.out)) ?_
        rintro _ w7 ⟨A7, c7, rfl, hi7, he7⟩
        refine hK _ _ trivial ?_
        clear hK K
        simp only [Act.put, List.setIfInBounds_toArray, List.set_cons_zero, List.set_cons_succ]
        refine held_do (i := 3) rfl (by kernel_rfl) rfl fun K hK => ?_
        refine wp_callF _ (fun u => by go_simp) (HPb.out _ (HE0.out.trans he7)) ?_
        rintro _ w8 ⟨A8, c8, rfl, hi8, he8⟩
        refine hK _ _ trivial ?_
        clear hK K
        simp only [Act.put, List.setIfInBounds_toArray, List.set_cons_zero, List.set_cons_succ]
        refine held_do (i := 4) rfl (by kernel_rfl) rfl fun K hK => ?_
        refine wp_storeA (vs' := [.int .i64 a.kind, .int .i64 a.rel, .int .i64 a.col, .int .i64 a.const.kind, .int .i64 a.const.int, .float .f64 a.const.flt, .string a.const.text, .slice A7 a.kids.length c7]) ex_one (HY1.out.ext (he7.trans he8)) size_ex rfl (.tmp 6) (.tmp 41) rfl rfl rfl ?_
        intro w9 hq1 hq2
        refine hK _ _ trivial ?_
        clear hK K
        simp only [Act.put, List.setIfInBounds_toArray, List.set_cons_zero, List.set_cons_succ]
        refine held_do (i := 5) rfl (by kernel_rfl) rfl fun K hK => ?_
        refine wp_storeA (vs' := [.int .i64 b.kind, .int .i64 b.rel, .int .i64 b.col, .int .i64 b.const.kind, .int .i64 b.const.int, .float .f64 b.const.flt, .string b.const.text, .slice A8 b.kids.length c8]) ex_one (But.box hq2 (by omega) (HY2.out.ext (he7.trans he8))) size_ex rfl (.tmp 7) (.tmp 43) rfl rfl rfl ?_
        intro w10 hq3 hq4
        refine hK _ _ trivial ?_
        clear hK K
        simp only [Act.put, List.setIfInBounds_toArray, List.set_cons_zero, List.set_cons_succ]
        refine held_run (i := 6) (.bool true) rfl (by kernel_rfl) (by kernel_rfl) (by kernel_rfl) (fun _ _ _ h => h) rfl (fun u _ => by go_simp) trivial ?_
        simp only [Act.put, List.setIfInBounds_toArray, List.set_cons_zero, List.set_cons_succ]
        refine wpAnyH_done (by kernel_rfl) ?_ _
        go_wp2_with fail
        have hM1 : ButS (fun k => k = w.heap.size + 1 ∨ k = w.heap.size + 2) w8 w10 := (ButS.of_but (M := fun k => k = w.heap.size + 1 ∨ k = w.heap.size + 2) hq2 (.inl rfl)).trans (ButS.of_but (M := fun k => k = w.heap.size + 1 ∨ k = w.heap.size + 2) hq4 (.inr rfl))
        have hsz7 : W6.heap.size ≤ w7.heap.size := he7.size
        have hx9 := ((hi7.from_ext (M := fun _ => False) (ButS.of_ext he8) (fun _ h => h.elim)).from_ext hM1 (fun k hk => by have hd : W6.drew.heap.size = W6.heap.size := rfl; omega)).of_from
        have hy9 := (hi8.from_ext hM1 (fun k hk => by omega)).of_from
        exact back_cct rfl [.int .i64 a.kind, .int .i64 a.rel, .int .i64 a.col, .int .i64 a.const.kind, .int .i64 a.const.int, .float .f64 a.const.flt, .string a.const.text, .slice A7 a.kids.length c7] [.int .i64 b.kind, .int .i64 b.rel, .int .i64 b.col, .int .i64 b.const.kind, .int .i64 b.const.int, .float .f64 b.const.flt, .string b.const.text, .slice A8 b.kids.length c8] (.bool true) rfl rfl rfl agg_ex agg_ex rfl (But.box hq4 (by omega) hq1).cells hq3.cells ⟨_, _, rfl, hx9, hy9, ButS.to_ext ((HE0.out.trans he7).trans he8) hM1 (fun k hk => by omega)⟩
end Go.Proofs.Ytlcdjaclahhdnaa
