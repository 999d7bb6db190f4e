/- The call of the law AccessAnds: true, whatever the rows and the conditions. Printed by wip/tools/gen_andsl.py. -/
import Derived.Test.YtlcdjaclahhdnaaAndsA
import Derived.Test.YtlcdjaclahhdnaaScanB
import Derived.Test.YtlcdjaclahhdnaaSafeA
namespace Go.Proofs.Ytlcdjaclahhdnaa
open Go.RowKit
set_option linter.unusedSimpArgs false
set_option linter.unusedVariables false
attribute [local irreducible] wpQuiet wpList Code.wp

/-- The call of Scan, tuples whole. -/
theorem scanT_of (rows : List (List Val)) (rv : Value) (l : List Ex) (x : Value) (w : World) (hrows : RowsIn w rv rows) (hrl : rows.length ≤ 1200) (hx : ExsIn w x l) (hrr : ∀ r ∈ rows, r.length ≤ 1200) :
    Calls Try.prog 49 #[rv, .int .i64 2, .int .i64 1, x] w fun ev w' => ∃ A n c, ev = .returned (.tuple #[.slice A n c, .int .i64 (tupAll rows l).2]) ∧ Hid ((tupAll rows l).2 = 0 → n = (tupAll rows l).1.length ∧ TupsIn w' (.slice A n c) (tupAll rows l).1 ∧ (A = none → n = 0 ∧ c = 0) ∧ n ≤ 1200) ∧ Hid (Ext w w') := by
  have hok := rows_ok hrows
  refine (scanB_of rows rv l x w hrows (by omega) hx (fun r hr => by have := hrr r hr; omega)).mono ?_
  rintro ev w' ⟨v, rfl, h1, h2⟩
  by_cases h0 : (scanAll rows 2 1 l).2 = 0
  · rw [if_pos h0] at h1
    have hle : (scanAll rows 2 1 l).1.length ≤ rows.length := by rw [scanAll_eq rows hok 2 1 (by decide)]; exact scanU_le 2 1 l rows
    obtain ⟨A, c, rfl, h3, h4⟩ := h1.tups (by decide) (by decide) (by omega)
    refine ⟨A, _, c, rfl, Lib.hid fun _ => ⟨by simp [tupAll], h3, h4, by omega⟩, Lib.hid h2⟩
  · rw [if_neg h0] at h1
    exact ⟨none, 0, 0, by rw [h1]; rfl, Lib.hid fun h => absurd h h0, Lib.hid h2⟩
theorem tup_concat (a b : List (List Val)) (ha : ∀ r ∈ a, ∀ v ∈ r, v.Ok) (hb : ∀ r ∈ b, ∀ v ∈ r, v.Ok) (l : List Ex) (h1 : (tupAll a l).2 = 0) (h2 : (tupAll b l).2 = 0) : tupAll (a ++ b) l = ((tupAll a l).1 ++ (tupAll b l).1, 0) := by
  have h := ands_concat a b ha hb l h1 h2
  unfold tupAll
  rw [h]; simp
theorem tup_sub (rows : List (List Val)) (hok : ∀ r ∈ rows, ∀ v ∈ r, v.Ok) (l : List Ex) (m : Ex) (h1 : (tupAll rows l).2 = 0) (h2 : (tupAll rows (l ++ [m])).2 = 0) : (tupAll rows (l ++ [m])).1.Sublist (tupAll rows l).1 :=
  (ands_sub rows hok l m h1 h2).map _
theorem alls3_self (t : List (List (List Val))) : alls (alls (alls exactV)) t t = true := alls_self (alls_self (alls_self exactV_self)) t

set_option maxRecDepth 100000 in
set_option maxHeartbeats 8000000 in
theorem ands_walk (a b : List (List Val)) (av bv : Value) (l : List Ex) (x : Value) (m : Ex) (sm : Value) (w : World) (ha : RowsIn w av a) (hb : RowsIn w bv b) (hx : ExsIn w x l) (hm : Ex.In w m sm) (hla : a.length ≤ 1048576) (hlb : b.length ≤ 1048576) (hll : l.length ≤ 1048576) :
    Calls Try.prog 12 #[av, bv, x, .agg (m.cells sm).toArray] w fun ev w' => ev = .returned (.bool true) ∧ Ext w w' := by
  obtain ⟨RA, ca, rfl, -⟩ := (show ∃ A c, av = Value.slice A a.length c ∧ True from by obtain ⟨A, c, h, _⟩ := ha.val; exact ⟨A, c, h, trivial⟩)
  obtain ⟨RB, cb, rfl, -⟩ := (show ∃ A c, bv = Value.slice A b.length c ∧ True from by obtain ⟨A, c, h, _⟩ := hb.val; exact ⟨A, c, h, trivial⟩)
  obtain ⟨-, XA, xc, rfl, -⟩ := (⟨hx.1, hx.2⟩ : l.length ≤ 9223372036854775807 ∧ _)
  obtain ⟨-, EA, ecap, rfl, -⟩ := hm.mk_inv.2.2.2.2
  have HA : Hid (∀ u, Ext w u → RowsIn u (.slice RA a.length ca) a) := Lib.hid fun u h => ha.ext h
  have HB : Hid (∀ u, Ext w u → RowsIn u (.slice RB b.length cb) b) := Lib.hid fun u h => hb.ext h
  have HX : Hid (∀ u, Ext w u → ExsIn u (.slice XA l.length xc) l) := Lib.hid fun u h => hx.ext h
  have HM : Hid (∀ u, Ext w u → Ex.In u m (.slice EA m.kids.length ecap)) := Lib.hid fun u h => Ex.In.ext h _ _ hm
  have HOA := Lib.hid (rows_ok ha); have HOB := Lib.hid (rows_ok hb)
  have HLL := Lib.hid hll; have HLA := Lib.hid hla; have HLB := Lib.hid hlb
  clear ha hb hx hm hll hla hlb
  have hb0 : BoxAt (w.alloc (.cells (m.cells (.slice EA m.kids.length ecap)).toArray 27)) w.heap.size [.int .i64 m.kind, .int .i64 m.rel, .int .i64 m.col, .int .i64 m.const.kind, .int .i64 m.const.int, .float .f64 m.const.flt, .string m.const.text, .slice EA m.kids.length ecap] := BoxAt.new rfl rfl
  have hE : Ext w (w.alloc (.cells (m.cells (.slice EA m.kids.length ecap)).toArray 27)) := (Ext.refl _).alloc _
  unfold Ex.cells exCells at *
  have HB0 := Lib.hid hb0; have HE := Lib.hid hE
  clear hb0 hE
  go_enter Try.func12, Try.ntmps12
  go_upto_region 3 with (go_at_call 43; refine (works26 _).mono ?_; rintro ev w2 ⟨rfl, hb2⟩; have HE2 := Lib.hid (HE.out.trans hb2); have HM2 := Lib.hid (HB0.out.ext hb2); clear hb2)
  obtain ⟨-, hxn, sx, hsx, hxi, hx1, hxc⟩ := exsIn_cells (HX.out w2 HE2.out)
  have HXN := Lib.hid hxn; have HXI := Lib.hid hxi; have HX1 := Lib.hid hx1; have HXC := Lib.hid hxc
  have HMI := Lib.hid (HM.out w2 HE2.out)
  clear hxn hxi hx1 hxc HB0 HE
  go_cut [9] (fun s9 wx => ExsIn wx s9 (l ++ [m]) ∧ Ext w2 wx)
  case first =>
    refine wp_region_held (S := Ext w2) (by kernel_rfl) ?_
    change wpAnyH _ _ _ _ _ _ _ _ w2.drew
    have HS0 : Hid (Ext w2 w2.drew) := Lib.hid (Ext.refl _).drew
    refine held_run (i := 1) (.slice XA l.length xc) rfl (by kernel_rfl) (by kernel_rfl) (by kernel_rfl) (fun _ _ _ h => h) rfl (fun u _ => by go_simp) HS0.out ?_
    simp only [Act.put, List.setIfInBounds_toArray, List.set_cons_zero, List.set_cons_succ]
    refine held_loadA (i := 3) (vs := [.int .i64 m.kind, .int .i64 m.rel, .int .i64 m.col, .int .i64 m.const.kind, .int .i64 m.const.int, .float .f64 m.const.flt, .string m.const.text, .slice EA m.kids.length ecap]) (.tmp 7) rfl rfl (by kernel_rfl) (by kernel_rfl) (by kernel_rfl) (fun _ _ _ h => h) rfl agg_ex rfl (fun u h => (HM2.out.ext h).cells) HS0.out ?_
    simp only [Act.put, List.setIfInBounds_toArray, List.set_cons_zero, List.set_cons_succ]
    refine held_two (i := 0) (j := 4) rfl rfl (by kernel_rfl) rfl rfl (fun K hK => ?_) (fun K hK => ?_)
    · unfold Oper.wp execOp
      go_simp
      refine hK _ _ (HS0.out.alloc _) ?_
      try simp only [Act.put, List.setIfInBounds_toArray, List.set_cons_zero, List.set_cons_succ]
      clear hK K
      have HO0 : Hid ((w2.drew.alloc (.cells #[] 27)).ownsRow w2.heap.size 27 8 (.slice (some ⟨w2.heap.size, 0, none⟩) 0 0) 0 []) := Lib.hid (owns_new0 rfl (Nat.le_refl _))
      have HU0 : Hid (Ext w2 (w2.drew.alloc (.cells #[] 27))) := Lib.hid (HS0.out.alloc _)
      refine held_two (i := 2) (j := 4) rfl rfl (by kernel_rfl) rfl rfl (fun K hK => ?_) (fun K hK => ?_)
      · refine wp_app0 (base := w2.heap.size) (.tmp 24) (.tmp 25) rfl Try.underlying25 info_ex9 (by decide) (by decide) rfl HO0.out rfl HXN.out (exsCells l sx) (exsCells_len l sx hsx) (fun ad had j u hu => (HU0.out.cell (cell_lt (HXC.out ad had j u hu))).trans (HXC.out ad had j u hu)) (exsCells_one9 l sx HX1.out) (by have := HLL.out; omega) HU0.out.size ?_
        intro A5 c5 w5 ho5 hb5
        have HE5 : Hid (Ext w2 w5) := Lib.hid (hb5.to_ext HU0.out (fun k h => (owns_lt HO0.out h).2))
        have HO5 := Lib.hid ho5
        refine hK _ _ HE5.out ?_
        try simp only [Act.put, List.setIfInBounds_toArray, List.set_cons_zero, List.set_cons_succ]
        clear hK K ho5 hb5
        refine held_do (i := 4) rfl (by kernel_rfl) rfl fun K hK => ?_
        unfold Oper.wp execOp
        go_simp
        refine hK _ _ (HE5.out.alloc _) ?_
        try simp only [Act.put, List.setIfInBounds_toArray, List.set_cons_zero, List.set_cons_succ]
        clear hK K
        have HO6 := Lib.hid (owns_ext HO5.out ((Ext.refl w5).alloc (.cells #[.int .i64 m.kind, .int .i64 m.rel, .int .i64 m.col, .int .i64 m.const.kind, .int .i64 m.const.int, .float .f64 m.const.flt, .string m.const.text, .slice EA m.kids.length ecap] 27)))
        have HB6 : Hid (BoxAt (w5.alloc (.cells #[.int .i64 m.kind, .int .i64 m.rel, .int .i64 m.col, .int .i64 m.const.kind, .int .i64 m.const.int, .float .f64 m.const.flt, .string m.const.text, .slice EA m.kids.length ecap] 27)) w5.heap.size [.int .i64 m.kind, .int .i64 m.rel, .int .i64 m.col, .int .i64 m.const.kind, .int .i64 m.const.int, .float .f64 m.const.flt, .string m.const.text, .slice EA m.kids.length ecap]) := Lib.hid (BoxAt.new rfl rfl)
        have HE6 := Lib.hid (HE5.out.alloc (.cells #[.int .i64 m.kind, .int .i64 m.rel, .int .i64 m.col, .int .i64 m.const.kind, .int .i64 m.const.int, .float .f64 m.const.flt, .string m.const.text, .slice EA m.kids.length ecap] 27))
        refine held_do (i := 5) rfl (by kernel_rfl) rfl fun K hK => ?_
        refine wp_app (base := w2.heap.size) (.tmp 26) (.tmp 28) rfl Try.underlying25 info_ex9 (by decide) (by decide) rfl HO6.out rfl (fun h => by cases h) [.int .i64 m.kind, .int .i64 m.rel, .int .i64 m.col, .int .i64 m.const.kind, .int .i64 m.const.int, .float .f64 m.const.flt, .string m.const.text, .slice EA m.kids.length ecap] rfl (fun ad had j u hu => by cases had; rw [add_at]; exact HB6.out.cells.get j u hu) (Rng.one9 rfl) (by have := HLL.out; omega) HE6.out.size ?_
        intro A7 c7 w7 ho7 hb7
        have HE7 : Hid (Ext w2 w7) := Lib.hid (hb7.to_ext HE6.out (fun k h => (owns_lt HO6.out h).2))
        have HX7 : Hid (ExsIn w7 (.slice A7 (l.length + 1) c7) (l ++ [m])) := Lib.hid (exs_all (w := w2) (ss := sx) (sm := .slice EA m.kids.length ecap) ho7 HE7.out hsx (HXI.out) (HMI.out) HLL.out)
        refine hK _ _ HE7.out ?_
        try simp only [Act.put, List.setIfInBounds_toArray, List.set_cons_zero, List.set_cons_succ]
        clear hK K ho7 hb7
        refine held_run (i := 6) (.slice A7 (l.length + 1) c7) rfl (by kernel_rfl) (by kernel_rfl) (by kernel_rfl) (fun _ _ _ h => h) rfl (fun u _ => by go_simp) HE7.out ?_
        try simp only [Act.put, List.setIfInBounds_toArray, List.set_cons_zero, List.set_cons_succ]
        refine wpAnyH_done (by kernel_rfl) ?_ _
        go_wp2_with fail
        go_meet
        exact ⟨HX7.out, HE7.out⟩
      · unfold Oper.wp execOp
        go_simp
        refine hK _ _ (HU0.out.alloc _) ?_
        try simp only [Act.put, List.setIfInBounds_toArray, List.set_cons_zero, List.set_cons_succ]
        clear hK K
        have HO4 := Lib.hid (owns_ext HO0.out ((Ext.refl _).alloc (.cells #[.int .i64 m.kind, .int .i64 m.rel, .int .i64 m.col, .int .i64 m.const.kind, .int .i64 m.const.int, .float .f64 m.const.flt, .string m.const.text, .slice EA m.kids.length ecap] 27)))
        have HE4 := Lib.hid (HU0.out.alloc (.cells #[.int .i64 m.kind, .int .i64 m.rel, .int .i64 m.col, .int .i64 m.const.kind, .int .i64 m.const.int, .float .f64 m.const.flt, .string m.const.text, .slice EA m.kids.length ecap] 27))
        have HB4 : Hid (BoxAt ((w2.drew.alloc (.cells #[] 27)).alloc (.cells #[.int .i64 m.kind, .int .i64 m.rel, .int .i64 m.col, .int .i64 m.const.kind, .int .i64 m.const.int, .float .f64 m.const.flt, .string m.const.text, .slice EA m.kids.length ecap] 27)) (w2.heap.size + 1) [.int .i64 m.kind, .int .i64 m.rel, .int .i64 m.col, .int .i64 m.const.kind, .int .i64 m.const.int, .float .f64 m.const.flt, .string m.const.text, .slice EA m.kids.length ecap]) := Lib.hid (BoxAt.new (by simp) rfl)
        refine held_do (i := 2) rfl (by kernel_rfl) rfl fun K hK => ?_
        refine wp_app0 (base := w2.heap.size) (.tmp 24) (.tmp 25) rfl Try.underlying25 info_ex9 (by decide) (by decide) rfl HO4.out rfl HXN.out (exsCells l sx) (exsCells_len l sx hsx) (fun ad had j u hu => (HE4.out.cell (cell_lt (HXC.out ad had j u hu))).trans (HXC.out ad had j u hu)) (exsCells_one9 l sx HX1.out) (by have := HLL.out; omega) HE4.out.size ?_
        intro A5 c5 w5 ho5 hb5
        have HE5 : Hid (Ext w2 w5) := Lib.hid (hb5.to_ext HE4.out (fun k h => (owns_lt HO4.out h).2))
        have HO5 := Lib.hid ho5
        have HB5 := Lib.hid (hb5.box (fun h => absurd (show some (w2.heap.size + 0) = some (w2.heap.size + 1) from h) (by simp)) HB4.out)
        refine hK _ _ HE5.out ?_
        try simp only [Act.put, List.setIfInBounds_toArray, List.set_cons_zero, List.set_cons_succ]
        clear hK K ho5 hb5
        refine held_do (i := 5) rfl (by kernel_rfl) rfl fun K hK => ?_
        refine wp_app (base := w2.heap.size) (.tmp 26) (.tmp 28) rfl Try.underlying25 info_ex9 (by decide) (by decide) rfl HO5.out rfl (fun h => by cases h) [.int .i64 m.kind, .int .i64 m.rel, .int .i64 m.col, .int .i64 m.const.kind, .int .i64 m.const.int, .float .f64 m.const.flt, .string m.const.text, .slice EA m.kids.length ecap] rfl (fun ad had j u hu => by cases had; rw [add_at]; exact HB5.out.cells.get j u hu) (Rng.one9 rfl) (by have := HLL.out; omega) HE5.out.size ?_
        intro A7 c7 w7 ho7 hb7
        have HE7 : Hid (Ext w2 w7) := Lib.hid (hb7.to_ext HE5.out (fun k h => (owns_lt HO5.out h).2))
        have HX7 : Hid (ExsIn w7 (.slice A7 (l.length + 1) c7) (l ++ [m])) := Lib.hid (exs_all (w := w2) (ss := sx) (sm := .slice EA m.kids.length ecap) ho7 HE7.out hsx (HXI.out) (HMI.out) HLL.out)
        refine hK _ _ HE7.out ?_
        try simp only [Act.put, List.setIfInBounds_toArray, List.set_cons_zero, List.set_cons_succ]
        clear hK K ho7 hb7
        refine held_run (i := 6) (.slice A7 (l.length + 1) c7) rfl (by kernel_rfl) (by kernel_rfl) (by kernel_rfl) (fun _ _ _ h => h) rfl (fun u _ => by go_simp) HE7.out ?_
        try simp only [Act.put, List.setIfInBounds_toArray, List.set_cons_zero, List.set_cons_succ]
        refine wpAnyH_done (by kernel_rfl) ?_ _
        go_wp2_with fail
        go_meet
        exact ⟨HX7.out, HE7.out⟩
    · unfold Oper.wp execOp
      go_simp
      refine hK _ _ (HS0.out.alloc _) ?_
      try simp only [Act.put, List.setIfInBounds_toArray, List.set_cons_zero, List.set_cons_succ]
      clear hK K
      have HE3 := Lib.hid (HS0.out.alloc (.cells #[.int .i64 m.kind, .int .i64 m.rel, .int .i64 m.col, .int .i64 m.const.kind, .int .i64 m.const.int, .float .f64 m.const.flt, .string m.const.text, .slice EA m.kids.length ecap] 27))
      have HB3 : Hid (BoxAt (w2.drew.alloc (.cells #[.int .i64 m.kind, .int .i64 m.rel, .int .i64 m.col, .int .i64 m.const.kind, .int .i64 m.const.int, .float .f64 m.const.flt, .string m.const.text, .slice EA m.kids.length ecap] 27)) w2.heap.size [.int .i64 m.kind, .int .i64 m.rel, .int .i64 m.col, .int .i64 m.const.kind, .int .i64 m.const.int, .float .f64 m.const.flt, .string m.const.text, .slice EA m.kids.length ecap]) := Lib.hid (BoxAt.new (by simp) rfl)
      refine held_do (i := 0) rfl (by kernel_rfl) rfl fun K hK => ?_
      unfold Oper.wp execOp
      go_simp
      refine hK _ _ (HE3.out.alloc _) ?_
      try simp only [Act.put, List.setIfInBounds_toArray, List.set_cons_zero, List.set_cons_succ]
      clear hK K
      have HO4 : Hid (((w2.drew.alloc (.cells #[.int .i64 m.kind, .int .i64 m.rel, .int .i64 m.col, .int .i64 m.const.kind, .int .i64 m.const.int, .float .f64 m.const.flt, .string m.const.text, .slice EA m.kids.length ecap] 27)).alloc (.cells #[] 27)).ownsRow w2.heap.size 27 8 (.slice (some ⟨w2.heap.size + 1, 0, none⟩) 0 0) 0 []) := Lib.hid (owns_new0 (by simp) (by simp))
      have HE4 := Lib.hid (HE3.out.alloc (.cells #[] 27))
      have HB4 := Lib.hid (HB3.out.ext ((Ext.refl _).alloc (.cells #[] 27)))
      refine held_do (i := 2) rfl (by kernel_rfl) rfl fun K hK => ?_
      refine wp_app0 (base := w2.heap.size) (.tmp 24) (.tmp 25) rfl Try.underlying25 info_ex9 (by decide) (by decide) rfl HO4.out rfl HXN.out (exsCells l sx) (exsCells_len l sx hsx) (fun ad had j u hu => (HE4.out.cell (cell_lt (HXC.out ad had j u hu))).trans (HXC.out ad had j u hu)) (exsCells_one9 l sx HX1.out) (by have := HLL.out; omega) HE4.out.size ?_
      intro A5 c5 w5 ho5 hb5
      have HE5 : Hid (Ext w2 w5) := Lib.hid (hb5.to_ext HE4.out (fun k h => (owns_lt HO4.out h).2))
      have HO5 := Lib.hid ho5
      have HB5 := Lib.hid (hb5.box (fun h => absurd (show some (w2.heap.size + 1) = some (w2.heap.size + 0) from h) (by simp)) HB4.out)
      refine hK _ _ HE5.out ?_
      try simp only [Act.put, List.setIfInBounds_toArray, List.set_cons_zero, List.set_cons_succ]
      clear hK K ho5 hb5
      refine held_do (i := 5) rfl (by kernel_rfl) rfl fun K hK => ?_
      refine wp_app (base := w2.heap.size) (.tmp 26) (.tmp 28) rfl Try.underlying25 info_ex9 (by decide) (by decide) rfl HO5.out rfl (fun h => by cases h) [.int .i64 m.kind, .int .i64 m.rel, .int .i64 m.col, .int .i64 m.const.kind, .int .i64 m.const.int, .float .f64 m.const.flt, .string m.const.text, .slice EA m.kids.length ecap] rfl (fun ad had j u hu => by cases had; rw [add_at]; exact HB5.out.cells.get j u hu) (Rng.one9 rfl) (by have := HLL.out; omega) HE5.out.size ?_
      intro A7 c7 w7 ho7 hb7
      have HE7 : Hid (Ext w2 w7) := Lib.hid (hb7.to_ext HE5.out (fun k h => (owns_lt HO5.out h).2))
      have HX7 : Hid (ExsIn w7 (.slice A7 (l.length + 1) c7) (l ++ [m])) := Lib.hid (exs_all (w := w2) (ss := sx) (sm := .slice EA m.kids.length ecap) ho7 HE7.out hsx (HXI.out) (HMI.out) HLL.out)
      refine hK _ _ HE7.out ?_
      try simp only [Act.put, List.setIfInBounds_toArray, List.set_cons_zero, List.set_cons_succ]
      clear hK K ho7 hb7
      refine held_run (i := 6) (.slice A7 (l.length + 1) c7) rfl (by kernel_rfl) (by kernel_rfl) (by kernel_rfl) (fun _ _ _ h => h) rfl (fun u _ => by go_simp) HE7.out ?_
      try simp only [Act.put, List.setIfInBounds_toArray, List.set_cons_zero, List.set_cons_succ]
      refine wpAnyH_done (by kernel_rfl) ?_ _
      go_wp2_with fail
      go_meet
      exact ⟨HX7.out, HE7.out⟩
  case rest =>
    obtain ⟨hall, hEc⟩ := hcut
    obtain ⟨LL, hLL⟩ : ∃ LL, LL = l ++ [m] := ⟨_, rfl⟩
    rw [← hLL] at hall
    have HLEQ := Lib.hid hLL
    clear hLL
    obtain ⟨-, A9, c9, rfl, -⟩ := (⟨hall.1, hall.2⟩ : LL.length ≤ 9223372036854775807 ∧ _)
    have HALL : Hid (∀ u, Ext wc u → ExsIn u (.slice A9 LL.length c9) LL) := Lib.hid fun u h => hall.ext h
    have HEC := Lib.hid (HE2.out.trans hEc)
    clear hall hEc HXN HXI HX1 HXC HMI HM2 HE2 hsx sx
    obtain ⟨-, han, sa, hsa, hai, ha1, hac⟩ := rowsIn_cells (HA.out wc HEC.out)
    obtain ⟨-, hbn, sb, hsb, hbi, hb1, hbc⟩ := rowsIn_cells (HB.out wc HEC.out)
    have HAN := Lib.hid han; have HAI := Lib.hid hai; have HA1 := Lib.hid ha1; have HAC := Lib.hid hac
    have HBN := Lib.hid hbn; have HBI := Lib.hid hbi; have HB1 := Lib.hid hb1; have HBC := Lib.hid hbc
    have HRA := Lib.hid (HA.out wc HEC.out).lens.2; have HRB := Lib.hid (HB.out wc HEC.out).lens.2
    have HSA := Lib.hid (show sa.length = a.length * 1 by omega); have HSB := Lib.hid (show sb.length = b.length * 1 by omega)
    clear han hai ha1 hac hbn hbi hb1 hbc
    have HO0 : Hid ((wc.alloc (.cells #[] 59)).ownsRow wc.heap.size 59 1 (.slice (some ⟨wc.heap.size, 0, none⟩) 0 0) 0 []) := Lib.hid (owns_new0 rfl (Nat.le_refl _))
    have HU0 : Hid (Ext wc (wc.alloc (.cells #[] 59))) := Lib.hid ((Ext.refl _).alloc _)
    clear hsa hsb
    go_wp2_with (first
      | (refine wpList_app0 (base := wc.heap.size) (.tmp 30) (.tmp 31) rfl rfl Try.underlying50 info_row9a (by decide) (by decide) rfl HO0.out rfl HAN.out sa HSA.out (fun ad had j u hu => (HU0.out.cell (cell_lt (HAC.out ad had j u hu))).trans (HAC.out ad had j u hu)) HA1.out (by have := HLA.out; omega) HU0.out.size ?_; intro A5 c5 w5 ho5 hb5; have HE5 : Hid (Ext wc w5) := Lib.hid (hb5.to_ext HU0.out (fun k h => (owns_lt HO0.out h).2)); have HO5 := Lib.hid ho5; clear ho5 hb5)
      | (refine wpList_app (base := wc.heap.size) (.tmp 32) (.tmp 33) rfl rfl Try.underlying50 info_row9a (by decide) (by decide) rfl HO5.out rfl HBN.out sb HSB.out (fun ad had j u hu => (HE5.out.cell (cell_lt (HBC.out ad had j u hu))).trans (HBC.out ad had j u hu)) HB1.out (by have := HLA.out; have := HLB.out; omega) HE5.out.size ?_; intro A6 c6 w6 ho6 hb6; have HE6 : Hid (Ext wc w6) := Lib.hid (hb6.to_ext HE5.out (fun k h => (owns_lt HO5.out h).2)); have HR6 : Hid (∀ u, Ext w6 u → RowsIn u (.slice A6 (a.length + b.length) c6) (a ++ b)) := Lib.hid (fun u h => (rows_app ho6 HE6.out (by have := HSA.out; omega) (by have := HSB.out; omega) HAI.out HBI.out HLA.out HLB.out HRA.out HRB.out).ext h); clear ho6 hb6)
      | (go_at_call 42; refine (great26_of LL _ (a ++ b) _ _ (HALL.out _ HE6.out) (HR6.out _ (Ext.refl _))).mono ?_; rintro ev w2 ⟨hh, rfl⟩; obtain ⟨bg, rfl, hbg⟩ := hh.get; cases bg))
    · obtain ⟨hlen, hrr⟩ := (by first | exact hbg.out trivial | exact hbg.out rfl : (a ++ b).length ≤ 1200 ∧ ∀ r ∈ a ++ b, r.length ≤ 1200)
      have e1 : (a ++ b).length = a.length + b.length := by simp
      have HL1 : Hid (a.length ≤ 1200) := Lib.hid (by omega)
      have HL2 : Hid (b.length ≤ 1200) := Lib.hid (by omega)
      have HL3 : Hid ((a ++ b).length ≤ 1200) := Lib.hid hlen
      have HR1 : Hid (∀ r ∈ a, r.length ≤ 1200) := Lib.hid fun r hr => hrr r (List.mem_append_left _ hr)
      have HR2 : Hid (∀ r ∈ b, r.length ≤ 1200) := Lib.hid fun r hr => hrr r (List.mem_append_right _ hr)
      have HR3 : Hid (∀ r ∈ a ++ b, r.length ≤ 1200) := Lib.hid hrr
      have HEW := Lib.hid (HEC.out.trans HE6.out)
      clear hlen hrr e1 hbg HO0 HU0 HO5 HE5 HAN HAI HA1 HAC HBN HBI HB1 HBC HRA HRB HSA HSB
      go_upto_region 8 with (go_at_call 49; refine (scanT_of a (.slice RA a.length ca) l (.slice XA l.length xc) _ (HA.out _ HEW.out) HL1.out (HX.out _ HEW.out) HR1.out).mono ?_; rintro ev w7 ⟨A1, n1, c1, rfl, H1, HE7⟩)
      go_upto_region 9 with (go_at_call 49; refine (scanT_of b (.slice RB b.length cb) l (.slice XA l.length xc) _ (HB.out _ (HEW.out.trans HE7.out)) HL2.out (HX.out _ (HEW.out.trans HE7.out)) HR2.out).mono ?_; rintro ev w8 ⟨A2, n2, c2, rfl, H2, HE8⟩)
      go_upto_region 10 with (go_at_call 49; refine (scanT_of (a ++ b) (.slice A6 (a.length + b.length) c6) l (.slice XA l.length xc) _ (HR6.out _ (HE7.out.trans HE8.out)) HL3.out (HX.out _ ((HEW.out.trans HE7.out).trans HE8.out)) HR3.out).mono ?_; rintro ev w9 ⟨A3, n3, c3, rfl, H3, HE9⟩)
      have HCC : Hid ((tupAll a l).2 = 0 → (tupAll b l).2 = 0 → tupAll (a ++ b) l = ((tupAll a l).1 ++ (tupAll b l).1, 0)) := Lib.hid (tup_concat a b HOA.out HOB.out l)
      have HSB : Hid ((tupAll (a ++ b) l).2 = 0 → (tupAll (a ++ b) LL).2 = 0 → (tupAll (a ++ b) LL).1.Sublist (tupAll (a ++ b) l).1) := Lib.hid (by rw [HLEQ.out]; exact tup_sub (a ++ b) (fun r hr => (List.mem_append.1 hr).elim (HOA.out r) (HOB.out r)) l m)
      have H4 : Hid (∀ u, Ext w9 u → Calls Try.prog 49 #[.slice A6 (a.length + b.length) c6, .int .i64 2, .int .i64 1, .slice A9 LL.length c9] u fun ev w' => ∃ A n c, ev = .returned (.tuple #[.slice A n c, .int .i64 (tupAll (a ++ b) LL).2]) ∧ Hid ((tupAll (a ++ b) LL).2 = 0 → n = (tupAll (a ++ b) LL).1.length ∧ TupsIn w' (.slice A n c) (tupAll (a ++ b) LL).1 ∧ (A = none → n = 0 ∧ c = 0) ∧ n ≤ 1200) ∧ Hid (Ext u w')) := Lib.hid fun u h => scanT_of (a ++ b) _ LL _ u (HR6.out _ (((HE7.out.trans HE8.out).trans HE9.out).trans h)) HL3.out (HALL.out _ ((HE6.out.trans ((HE7.out.trans HE8.out).trans HE9.out)).trans h)) HR3.out
      have HE10 := Lib.hid (((HEW.out.trans HE7.out).trans HE8.out).trans HE9.out)
      have H1' : Hid ((tupAll a l).2 = 0 → n1 = (tupAll a l).1.length ∧ TupsIn w9 (.slice A1 n1 c1) (tupAll a l).1 ∧ (A1 = none → n1 = 0 ∧ c1 = 0) ∧ n1 ≤ 1200) := Lib.hid fun h => by obtain ⟨h1, h2, h3⟩ := H1.out h; exact ⟨h1, h2.ext (HE8.out.trans HE9.out), h3⟩
      have H2' : Hid ((tupAll b l).2 = 0 → n2 = (tupAll b l).1.length ∧ TupsIn w9 (.slice A2 n2 c2) (tupAll b l).1 ∧ (A2 = none → n2 = 0 ∧ c2 = 0) ∧ n2 ≤ 1200) := Lib.hid fun h => by obtain ⟨h1, h2, h3⟩ := H2.out h; exact ⟨h1, h2.ext HE9.out, h3⟩
      clear H1 H2 HE7 HE8 HE9 HEW HR6 HALL HL1 HL2 HL3 HR1 HR2 HR3 HOA HOB HA HB HX HM HE6 HEC
      generalize tupAll (a ++ b) LL = q4 at *
      generalize tupAll (a ++ b) l = q3 at *
      generalize tupAll a l = q1 at *
      generalize tupAll b l = q2 at *
      obtain ⟨Z, g⟩ := q3; obtain ⟨X, e⟩ := q1; obtain ⟨Y, f⟩ := q2; obtain ⟨V, h⟩ := q4
      dsimp only at *
      go_cut [75] (fun s75 wx => s75 = .bool false ∧ Ext w9 wx)
      case first =>
        by_cases he : e = 0
        · subst he
          by_cases hf : f = 0
          · subst hf
            obtain ⟨rfl, rfl⟩ := Prod.mk.inj (HCC.out rfl rfl)
            obtain ⟨hn1, ht1, hA1, hm1⟩ := H1'.out rfl
            obtain ⟨hn2, ht2, hA2, hm2⟩ := H2'.out rfl
            obtain ⟨hn3, ht3, hA3, hm3⟩ := H3.out rfl
            obtain ⟨-, s1, hs1, hi1, ho1, hc1⟩ := tupsIn_cells ht1
            obtain ⟨-, s2, hs2, hi2, ho2, hc2⟩ := tupsIn_cells ht2
            have HS1 := Lib.hid (show s1.length = n1 * 1 by omega); have HS2 := Lib.hid (show s2.length = n2 * 1 by omega)
            have HI1 := Lib.hid hi1; have HO1 := Lib.hid ho1; have HC1 := Lib.hid hc1; have HI2 := Lib.hid hi2; have HO2 := Lib.hid ho2; have HC2 := Lib.hid hc2
            have HT3 := Lib.hid ht3; have HA1 := Lib.hid hA1; have HA2 := Lib.hid hA2; have HM1 := Lib.hid hm1; have HM2 := Lib.hid hm2; have HN1 := Lib.hid hn1; have HN2 := Lib.hid hn2
            have HO0 : Hid ((w9.alloc (.cells #[] 50)).ownsRow w9.heap.size 50 1 (.slice (some ⟨w9.heap.size, 0, none⟩) 0 0) 0 []) := Lib.hid (owns_new0 rfl (Nat.le_refl _))
            have HU0 : Hid (Ext w9 (w9.alloc (.cells #[] 50))) := Lib.hid ((Ext.refl _).alloc _)
            clear hi1 ho1 hc1 hi2 ho2 hc2 ht1 ht2 ht3 hA1 hA2 hA3 hm1 hm2 hm3 H1' H2' H3 HCC HSB H4 hs1 hs2 hn1 hn2 hn3
            go_wp2_with (first
              | (refine wpList_app0 (base := w9.heap.size) (.tmp 67) (.tmp 68) rfl rfl Try.underlying91 info_rows (by decide) (by decide) rfl HO0.out rfl HA1.out s1 HS1.out (fun ad had j u hu => (HU0.out.cell (cell_lt (HC1.out ad had j u hu))).trans (HC1.out ad had j u hu)) HO1.out (by have := HM1.out; omega) HU0.out.size ?_; intro A5 c5 w5 ho5 hb5; have HE5 : Hid (Ext w9 w5) := Lib.hid (hb5.to_ext HU0.out (fun k h => (owns_lt HO0.out h).2)); have HO5 := Lib.hid ho5; clear ho5 hb5)
              | (refine wpList_app (base := w9.heap.size) (.tmp 69) (.tmp 70) rfl rfl Try.underlying91 info_rows (by decide) (by decide) rfl HO5.out rfl HA2.out s2 HS2.out (fun ad had j u hu => (HE5.out.cell (cell_lt (HC2.out ad had j u hu))).trans (HC2.out ad had j u hu)) HO2.out (by have := HM1.out; have := HM2.out; omega) HE5.out.size ?_; intro A7 c7 w7 ho7 hb7; have HE7 : Hid (Ext w9 w7) := Lib.hid (hb7.to_ext HE5.out (fun k h => (owns_lt HO5.out h).2)); have HT7 : Hid (TupsIn w7 (.slice A7 (n1 + n2) c7) (X ++ Y)) := Lib.hid (by have e1 := HN1.out; have e2 := HN2.out; subst e1 e2; exact tups_app ho7 HE7.out (by have := HS1.out; omega) (by have := HS2.out; omega) HI1.out HI2.out (by have := HM1.out; omega) (by have := HM2.out; omega)); clear ho7 hb7)
              | (go_at_call 50; refine (same26_of (X ++ Y) (X ++ Y) _ _ _ (HT3.out.ext HE7.out) HT7.out).mono ?_; rintro ev w8 ⟨rfl, hE8⟩; have HE8 := Lib.hid (HE7.out.trans hE8); clear hE8; have hself := alls3_self (X ++ Y); rw [hself]; clear hself))
            go_meet
            exact ⟨rfl, HE8.out⟩
          · have z1 : (f == 0) = false := by simpa using hf
            clear H1' H2' H3 HCC HSB H4
            go_wp2_with fail
            go_meet
            exact ⟨rfl, Ext.refl _⟩
        · have z1 : (e == 0) = false := by simpa using he
          clear H1' H2' H3 HCC HSB H4
          go_wp2_with fail
          go_meet
          exact ⟨rfl, Ext.refl _⟩
      case rest =>
        obtain ⟨rfl, hEc2⟩ := hcut
        have HED := Lib.hid hEc2
        clear H1' H2' HCC hEc2
        by_cases hg : g = 0
        · subst hg
          go_wp2_with (go_at_call 49; refine (H4.out _ HED.out).mono ?_; rintro ev w10 ⟨A4, n4, c4, rfl, H5, HE11⟩; by_cases hh : h = 0; (subst hh); rotate_left; (have zh : (h != 0) = true := by simpa using hh))
          · go_ret
            exact ⟨rfl, (HE10.out.trans HED.out).trans HE11.out⟩
          · obtain ⟨hn3, ht3, -, hm3⟩ := H3.out (by trivial)
            obtain ⟨hn4, ht4, -, hm4⟩ := H5.out (by trivial)
            subst hn3 hn4
            have HT3 : Hid (∀ u, Ext w10 u → TupsIn u (.slice A3 Z.length c3) Z) := Lib.hid fun u h => ((ht3.ext HED.out).ext HE11.out).ext h
            have HT4 : Hid (∀ u, Ext w10 u → TupsIn u (.slice A4 V.length c4) V) := Lib.hid fun u h => ht4.ext h
            have HSUB := Lib.hid (HSB.out (by trivial) (by trivial))
            have HEZ := Lib.hid ((HE10.out.trans HED.out).trans HE11.out)
            clear H3 H5 HSB H4 ht3 ht4 HED HE11 HE10
            go_loopw [19, 90] (fun y z wr => ∃ k i : Nat, y = .int .i64 (k : Int) ∧ z = .int .i64 (i : Int) ∧ k ≤ V.length ∧ i ≤ Z.length ∧ (V.drop k).Sublist (Z.drop i) ∧ Ext w10 wr) (fun _ z _ => Z.length - (intOf z).toNat)
            case atStart => exact ⟨0, 0, rfl, rfl, Nat.zero_le _, Nat.zero_le _, by simpa using HSUB.out, Ext.refl _⟩
            case round =>
              rename_i hrel
              obtain ⟨k, i, rfl, rfl, hk, hi, hs, hE⟩ := hrel
              have HE := Lib.hid hE; have HS := Lib.hid hs
              clear hs hE
              by_cases hlt : i < Z.length
              · have hlt' : (i : Int) < (Z.length : Int) := by omega
                have hI : (i : Int) ≤ 1200 := by omega
                have hK9 : (k : Int) ≤ 1200 := by omega
                obtain ⟨g3, o3, B3, m3, cb3, rfl, -, rfl, hc3, hr3⟩ := (HT3.out _ HE.out).at_ i hlt
                have HR3 := Lib.hid hr3
                clear hr3
                by_cases hkl : k < V.length
                · have hkl' : (k : Int) < (V.length : Int) := by omega
                  have hcap : V.length ≤ c4 := by
                    obtain ⟨A', c', h9, h10, -⟩ := (HT4.out _ HE.out).val
                    simp only [Value.slice.injEq] at h9
                    omega
                  obtain ⟨g4, o4, rfl, hone⟩ := (HT4.out _ HE.out).one k hkl
                  have HONE := Lib.hid (hone (c4 - k) (by omega))
                  clear hone
                  cases hv : alls (alls (alls exactV)) [Z[i]] [V[k]]
                  · have HN : Hid ((V.drop k).Sublist (Z.drop (i + 1))) := Lib.hid (sub_miss HS.out hlt fun _ e => by rw [e, alls3_self] at hv; cases hv)
                    go_wp2_with (go_at_call 50; refine (same26_of [Z[i]] [V[k]] _ _ _ (TupsIn.new HR3.out) (HONE.out.ext ((Ext.refl _).alloc _))).mono ?_; rintro ev w11 ⟨rfl, hE11⟩; have HE12 := Lib.hid (HE.out.trans (((Ext.refl _).alloc _).trans hE11)); clear hE11; rw [hv])
                    refine ⟨⟨k, i + 1, rfl, by simp, hk, by omega, HN.out, HE12.out⟩, by simp [intOf] <;> omega⟩
                  · have HN : Hid ((V.drop (k + 1)).Sublist (Z.drop (i + 1))) := Lib.hid (sub_hit HS.out hlt)
                    go_wp2_with (go_at_call 50; refine (same26_of [Z[i]] [V[k]] _ _ _ (TupsIn.new HR3.out) (HONE.out.ext ((Ext.refl _).alloc _))).mono ?_; rintro ev w11 ⟨rfl, hE11⟩; have HE12 := Lib.hid (HE.out.trans (((Ext.refl _).alloc _).trans hE11)); clear hE11; rw [hv])
                    refine ⟨⟨k + 1, i + 1, by simp, by simp, by omega, by omega, HN.out, HE12.out⟩, by simp [intOf] <;> omega⟩
                · obtain rfl : k = V.length := by omega
                  go_wp2_with fail
                  refine ⟨⟨V.length, i + 1, rfl, by simp, Nat.le_refl _, by omega, by rw [List.drop_length]; exact List.nil_sublist _, HE.out⟩, by simp [intOf] <;> omega⟩
              · have hlt' : ¬ ((i : Int) < (Z.length : Int)) := by omega
                obtain rfl : i = Z.length := by omega
                obtain rfl : k = V.length := sub_end HS.out hk
                go_wp2_with fail
                go_ret
                exact ⟨rfl, HEZ.out.trans HE.out⟩
        · have zg : (g != 0) = true := by simpa using hg
          clear H3 HSB
          go_wp2_with (go_at_call 49; refine (H4.out _ HED.out).mono ?_; rintro ev w10 ⟨A4, n4, c4, rfl, H5, HE11⟩)
          go_ret
          exact ⟨rfl, (HE10.out.trans HED.out).trans HE11.out⟩
    · go_ret
      exact ⟨rfl, HEC.out.trans HE6.out⟩
end Go.Proofs.Ytlcdjaclahhdnaa
