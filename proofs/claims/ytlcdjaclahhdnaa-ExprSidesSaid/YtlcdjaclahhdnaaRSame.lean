/- The call of tabularyref22.Same. Printed by wip/tools/gen_rsame.py. -/
import Derived.Test.YtlcdjaclahhdnaaSame
import Derived.Test.YtlcdjaclahhdnaaR4c
import Derived.Test.YtlcdjaclahhdnaaQ
namespace Go.Proofs.Ytlcdjaclahhdnaa
open Go.RowKit
set_option linter.unusedSimpArgs false
set_option linter.unusedVariables false
attribute [local irreducible] wpQuiet

set_option maxRecDepth 100000 in
set_option maxHeartbeats 8000000 in
theorem rsame_of : ∀ (e f : Ex) (s t : Value) (w : World), Ex.In w e s → Ex.In w f t →
    Calls Try.prog 39 #[.agg (e.cells s).toArray, .agg (f.cells t).toArray] w fun ev w' => ev = .returned (.bool (e.same f)) ∧ Ext w w' := by
  intro e
  induction e using Ex.ind with
  | h k r c v l ih =>
  intro f s t w hin hfin
  obtain ⟨hlm, A, cap, rfl, hkr⟩ := hin.kids
  obtain ⟨_, B, dap, rfl, _⟩ := hfin.mk_inv.2.2.2.2
  have hfm := hfin.mk_inv.2.2.2.2.1
  show Calls Try.prog 39 #[.agg (exCells k r c v (.slice A l.length cap)).toArray, .agg (f.cells (.slice B f.kids.length dap)).toArray] w fun ev w' => ev = .returned (.bool ((Ex.mk k r c v l).same f)) ∧ Ext w w'
  simp only [Ex.same]
  have HS := Lib.hid (fun u => rcmp_of v f.const u hin.fields.2.2.2.flt hfin.mk_inv.2.2.2.1.flt)
  have HIN := Lib.hid hin.kids; have HIF := Lib.hid hfin.mk_inv.2.2.2.2; have IH := Lib.hid ih
  have hb0 : BoxAt ((w.alloc (.cells [.int .i64 k, .int .i64 r, .int .i64 c, .int .i64 v.kind, .int .i64 v.int, .float .f64 v.flt, .string v.text, .slice A l.length cap].toArray 27)).alloc (.cells [.int .i64 f.kind, .int .i64 f.rel, .int .i64 f.col, .int .i64 f.const.kind, .int .i64 f.const.int, .float .f64 f.const.flt, .string f.const.text, .slice B f.kids.length dap].toArray 27)) w.heap.size [.int .i64 k, .int .i64 r, .int .i64 c, .int .i64 v.kind, .int .i64 v.int, .float .f64 v.flt, .string v.text, .slice A l.length cap] := (BoxAt.new rfl rfl).ext ((Ext.refl _).alloc _)
  have hb1 : BoxAt ((w.alloc (.cells [.int .i64 k, .int .i64 r, .int .i64 c, .int .i64 v.kind, .int .i64 v.int, .float .f64 v.flt, .string v.text, .slice A l.length cap].toArray 27)).alloc (.cells [.int .i64 f.kind, .int .i64 f.rel, .int .i64 f.col, .int .i64 f.const.kind, .int .i64 f.const.int, .float .f64 f.const.flt, .string f.const.text, .slice B f.kids.length dap].toArray 27)) (w.heap.size + 1) [.int .i64 f.kind, .int .i64 f.rel, .int .i64 f.col, .int .i64 f.const.kind, .int .i64 f.const.int, .float .f64 f.const.flt, .string f.const.text, .slice B f.kids.length dap] := BoxAt.new (by simp) rfl
  have hE := ((Ext.refl w).alloc (.cells [.int .i64 k, .int .i64 r, .int .i64 c, .int .i64 v.kind, .int .i64 v.int, .float .f64 v.flt, .string v.text, .slice A l.length cap].toArray 27)).alloc (.cells [.int .i64 f.kind, .int .i64 f.rel, .int .i64 f.col, .int .i64 f.const.kind, .int .i64 f.const.int, .float .f64 f.const.flt, .string f.const.text, .slice B f.kids.length dap].toArray 27)
  have HB0 := Lib.hid hb0; have HB1 := Lib.hid hb1; have HE := Lib.hid hE
  clear hin hfin hb0 hb1 hE ih hkr
  unfold Ex.cells exCells at *
  obtain ⟨a0, a1, a2, a3, a4, a5, a6, a7, _⟩ := HB0.out.cells
  obtain ⟨b0, b1, b2, b3, b4, b5, b6, b7, _⟩ := HB1.out.cells
  simp only [Nat.zero_add, Nat.reduceAdd] at a0 a1 a2 a3 a4 a5 a6 a7 b0 b1 b2 b3 b4 b5 b6 b7
  unfold Val.same
  generalize v.cmp f.const = z at *
  cases h0 : (k == f.kind)
  · have n0 : (k != f.kind) = true := by simp [bne, h0]
    simp only [Bool.true_and, Bool.false_and]
    clear h0
    go_enter Try.func39, Try.ntmps39
    go_wp2_with fail
    go_ret
    exact ⟨rfl, HE.out⟩
  have n0 : (k != f.kind) = false := by simp [bne, h0]
  clear h0
  cases h1 : (r == f.rel)
  · have n1 : (r != f.rel) = true := by simp [bne, h1]
    simp only [Bool.true_and, Bool.false_and]
    clear h1
    go_enter Try.func39, Try.ntmps39
    go_wp2_with fail
    go_ret
    exact ⟨rfl, HE.out⟩
  have n1 : (r != f.rel) = false := by simp [bne, h1]
  clear h1
  cases h2 : (c == f.col)
  · have n2 : (c != f.col) = true := by simp [bne, h2]
    simp only [Bool.true_and, Bool.false_and]
    clear h2
    go_enter Try.func39, Try.ntmps39
    go_wp2_with fail
    go_ret
    exact ⟨rfl, HE.out⟩
  have n2 : (c != f.col) = false := by simp [bne, h2]
  clear h2
  cases h3 : (v.kind == f.const.kind)
  · have n3 : (v.kind != f.const.kind) = true := by simp [bne, h3]
    simp only [Bool.true_and, Bool.false_and]
    clear h3
    go_enter Try.func39, Try.ntmps39
    go_wp2_with fail
    go_ret
    exact ⟨rfl, HE.out⟩
  have n3 : (v.kind != f.const.kind) = false := by simp [bne, h3]
  clear h3
  cases h4 : (z == 0)
  · have n4 : (z != 0) = true := by simp [bne, h4]
    simp only [Bool.true_and, Bool.false_and]
    clear h4
    go_enter Try.func39, Try.ntmps39
    go_wp2_with (first
    | (refine wpList_wish rfl fun K hK => wp_loadA (vs := [.int .i64 v.kind, .int .i64 v.int, .float .f64 v.flt, .string v.text]) agg_val (.tmp 35) rfl rfl (HB0.out.cells.2.2.2 |> fun h => ⟨h.1, h.2.1, h.2.2.1, h.2.2.2.1, trivial⟩) (hK _ _ ?_))
    | (refine wpList_wish rfl fun K hK => wp_loadA (vs := [.int .i64 f.const.kind, .int .i64 f.const.int, .float .f64 f.const.flt, .string f.const.text]) agg_val (.tmp 37) rfl rfl (HB1.out.cells.2.2.2 |> fun h => ⟨h.1, h.2.1, h.2.2.1, h.2.2.2.1, trivial⟩) (hK _ _ ?_))
    | (go_at_call 98; refine (HS.out _).mono ?_; rintro ev w1 ⟨rfl, hb⟩; have HE1 := Lib.hid (HE.out.trans hb); have HC0 := Lib.hid (HB0.out.ext hb); have HC1 := Lib.hid (HB1.out.ext hb); have c7 := HC0.out.cells.get 7 _ rfl; have d7 := HC1.out.cells.get 7 _ rfl; simp only [Nat.zero_add] at c7 d7; clear hb))
    go_ret
    exact ⟨rfl, HE1.out⟩
  have n4 : (z != 0) = false := by simp [bne, h4]
  clear h4
  simp only [Bool.true_and]
  by_cases hn : l.length = f.kids.length
  · have n5 : ((l.length : Int) != (f.kids.length : Int)) = false := by simp [hn]
    have e0 : (decide (l.length = f.kids.length) && Exs.same l f.kids) = Exs.same l f.kids := by rw [decide_eq_true hn]; rfl
    rw [e0]; clear e0
    have HN := Lib.hid hn; clear hn
    go_enter Try.func39, Try.ntmps39
    go_wp2_with (first
    | (refine wpList_wish rfl fun K hK => wp_loadA (vs := [.int .i64 v.kind, .int .i64 v.int, .float .f64 v.flt, .string v.text]) agg_val (.tmp 35) rfl rfl (HB0.out.cells.2.2.2 |> fun h => ⟨h.1, h.2.1, h.2.2.1, h.2.2.2.1, trivial⟩) (hK _ _ ?_))
    | (refine wpList_wish rfl fun K hK => wp_loadA (vs := [.int .i64 f.const.kind, .int .i64 f.const.int, .float .f64 f.const.flt, .string f.const.text]) agg_val (.tmp 37) rfl rfl (HB1.out.cells.2.2.2 |> fun h => ⟨h.1, h.2.1, h.2.2.1, h.2.2.2.1, trivial⟩) (hK _ _ ?_))
    | (go_at_call 98; refine (HS.out _).mono ?_; rintro ev w1 ⟨rfl, hb⟩; have HE1 := Lib.hid (HE.out.trans hb); have HC0 := Lib.hid (HB0.out.ext hb); have HC1 := Lib.hid (HB1.out.ext hb); have c7 := HC0.out.cells.get 7 _ rfl; have d7 := HC1.out.cells.get 7 _ rfl; simp only [Nat.zero_add] at c7 d7; clear hb))
    go_loopw [5] (fun y wr => ∃ i : Nat, y = .int .i64 (i : Int) ∧ i ≤ l.length ∧ Exs.same l f.kids = Exs.same (l.drop i) (f.kids.drop i) ∧ BoxAt wr w.heap.size [.int .i64 k, .int .i64 r, .int .i64 c, .int .i64 v.kind, .int .i64 v.int, .float .f64 v.flt, .string v.text, .slice A l.length cap] ∧ BoxAt wr (w.heap.size + 1) [.int .i64 f.kind, .int .i64 f.rel, .int .i64 f.col, .int .i64 f.const.kind, .int .i64 f.const.int, .float .f64 f.const.flt, .string f.const.text, .slice B f.kids.length dap] ∧ Ext w wr) (fun y _ => l.length - (intOf y).toNat)
    case atStart => exact ⟨0, rfl, by omega, rfl, HC0.out, HC1.out, HE1.out⟩
    case round =>
      rename_i hrel
      obtain ⟨i, rfl, hi, hk, hq0, hq1, hE⟩ := hrel
      have HK := Lib.hid hk; clear hk
      have HQ0 := Lib.hid hq0; have HQ1 := Lib.hid hq1
      have g7 := hq0.cells.get 7 _ rfl
      have i7 := hq1.cells.get 7 _ rfl
      simp only [Nat.zero_add] at g7 i7
      clear hq0 hq1 a0 a1 a2 a3 a4 a5 a6 a7 b0 b1 b2 b3 b4 b5 b6 b7 n0 n1 n2 n3 n4 n5 c7 d7
      by_cases hlt : i < l.length
      · have hlm2 : i < f.kids.length := by have := HN.out; omega
        have hlt' : (i : Int) < (l.length : Int) := by omega
        have hI : (i : Int) ≤ 9223372036854775806 := by omega
        have HD := Lib.hid (Exs.same_drop hlt hlm2)
        obtain ⟨g, o, s', rfl, _, hat, hin2, hg⟩ := (HIN.out.ext hE).get i hlt
        obtain ⟨g2, o2, t', rfl, _, hat2, hin3, hg2⟩ := (HIF.out.ext hE).get i hlm2
        obtain ⟨_, A', cap', rfl, _⟩ := (Ex.In.mk_inv hin2).2.2.2.2
        obtain ⟨_, B', dap', rfl, _⟩ := (Ex.In.mk_inv hin3).2.2.2.2
        have hcall := Lib.hid (fun u (he : Ext wr u) => IH.out l[i] (List.getElem_mem hlt) f.kids[i] (.slice A' l[i].kids.length cap') (.slice B' f.kids[i].kids.length dap') u (Ex.In.ext he _ _ hin2) (Ex.In.ext he _ _ hin3))
        have HAT := Lib.hid (fun u (he : Ext wr u) => hat.ext he hg)
        have HAT2 := Lib.hid (fun u (he : Ext wr u) => hat2.ext he hg2)
        have HE2 := Lib.hid hE
        clear hat hin2 hat2 hin3 IH hE
        unfold Ex.cells exCells at HAT HAT2
        generalize hb : l[i].same f.kids[i] = b at *
        generalize l[i] = e at *
        generalize f.kids[i] = h at *
        clear hb
        cases b
        · have HD2 : Hid (Exs.same l f.kids = false) := Lib.hid (by rw [HK.out, HD.out]; rfl)
          go_wp2_with fail
          refine wp_region_ext (by kernel_rfl) (by kernel_rfl) ?_; (repeat (first | (refine quiet_cell2 (.tmp 58) rfl rfl Try.underlying25 rfl rfl (fun w' hw => (HQ0.out.ext hw).cells.get 7 _ rfl) ?_) | (refine quiet_idxS2 (i := i) (.tmp 59) _ rfl rfl Try.underlying25 size_ex rfl rfl hlt ?_) | (refine quiet_loadA2 (vs := [.int .i64 e.kind, .int .i64 e.rel, .int .i64 e.col, .int .i64 e.const.kind, .int .i64 e.const.int, .float .f64 e.const.flt, .string e.const.text, (.slice A' e.kids.length cap')]) (.tmp 61) rfl rfl agg_ex rfl (fun w' hw => HAT.out w' hw) ?_) | (refine quiet_cell2 (.tmp 63) rfl rfl Try.underlying25 rfl rfl (fun w' hw => (HQ1.out.ext hw).cells.get 7 _ rfl) ?_) | (refine quiet_idxS2 (i := i) (.tmp 64) _ rfl rfl Try.underlying25 size_ex rfl rfl hlm2 ?_) | (refine quiet_loadA2 (vs := [.int .i64 h.kind, .int .i64 h.rel, .int .i64 h.col, .int .i64 h.const.kind, .int .i64 h.const.int, .float .f64 h.const.flt, .string h.const.text, (.slice B' h.kids.length dap')]) (.tmp 66) rfl rfl agg_ex rfl (fun w' hw => HAT2.out w' hw) ?_) | (refine wpQuiet_step (fun K hK => ?_); go_simp; first | (refine hK _ ?_; clear hK K) | (refine ⟨_, fun w hw => rfl, hK _ ?_⟩; clear hK K) | (apply Exists.intro; refine ⟨fun w hw => ?_, hK _ ?_⟩; (focus first | (go_at_call 39; exact (hcall.out _ hw).mono fun _ _ ⟨h1, h2⟩ => ⟨h1, hw.trans h2⟩)); clear hK K)))); refine wpQuiet_nil ?_
          intro w6 hw6
          go_wp2_with fail
          go_ret
          exact ⟨ret_bool HD2.out.symm, HE2.out.trans hw6⟩
        · have HD2 : Hid (Exs.same l f.kids = Exs.same (l.drop (i + 1)) (f.kids.drop (i + 1))) := Lib.hid (by rw [HK.out, HD.out]; rfl)
          go_wp2_with fail
          refine wp_region_ext (by kernel_rfl) (by kernel_rfl) ?_; (repeat (first | (refine quiet_cell2 (.tmp 58) rfl rfl Try.underlying25 rfl rfl (fun w' hw => (HQ0.out.ext hw).cells.get 7 _ rfl) ?_) | (refine quiet_idxS2 (i := i) (.tmp 59) _ rfl rfl Try.underlying25 size_ex rfl rfl hlt ?_) | (refine quiet_loadA2 (vs := [.int .i64 e.kind, .int .i64 e.rel, .int .i64 e.col, .int .i64 e.const.kind, .int .i64 e.const.int, .float .f64 e.const.flt, .string e.const.text, (.slice A' e.kids.length cap')]) (.tmp 61) rfl rfl agg_ex rfl (fun w' hw => HAT.out w' hw) ?_) | (refine quiet_cell2 (.tmp 63) rfl rfl Try.underlying25 rfl rfl (fun w' hw => (HQ1.out.ext hw).cells.get 7 _ rfl) ?_) | (refine quiet_idxS2 (i := i) (.tmp 64) _ rfl rfl Try.underlying25 size_ex rfl rfl hlm2 ?_) | (refine quiet_loadA2 (vs := [.int .i64 h.kind, .int .i64 h.rel, .int .i64 h.col, .int .i64 h.const.kind, .int .i64 h.const.int, .float .f64 h.const.flt, .string h.const.text, (.slice B' h.kids.length dap')]) (.tmp 66) rfl rfl agg_ex rfl (fun w' hw => HAT2.out w' hw) ?_) | (refine wpQuiet_step (fun K hK => ?_); go_simp; first | (refine hK _ ?_; clear hK K) | (refine ⟨_, fun w hw => rfl, hK _ ?_⟩; clear hK K) | (apply Exists.intro; refine ⟨fun w hw => ?_, hK _ ?_⟩; (focus first | (go_at_call 39; exact (hcall.out _ hw).mono fun _ _ ⟨h1, h2⟩ => ⟨h1, hw.trans h2⟩)); clear hK K)))); refine wpQuiet_nil ?_
          intro w6 hw6
          go_wp2_with fail
          refine ⟨⟨i + 1, by simp, by omega, HD2.out, HQ0.out.ext hw6, HQ1.out.ext hw6, HE2.out.trans hw6⟩, by simp [intOf] <;> omega⟩
      · have hlt' : ¬ ((i : Int) < (l.length : Int)) := by omega
        obtain rfl : i = l.length := by omega
        have HD2 : Hid (Exs.same l f.kids = true) := Lib.hid (by rw [HK.out, List.drop_length]; simp [Exs.same])
        go_wp2_with fail
        go_ret
        exact ⟨ret_bool HD2.out.symm, hE⟩
  · have n5 : ((l.length : Int) != (f.kids.length : Int)) = true := by simp; omega
    have e0 : (decide (l.length = f.kids.length) && Exs.same l f.kids) = false := by rw [decide_eq_false hn]; rfl
    rw [e0]; clear e0 hn
    go_enter Try.func39, Try.ntmps39
    go_wp2_with (first
    | (refine wpList_wish rfl fun K hK => wp_loadA (vs := [.int .i64 v.kind, .int .i64 v.int, .float .f64 v.flt, .string v.text]) agg_val (.tmp 35) rfl rfl (HB0.out.cells.2.2.2 |> fun h => ⟨h.1, h.2.1, h.2.2.1, h.2.2.2.1, trivial⟩) (hK _ _ ?_))
    | (refine wpList_wish rfl fun K hK => wp_loadA (vs := [.int .i64 f.const.kind, .int .i64 f.const.int, .float .f64 f.const.flt, .string f.const.text]) agg_val (.tmp 37) rfl rfl (HB1.out.cells.2.2.2 |> fun h => ⟨h.1, h.2.1, h.2.2.1, h.2.2.2.1, trivial⟩) (hK _ _ ?_))
    | (go_at_call 98; refine (HS.out _).mono ?_; rintro ev w1 ⟨rfl, hb⟩; have HE1 := Lib.hid (HE.out.trans hb); have HC0 := Lib.hid (HB0.out.ext hb); have HC1 := Lib.hid (HB1.out.ext hb); have c7 := HC0.out.cells.get 7 _ rfl; have d7 := HC1.out.cells.get 7 _ rfl; simp only [Nat.zero_add] at c7 d7; clear hb))
    go_ret
    exact ⟨rfl, HE1.out⟩
end Go.Proofs.Ytlcdjaclahhdnaa
