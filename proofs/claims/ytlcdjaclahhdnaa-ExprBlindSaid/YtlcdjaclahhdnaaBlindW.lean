/- The call of the law ExprBlind: true, whatever the expressions and rows. Printed by wip/tools/gen_blind.py. -/
import Derived.Test.YtlcdjaclahhdnaaBlind
import Derived.Test.YtlcdjaclahhdnaaBulk
import Derived.Test.YtlcdjaclahhdnaaW22
import Derived.Test.YtlcdjaclahhdnaaHolds
import Derived.Deep.DeepCutAuto
import Derived.Deep.CutBlock
namespace Go.Proofs.Ytlcdjaclahhdnaa
open Go.RowKit
set_option linter.unusedSimpArgs false
set_option linter.unusedVariables false

/-- A row of the call's own that holds slices. -/
def OwnS (w : World) (base : Nat) (v : Value) (l : List Value) : Prop := w.ownsRow base 59 1 v l.length l
theorem OwnS.nil (w : World) (base : Nat) : OwnS w base (.slice none 0 0) [] := ⟨by simp, .inl ⟨rfl, rfl⟩⟩
theorem OwnS.ext {w w' : World} {base : Nat} {v : Value} {l : List Value} (h : OwnS w base v l) (he : Ext w w') : OwnS w' base v l := owns_ext h he
theorem info_row : (Try.prog.info? 59).map (fun i => (i.zero, i.size, i.bytes)) = some (some (.slice none 0 0), 1, 24) := by kernel_rfl
/-- 'append(l, row)'. -/
theorem wpList_addS {w : World} {ops : Array Oper} {rest : List Oper} {o : Oper} {a : Act} {Q : Exit → Act → World → Prop} (hgd : o.guard = none) (s x : Operand)
    (ho : o.op = .call { callee := .builtin .append, args := #[s, x], argTypes := #[50, 50] })
    {base : Nat} {v : Value} {l : List Value} (hs : a.eval s = v) (hown : OwnS w base v l) (A : Option Addr) (n c : Nat) {g : Nat} (hx : a.eval x = .slice (some ⟨g, 0, none⟩) 1 1) (hg : g = w.heap.size)
    (hl : l.length ≤ 1000000000) (hbase : base ≤ w.heap.size)
    (h : ∀ v' w', OwnS w' base v' (l ++ [.slice A n c]) → Wr 59 base w w' → wpList Try.prog ops Q rest (a.put o.dst v') w') : wpList Try.prog ops Q (o :: rest) a (w.alloc (.cells #[.slice A n c] 59)) := by
  subst hg
  refine wpList_add hgd s x 50 ho Try.underlying50 info_row rfl (by omega) hs (owns_ext hown ((Ext.refl w).alloc _)) w.heap.size 0 1 1 [.slice A n c] hx rfl ?_ (by intro u hu; simp at hu; subst hu; rfl) (by omega) (by omega) (by simp; omega) fun v' w' ho' hw' => ?_
  · exact ⟨by simp [go_sem], trivial⟩
  · refine h v' w' ?_ (Wr.trans (Wr.of_ext ((Ext.refl w).alloc _)) hw')
    unfold OwnS
    rw [List.length_append]
    exact ho'
/-- Rows, each of which lies somewhere. -/
def RowVals (w : World) (ss : List Value) (rows : List (List Val)) : Prop :=
  ss.length = rows.length ∧ ∀ (i : Nat) (s : Value) (r : List Val), ss[i]? = some s → rows[i]? = some r → ValsIn w s r ∧ r.length ≤ 9223372036854775807
theorem RowVals.ext {w w' : World} {ss : List Value} {rows : List (List Val)} (he : Ext w w') (h : RowVals w ss rows) : RowVals w' ss rows :=
  ⟨h.1, fun i s r h1 h2 => ⟨(h.2 i s r h1 h2).1.ext he, (h.2 i s r h1 h2).2⟩⟩
theorem RowVals.snoc {w : World} {ss : List Value} {rows : List (List Val)} {s : Value} {r : List Val} (h : RowVals w ss rows) (hs : ValsIn w s r) (hr : r.length ≤ 9223372036854775807) : RowVals w (ss ++ [s]) (rows ++ [r]) := by
  refine ⟨by simp [h.1], fun i u q h1 h2 => ?_⟩
  rw [List.getElem?_append] at h1 h2
  rw [← h.1] at h2
  split at h1
  · rename_i hi
    rw [if_pos hi] at h2
    exact h.2 i u q h1 h2
  · rename_i hi
    rw [if_neg hi] at h2
    rcases Nat.eq_zero_or_pos (i - ss.length) with h0 | h0
    · rw [h0] at h1 h2
      simp only [List.getElem?_cons_zero, Option.some.injEq] at h1 h2
      subst h1 h2
      exact ⟨hs, hr⟩
    · rw [List.getElem?_eq_none (by simp; omega)] at h1; cases h1
theorem OwnS.rows {w : World} {base : Nat} {v : Value} {ss : List Value} {rows : List (List Val)} (h : OwnS w base v ss) (hr : RowVals w ss rows) (hl : rows.length ≤ 1000000) : RowsIn w v rows := by
  obtain ⟨A, c, rfl, h1, h2, h3, h4⟩ := owns_form h
  have hc : A = none → c = 0 := fun hA => by
    subst hA
    rcases h.2 with ⟨h5, _⟩ | ⟨g, cap, cur, h5, _⟩
    · simpa using congrArg (fun v => match v with | .slice _ _ c => c | _ => 0) h5
    · simp at h5
  refine ⟨⟨A, c, by rw [← hr.1], by rw [← hr.1]; exact h1, hc, fun hne => ?_⟩, by omega, fun r hm => ?_⟩
  · cases A with
    | none =>
      have := h3 rfl
      rw [hr.1] at this
      exact absurd (List.eq_nil_of_length_eq_zero this) hne
    | some ad =>
      obtain ⟨hs, _, _, hcell⟩ := h4 ad rfl
      obtain ⟨g, o, s⟩ := ad
      obtain rfl : s = none := hs
      refine ⟨g, o, rfl, fun i hi => ?_⟩
      have hi' : i < ss.length := by rw [hr.1]; exact hi
      exact ⟨ss[i], hcell i _ (List.getElem?_eq_getElem hi'), (hr.2 i _ _ (List.getElem?_eq_getElem hi') (List.getElem?_eq_getElem hi)).1⟩
  · obtain ⟨i, hi, rfl⟩ := List.getElem_of_mem hm
    have hi' : i < ss.length := by rw [hr.1]; exact hi
    exact (hr.2 i _ _ (List.getElem?_eq_getElem hi') (List.getElem?_eq_getElem hi)).2
theorem mixed_take (m : Nat) (rows other : List (List Val)) {i : Nat} (hi : i < rows.length) (h32 : i < 32) : (mixed m rows other).take (i + 1) = (mixed m rows other).take i ++ [mixRow m rows other i] := by
  have hl : i < (mixed m rows other).length := by simp [mixed]; omega
  rw [List.take_succ_eq_append_getElem hl]
  simp [mixed]
theorem ExsIn.two {w : World} {e f : Ex} {se sf : Value} {A : Array Value} (he : Ex.In w e se) (hf : Ex.In w f sf) (hA : A = (exsCells [e, f] [se, sf]).toArray) : ExsIn (w.alloc (.cells A 27)) (.slice (some ⟨w.heap.size, 0, none⟩) 2 2) [e, f] := by
  refine ExsIn.new rfl rfl (by decide) (by decide) hA ?_
  intro i hi hj
  match i, hi with
  | 0, _ => exact he
  | 1, _ => exact hf
theorem ExsIn.four {w : World} {e f : Ex} {se sf : Value} {A : Array Value} (he : Ex.In w e se) (hf : Ex.In w f sf) (hA : A = (exsCells [e, f, e, f] [se, sf, se, sf]).toArray) : ExsIn (w.alloc (.cells A 27)) (.slice (some ⟨w.heap.size, 0, none⟩) 4 4) [e, f, e, f] := by
  refine ExsIn.new rfl rfl (by decide) (by decide) hA ?_
  intro i hi hj
  match i, hi with
  | 0, _ => exact he
  | 1, _ => exact hf
  | 2, _ => exact he
  | 3, _ => exact hf

set_option maxRecDepth 100000 in
set_option maxHeartbeats 20000000 in
theorem blind_walk (e f : Ex) (se sf rv ov : Value) (rows other : List (List Val)) (w : World) (hine : Ex.In w e se) (hinf : Ex.In w f sf) (hrows : RowsIn w rv rows) (hother : RowsIn w ov other) :
    Calls Try.prog 7 #[.agg (e.cells se).toArray, .agg (f.cells sf).toArray, rv, ov] w fun ev w' => ev = .returned (.bool true) ∧ Ext w w' := by
  obtain ⟨_, EA, ecap, rfl, _⟩ := hine.mk_inv.2.2.2.2
  obtain ⟨_, FA, fcap, rfl, _⟩ := hinf.mk_inv.2.2.2.2
  obtain ⟨RA, rc, rfl, _⟩ := hrows.val
  obtain ⟨OA, oc, rfl, _⟩ := hother.val
  have hrl := hrows.lens.1
  have hol := hother.lens.1
  have HE := Lib.hid hine; have HF := Lib.hid hinf; have HR := Lib.hid hrows; have HO := Lib.hid hother
  clear hine hinf hrows hother
  have hbe : BoxAt ((w.alloc (.cells (e.cells (.slice EA e.kids.length ecap)).toArray 27)).alloc (.cells (f.cells (.slice FA f.kids.length fcap)).toArray 27)) w.heap.size (e.cells (.slice EA e.kids.length ecap)) := (BoxAt.new rfl rfl).ext ((Ext.refl _).alloc _)
  have hbf : BoxAt ((w.alloc (.cells (e.cells (.slice EA e.kids.length ecap)).toArray 27)).alloc (.cells (f.cells (.slice FA f.kids.length fcap)).toArray 27)) (w.heap.size + 1) (f.cells (.slice FA f.kids.length fcap)) := BoxAt.new (by simp) rfl
  have hE0 : Ext w ((w.alloc (.cells (e.cells (.slice EA e.kids.length ecap)).toArray 27)).alloc (.cells (f.cells (.slice FA f.kids.length fcap)).toArray 27)) := ((Ext.refl _).alloc _).alloc _
  have HBE := Lib.hid hbe; have HBF := Lib.hid hbf; have HE0 := Lib.hid hE0
  clear hbe hbf hE0
  unfold Ex.cells exCells at *
  go_enter Try.func7, Try.ntmps7
  go_upto_region 3 with (go_at_call 13; refine (works22 _).mono ?_; rintro ev W ⟨rfl, hb1⟩; have hEW := HE0.out.trans hb1; have HBE1 := Lib.hid (HBE.out.ext hb1); have HBF1 := Lib.hid (HBF.out.ext hb1); have HEW := Lib.hid hEW; clear HBE HBF HE0 hb1 hEW)
  have HIE : Hid (∀ u, Ext W u → Ex.In u e (.slice EA e.kids.length ecap)) := Lib.hid fun u h => Ex.In.ext (HEW.out.trans h) _ _ HE.out
  have HIF : Hid (∀ u, Ext W u → Ex.In u f (.slice FA f.kids.length fcap)) := Lib.hid fun u h => Ex.In.ext (HEW.out.trans h) _ _ HF.out
  have HRW : Hid (∀ u, Ext W u → RowsIn u (.slice RA rows.length rc) rows) := Lib.hid fun u h => HR.out.ext (HEW.out.trans h)
  have HOW : Hid (∀ u, Ext W u → RowsIn u (.slice OA other.length oc) other) := Lib.hid fun u h => HO.out.ext (HEW.out.trans h)
  have HLE : Hid (∀ u, Ext W u → At u w.heap.size 0 [.int .i64 e.kind, .int .i64 e.rel, .int .i64 e.col, .int .i64 e.const.kind, .int .i64 e.const.int, .float .f64 e.const.flt, .string e.const.text, (.slice EA e.kids.length ecap)]) := Lib.hid fun u h => (HBE1.out.ext h).cells
  have HLF : Hid (∀ u, Ext W u → At u (w.heap.size + 1) 0 [.int .i64 f.kind, .int .i64 f.rel, .int .i64 f.col, .int .i64 f.const.kind, .int .i64 f.const.int, .float .f64 f.const.flt, .string f.const.text, (.slice FA f.kids.length fcap)]) := Lib.hid fun u h => (HBF1.out.ext h).cells
  clear HE HF HR HO HBE1 HBF1
  have hgn : ∀ u, RowsIn u (.slice none 0 0) [] := fun u => ⟨⟨none, 0, rfl, Nat.le_refl _, fun _ => rfl, fun h => absurd rfl h⟩, by simp, by simp⟩
  have HX4 : Hid (ExsIn (W.alloc (.cells (exsCells [e, f, e, f] [.slice EA e.kids.length ecap, .slice FA f.kids.length fcap, .slice EA e.kids.length ecap, .slice FA f.kids.length fcap]).toArray 27)) (.slice (some ⟨W.heap.size, 0, none⟩) 4 4) [e, f, e, f]) := Lib.hid (ExsIn.four (HIE.out _ (Ext.refl _)) (HIF.out _ (Ext.refl _)) rfl)
  go_upto_block 0 with (first
    | (refine wpList_wish rfl fun K hK => wp_loadA (vs := [.int .i64 e.kind, .int .i64 e.rel, .int .i64 e.col, .int .i64 e.const.kind, .int .i64 e.const.int, .float .f64 e.const.flt, .string e.const.text, (.slice EA e.kids.length ecap)]) agg_ex (.tmp 4) rfl rfl (HLE.out _ (Ext.refl _)) (hK _ _ ?_)) | (refine wpList_wish rfl fun K hK => wp_loadA (vs := [.int .i64 f.kind, .int .i64 f.rel, .int .i64 f.col, .int .i64 f.const.kind, .int .i64 f.const.int, .float .f64 f.const.flt, .string f.const.text, (.slice FA f.kids.length fcap)]) agg_ex (.tmp 5) rfl rfl (HLF.out _ (Ext.refl _)) (hK _ _ ?_))
    | (go_at_call_of 14 (Value.slice none 0 0); refine (great_of [] _ other _ _ (ExsIn.nil _) (HOW.out _ ((Ext.refl _).alloc _))).mono ?_; rintro ev w2 ⟨hh, rfl⟩; obtain ⟨b2, rfl, hb2⟩ := hh.get; clear hb2; cases b2)
    | (go_at_call 14; refine (great_of [e, f, e, f] _ rows _ _ HX4.out (HRW.out _ ((Ext.refl _).alloc _))).mono ?_; rintro ev w2 ⟨hh, rfl⟩; obtain ⟨b1, rfl, hb1⟩ := hh.get; clear hb1; cases b1))
  · have HREL : Hid (∀ u, Ext W u → Calls Try.prog 33 #[.agg [.int .i64 e.kind, .int .i64 e.rel, .int .i64 e.col, .int .i64 e.const.kind, .int .i64 e.const.int, .float .f64 e.const.flt, .string e.const.text, (.slice EA e.kids.length ecap)].toArray] u fun ev w' => ev = .returned (.int .u32 (e.rels : Int)) ∧ Ext u w') := Lib.hid fun u h => rels_of e _ u (HIE.out u h)
    have hm := e.rels_lt
    obtain ⟨m, hme⟩ : ∃ m, m = e.rels := ⟨_, rfl⟩
    rw [← hme] at HREL hm
    have HME := Lib.hid hme; clear hme
    have HM := Lib.hid hm; clear hm
    have hE1 : Ext W (W.alloc (.cells (exsCells [e, f, e, f] [.slice EA e.kids.length ecap, .slice FA f.kids.length fcap, .slice EA e.kids.length ecap, .slice FA f.kids.length fcap]).toArray 27)) := (Ext.refl _).alloc _
    have HE1 := Lib.hid hE1; clear hE1 HX4
    simp only [exsCells, Ex.cells, exCells, List.cons_append, List.nil_append] at HE1
    go_cut [9] (fun s9 wx => RowsIn wx s9 (mixed m rows other) ∧ Ext W wx)
    case first =>
      go_wp2_with fail
      go_loopw [9, 37] (fun x y wr => ∃ (i : Nat) (ss : List Value), y = .int .i64 (i : Int) ∧ i ≤ rows.length ∧ i ≤ 32 ∧ OwnS wr W.heap.size x ss ∧ RowVals W ss ((mixed m rows other).take i) ∧ Ext W wr) (fun _ y _ => rows.length - (intOf y).toNat)
      case atStart => exact ⟨0, [], rfl, by omega, by omega, OwnS.nil _ _, ⟨by simp, fun i s r h => by simp at h⟩, HE1.out⟩
      case round =>
        rename_i hrel
        obtain ⟨i, ss, rfl, hi, hi32, hown, hrv, hE⟩ := hrel
        have HOWN := Lib.hid hown; have HRV := Lib.hid hrv; have HEr := Lib.hid hE
        clear hown hrv hE
        by_cases hlt : i < rows.length
        · have hlt' : (i : Int) < (rows.length : Int) := by omega
          have hI : (i : Int) ≤ 32 := by omega
          by_cases h32 : i < 32
          · have h32' : ¬ (31 : Int) < (i : Int) := by omega
            have HSL : Hid (ss.length ≤ 1000000000) := Lib.hid (by rw [HRV.out.1, List.length_take]; omega)
            obtain ⟨g, o, B, rn, rcb, rfl, _, rfl, hc, hv⟩ := (HRW.out _ (Ext.refl _)).at_ i hlt
            have hvl := (HRW.out _ (Ext.refl _)).lens.2 rows[i] (List.getElem_mem hlt)
            have HC : Hid (wr.cell? ⟨g, o + i * 1, none⟩ = some (.slice B rows[i].length rcb)) := Lib.hid (by rw [Nat.mul_one]; exact (HEr.out.cell (cell_lt hc)).trans hc)
            have HV := Lib.hid (⟨hv, hvl⟩ : ValsIn W (.slice B rows[i].length rcb) rows[i] ∧ _)
            have HT := Lib.hid (mixed_take m rows other hlt h32)
            have hbits := bit_u32 m i HM.out h32
            clear hc hv hvl
            by_cases hbit : m.testBit i = true
            · rw [if_pos hbit] at hbits
              have HMR : Hid (mixRow m rows other i = rows[i]) := Lib.hid (by simp [mixRow, hbit, hlt])
              clear hbit
              generalize rows[i] = row at *
              go_wp2_with (first
                | (refine wpList_wish rfl fun K hK => wp_idxS (i := i) Try.underlying50 size_slice59 (.tmp 42) _ rfl rfl rfl hlt (hK _ _ ?_))
                | (refine wpList_wish rfl fun K hK => wp_cell Try.underlying59 rfl (.tmp 44) rfl rfl HC.out (hK _ _ ?_))
                | (refine wpList_wish rfl fun K hK => wp_loadA (vs := [.int .i64 e.kind, .int .i64 e.rel, .int .i64 e.col, .int .i64 e.const.kind, .int .i64 e.const.int, .float .f64 e.const.flt, .string e.const.text, (.slice EA e.kids.length ecap)]) agg_ex (.tmp 4) rfl rfl (HLE.out _ HEr.out) (hK _ _ ?_))
                | (go_at_call 33; refine (HREL.out _ HEr.out).mono ?_; rintro ev w5 ⟨rfl, hb5⟩; have HB5 := Lib.hid hb5; clear hb5)
                | (at_builtin; refine wpList_addS rfl (.tmp 61) (.tmp 63) rfl rfl (HOWN.out.ext HB5.out) B row.length rcb rfl rfl HSL.out (HEr.out.trans HB5.out).size ?_; intro v6 w6 ho6 hw6; have HO6 := Lib.hid ho6; have HW6 := Lib.hid hw6; clear ho6 hw6))
              have hE6 := (HEr.out.trans HB5.out).trans_wr HW6.out (Nat.le_refl _)
              exact ⟨⟨i + 1, _, by simp, by omega, by omega, HO6.out, by rw [HT.out, HMR.out]; exact HRV.out.snoc HV.out.1 HV.out.2, hE6⟩, by simp [intOf] <;> omega⟩
            · rw [if_neg hbit] at hbits
              have hbf : m.testBit i = false := by simpa using hbit
              by_cases ho : i < other.length
              · have ho' : (i : Int) < (other.length : Int) := by omega
                obtain ⟨g2, o2, B2, rn2, rcb2, rfl, _, rfl, hc2, hv2⟩ := (HOW.out _ (Ext.refl _)).at_ i ho
                have hvl2 := (HOW.out _ (Ext.refl _)).lens.2 other[i] (List.getElem_mem ho)
                have HC2 : Hid (wr.cell? ⟨g2, o2 + i * 1, none⟩ = some (.slice B2 other[i].length rcb2)) := Lib.hid (by rw [Nat.mul_one]; exact (HEr.out.cell (cell_lt hc2)).trans hc2)
                have HV2 := Lib.hid (⟨hv2, hvl2⟩ : ValsIn W (.slice B2 other[i].length rcb2) other[i] ∧ _)
                have HMR : Hid (mixRow m rows other i = other[i]) := Lib.hid (by simp [mixRow, hbf, ho])
                clear hbit hbf hc2 hv2 hvl2
                generalize rows[i] = row at *
                generalize other[i] = row2 at *
                go_wp2_with (first
                  | (refine wpList_wish rfl fun K hK => wp_idxS (i := i) Try.underlying50 size_slice59 (.tmp 42) _ rfl rfl rfl hlt (hK _ _ ?_))
                  | (refine wpList_wish rfl fun K hK => wp_cell Try.underlying59 rfl (.tmp 44) rfl rfl HC.out (hK _ _ ?_))
                  | (refine wpList_wish rfl fun K hK => wp_idxS (i := i) Try.underlying50 size_slice59 (.tmp 57) _ rfl rfl rfl ho (hK _ _ ?_))
                  | (refine wpList_wish rfl fun K hK => wp_cell Try.underlying59 rfl (.tmp 59) rfl rfl (by rw [HB5.out.cell (cell_lt HC2.out)]; exact HC2.out) (hK _ _ ?_))
                  | (refine wpList_wish rfl fun K hK => wp_loadA (vs := [.int .i64 e.kind, .int .i64 e.rel, .int .i64 e.col, .int .i64 e.const.kind, .int .i64 e.const.int, .float .f64 e.const.flt, .string e.const.text, (.slice EA e.kids.length ecap)]) agg_ex (.tmp 4) rfl rfl (HLE.out _ HEr.out) (hK _ _ ?_))
                  | (go_at_call 33; refine (HREL.out _ HEr.out).mono ?_; rintro ev w5 ⟨rfl, hb5⟩; have HB5 := Lib.hid hb5; clear hb5)
                  | (at_builtin; refine wpList_addS rfl (.tmp 61) (.tmp 63) rfl rfl (HOWN.out.ext HB5.out) B2 row2.length rcb2 rfl rfl HSL.out (HEr.out.trans HB5.out).size ?_; intro v6 w6 ho6 hw6; have HO6 := Lib.hid ho6; have HW6 := Lib.hid hw6; clear ho6 hw6))
                have hE6 := (HEr.out.trans HB5.out).trans_wr HW6.out (Nat.le_refl _)
                exact ⟨⟨i + 1, _, by simp, by omega, by omega, HO6.out, by rw [HT.out, HMR.out]; exact HRV.out.snoc HV2.out.1 HV2.out.2, hE6⟩, by simp [intOf] <;> omega⟩
              · have ho' : ¬ (i : Int) < (other.length : Int) := by omega
                have HMR : Hid (mixRow m rows other i = []) := Lib.hid (by simp only [mixRow, hbf, Bool.false_eq_true, if_false, List.getD_eq_getElem?_getD, List.getElem?_eq_none (Nat.not_lt.1 ho)]; rfl)
                clear hbit hbf
                generalize rows[i] = row at *
                go_wp2_with (first
                  | (refine wpList_wish rfl fun K hK => wp_idxS (i := i) Try.underlying50 size_slice59 (.tmp 42) _ rfl rfl rfl hlt (hK _ _ ?_))
                  | (refine wpList_wish rfl fun K hK => wp_cell Try.underlying59 rfl (.tmp 44) rfl rfl HC.out (hK _ _ ?_))
                  | (refine wpList_wish rfl fun K hK => wp_loadA (vs := [.int .i64 e.kind, .int .i64 e.rel, .int .i64 e.col, .int .i64 e.const.kind, .int .i64 e.const.int, .float .f64 e.const.flt, .string e.const.text, (.slice EA e.kids.length ecap)]) agg_ex (.tmp 4) rfl rfl (HLE.out _ HEr.out) (hK _ _ ?_))
                  | (go_at_call 33; refine (HREL.out _ HEr.out).mono ?_; rintro ev w5 ⟨rfl, hb5⟩; have HB5 := Lib.hid hb5; clear hb5)
                  | (at_builtin; refine wpList_addS rfl (.tmp 61) (.tmp 63) rfl rfl (HOWN.out.ext HB5.out) none 0 0 rfl rfl HSL.out (HEr.out.trans HB5.out).size ?_; intro v6 w6 ho6 hw6; have HO6 := Lib.hid ho6; have HW6 := Lib.hid hw6; clear ho6 hw6))
                have hE6 := (HEr.out.trans HB5.out).trans_wr HW6.out (Nat.le_refl _)
                exact ⟨⟨i + 1, _, by simp, by omega, by omega, HO6.out, by rw [HT.out, HMR.out]; exact HRV.out.snoc ⟨⟨none, 0, rfl, Nat.le_refl _, fun _ => rfl, fun h => absurd rfl h⟩, by simp⟩ (by simp), hE6⟩, by simp [intOf] <;> omega⟩
          · have h32' : (31 : Int) < (i : Int) := by omega
            obtain rfl : i = 32 := by omega
            go_wp2_with fail
            go_meet
            exact ⟨HOWN.out.rows (by have := HRV.out.ext HEr.out; rwa [List.take_of_length_le (by simp [mixed]; omega)] at this) (by simp [mixed]; omega), HEr.out⟩
        · have hlt' : ¬ ((i : Int) < (rows.length : Int)) := by omega
          obtain rfl : i = rows.length := by omega
          go_wp2_with fail
          go_meet
          exact ⟨HOWN.out.rows (by have := HRV.out.ext HEr.out; rwa [List.take_of_length_le (by simp [mixed]; omega)] at this) (by simp [mixed]; omega), HEr.out⟩
    case rest =>
      obtain ⟨hmix, hEc⟩ := hcut
      have HMX := Lib.hid hmix; have HEc := Lib.hid hEc; have hWc := hEc
      clear hmix hEc HREL HM HE1
      have HEQ : Hid (e.Eval (mixed m rows other) = e.Eval rows) := Lib.hid (blind_Eval e fun i hi hb => mixed_get m rows other hi (by rw [HME.out]; exact hb)).symm
      have HAND := Lib.hid (@and_law rows e f)
      have hro : ∀ r ∈ rows, ∀ v ∈ r, v.Ok := fun r hr v hv => by
        obtain ⟨i, hi, rfl⟩ := List.getElem_of_mem hr
        obtain ⟨_, _, _, _, _, _, _, _, _, h8⟩ := (HRW.out _ (Ext.refl _)).at_ i hi
        exact h8.ok v hv
      have HQF : Hid ((e.Eval rows).1.Ok) := Lib.hid (Eval_ok hro e W _ (HIE.out _ (Ext.refl _)))
      clear hro
      have HEV1 : Hid (∀ u, Ext W u → Calls Try.prog 28 #[.agg [.int .i64 e.kind, .int .i64 e.rel, .int .i64 e.col, .int .i64 e.const.kind, .int .i64 e.const.int, .float .f64 e.const.flt, .string e.const.text, (.slice EA e.kids.length ecap)].toArray, .slice RA rows.length rc] u fun ev w' => ev = .returned (.tuple #[(e.Eval rows).1.enc, .int .i64 (e.Eval rows).2]) ∧ Ext u w') := Lib.hid fun u h => Eval_of e _ u _ rows (HIE.out u h) (HRW.out u h)
      have HEV2 : Hid (∀ u, Ext wc u → Calls Try.prog 28 #[.agg [.int .i64 e.kind, .int .i64 e.rel, .int .i64 e.col, .int .i64 e.const.kind, .int .i64 e.const.int, .float .f64 e.const.flt, .string e.const.text, (.slice EA e.kids.length ecap)].toArray, u9] u fun ev w' => ev = .returned (.tuple #[(e.Eval rows).1.enc, .int .i64 (e.Eval rows).2]) ∧ Ext u w') := Lib.hid fun u h => by
        have h1 := Eval_of e _ u _ (mixed m rows other) (HIE.out u (HEc.out.trans h)) (HMX.out.ext h)
        rw [HEQ.out] at h1; exact h1
      have HEVF : Hid (∀ u, Ext W u → Calls Try.prog 28 #[.agg [.int .i64 f.kind, .int .i64 f.rel, .int .i64 f.col, .int .i64 f.const.kind, .int .i64 f.const.int, .float .f64 f.const.flt, .string f.const.text, (.slice FA f.kids.length fcap)].toArray, .slice RA rows.length rc] u fun ev w' => ev = .returned (.tuple #[(f.Eval rows).1.enc, .int .i64 (f.Eval rows).2]) ∧ Ext u w') := Lib.hid fun u h => Eval_of f _ u _ rows (HIF.out u h) (HRW.out u h)
      have HEVA : Hid (∀ (v u : World) (h0 : Nat), Ext W v → Ext (v.alloc (.cells (exsCells [e, f] [.slice EA e.kids.length ecap, .slice FA f.kids.length fcap]).toArray 27)) u → h0 = v.heap.size → Calls Try.prog 28 #[.agg #[.int .i64 10, .int .i64 0, .int .i64 0, .int .i64 0, .int .i64 0, .float .f64 0, .string ⟨#[]⟩, .slice (some ⟨h0, 0, none⟩) 2 2], .slice RA rows.length rc] u fun ev w' => ev = .returned (.tuple #[((Ex.mk 10 0 0 Val.null [e, f]).Eval rows).1.enc, .int .i64 ((Ex.mk 10 0 0 Val.null [e, f]).Eval rows).2]) ∧ Ext u w') := Lib.hid fun v u h0 h1 h2 h3 => by
        subst h3
        exact Eval_of (.mk 10 0 0 Val.null [e, f]) (.slice (some ⟨v.heap.size, 0, none⟩) 2 2) u _ rows (Ex.In.mk_of ⟨by decide, by decide⟩ ⟨by decide, by decide⟩ ⟨by decide, by decide⟩ Val.null_ok ((ExsIn.two (HIE.out v h1) (HIF.out v h1) rfl).ext h2)) (HRW.out u (h1.trans (((Ext.refl _).alloc _).trans h2)))
      have HHO : Hid (∀ (v : World) (h0 : Nat), Ext W v → h0 = v.heap.size → Calls Try.prog 30 #[.slice (some ⟨h0, 0, none⟩) 2 2, .slice RA rows.length rc] (v.alloc (.cells (exsCells [e, f] [.slice EA e.kids.length ecap, .slice FA f.kids.length fcap]).toArray 27)) fun ev w' => ev = .returned (.tuple #[.bool (holds rows [e, f]).1, .int .i64 (holds rows [e, f]).2]) ∧ Ext (v.alloc (.cells (exsCells [e, f] [.slice EA e.kids.length ecap, .slice FA f.kids.length fcap]).toArray 27)) w') := Lib.hid fun v h0 h1 hh => by
        subst hh
        exact holds_of [e, f] _ _ _ rows (ExsIn.two (HIE.out v h1) (HIF.out v h1) rfl) (HRW.out _ (h1.alloc _))
      clear HME HEQ
      simp only [exsCells, Ex.cells, exCells, List.cons_append, List.nil_append] at HEVA HHO
      generalize e.Eval rows = q at *
      generalize f.Eval rows = p at *
      generalize (Ex.mk 10 0 0 Val.null [e, f]).Eval rows = d at *
      have HS : Hid (∀ u, Calls Try.prog 24 #[.agg #[.int .i64 q.1.kind, .int .i64 q.1.int, .float .f64 q.1.flt, .string q.1.text], .agg #[.int .i64 q.1.kind, .int .i64 q.1.int, .float .f64 q.1.flt, .string q.1.text]] u fun ev w' => ev = .returned (.bool true) ∧ Ext u w') := Lib.hid fun u => by
        have := same_of q.1 q.1 u HQF.out.flt HQF.out.flt
        rw [same_refl] at this; exact this
      generalize holds rows [e, f] = ho at *
      clear HQF
      unfold Val.enc at HEV1 HEV2 HEVF HEVA
      have HOF := Lib.hid (fun A n cap w => mkof_of 10 A n cap w)
      unfold exCells Val.null at HOF
      go_upto_region 18 with (first
        | (refine wpList_wish rfl fun K hK => wp_loadA (vs := [.int .i64 e.kind, .int .i64 e.rel, .int .i64 e.col, .int .i64 e.const.kind, .int .i64 e.const.int, .float .f64 e.const.flt, .string e.const.text, (.slice EA e.kids.length ecap)]) agg_ex (.tmp 4) rfl rfl (HLE.out _ (by repeat (first | (with_reducible exact Ext.refl _) | (with_reducible refine Ext.set_ ?_ _ ?_; focus (first | (simp; done) | (simp; omega) | (simp at *; omega))) | (with_reducible refine Ext.alloc ?_ _) | (with_reducible refine Ext.drew ?_) | (with_reducible refine Ext.drewN ?_ _) | (with_reducible refine Ext.trans ?_ (by assumption))))) (hK _ _ ?_))
        | (go_at_call_of 28 e.kind; refine (HEV1.out _ HEc.out).mono ?_; rintro ev w17 ⟨rfl, hb17⟩; have hW17 : Ext W w17 := HEc.out.trans hb17))
      go_upto_region 19 with (first
        | (refine wpList_wish rfl fun K hK => wp_loadA (vs := [.int .i64 e.kind, .int .i64 e.rel, .int .i64 e.col, .int .i64 e.const.kind, .int .i64 e.const.int, .float .f64 e.const.flt, .string e.const.text, (.slice EA e.kids.length ecap)]) agg_ex (.tmp 4) rfl rfl (HLE.out _ (by repeat (first | (with_reducible exact Ext.refl _) | (with_reducible refine Ext.set_ ?_ _ ?_; focus (first | (simp; done) | (simp; omega) | (simp at *; omega))) | (with_reducible refine Ext.alloc ?_ _) | (with_reducible refine Ext.drew ?_) | (with_reducible refine Ext.drewN ?_ _) | (with_reducible refine Ext.trans ?_ (by assumption))))) (hK _ _ ?_))
        | (go_at_call_of 28 u9; refine (HEV2.out _ (hb17.alloc _)).mono ?_; rintro ev w18 ⟨rfl, hb18⟩; have hc18 : Ext wc w18 := (hb17.alloc _).trans hb18; clear hb17; have hW18 : Ext W w18 := HEc.out.trans hc18; clear hc18; have B12 := Lib.hid ((BoxAt.new (w := w17) (vs := [.int .i64 q.1.kind, .int .i64 q.1.int, .float .f64 q.1.flt, .string q.1.text]) (t := 24) rfl rfl).ext hb18); clear hb18))
      go_upto_region 21 with (first
        | (refine wpList_wish rfl fun K hK => wp_loadA (vs := [.int .i64 q.1.kind, .int .i64 q.1.int, .float .f64 q.1.flt, .string q.1.text]) agg_val (.tmp 12) rfl rfl (B12.out.ext ((Ext.refl _).alloc _)).cells (hK _ _ ?_))
        | (refine wpList_wish rfl fun K hK => wp_loadA (vs := [.int .i64 q.1.kind, .int .i64 q.1.int, .float .f64 q.1.flt, .string q.1.text]) agg_val (.tmp 14) rfl rfl (At.new rfl _ _ _ rfl) (hK _ _ ?_))
        | (go_at_call 24; refine (HS.out _).mono ?_; rintro ev w19 ⟨rfl, hb19⟩; have hW19 : Ext W w19 := (by repeat (first | (with_reducible exact Ext.refl _) | (with_reducible refine Ext.set_ ?_ _ ?_; focus (first | (simp; done) | (simp; omega) | (simp at *; omega))) | (with_reducible refine Ext.alloc ?_ _) | (with_reducible refine Ext.drew ?_) | (with_reducible refine Ext.drewN ?_ _) | (with_reducible refine Ext.trans ?_ (by assumption)))); have B12b := Lib.hid ((B12.out.ext ((Ext.refl _).alloc _)).ext hb19); have B14 := Lib.hid ((BoxAt.new (w := w18) (vs := [.int .i64 q.1.kind, .int .i64 q.1.int, .float .f64 q.1.flt, .string q.1.text]) (t := 24) rfl rfl).ext hb19); clear hb19; have p12 := (B12b.out).cells.1; have p14 := (B14.out).cells.1))
      go_upto_region 22 with (first
        | (refine wpList_wish rfl fun K hK => wp_loadA (vs := [.int .i64 f.kind, .int .i64 f.rel, .int .i64 f.col, .int .i64 f.const.kind, .int .i64 f.const.int, .float .f64 f.const.flt, .string f.const.text, (.slice FA f.kids.length fcap)]) agg_ex (.tmp 5) rfl rfl (HLF.out _ (by repeat (first | (with_reducible exact Ext.refl _) | (with_reducible refine Ext.set_ ?_ _ ?_; focus (first | (simp; done) | (simp; omega) | (simp at *; omega))) | (with_reducible refine Ext.alloc ?_ _) | (with_reducible refine Ext.drew ?_) | (with_reducible refine Ext.drewN ?_ _) | (with_reducible refine Ext.trans ?_ (by assumption))))) (hK _ _ ?_))
        | (go_at_call_of 28 f.kind; refine (HEVF.out _ (by repeat (first | (with_reducible exact Ext.refl _) | (with_reducible refine Ext.set_ ?_ _ ?_; focus (first | (simp; done) | (simp; omega) | (simp at *; omega))) | (with_reducible refine Ext.alloc ?_ _) | (with_reducible refine Ext.drew ?_) | (with_reducible refine Ext.drewN ?_ _) | (with_reducible refine Ext.trans ?_ (by assumption))))).mono ?_; rintro ev w21 ⟨rfl, hb21⟩; have hW21 : Ext W w21 := hW19.trans hb21; have B12c := Lib.hid (B12b.out.ext hb21); clear hb21))
      go_upto_region 23 with (first
        | (refine wpList_wish rfl fun K hK => wp_loadA (vs := [.int .i64 e.kind, .int .i64 e.rel, .int .i64 e.col, .int .i64 e.const.kind, .int .i64 e.const.int, .float .f64 e.const.flt, .string e.const.text, (.slice EA e.kids.length ecap)]) agg_ex (.tmp 4) rfl rfl (HLE.out _ (by repeat (first | (with_reducible exact Ext.refl _) | (with_reducible refine Ext.set_ ?_ _ ?_; focus (first | (simp; done) | (simp; omega) | (simp at *; omega))) | (with_reducible refine Ext.alloc ?_ _) | (with_reducible refine Ext.drew ?_) | (with_reducible refine Ext.drewN ?_ _) | (with_reducible refine Ext.trans ?_ (by assumption))))) (hK _ _ ?_))
        | (refine wpList_wish rfl fun K hK => wp_loadA (vs := [.int .i64 f.kind, .int .i64 f.rel, .int .i64 f.col, .int .i64 f.const.kind, .int .i64 f.const.int, .float .f64 f.const.flt, .string f.const.text, (.slice FA f.kids.length fcap)]) agg_ex (.tmp 5) rfl rfl (HLF.out _ (by repeat (first | (with_reducible exact Ext.refl _) | (with_reducible refine Ext.set_ ?_ _ ?_; focus (first | (simp; done) | (simp; omega) | (simp at *; omega))) | (with_reducible refine Ext.alloc ?_ _) | (with_reducible refine Ext.drew ?_) | (with_reducible refine Ext.drewN ?_ _) | (with_reducible refine Ext.trans ?_ (by assumption))))) (hK _ _ ?_))
        | (go_at_call 34; refine (HOF.out _ _ _ _).mono ?_; rintro ev w22 ⟨rfl, hb22⟩)
        | (go_at_call_of 28 (Value.int IntKind.i64 10); refine (HEVA.out _ _ _ (by repeat (first | (with_reducible exact Ext.refl _) | (with_reducible refine Ext.set_ ?_ _ ?_; focus (first | (simp; done) | (simp; omega) | (simp at *; omega))) | (with_reducible refine Ext.alloc ?_ _) | (with_reducible refine Ext.drew ?_) | (with_reducible refine Ext.drewN ?_ _) | (with_reducible refine Ext.trans ?_ (by assumption)))) hb22 (by simp)).mono ?_; rintro ev w23 ⟨rfl, hb23⟩; have hx23 := ((Ext.refl _).alloc _).trans (hb22.trans hb23); have hW23 : Ext W w23 := (hW21.alloc _).trans hx23; have B12d := Lib.hid ((B12c.out.ext ((Ext.refl _).alloc _)).ext hx23); have B16 := Lib.hid ((BoxAt.new (w := w21) (vs := [.int .i64 p.1.kind, .int .i64 p.1.int, .float .f64 p.1.flt, .string p.1.text]) (t := 24) rfl rfl).ext hx23); clear hb22 hb23 hx23))
      go_upto_region 24 with (first
        | (refine wpList_wish rfl fun K hK => wp_loadA (vs := [.int .i64 e.kind, .int .i64 e.rel, .int .i64 e.col, .int .i64 e.const.kind, .int .i64 e.const.int, .float .f64 e.const.flt, .string e.const.text, (.slice EA e.kids.length ecap)]) agg_ex (.tmp 4) rfl rfl (HLE.out _ (by repeat (first | (with_reducible exact Ext.refl _) | (with_reducible refine Ext.set_ ?_ _ ?_; focus (first | (simp; done) | (simp; omega) | (simp at *; omega))) | (with_reducible refine Ext.alloc ?_ _) | (with_reducible refine Ext.drew ?_) | (with_reducible refine Ext.drewN ?_ _) | (with_reducible refine Ext.trans ?_ (by assumption))))) (hK _ _ ?_))
        | (refine wpList_wish rfl fun K hK => wp_loadA (vs := [.int .i64 f.kind, .int .i64 f.rel, .int .i64 f.col, .int .i64 f.const.kind, .int .i64 f.const.int, .float .f64 f.const.flt, .string f.const.text, (.slice FA f.kids.length fcap)]) agg_ex (.tmp 5) rfl rfl (HLF.out _ (by repeat (first | (with_reducible exact Ext.refl _) | (with_reducible refine Ext.set_ ?_ _ ?_; focus (first | (simp; done) | (simp; omega) | (simp at *; omega))) | (with_reducible refine Ext.alloc ?_ _) | (with_reducible refine Ext.drew ?_) | (with_reducible refine Ext.drewN ?_ _) | (with_reducible refine Ext.trans ?_ (by assumption))))) (hK _ _ ?_))
        | (go_at_call 30; refine (HHO.out _ _ (hW23.alloc _) (by simp)).mono ?_; rintro ev w24 ⟨rfl, hb24⟩; have hx24 := ((Ext.refl _).alloc _).trans hb24; have hW24 : Ext W w24 := (hW23.alloc _).trans hx24; have B12e := Lib.hid ((B12d.out.ext ((Ext.refl _).alloc _)).ext hx24); have B16b := Lib.hid ((B16.out.ext ((Ext.refl _).alloc _)).ext hx24); have B18 := Lib.hid ((BoxAt.new (w := w23) (vs := [.int .i64 d.1.kind, .int .i64 d.1.int, .float .f64 d.1.flt, .string d.1.text]) (t := 24) rfl rfl).ext hx24); clear hb24 hx24))
      have c12 := B12e.out.cells.1
      have c16 := B16b.out.cells.1
      obtain ⟨c180, c181, _⟩ := B18.out.cells
      rw [Nat.zero_add] at c181
      have HFIN := Lib.hid (HEW.out.trans hW24)
      clear p12 p14 B12 B12b B12c B12d B12e B14 B16 B16b B18 HEV1 HEV2 HEVF HEVA HHO HOF HS HLE HLF HIE HIF HRW HOW HMX HEc hWc hW17 hW18 hW19 hW21 hW23 hW24
      by_cases h1 : q.2 = 0
      · have h1' : (q.2 != 0) = false := by simp [h1]
        by_cases h2 : p.2 = 0
        · have h2' : (p.2 != 0) = false := by simp [h2]
          by_cases h3 : d.2 = 0
          · have h3' : (d.2 != 0) = false := by simp [h3]
            obtain rfl := HAND.out h1 h2 h3
            clear HAND h1 h2 h3
            by_cases h4 : 1 < q.1.kind
            · go_wp2_with fail
              go_ret
              exact ⟨rfl, HFIN.out⟩
            · by_cases h5 : 1 < p.1.kind
              · go_wp2_with fail
                go_ret
                exact ⟨rfl, HFIN.out⟩
              · by_cases k1 : d.1.kind = 1
                · by_cases k2 : d.1.int = 1
                  · go_wp2_with fail
                    go_ret
                    exact ⟨ret_bool (by simp [k1, k2]), HFIN.out⟩
                  · have k2' : (d.1.int == 1) = false := by simpa using k2
                    have k2'' : decide (d.1.int = 1) = false := decide_eq_false k2
                    go_wp2_with fail
                    go_ret
                    exact ⟨ret_bool (by simp [k1, k2]), HFIN.out⟩
                · have k1' : (d.1.kind == 1) = false := by simpa using k1
                  have k1'' : decide (d.1.kind = 1) = false := decide_eq_false k1
                  go_wp2_with fail
                  go_ret
                  exact ⟨ret_bool (by simp [k1]), HFIN.out⟩
          · have h3' : (d.2 != 0) = true := by simpa using h3
            clear HAND
            go_wp2_with fail
            go_ret
            exact ⟨rfl, HFIN.out⟩
        · have h2' : (p.2 != 0) = true := by simpa using h2
          clear HAND
          go_wp2_with fail
          go_ret
          exact ⟨rfl, HFIN.out⟩
      · have h1' : (q.2 != 0) = true := by simpa using h1
        clear HAND
        go_wp2_with fail
        go_ret
        exact ⟨rfl, HFIN.out⟩
  · go_ret
    exact ⟨rfl, HEW.out.trans ((Ext.refl _).alloc _)⟩
  · go_ret
    exact ⟨rfl, HEW.out.trans ((Ext.refl _).alloc _)⟩
end Go.Proofs.Ytlcdjaclahhdnaa
