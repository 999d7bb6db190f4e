/- The calls of expr.column, expr.refs. The type of an expression, plain; rows of whole numbers. Printed by wip/tools/gen_ty4.py. -/
import Derived.Test.YtlcdjaclahhdnaaTy2
import Derived.Test.YtlcdjaclahhdnaaEv5
import Derived.StillTailTactics
import Derived.Laws.OwnMore
import Derived.RangeFuncBox
namespace Go.Proofs.Ytlcdjaclahhdnaa
open Go.RowKit
set_option linter.unusedSimpArgs false
set_option linter.unusedVariables false

theorem column_of (k : Int) (R C : Nat) (v : Val) (s : Value) (x : Value) (tabs : List (List Int)) (w : World) (hx : TabsIn w x tabs) :
    Calls Try.prog 136 #[.agg (exCells k (R : Int) (C : Int) v s).toArray, x] w fun e w' => TyR (colK tabs (R : Int) (C : Int)) e ∧ Ext w w' := by
  by_cases h1 : R < tabs.length
  · by_cases h2 : C < tabs[R].length
    · have e1 : colK tabs (R : Int) (C : Int) = (tabs[R][C], 0) := by
        simp [colK, List.getElem?_eq_getElem h1, List.getElem?_eq_getElem h2]
      rw [e1]
      exact (column_in k R C v s x tabs w hx h1 h2).mono fun e w' ⟨h, he⟩ => ⟨h, he⟩
    · have e1 : colK tabs (R : Int) (C : Int) = (0, 40) := by
        simp [colK, List.getElem?_eq_getElem h1, List.getElem?_eq_none (Nat.not_lt.1 h2)]
      rw [e1]
      exact (column_c k R C v s x tabs w hx h1 h2).mono fun e w' ⟨h, he⟩ => ⟨h, he⟩
  · have e1 : colK tabs (R : Int) (C : Int) = (0, 40) := by
      simp [colK, List.getElem?_eq_none (Nat.not_lt.1 h1)]
    rw [e1]
    obtain ⟨h0, A, cap, rfl, hA⟩ := hx
    exact (column_r k R C v s A cap tabs w h1).mono fun e w' ⟨h, he⟩ => ⟨h, he⟩
mutual
/-- Whether an expression names only what there is. -/
def Ex.refs (tabs : List (List Int)) : Ex → Bool
  | .mk k r c _ l => (k != 1 || (colK tabs r c).2 == 0) && Exs.refs tabs l
termination_by structural e => e
def Exs.refs (tabs : List (List Int)) : List Ex → Bool
  | [] => true
  | e :: l => e.refs tabs && Exs.refs tabs l
termination_by structural l => l
end
theorem Exs.refs_iff (tabs : List (List Int)) (l : List Ex) : Exs.refs tabs l = true ↔ ∀ e ∈ l, e.refs tabs = true := by
  induction l with
  | nil => simp [Exs.refs]
  | cons e l ih => simp [Exs.refs, ih]
theorem Exs.refs_drop (tabs : List (List Int)) {l : List Ex} {i : Nat} (hi : i < l.length) : Exs.refs tabs (l.drop i) = (l[i].refs tabs && Exs.refs tabs (l.drop (i + 1))) := by
  rw [List.drop_eq_getElem_cons hi]; simp only [Exs.refs]
/-- How refs ends. -/
def RefE (b : Bool) (ev : Ending) : Prop := ev = if b = true then .returned (.tuple #[]) else .panicked (chainE 40)
theorem RefE.ok {b : Bool} {ev : Ending} (h : b = true) (he : RefE b ev) : ev = .returned (.tuple #[]) := by unfold RefE at he; rw [if_pos h] at he; exact he
theorem RefE.bad {b : Bool} {ev : Ending} (h : b = false) (he : RefE b ev) : ev = .panicked (chainE 40) := by unfold RefE at he; rw [h] at he; exact he
theorem RefE.mk_ok {b : Bool} (h : b = true) : RefE b (.returned (.tuple #[])) := by subst h; rfl
theorem RefE.mk_bad {b : Bool} (h : b = false) : RefE b (.panicked (chainE 40)) := by subst h; rfl
theorem colK_err (tabs : List (List Int)) (r c : Int) : (colK tabs r c).2 = 0 ∨ (colK tabs r c).2 = 40 := by
  unfold colK
  split
  · split <;> simp
  · simp

set_option maxRecDepth 100000 in
set_option maxHeartbeats 2000000 in
theorem refs_of (tabs : List (List Int)) (x : Value) : ∀ (e : Ex) (s : Value) (w : World), Ex.In w e s → TabsIn w x tabs → e.wf = true →
    Calls Try.prog 94 #[.agg (e.cells s).toArray, x] w fun ev w' => RefE (e.refs tabs) ev ∧ Ext w w' := by
  intro e
  induction e using Ex.ind with
  | h k r c v l ih =>
    intro s w hin hx hwf
    simp only [Ex.wf, Bool.and_eq_true, decide_eq_true_eq] at hwf
    obtain ⟨⟨hk0, hf⟩, hl⟩ := hwf
    rw [Exs.wf_iff] at hl
    obtain ⟨hk, hr, hc, hv⟩ := hin.fields
    obtain ⟨hlm, A, cap, rfl, hkr⟩ := hin.kids
    show Calls Try.prog 94 #[.agg (exCells k r c v (.slice A l.length cap)).toArray, x] w fun ev w' => RefE ((Ex.mk k r c v l).refs tabs) ev ∧ Ext w w'
    simp only [Ex.refs]
    have HIN := Lib.hid hin.kids; have IH := Lib.hid ih; have HX := Lib.hid hx; have HL := Lib.hid hl
    have h0 := Lib.hid (BoxAt.new (w := w) rfl (vs := exCells k r c v (.slice A l.length cap)) (t := 27) rfl)
    have hR : k = 1 → 0 ≤ r ∧ 0 ≤ c := fun e1 => by
      unfold fieldsOk at hf
      split at hf
      · cases hf
      · rename_i h
        simp only [inRel, Bool.and_eq_false_iff, decide_eq_false_iff_not] at h
        omega
    obtain ⟨RA, rc, rfl⟩ : ∃ RA rc, x = .slice RA tabs.length rc := by obtain ⟨_, A, c, h, _⟩ := hx; exact ⟨A, c, h⟩
    unfold exCells
    by_cases hh : k = 1
    · subst hh
      obtain ⟨hr0, hc0⟩ := hR rfl
      obtain ⟨R, rfl⟩ : ∃ R : Nat, r = (R : Int) := ⟨r.toNat, by omega⟩
      obtain ⟨C, rfl⟩ : ∃ C : Nat, c = (C : Int) := ⟨c.toNat, by omega⟩
      have HCOL := Lib.hid (fun w h => column_of 1 R C v (.slice A l.length cap) (.slice RA tabs.length rc) tabs w h)
      have HK := colK_err tabs (R : Int) (C : Int)
      unfold exCells at HCOL
      generalize colK tabs (R : Int) (C : Int) = q at *
      clear hin ih hkr hk hr hc hv hx hl hf hk0 hR
      rcases HK with hq | hq
      · have HQ := Lib.hid hq
        have hB0 : ((((1 : Int) != 1 || q.2 == 0) && Exs.refs tabs l)) = Exs.refs tabs l := by rw [hq]; rfl
        rw [hB0]; clear hB0 hq
        go_enter Try.func94, Try.ntmps94
        go_wp2_with (first
          | (refine wpList_wish rfl fun K hK => wp_loadA (vs := [.int .i64 1, .int .i64 (R : Int), .int .i64 (C : Int), .int .i64 v.kind, .int .i64 v.int, .float .f64 v.flt, .string v.text, .slice A l.length cap]) agg_ex (.tmp 2) rfl rfl h0.out.cells (hK _ _ ?_))
          | (go_at_call 136; refine (HCOL.out _ (HX.out.ext ((Ext.refl _).alloc _))).mono ?_; rintro ev w1 ⟨h, hb1⟩; obtain rfl := TyR.ok HQ.out h; clear h; obtain ⟨c0, f0, l0⟩ := hb1.at_ w.heap.size (by simp)))
        have HE1 := Lib.hid (((Ext.refl w).alloc _).trans hb1)
        go_loopw [15] (fun y wr => ∃ i : Nat, y = .int .i64 (i : Int) ∧ Exs.refs tabs l = Exs.refs tabs (l.drop i) ∧ i ≤ l.length ∧ Ext w wr) (fun y _ => l.length - (intOf y).toNat)
        case atStart => exact ⟨0, rfl, rfl, by omega, HE1.out⟩
        case round =>
          rename_i hrel
          obtain ⟨i, rfl, hh, hi, hE⟩ := hrel
          have HH := Lib.hid hh; clear hh
          by_cases hlt : i < l.length
          · have hlt' : (i : Int) < (l.length : Int) := by omega
            have hI : (i : Int) ≤ 9223372036854775806 := by omega
            obtain ⟨g, o, s', rfl, _, hat, hin2, hg⟩ := (HIN.out.ext hE).get i hlt
            obtain ⟨_, A', cap', rfl, _⟩ := (Ex.In.mk_inv hin2).2.2.2.2
            have HD := Lib.hid (Exs.refs_drop tabs hlt)
            have hcall := Lib.hid (fun u (he : Ext wr u) => IH.out l[i] (List.getElem_mem hlt) (.slice A' l[i].kids.length cap') u (Ex.In.ext he _ _ hin2) (HX.out.ext (hE.trans he)) (HL.out _ (List.getElem_mem hlt)))
            have HAT := Lib.hid hat
            clear hat hin2 IH
            unfold Ex.cells exCells at HAT hcall
            generalize l[i] = e at *
            cases hb : e.refs tabs
            · have HB := Lib.hid hb
              have hch : chainE 40 = [{ v := .iface 35 (.int .i64 40), recovered := false }] := rfl
              have HBAD : Hid (∀ ev, ev = .panicked (chainE 40) → RefE ( Exs.refs tabs l) ev) := Lib.hid fun ev h => by rw [HH.out, HD.out, hb, h]; simp [RefE]
              clear hb
              go_wp2_with (first
                | (refine wpList_wish rfl fun K hK => wp_idxS (i := i) Try.underlying25 size_ex (.tmp 13) _ rfl rfl rfl hlt (hK _ _ ?_))
                | (refine wpList_wish rfl fun K hK => wp_loadA (vs := [.int .i64 e.kind, .int .i64 e.rel, .int .i64 e.col, .int .i64 e.const.kind, .int .i64 e.const.int, .float .f64 e.const.flt, .string e.const.text, .slice A' e.kids.length cap']) agg_ex (.tmp 17) rfl rfl HAT.out (hK _ _ ?_))
                | (refine wpList_wish rfl fun K hK => wp_loadA (vs := [.int .i64 e.kind, .int .i64 e.rel, .int .i64 e.col, .int .i64 e.const.kind, .int .i64 e.const.int, .float .f64 e.const.flt, .string e.const.text, .slice A' e.kids.length cap']) agg_ex (.tmp 5) rfl rfl (At.new rfl _ _ _ rfl) (hK _ _ ?_))
                | (go_at_call 94; refine (hcall.out _ ((Ext.refl _).alloc _)).mono ?_; rintro ev w2 ⟨h, hb⟩; obtain rfl := RefE.bad HB.out h; clear h))
              exact ⟨rfl, HBAD.out _ rfl, hE.trans (((Ext.refl _).alloc _).trans hb)⟩
            · have HB := Lib.hid hb; clear hb
              go_wp2_with (first
                | (refine wpList_wish rfl fun K hK => wp_idxS (i := i) Try.underlying25 size_ex (.tmp 13) _ rfl rfl rfl hlt (hK _ _ ?_))
                | (refine wpList_wish rfl fun K hK => wp_loadA (vs := [.int .i64 e.kind, .int .i64 e.rel, .int .i64 e.col, .int .i64 e.const.kind, .int .i64 e.const.int, .float .f64 e.const.flt, .string e.const.text, .slice A' e.kids.length cap']) agg_ex (.tmp 17) rfl rfl HAT.out (hK _ _ ?_))
                | (refine wpList_wish rfl fun K hK => wp_loadA (vs := [.int .i64 e.kind, .int .i64 e.rel, .int .i64 e.col, .int .i64 e.const.kind, .int .i64 e.const.int, .float .f64 e.const.flt, .string e.const.text, .slice A' e.kids.length cap']) agg_ex (.tmp 5) rfl rfl (At.new rfl _ _ _ rfl) (hK _ _ ?_))
                | (go_at_call 94; refine (hcall.out _ ((Ext.refl _).alloc _)).mono ?_; rintro ev w2 ⟨h, hb⟩; obtain rfl := RefE.ok HB.out h; clear h))
              refine ⟨⟨i + 1, by simp, ?_, by omega, hE.trans (((Ext.refl _).alloc _).trans hb)⟩, by simp [intOf] <;> omega⟩
              rw [HH.out, HD.out, HB.out]; rfl
          · have hlt' : ¬ ((i : Int) < (l.length : Int)) := by omega
            obtain rfl : i = l.length := by omega
            have HOK : Hid (∀ ev, ev = .returned (.tuple #[]) → RefE ( Exs.refs tabs l) ev) := Lib.hid fun ev h => by rw [HH.out, List.drop_length, h]; simp [RefE, Exs.refs]
            go_wp2_with fail
            go_end0
            exact ⟨HOK.out _ rfl, hE⟩
      · have HQ : Hid (q.2 ≠ 0) := Lib.hid (by omega)
        have HQ2 := Lib.hid hq
        have hB0 : ((((1 : Int) != 1 || q.2 == 0) && Exs.refs tabs l)) = false := by rw [hq]; rfl
        rw [hB0]; clear hB0 hq
        go_enter Try.func94, Try.ntmps94
        go_wp2_with (first
          | (refine wpList_wish rfl fun K hK => wp_loadA (vs := [.int .i64 1, .int .i64 (R : Int), .int .i64 (C : Int), .int .i64 v.kind, .int .i64 v.int, .float .f64 v.flt, .string v.text, .slice A l.length cap]) agg_ex (.tmp 2) rfl rfl h0.out.cells (hK _ _ ?_))
          | (go_at_call 136; refine (HCOL.out _ (HX.out.ext ((Ext.refl _).alloc _))).mono ?_; rintro ev w1 ⟨h, hb1⟩; obtain rfl := TyR.bad HQ.out h; clear h))
        exact ⟨rfl, by rw [HQ2.out]; rfl, ((Ext.refl w).alloc _).trans hb1⟩
    · have h3 : (k == 1) = false := by simpa using hh
      have hB0 : ((k != 1 || (colK tabs r c).2 == 0) && Exs.refs tabs l) = Exs.refs tabs l := by rw [show (k != 1) = true by simpa using hh]; rfl
      rw [hB0]; clear hB0
      clear hin ih hkr hk hr hc hv hx hl hf hk0 hR h0
      go_enter Try.func94, Try.ntmps94
      go_wp2_with fail
      go_loopw [15] (fun y wr => ∃ i : Nat, y = .int .i64 (i : Int) ∧ Exs.refs tabs l = Exs.refs tabs (l.drop i) ∧ i ≤ l.length ∧ Ext w wr) (fun y _ => l.length - (intOf y).toNat)
      case atStart => exact ⟨0, rfl, rfl, by omega, (Ext.refl w).alloc _⟩
      case round =>
        rename_i hrel
        obtain ⟨i, rfl, hh, hi, hE⟩ := hrel
        have HH := Lib.hid hh; clear hh
        by_cases hlt : i < l.length
        · have hlt' : (i : Int) < (l.length : Int) := by omega
          have hI : (i : Int) ≤ 9223372036854775806 := by omega
          obtain ⟨g, o, s', rfl, _, hat, hin2, hg⟩ := (HIN.out.ext hE).get i hlt
          obtain ⟨_, A', cap', rfl, _⟩ := (Ex.In.mk_inv hin2).2.2.2.2
          have HD := Lib.hid (Exs.refs_drop tabs hlt)
          have hcall := Lib.hid (fun u (he : Ext wr u) => IH.out l[i] (List.getElem_mem hlt) (.slice A' l[i].kids.length cap') u (Ex.In.ext he _ _ hin2) (HX.out.ext (hE.trans he)) (HL.out _ (List.getElem_mem hlt)))
          have HAT := Lib.hid hat
          clear hat hin2 IH
          unfold Ex.cells exCells at HAT hcall
          generalize l[i] = e at *
          cases hb : e.refs tabs
          · have HB := Lib.hid hb
            have hch : chainE 40 = [{ v := .iface 35 (.int .i64 40), recovered := false }] := rfl
            have HBAD : Hid (∀ ev, ev = .panicked (chainE 40) → RefE ( Exs.refs tabs l) ev) := Lib.hid fun ev h => by rw [HH.out, HD.out, hb, h]; simp [RefE]
            clear hb
            go_wp2_with (first
              | (refine wpList_wish rfl fun K hK => wp_idxS (i := i) Try.underlying25 size_ex (.tmp 13) _ rfl rfl rfl hlt (hK _ _ ?_))
              | (refine wpList_wish rfl fun K hK => wp_loadA (vs := [.int .i64 e.kind, .int .i64 e.rel, .int .i64 e.col, .int .i64 e.const.kind, .int .i64 e.const.int, .float .f64 e.const.flt, .string e.const.text, .slice A' e.kids.length cap']) agg_ex (.tmp 17) rfl rfl HAT.out (hK _ _ ?_))
              | (refine wpList_wish rfl fun K hK => wp_loadA (vs := [.int .i64 e.kind, .int .i64 e.rel, .int .i64 e.col, .int .i64 e.const.kind, .int .i64 e.const.int, .float .f64 e.const.flt, .string e.const.text, .slice A' e.kids.length cap']) agg_ex (.tmp 5) rfl rfl (At.new rfl _ _ _ rfl) (hK _ _ ?_))
              | (go_at_call 94; refine (hcall.out _ ((Ext.refl _).alloc _)).mono ?_; rintro ev w2 ⟨h, hb⟩; obtain rfl := RefE.bad HB.out h; clear h))
            exact ⟨rfl, HBAD.out _ rfl, hE.trans (((Ext.refl _).alloc _).trans hb)⟩
          · have HB := Lib.hid hb; clear hb
            go_wp2_with (first
              | (refine wpList_wish rfl fun K hK => wp_idxS (i := i) Try.underlying25 size_ex (.tmp 13) _ rfl rfl rfl hlt (hK _ _ ?_))
              | (refine wpList_wish rfl fun K hK => wp_loadA (vs := [.int .i64 e.kind, .int .i64 e.rel, .int .i64 e.col, .int .i64 e.const.kind, .int .i64 e.const.int, .float .f64 e.const.flt, .string e.const.text, .slice A' e.kids.length cap']) agg_ex (.tmp 17) rfl rfl HAT.out (hK _ _ ?_))
              | (refine wpList_wish rfl fun K hK => wp_loadA (vs := [.int .i64 e.kind, .int .i64 e.rel, .int .i64 e.col, .int .i64 e.const.kind, .int .i64 e.const.int, .float .f64 e.const.flt, .string e.const.text, .slice A' e.kids.length cap']) agg_ex (.tmp 5) rfl rfl (At.new rfl _ _ _ rfl) (hK _ _ ?_))
              | (go_at_call 94; refine (hcall.out _ ((Ext.refl _).alloc _)).mono ?_; rintro ev w2 ⟨h, hb⟩; obtain rfl := RefE.ok HB.out h; clear h))
            refine ⟨⟨i + 1, by simp, ?_, by omega, hE.trans (((Ext.refl _).alloc _).trans hb)⟩, by simp [intOf] <;> omega⟩
            rw [HH.out, HD.out, HB.out]; rfl
        · have hlt' : ¬ ((i : Int) < (l.length : Int)) := by omega
          obtain rfl : i = l.length := by omega
          have HOK : Hid (∀ ev, ev = .returned (.tuple #[]) → RefE ( Exs.refs tabs l) ev) := Lib.hid fun ev h => by rw [HH.out, List.drop_length, h]; simp [RefE, Exs.refs]
          go_wp2_with fail
          go_end0
          exact ⟨HOK.out _ rfl, hE⟩
end Go.Proofs.Ytlcdjaclahhdnaa
namespace Go.Proofs.Ytlcdjaclahhdnaa
open Go.RowKit
set_option linter.unusedSimpArgs false
set_option linter.unusedVariables false

def boolR (q : Int × Int) : Int × Int := if q.2 = 0 then (1, 0) else (0, q.2)
/-- What a head makes of its parts' types. -/
def typedHead (tabs : List (List Int)) (k r c : Int) (v : Val) (ts : List Int) : Int × Int :=
  if k = 1 then colK tabs r c else if k = 2 then (v.kind, 0)
  else if 3 ≤ k ∧ k ≤ 5 then oneR numericK (ts.getD 0 0) (ts.getD 1 0)
  else if k = 6 then oneR numericK (ts.getD 0 0) (ts.getD 0 0)
  else if 7 ≤ k ∧ k ≤ 9 then boolR (oneR anyK (ts.getD 0 0) (ts.getD 1 0))
  else if k = 10 ∨ k = 11 then boolR (oneR truthK (ts.getD 0 0) (ts.getD 1 0))
  else if k = 12 then boolR (oneR truthK (ts.getD 0 0) (ts.getD 0 0))
  else (1, 0)
/-- The first refusal. -/
def firstErr : List (Int × Int) → Int
  | [] => 0
  | q :: l => if q.2 = 0 then firstErr l else q.2
theorem firstErr_zero : ∀ {l : List (Int × Int)}, firstErr l = 0 ↔ ∀ q ∈ l, q.2 = 0
  | [] => by simp [firstErr]
  | q :: l => by
    simp only [firstErr, List.mem_cons, forall_eq_or_imp]
    split
    · rename_i h; rw [firstErr_zero (l := l)]; exact ⟨fun k => ⟨h, k⟩, fun k => k.2⟩
    · rename_i h; exact ⟨fun k => absurd k h, fun k => absurd k.1 h⟩
mutual
def Ex.typed (tabs : List (List Int)) : Ex → Int × Int
  | .mk k r c v l => if firstErr (Exs.typed tabs l) = 0 then typedHead tabs k r c v ((Exs.typed tabs l).map Prod.fst) else (0, firstErr (Exs.typed tabs l))
termination_by structural e => e
def Exs.typed (tabs : List (List Int)) : List Ex → List (Int × Int)
  | [] => []
  | e :: l => e.typed tabs :: Exs.typed tabs l
termination_by structural l => l
end
theorem Exs.typed_map (tabs : List (List Int)) (l : List Ex) : Exs.typed tabs l = l.map (Ex.typed tabs) := by
  induction l with
  | nil => simp [Exs.typed]
  | cons e l ih => simp [Exs.typed, ih]

/-- A row of the call's own that holds whole numbers. -/
def OwnI (w : World) (base : Nat) (v : Value) (l : List Int) : Prop := w.ownsRow base 3 1 v l.length (l.map (Value.int .i64))
theorem OwnI.nil (w : World) (base : Nat) : OwnI w base (.slice none 0 0) [] := ⟨by simp, .inl ⟨rfl, rfl⟩⟩
theorem OwnI.ext {w w' : World} {base : Nat} {v : Value} {l : List Int} (h : OwnI w base v l) (he : Ext w w') : OwnI w' base v l := owns_ext h he
theorem info_int : (Try.prog.info? 3).map (fun i => (i.zero, i.size, i.bytes)) = some (some (.int .i64 0), 1, 8) := by kernel_rfl
theorem OwnI.get {w : World} {base : Nat} {v : Value} {l : List Int} (h : OwnI w base v l) (hn : l ≠ []) : ∃ g cap, v = .slice (some ⟨g, 0, none⟩) l.length cap ∧ g < w.heap.size ∧ ∀ i n, l[i]? = some n → w.cell? ⟨g, i, none⟩ = some (.int .i64 n) := by
  rcases h.2 with ⟨rfl, h0⟩ | ⟨g, cap, cur, rfl, hb, hh, hr⟩
  · exact absurd (List.eq_nil_of_length_eq_zero h0) hn
  · refine ⟨g, cap, rfl, (Array.getElem?_eq_some_iff.1 hh).1, fun i n hi => ?_⟩
    have := World.ownsRow.cells h (g := g) rfl i (.int .i64 n) (by simp [List.getElem?_map, hi])
    rwa [add_at, Nat.zero_add] at this
theorem size_int : (Try.prog.info? 3).map (·.size) = some 1 := by kernel_rfl
/-- 'append(l, n)'. -/
theorem wpList_addI {w : World} {ops : Array Oper} {rest : List Oper} {o : Oper} {a : Act} {Q : Exit → Act → World → Prop} (hgd : o.guard = none) (s x : Operand)
    (ho : o.op = .call { callee := .builtin .append, args := #[s, x], argTypes := #[73, 73] })
    {base : Nat} {v : Value} {l : List Int} (hs : a.eval s = v) (hown : OwnI w base v l) (m : Int) {g : Nat} (hx : a.eval x = .slice (some ⟨g, 0, none⟩) 1 1) (hg : g = w.heap.size)
    (hl : l.length ≤ 1000000000) (hbase : base ≤ w.heap.size)
    (h : ∀ v' w', OwnI w' base v' (l ++ [m]) → Wr 3 base w w' → wpList Try.prog ops Q rest (a.put o.dst v') w') : wpList Try.prog ops Q (o :: rest) a (w.alloc (.cells #[.int .i64 m] 3)) := by
  subst hg
  refine wpList_add hgd s x 73 ho Try.underlying73 info_int rfl (by omega) hs (owns_ext hown ((Ext.refl w).alloc _)) w.heap.size 0 1 1 [.int .i64 m] hx rfl ?_ (by intro u hu; simp at hu; subst hu; rfl) (by omega) (by omega) (by simp; omega) fun v' w' ho' hw' => ?_
  · exact ⟨by simp [go_sem], trivial⟩
  · refine h v' w' ?_ (Wr.trans (Wr.of_ext ((Ext.refl w).alloc _)) hw')
    unfold OwnI
    rw [List.map_append, List.length_append]
    exact ho'
/-- What a walk of typed knows of its parts. -/
def TyKids (w : World) (x : Value) (A : Option Addr) (n : Nat) (f : Nat → Ending → Prop) : Prop :=
  ∀ i, i < n → ∃ g o e A' cap', A = some ⟨g, o, none⟩ ∧ Hid (∀ w', Ext w w' → At w' g (o + i * 8) (Ex.cells e (.slice A' e.kids.length cap'))) ∧ Hid (∀ w', Ext w w' → Calls Try.prog 95 #[.agg (e.cells (.slice A' e.kids.length cap')).toArray, x] w' fun ev w'' => f i ev ∧ Ext w' w'')
theorem row_take {ks : List Int} {i : Nat} (hi : i < ks.length) : ks.take i ++ [ks.getD i 0] = ks.take (i + 1) := by
  rw [List.take_succ_eq_append_getElem hi, List.getD_eq_getElem?_getD, List.getElem?_eq_getElem hi]; rfl
theorem Ext.trans_wr {T : TypeId} {base : Nat} {a b c : World} (h : Ext a b) (k : Wr T base b c) (hb : a.heap.size ≤ base) : Ext a c := by
  refine (⟨k.os.trans h.os, k.tape.trans h.tape, k.output.trans h.output, Nat.le_trans h.size k.size, fun i hi => ?_⟩ : Below a.heap.size a c)
  exact (k.block i (Nat.lt_of_lt_of_le hi h.size) (.inl (by omega))).trans (h.block hi)
end Go.Proofs.Ytlcdjaclahhdnaa
