/- The calls of slices.EqualFunc, expr.Same. -/
import Derived.Test.YtlcdjaclahhdnaaEv
import Derived.Test.YtlcdjaclahhdnaaVal4
namespace Go.Proofs.Ytlcdjaclahhdnaa
open Go.RowKit
set_option linter.unusedSimpArgs false
set_option linter.unusedVariables false

mutual
/-- Whether two are alike. -/
def Ex.same : Ex → Ex → Bool
  | .mk k r c v l, f => k == f.kind && (r == f.rel && (c == f.col && (v.kind == f.const.kind && (v.same f.const && (decide (l.length = f.kids.length) && Exs.same l f.kids)))))
termination_by structural e => e
def Exs.same : List Ex → List Ex → Bool
  | [], _ => true
  | e :: l, m => match m with | [] => true | f :: m => e.same f && Exs.same l m
termination_by structural l => l
end
theorem Exs.same_drop {l m : List Ex} {i : Nat} (h1 : i < l.length) (h2 : i < m.length) : Exs.same (l.drop i) (m.drop i) = (l[i].same m[i] && Exs.same (l.drop (i + 1)) (m.drop (i + 1))) := by
  rw [List.drop_eq_getElem_cons h1, List.drop_eq_getElem_cons h2]; simp only [Exs.same]

set_option maxRecDepth 100000 in
set_option maxHeartbeats 2000000 in
theorem equal_of (l m : List Ex) (x y : Value) (w : World)
    (ih : ∀ e ∈ l, ∀ (f : Ex) (s t : Value) (w : World), Ex.In w e s → Ex.In w f t → Calls Try.prog 19 #[.agg (e.cells s).toArray, .agg (f.cells t).toArray] w fun ev w' => ev = .returned (.bool (e.same f)) ∧ Ext w w')
    (hx : ExsIn w x l) (hy : ExsIn w y m) :
    Calls Try.prog 61 #[x, y, .func (.func 19) #[] #[]] w fun ev w' => ev = .returned (.bool (decide (l.length = m.length) && Exs.same l m)) ∧ Ext w w' := by
  obtain ⟨hll, A, cap, rfl, _⟩ := (⟨hx.1, hx.2⟩ : l.length ≤ 9223372036854775807 ∧ _)
  obtain ⟨hml, B, dap, rfl, _⟩ := (⟨hy.1, hy.2⟩ : m.length ≤ 9223372036854775807 ∧ _)
  have HX := Lib.hid hx; have HY := Lib.hid hy; have IH := Lib.hid ih
  clear hx hy ih
  by_cases hn : l.length = m.length
  · have hn' : ((l.length : Int) != (m.length : Int)) = false := by simp [hn]
    have e0 : (decide (l.length = m.length) && Exs.same l m) = Exs.same l m := by rw [decide_eq_true hn]; rfl
    rw [e0]; clear e0
    have HN := Lib.hid hn; clear hn
    go_enter Try.func61, Try.ntmps61
    go_wp2_with fail
    go_loopw [17] (fun y wr => ∃ i : Nat, y = .int .i64 (i : Int) ∧ i ≤ l.length ∧ Exs.same l m = Exs.same (l.drop i) (m.drop i) ∧ Ext w wr) (fun y _ => l.length - (intOf y).toNat)
    case atStart => exact ⟨0, rfl, by omega, rfl, Ext.refl _⟩
    case round =>
      rename_i hrel
      obtain ⟨i, rfl, hi, hk, hE⟩ := hrel
      have HK := Lib.hid hk; clear hk
      by_cases hlt : i < l.length
      · have hlm : i < m.length := by have := HN.out; omega
        have hlt' : (i : Int) < (l.length : Int) := by omega
        have hI : (i : Int) ≤ 9223372036854775806 := by omega
        have HD := Lib.hid (Exs.same_drop hlt hlm)
        obtain ⟨g, o, s', rfl, _, hat, hin2, hg⟩ := (HX.out.ext hE).get i hlt
        obtain ⟨g2, o2, t', rfl, _, hat2, hin3, hg2⟩ := (HY.out.ext hE).get i hlm
        obtain ⟨_, A', cap', rfl, _⟩ := (Ex.In.mk_inv hin2).2.2.2.2
        obtain ⟨_, B', dap', rfl, _⟩ := (Ex.In.mk_inv hin3).2.2.2.2
        have hcall := Lib.hid (fun u (he : Ext wr u) => IH.out l[i] (List.getElem_mem hlt) m[i] (.slice A' l[i].kids.length cap') (.slice B' m[i].kids.length dap') u (Ex.In.ext he _ _ hin2) (Ex.In.ext he _ _ hin3))
        have HAT := Lib.hid hat
        have HAT2 := Lib.hid (fun u (he : Ext wr u) => hat2.ext he hg2)
        clear hat hin2 hat2 hin3 IH
        unfold Ex.cells exCells at HAT HAT2 hcall
        generalize hb : l[i].same m[i] = b at *
        generalize l[i] = e at *
        generalize m[i] = f at *
        clear hb
        cases b
        · have HD2 : Hid (Exs.same l m = false) := Lib.hid (by rw [HK.out, HD.out]; rfl)
          go_wp2_with (first
            | (refine wpList_wish rfl fun K hK => wp_idxS (i := i) Try.underlying25 size_ex (.tmp 15) _ rfl rfl rfl hlt (hK _ _ ?_))
            | (refine wpList_wish rfl fun K hK => wp_loadA (vs := [.int .i64 e.kind, .int .i64 e.rel, .int .i64 e.col, .int .i64 e.const.kind, .int .i64 e.const.int, .float .f64 e.const.flt, .string e.const.text, (.slice A' e.kids.length cap')]) agg_ex (.tmp 20) rfl rfl HAT.out (hK _ _ ?_))
            | (refine wpList_wish rfl fun K hK => wp_idxS (i := i) Try.underlying25 size_ex (.tmp 22) _ rfl rfl rfl hlm (hK _ _ ?_))
            | (refine wpList_wish rfl fun K hK => wp_loadA (vs := [.int .i64 f.kind, .int .i64 f.rel, .int .i64 f.col, .int .i64 f.const.kind, .int .i64 f.const.int, .float .f64 f.const.flt, .string f.const.text, (.slice B' f.kids.length dap')]) agg_ex (.tmp 24) rfl rfl (HAT2.out _ ((Ext.refl _).alloc _)) (hK _ _ ?_))
            | (refine wpList_wish rfl fun K hK => wp_loadA (vs := [.int .i64 e.kind, .int .i64 e.rel, .int .i64 e.col, .int .i64 e.const.kind, .int .i64 e.const.int, .float .f64 e.const.flt, .string e.const.text, (.slice A' e.kids.length cap')]) agg_ex (.tmp 8) rfl rfl ((BoxAt.new (w := wr) (t := 27) (vs := [.int .i64 e.kind, .int .i64 e.rel, .int .i64 e.col, .int .i64 e.const.kind, .int .i64 e.const.int, .float .f64 e.const.flt, .string e.const.text, (.slice A' e.kids.length cap')]) rfl rfl).ext ((Ext.refl _).alloc _)).cells (hK _ _ ?_))
            | (refine wpList_wish rfl fun K hK => wp_loadA (vs := [.int .i64 f.kind, .int .i64 f.rel, .int .i64 f.col, .int .i64 f.const.kind, .int .i64 f.const.int, .float .f64 f.const.flt, .string f.const.text, (.slice B' f.kids.length dap')]) agg_ex (.tmp 9) rfl rfl (At.new (by simp) _ _ _ rfl) (hK _ _ ?_))
            | (go_at_call 19; refine (hcall.out _ (((Ext.refl _).alloc _).alloc _)).mono ?_; rintro ev w9 ⟨rfl, hb9⟩))
          go_ret
          exact ⟨ret_bool HD2.out.symm, hE.trans ((((Ext.refl _).alloc _).alloc _).trans hb9)⟩
        · have HD2 : Hid (Exs.same l m = Exs.same (l.drop (i + 1)) (m.drop (i + 1))) := Lib.hid (by rw [HK.out, HD.out]; rfl)
          go_wp2_with (first
            | (refine wpList_wish rfl fun K hK => wp_idxS (i := i) Try.underlying25 size_ex (.tmp 15) _ rfl rfl rfl hlt (hK _ _ ?_))
            | (refine wpList_wish rfl fun K hK => wp_loadA (vs := [.int .i64 e.kind, .int .i64 e.rel, .int .i64 e.col, .int .i64 e.const.kind, .int .i64 e.const.int, .float .f64 e.const.flt, .string e.const.text, (.slice A' e.kids.length cap')]) agg_ex (.tmp 20) rfl rfl HAT.out (hK _ _ ?_))
            | (refine wpList_wish rfl fun K hK => wp_idxS (i := i) Try.underlying25 size_ex (.tmp 22) _ rfl rfl rfl hlm (hK _ _ ?_))
            | (refine wpList_wish rfl fun K hK => wp_loadA (vs := [.int .i64 f.kind, .int .i64 f.rel, .int .i64 f.col, .int .i64 f.const.kind, .int .i64 f.const.int, .float .f64 f.const.flt, .string f.const.text, (.slice B' f.kids.length dap')]) agg_ex (.tmp 24) rfl rfl (HAT2.out _ ((Ext.refl _).alloc _)) (hK _ _ ?_))
            | (refine wpList_wish rfl fun K hK => wp_loadA (vs := [.int .i64 e.kind, .int .i64 e.rel, .int .i64 e.col, .int .i64 e.const.kind, .int .i64 e.const.int, .float .f64 e.const.flt, .string e.const.text, (.slice A' e.kids.length cap')]) agg_ex (.tmp 8) rfl rfl ((BoxAt.new (w := wr) (t := 27) (vs := [.int .i64 e.kind, .int .i64 e.rel, .int .i64 e.col, .int .i64 e.const.kind, .int .i64 e.const.int, .float .f64 e.const.flt, .string e.const.text, (.slice A' e.kids.length cap')]) rfl rfl).ext ((Ext.refl _).alloc _)).cells (hK _ _ ?_))
            | (refine wpList_wish rfl fun K hK => wp_loadA (vs := [.int .i64 f.kind, .int .i64 f.rel, .int .i64 f.col, .int .i64 f.const.kind, .int .i64 f.const.int, .float .f64 f.const.flt, .string f.const.text, (.slice B' f.kids.length dap')]) agg_ex (.tmp 9) rfl rfl (At.new (by simp) _ _ _ rfl) (hK _ _ ?_))
            | (go_at_call 19; refine (hcall.out _ (((Ext.refl _).alloc _).alloc _)).mono ?_; rintro ev w9 ⟨rfl, hb9⟩))
          refine ⟨⟨i + 1, by simp, by omega, HD2.out, hE.trans ((((Ext.refl _).alloc _).alloc _).trans hb9)⟩, by simp [intOf] <;> omega⟩
      · have hlt' : ¬ ((i : Int) < (l.length : Int)) := by omega
        obtain rfl : i = l.length := by omega
        have HD2 : Hid (Exs.same l m = true) := Lib.hid (by rw [HK.out, List.drop_length]; simp [Exs.same])
        go_wp2_with fail
        go_ret
        exact ⟨ret_bool HD2.out.symm, hE⟩
  · have hn' : ((l.length : Int) != (m.length : Int)) = true := by simp; omega
    have e0 : (decide (l.length = m.length) && Exs.same l m) = false := by rw [decide_eq_false hn]; rfl
    rw [e0]; clear e0 hn
    go_enter Try.func61, Try.ntmps61
    go_wp2_with fail
    go_ret
    exact ⟨rfl, Ext.refl _⟩

set_option maxRecDepth 100000 in
set_option maxHeartbeats 4000000 in
theorem same_core (e f : Ex) (s t : Value) (w : World) (hin : Ex.In w e s) (hfin : Ex.In w f t) (q : Bool)
    (hq : Hid (∀ u, Ext w u → Calls Try.prog 61 #[s, t, .func (.func 19) #[] #[]] u fun ev w' => ev = .returned (.bool q) ∧ Ext u w')) :
    Calls Try.prog 19 #[.agg (e.cells s).toArray, .agg (f.cells t).toArray] w fun ev w' => ev = .returned (.bool (e.kind == f.kind && (e.rel == f.rel && (e.col == f.col && (e.const.kind == f.const.kind && (e.const.same f.const && q)))))) ∧ Ext w w' := by
  obtain ⟨_, A', cap', rfl, _⟩ := hin.mk_inv.2.2.2.2
  obtain ⟨_, B', dap', rfl, _⟩ := hfin.mk_inv.2.2.2.2
  have HS := Lib.hid (fun u => same_of e.const f.const u hin.mk_inv.2.2.2.1.flt hfin.mk_inv.2.2.2.1.flt)
  have hb0 : BoxAt ((w.alloc (.cells (e.cells (.slice A' e.kids.length cap')).toArray 27)).alloc (.cells (f.cells (.slice B' f.kids.length dap')).toArray 27)) w.heap.size (e.cells (.slice A' e.kids.length cap')) := (BoxAt.new rfl rfl).ext ((Ext.refl _).alloc _)
  have hb1 : BoxAt ((w.alloc (.cells (e.cells (.slice A' e.kids.length cap')).toArray 27)).alloc (.cells (f.cells (.slice B' f.kids.length dap')).toArray 27)) (w.heap.size + 1) (f.cells (.slice B' f.kids.length dap')) := BoxAt.new (by simp) rfl
  have hE := ((Ext.refl w).alloc (.cells (e.cells (.slice A' e.kids.length cap')).toArray 27)).alloc (.cells (f.cells (.slice B' f.kids.length dap')).toArray 27)
  clear hin hfin
  have HB0 := Lib.hid hb0; have HB1 := Lib.hid hb1; have HE := Lib.hid hE
  clear hb0 hb1 hE
  unfold Ex.cells exCells at *
  obtain ⟨a0, a1, a2, a3, a4, a5, a6, a7, _⟩ := HB0.out.cells
  obtain ⟨b0, b1, b2, b3, b4, b5, b6, b7, _⟩ := HB1.out.cells
  simp only [Nat.zero_add, Nat.reduceAdd] at a0 a1 a2 a3 a4 a5 a6 a7 b0 b1 b2 b3 b4 b5 b6 b7
  generalize e.const.same f.const = z at *
  have end_ : ∀ b : Bool, Hid (b = b) := fun b => Lib.hid rfl
  clear end_
  cases h0 : e.kind == f.kind
  · simp only [Bool.true_and, Bool.false_and]
    go_enter Try.func19, Try.ntmps19
    go_wp2_with fail
    go_ret
    exact ⟨rfl, HE.out⟩
  cases h1 : e.rel == f.rel
  · simp only [Bool.true_and, Bool.false_and]
    go_enter Try.func19, Try.ntmps19
    go_wp2_with fail
    go_ret
    exact ⟨rfl, HE.out⟩
  cases h2 : e.col == f.col
  · simp only [Bool.true_and, Bool.false_and]
    go_enter Try.func19, Try.ntmps19
    go_wp2_with fail
    go_ret
    exact ⟨rfl, HE.out⟩
  cases h3 : e.const.kind == f.const.kind
  · simp only [Bool.true_and, Bool.false_and]
    go_enter Try.func19, Try.ntmps19
    go_wp2_with fail
    go_ret
    exact ⟨rfl, HE.out⟩
  simp only [Bool.true_and]
  cases z
  · simp only [Bool.false_and]
    go_enter Try.func19, Try.ntmps19
    go_wp2_with (first
      | (refine wpList_wish rfl fun K hK => wp_loadA (vs := [.int .i64 e.const.kind, .int .i64 e.const.int, .float .f64 e.const.flt, .string e.const.text]) agg_val (.tmp 34) rfl rfl (HB0.out.cells.2.2.2 |> fun h => ⟨h.1, h.2.1, h.2.2.1, h.2.2.2.1, trivial⟩) (hK _ _ ?_))
      | (refine wpList_wish rfl fun K hK => wp_loadA (vs := [.int .i64 f.const.kind, .int .i64 f.const.int, .float .f64 f.const.flt, .string f.const.text]) agg_val (.tmp 36) rfl rfl (HB1.out.cells.2.2.2 |> fun h => ⟨h.1, h.2.1, h.2.2.1, h.2.2.2.1, trivial⟩) (hK _ _ ?_))
      | (go_at_call 24; refine (HS.out _).mono ?_; rintro ev w1 ⟨rfl, hb⟩))
    go_ret
    exact ⟨rfl, HE.out.trans hb⟩
  simp only [Bool.true_and]
  go_enter Try.func19, Try.ntmps19
  go_wp2_with (first
    | (refine wpList_wish rfl fun K hK => wp_loadA (vs := [.int .i64 e.const.kind, .int .i64 e.const.int, .float .f64 e.const.flt, .string e.const.text]) agg_val (.tmp 34) rfl rfl (HB0.out.cells.2.2.2 |> fun h => ⟨h.1, h.2.1, h.2.2.1, h.2.2.2.1, trivial⟩) (hK _ _ ?_))
    | (refine wpList_wish rfl fun K hK => wp_loadA (vs := [.int .i64 f.const.kind, .int .i64 f.const.int, .float .f64 f.const.flt, .string f.const.text]) agg_val (.tmp 36) rfl rfl (HB1.out.cells.2.2.2 |> fun h => ⟨h.1, h.2.1, h.2.2.1, h.2.2.2.1, trivial⟩) (hK _ _ ?_))
    | (go_at_call 24; refine (HS.out _).mono ?_; rintro ev w1 ⟨rfl, hb⟩; have c7 := (HB0.out.ext hb).cells.get 7 _ rfl; have d7 := (HB1.out.ext hb).cells.get 7 _ rfl; rw [Nat.zero_add] at c7 d7; have HE1 := Lib.hid (HE.out.trans hb); clear hb)
    | (go_at_call 61; refine (hq.out _ HE1.out).mono ?_; rintro ev w2 ⟨rfl, hb⟩; have HE2 := Lib.hid (HE1.out.trans hb); clear hb))
  go_ret
  exact ⟨rfl, HE2.out⟩

theorem exsame_of : ∀ (e f : Ex) (s t : Value) (w : World), Ex.In w e s → Ex.In w f t →
    Calls Try.prog 19 #[.agg (e.cells s).toArray, .agg (f.cells t).toArray] w fun ev w' => ev = .returned (.bool (e.same f)) ∧ Ext w w' := by
  intro e
  induction e using Ex.ind with
  | h k r c v l ih =>
    intro f s t w he hf
    have h := same_core (.mk k r c v l) f s t w he hf (decide (l.length = f.kids.length) && Exs.same l f.kids) (Lib.hid fun u hu => equal_of l f.kids s t u ih (he.kids.ext hu) (hf.mk_inv.2.2.2.2.ext hu))
    simp only [Ex.same]
    exact h
end Go.Proofs.Ytlcdjaclahhdnaa
