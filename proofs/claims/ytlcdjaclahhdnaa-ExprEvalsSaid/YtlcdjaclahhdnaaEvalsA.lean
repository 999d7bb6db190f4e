/- The calls of tabularyref03.Bits, tabularyref04.Exact (of values alike). Printed by wip/tools/gen_exact.py. 'append([]api.Expr{e}, l...)': what lies there then. The calls of tabularyref22.eval, Eval, True. Printed by wip/tools/gen_revalw.py. The call of tabularyref22.Holds. Printed by wip/tools/gen_rholds.py. The call of the law ExprEvals: true, whatever the expression, the list and the rows. Printed by wip/tools/gen_evals.py. -/
import Derived.Test.YtlcdjaclahhdnaaR4d
import Derived.Test.YtlcdjaclahhdnaaLike
import Derived.Test.YtlcdjaclahhdnaaQ
import Derived.Test.YtlcdjaclahhdnaaTkB
import Derived.Test.YtlcdjaclahhdnaaW22
import Derived.Laws.AppendOwn
import Derived.Laws.OwnMore
import Derived.Test.YtlcdjaclahhdnaaREvalA
import Derived.Test.YtlcdjaclahhdnaaParts2
import Derived.Test.YtlcdjaclahhdnaaHolds
import Derived.Test.YtlcdjaclahhdnaaBulk
namespace Go.Proofs.Ytlcdjaclahhdnaa
open Go.RowKit
set_option linter.unusedSimpArgs false
set_option linter.unusedVariables false
attribute [local irreducible] wpQuiet

def bitsR (x : Nat) : Nat := if isNaN x = true then 9221120237041090561 else if isZ x = true then 0 else x
set_option maxHeartbeats 1000000 in
theorem rbits_of (x : Nat) (w : World) (hx : x < 18446744073709551616) :
    Calls Try.prog 90 #[.float .f64 x] w fun e w' => e = .returned (.int .u64 (bitsR x : Int)) ∧ w = w' := by
  have hn := isNaN_order hx
  have hz := order_zero hx
  have hb := call_bits x
  unfold bitsR isZ
  cases n : isNaN x
  · rw [n] at hn
    by_cases z : x = 0 ∨ x = 9223372036854775808
    · rw [decide_eq_true z] at hz ⊢
      go_enter Try.func90, Try.ntmps90
      go_wp2
      go_ret
      exact ⟨rfl, rfl⟩
    · rw [decide_eq_false z] at hz ⊢
      go_enter Try.func90, Try.ntmps90
      go_wp2
      go_ret
      exact ⟨rfl, rfl⟩
  · rw [n] at hn
    go_enter Try.func90, Try.ntmps90
    go_wp2
    go_ret
    exact ⟨rfl, rfl⟩
set_option maxRecDepth 100000 in
set_option maxHeartbeats 4000000 in
theorem exact_of (a b : Val) (w : World) (h : a.like b) (hfa : a.flt < 18446744073709551616) (hfb : b.flt < 18446744073709551616) :
    Calls Try.prog 32 #[.agg #[.int .i64 a.kind, .int .i64 a.int, .float .f64 a.flt, .string a.text], .agg #[.int .i64 b.kind, .int .i64 b.int, .float .f64 b.flt, .string b.text]] w fun e w' => e = .returned (.bool true) ∧ Ext w w' := by
  obtain ⟨h1, h2, h3, h4⟩ := h
  have e1 : bitsR a.flt = bitsR b.flt := by
    rcases h4 with h4 | ⟨h4, h5⟩
    · rw [h4]
    · unfold bitsR; rw [if_pos h4, if_pos h5]
  have e2 : decide (a.flt = 0) = decide (b.flt = 0) := by
    rcases h4 with h4 | ⟨h4, h5⟩
    · rw [h4]
    · rw [decide_eq_false (nan_ne h4).1, decide_eq_false (nan_ne h5).1]
  rw [← h1, ← h2, ← h3]
  have H1 := Lib.hid (fun w => rbits_of a.flt w hfa)
  have H2 : Hid (∀ w, Calls Try.prog 90 #[.float .f64 b.flt] w fun e w' => e = .returned (.int .u64 (bitsR a.flt : Int)) ∧ w = w') := Lib.hid (fun w => by rw [e1]; exact rbits_of b.flt w hfb)
  have H3 := Lib.hid (fun w => zero_of a.flt w hfa)
  have H4 : Hid (∀ w, Calls Try.prog 91 #[.float .f64 b.flt] w fun e w' => e = .returned (.bool (decide (a.flt = 0))) ∧ w = w') := Lib.hid (fun w => by rw [e2]; exact zero_of b.flt w hfb)
  generalize decide (a.flt = 0) = z at *
  generalize bitsR a.flt = q at *
  generalize a.flt = x at *
  generalize b.flt = y at *
  have hb0 : BoxAt ((w.alloc (.cells #[.int .i64 a.kind, .int .i64 a.int, .float .f64 x, .string a.text] 24)).alloc (.cells #[.int .i64 a.kind, .int .i64 a.int, .float .f64 y, .string a.text] 24)) w.heap.size [.int .i64 a.kind, .int .i64 a.int, .float .f64 x, .string a.text] := (BoxAt.new rfl rfl).ext ((Ext.refl _).alloc _)
  have hb1 : BoxAt ((w.alloc (.cells #[.int .i64 a.kind, .int .i64 a.int, .float .f64 x, .string a.text] 24)).alloc (.cells #[.int .i64 a.kind, .int .i64 a.int, .float .f64 y, .string a.text] 24)) (w.heap.size + 1) [.int .i64 a.kind, .int .i64 a.int, .float .f64 y, .string a.text] := BoxAt.new (by simp) rfl
  have HB0 := Lib.hid hb0; have HB1 := Lib.hid hb1
  have HE := Lib.hid (((Ext.refl w).alloc (.cells #[.int .i64 a.kind, .int .i64 a.int, .float .f64 x, .string a.text] 24)).alloc (.cells #[.int .i64 a.kind, .int .i64 a.int, .float .f64 y, .string a.text] 24))
  clear hb0 hb1 h1 h2 h3 h4 e1 e2 hfa hfb
  go_enter Try.func32, Try.ntmps32
  go_wp2_with fail
  refine wp_region_ext (by kernel_rfl) (by kernel_rfl) ?_; (repeat (first | (refine quiet_cell2 (.tmp 5) rfl rfl Try.underlying3 rfl rfl (fun w' hw => (HB0.out.ext hw).cells.get 0 _ rfl) ?_) | (refine quiet_cell2 (.tmp 7) rfl rfl Try.underlying3 rfl rfl (fun w' hw => (HB1.out.ext hw).cells.get 0 _ rfl) ?_) | (refine quiet_cell2 (.tmp 11) rfl rfl Try.underlying2 rfl rfl (fun w' hw => (HB0.out.ext hw).cells.get 1 _ rfl) ?_) | (refine quiet_cell2 (.tmp 13) rfl rfl Try.underlying2 rfl rfl (fun w' hw => (HB1.out.ext hw).cells.get 1 _ rfl) ?_) | (refine quiet_cell2 (.tmp 18) rfl rfl Try.underlying9 rfl rfl (fun w' hw => (HB0.out.ext hw).cells.get 3 _ rfl) ?_) | (refine quiet_cell2 (.tmp 20) rfl rfl Try.underlying9 rfl rfl (fun w' hw => (HB1.out.ext hw).cells.get 3 _ rfl) ?_) | (refine quiet_cell2 (.tmp 25) rfl rfl Try.underlying22 rfl rfl (fun w' hw => (HB0.out.ext hw).cells.get 2 _ rfl) ?_) | (refine quiet_cell2 (.tmp 28) rfl rfl Try.underlying22 rfl rfl (fun w' hw => (HB1.out.ext hw).cells.get 2 _ rfl) ?_) | (refine quiet_cell2 (.tmp 34) rfl rfl Try.underlying22 rfl rfl (fun w' hw => (HB0.out.ext hw).cells.get 2 _ rfl) ?_) | (refine quiet_cell2 (.tmp 37) rfl rfl Try.underlying22 rfl rfl (fun w' hw => (HB1.out.ext hw).cells.get 2 _ rfl) ?_) | (refine wpQuiet_step (fun K hK => ?_); go_simp; first | (refine hK _ ?_; clear hK K) | (refine ⟨_, fun w hw => rfl, hK _ ?_⟩; clear hK K) | (apply Exists.intro; refine ⟨fun w hw => ?_, hK _ ?_⟩; (focus first | (go_at_call 90; with_reducible exact (H1.out _).mono fun _ _ ⟨h1, h2⟩ => ⟨h1, h2 ▸ hw⟩) | (go_at_call 90; with_reducible exact (H2.out _).mono fun _ _ ⟨h1, h2⟩ => ⟨h1, h2 ▸ hw⟩) | (go_at_call 91; with_reducible exact (H3.out _).mono fun _ _ ⟨h1, h2⟩ => ⟨h1, h2 ▸ hw⟩) | (go_at_call 91; with_reducible exact (H4.out _).mono fun _ _ ⟨h1, h2⟩ => ⟨h1, h2 ▸ hw⟩)); clear hK K)))); refine wpQuiet_nil ?_
  intro w6 hw6
  go_wp2_with fail
  go_ret
  exact ⟨rfl, HE.out.trans hw6⟩
end Go.Proofs.Ytlcdjaclahhdnaa
namespace Go.Proofs.Ytlcdjaclahhdnaa
open Go.RowKit
set_option linter.unusedSimpArgs false
set_option linter.unusedVariables false

theorem cellLt {w : World} {p : Addr} {u : Value} (h : w.cell? p = some u) : p.block < w.heap.size := by
  rcases Nat.lt_or_ge p.block w.heap.size with hl | hl
  · exact hl
  · simp [World.cell?, Array.getElem?_eq_none hl] at h
theorem exs_open {w : World} {g : Nat} : ∀ {l : List Ex} {o : Nat}, Exs.At w g o l → ∃ ss : List Value, ss.length = l.length ∧ (∀ i (hi : i < l.length) (hj : i < ss.length), Ex.In w l[i] ss[i]) ∧ At w g o (exsCells l ss)
  | [], o, _ => ⟨[], rfl, by simp, by simp [exsCells, At]⟩
  | e :: l, o, h => by
    simp only [Exs.At] at h
    obtain ⟨⟨s, h1, h2⟩, h3⟩ := h
    obtain ⟨ss, h4, h5, h6⟩ := exs_open h3
    refine ⟨s :: ss, by simp [h4], fun i hi hj => ?_, ?_⟩
    · match i with
      | 0 => exact h2
      | i + 1 => exact h5 i (by simpa using hi) (by simpa using hj)
    · show At w g o (e.cells s ++ exsCells l ss)
      have hl : (e.cells s).length = 8 := rfl
      refine At.of_get fun j v hv => ?_
      rcases Nat.lt_or_ge j 8 with hj | hj
      · rw [List.getElem?_append_left (by omega)] at hv
        exact h1.get j v hv
      · rw [List.getElem?_append_right (by omega)] at hv
        have := h6.get (j - 8) v (by rw [← hl]; exact hv)
        rwa [show o + 8 + (j - 8) = o + j by omega] at this
theorem exsCells_length : ∀ (l : List Ex) (ss : List Value), ss.length = l.length → (exsCells l ss).length = l.length * 8
  | [], [], _ => rfl
  | [], _ :: _, h => by simp at h
  | _ :: _, [], h => by simp at h
  | e :: l, s :: ss, h => by
    have := exsCells_length l ss (by simpa using h)
    show (e.cells s ++ exsCells l ss).length = _
    have h8 : (e.cells s).length = 8 := rfl
    rw [List.length_append, this, h8, List.length_cons]; omega
theorem info_ex0 : (Try.prog.info? 27).map (fun i => (i.zero.map (fun z => z.cells.size), i.size, i.bytes)) = some (some 8, 8, 88) := by kernel_rfl
theorem wpList_exs {w0 w : World} {ops : Array Oper} {rest : List Oper} {o : Oper} {a : Act} {Q : Exit → Act → World → Prop} (hgd : o.guard = none) (s x : Operand)
    (ho : o.op = .call { callee := .builtin .append, args := #[s, x], argTypes := #[25, 25] })
    {g : Nat} {e : Ex} {se xv : Value} {l : List Ex} (hs : a.eval s = .slice (some ⟨g, 0, none⟩) 1 1) (hg : w.ownsRow w0.heap.size 27 8 (.slice (some ⟨g, 0, none⟩) 1 1) 1 (e.cells se)) (hbg : w0.heap.size ≤ g)
    (he : Ex.In w0 e se) (hx : a.eval x = xv) (hl : ExsIn w0 xv l) (hE : Ext w0 w) (hle : (1 + l.length) * 88 ≤ 140737488355328)
    (h : ∀ A c w', ExsIn w' (.slice A (1 + l.length) c) (e :: l) → Ext w0 w' → w.grownBy w' (some g) → wpList Try.prog ops Q rest (a.put o.dst (.slice A (1 + l.length) c)) w') : wpList Try.prog ops Q (o :: rest) a w := by
  obtain ⟨i, hi1, hi2⟩ := Option.map_eq_some_iff.1 info_ex0
  simp only [Prod.mk.injEq] at hi2
  obtain ⟨z, hz1, hz2⟩ := Option.map_eq_some_iff.1 hi2.1
  have hone : ∀ (l : List Ex) (ss : List Value), (∀ s ∈ ss, s.oneCell' = true) → ∀ u ∈ exsCells l ss, u.oneCell' = true := by
    intro l
    induction l with
    | nil => intro ss _ u hu; cases ss <;> simp [exsCells] at hu
    | cons e l ih =>
      intro ss hss u hu
      cases ss with
      | nil => simp [exsCells] at hu
      | cons s ss =>
        have hu' : u ∈ e.cells s ++ exsCells l ss := hu
        rcases List.mem_append.1 hu' with h | h
        · simp only [Ex.cells, exCells, List.mem_cons, List.not_mem_nil, or_false] at h
          rcases h with rfl | rfl | rfl | rfl | rfl | rfl | rfl | rfl
          any_goals rfl
          exact hss _ (by simp)
        · exact ih ss (fun t ht => hss t (by simp [ht])) u h
  obtain ⟨hl63, A, cap, rfl, hcap, hnil, hat⟩ := hl
  by_cases hl0 : A = none
  · subst hl0
    obtain rfl := hnil rfl
    have hl1 : l = [] := List.eq_nil_of_length_eq_zero (by omega)
    subst hl1
    refine wpList_plain hgd fun K hK => ?_
    have hr := run_append_owned_none (P := Try.prog) w w0.heap.size 25 o.type 27 i 8 Try.underlying25 hi1 _ 1 _ hg
    unfold Oper.wp execOp
    simp only [List.length_nil] at hx
    simp only [ho, resolve, invoke, builtin, Sem.run_bind, Sem.run_pure, Result.andThen_ok, List.map_toArray, List.map_cons, List.map_nil, hs, hx, hr]
    refine hK _ _ (h (some ⟨g, 0, none⟩) 1 w ⟨by simp, some ⟨g, 0, none⟩, 1, rfl, by simp, (fun h => by cases h), fun _ => ⟨g, 0, rfl, ?_⟩⟩ hE ⟨rfl, rfl, rfl, Nat.le_refl _, fun _ _ _ => rfl⟩)
    simp only [Exs.At, and_true]
    refine ⟨se, At.of_get fun j u hu => ?_, Ex.In.ext hE _ _ he⟩
    have := World.ownsRow.cells hg (g := g) rfl j u hu
    rwa [add_at] at this
  · obtain ⟨ad, rfl⟩ := Option.ne_none_iff_exists'.1 hl0
    have hopen : ∃ ss : List Value, ss.length = l.length ∧ (∀ i (hi : i < l.length) (hj : i < ss.length), Ex.In w0 l[i] ss[i]) ∧ ∀ j u, (exsCells l ss)[j]? = some u → w.cell? (ad.add j) = some u := by
      by_cases hne : l = []
      · subst hne; exact ⟨[], rfl, by simp, by simp [exsCells]⟩
      · obtain ⟨g1, o1, h1, h2⟩ := hat hne
        cases h1
        obtain ⟨ss, h3, h4, h5⟩ := exs_open h2
        refine ⟨ss, h3, h4, fun j u hu => ?_⟩
        rw [add_at]
        have h6 := h5.get j u hu
        exact (hE.cell (cellLt h6)).trans h6
    obtain ⟨ss, h3, h4, h5⟩ := hopen
    have hso : ∀ s ∈ ss, s.oneCell' = true := by
      intro s hs
      obtain ⟨i, hi, rfl⟩ := List.getElem_of_mem hs
      obtain ⟨-, A9, c9, h9, -⟩ := (h4 i (by omega) hi).mk_inv.2.2.2.2
      rw [h9]; rfl
    refine wpList_append_own w hgd s x 25 ho w0.heap.size 27 i z 8 88 Try.underlying25 hi1 hz1 hi2.2.1 hi2.2.2 hz2 (by omega) _ 1 _ hs hg ad l.length cap (exsCells l ss) hx (exsCells_length l ss h3) h5 (hone l ss hso) (by unfold maxLen; omega) hle hE.size fun v' w' ho' hg' _ => ?_
    have hE' : Ext w0 w' := (ButS.of_grown (M := fun k => k = g) hg' (fun k hk => by simpa [Value.ownBlock] using hk.symm)).to_ext hE (fun k hk => by subst hk; exact hbg)
    rcases ho'.2 with ⟨_, h0⟩ | ⟨g', cap', cur, rfl, hb', hh', hc', _⟩
    · omega
    · refine h _ _ w' ⟨by simp; omega, some ⟨g', 0, none⟩, cap', by rw [List.length_cons, Nat.add_comm], by rw [List.length_cons]; omega, (fun h => by cases h), fun _ => ⟨g', 0, rfl, ?_⟩⟩ hE' hg'
      refine exs_at (ss := se :: ss) (by simp [h3]) (fun i hi hj => ?_) ?_
      · match i with
        | 0 => exact Ex.In.ext hE' _ _ he
        | i + 1 => exact Ex.In.ext hE' _ _ (h4 i (by simpa using hi) (by simpa using hj))
      · refine At.of_get fun j u hu => ?_
        have := World.ownsRow.cells ho' (g := g') rfl j u hu
        rwa [add_at] at this
end Go.Proofs.Ytlcdjaclahhdnaa
namespace Go.Proofs.Ytlcdjaclahhdnaa
open Go.RowKit
set_option linter.unusedSimpArgs false
set_option linter.unusedVariables false

set_option maxRecDepth 100000 in
set_option maxHeartbeats 4000000 in
/-- tabularyref22.eval. -/
theorem reval_of : ∀ (e : Ex) (s : Value) (w : World) (rv : Value) (rows : List (List Val)), Ex.In w e s → RowsIn w rv rows → e.wf = true →
    Calls Try.prog 88 #[.agg (e.cells s).toArray, rv] w (CalcR w (e.eval rows)) := by
  intro e
  induction e using Ex.ind with
  | h k r c v l ih =>
    intro s w rv rows hin hrows hwf
    simp only [Ex.wf, Bool.and_eq_true, decide_eq_true_eq] at hwf
    obtain ⟨⟨hk, hf⟩, hl⟩ := hwf
    rw [Exs.wf_iff] at hl
    obtain ⟨_, A, cap, rfl, hkr⟩ := hin.kids
    have hro : ∀ r ∈ rows, ∀ v ∈ r, v.Ok := by
      intro r hr v hv
      obtain ⟨i, hi, rfl⟩ := List.getElem_of_mem hr
      obtain ⟨RA, rc, rfl, _⟩ := hrows.val
      obtain ⟨_, _, _, _, _, _, _, _, _, h8⟩ := hrows.at_ i hi
      exact h8.ok v hv
    show Calls Try.prog 88 #[.agg (exCells k r c v (.slice A l.length cap)).toArray, rv] w (CalcR w ((Ex.mk k r c v l).eval rows))
    simp only [Ex.eval, Exs.eval_map]
    have hkk : (k = 1 ∨ k = 2) ∧ l = [] ∨ (k = 6 ∨ k = 12 ∨ k = 13) ∧ (∃ a, l = [a]) ∨ (k = 3 ∨ k = 4 ∨ k = 5 ∨ k = 7 ∨ k = 8 ∨ k = 9 ∨ k = 10 ∨ k = 11) ∧ (∃ a b, l = [a, b]) := by
      unfold kidsOf at hk
      split at hk
      · rename_i h; exact .inl ⟨h, List.eq_nil_of_length_eq_zero (by omega)⟩
      · split at hk
        · rename_i h
          refine .inr (.inl ⟨h, ?_⟩)
          match l, (show l.length = 1 by omega) with
          | [a], _ => exact ⟨a, rfl⟩
        · split at hk
          · rename_i h
            refine .inr (.inr ⟨h, ?_⟩)
            match l, (show l.length = 2 by omega) with
            | [a, b], _ => exact ⟨a, b, rfl⟩
          · omega
    have hvok := hin.fields.2.2.2
    have hks := hin.kids
    clear hin hk
    rcases hkk with ⟨hk, rfl⟩ | ⟨hk, a, rfl⟩ | ⟨hk, a, b, rfl⟩
    · rcases hk with rfl | rfl
      · have hR : 0 ≤ r ∧ r ≤ 31 ∧ 0 ≤ c ∧ c ≤ 31 := by
          unfold fieldsOk at hf
          split at hf
          · cases hf
          · rename_i h
            simp only [inRel, Bool.and_eq_false_iff, decide_eq_false_iff_not] at h
            omega
        obtain ⟨R, rfl⟩ : ∃ R : Nat, r = (R : Int) := ⟨r.toNat, by omega⟩
        obtain ⟨C, rfl⟩ : ∃ C : Nat, c = (C : Int) := ⟨c.toNat, by omega⟩
        have e1 : evalHead rows 1 (R : Int) (C : Int) v (([] : List Ex).map (Ex.eval rows)) = (lookup rows (R : Int) (C : Int), 0) := by simp [evalHead]
        rw [e1]
        exact reval_col R C v A cap rv rows w hrows
      · have e1 : evalHead rows 2 r c v (([] : List Ex).map (Ex.eval rows)) = (v, 0) := by simp [evalHead]
        rw [e1]
        exact reval_const r c v A cap rv w hvok
    · obtain ⟨g, o, s0, rfl, -, hat, hina, hg⟩ := hks.get 0 (by simp)
      obtain ⟨-, A1, cap1, rfl, -⟩ := (Ex.In.mk_inv hina).2.2.2.2
      exact reval_one rows k r c v g o cap a A1 cap1 rv (a.eval rows) w hk hg hat (Lib.hid fun u hu => ih a (by simp) _ u rv rows (Ex.In.ext hu _ _ hina) (hrows.ext hu) (hl a (by simp))) (Ex.eval_ok hro a w _ hina)
    · obtain ⟨g, o, s0, rfl, -, hat, hina, hg⟩ := hks.get 0 (by simp)
      obtain ⟨g', o', s1, h1, -, hatb, hinb, -⟩ := hks.get 1 (by simp)
      simp only [Option.some.injEq, Addr.mk.injEq, and_true] at h1
      obtain ⟨rfl, rfl⟩ := h1
      obtain ⟨-, A1, cap1, rfl, -⟩ := (Ex.In.mk_inv hina).2.2.2.2
      obtain ⟨-, A2, cap2, rfl, -⟩ := (Ex.In.mk_inv hinb).2.2.2.2
      exact reval_two rows k r c v g o cap a b A1 A2 cap1 cap2 rv (a.eval rows) (b.eval rows) w hk hg hat hatb (Lib.hid fun u hu => ih a (by simp) _ u rv rows (Ex.In.ext hu _ _ hina) (hrows.ext hu) (hl a (by simp))) (Lib.hid fun u hu => ih b (by simp) _ u rv rows (Ex.In.ext hu _ _ hinb) (hrows.ext hu) (hl b (by simp)))
theorem calc_null {op : Int} {a b : Val} : (Val.calc op a b).2 ≠ 0 → (Val.calc op a b).1 = Val.null := by
  unfold Val.calc Val.calc2
  repeat' (first | exact fun _ => rfl | exact fun h => absurd rfl h | split)
theorem test_null {op : Int} {a b : Val} : (Val.test op a b).2 ≠ 0 → (Val.test op a b).1 = Val.null := by
  unfold Val.test
  repeat' (first | exact fun _ => rfl | exact fun h => absurd rfl h | split)
theorem both_null {op : Int} {a b : Val} : (Val.both op a b).2 ≠ 0 → (Val.both op a b).1 = Val.null := by
  unfold Val.both Val.both2
  repeat' (first | exact fun _ => rfl | exact fun h => absurd rfl h | split)
theorem head_null {rows : List (List Val)} {k r c : Int} {v : Val} {rs : List (Val × Int)} (h : (evalHead rows k r c v rs).2 ≠ 0) : (evalHead rows k r c v rs).1 = Val.null := by
  unfold evalHead at *
  split
  · rfl
  · split
    · rfl
    · split
      · simp_all
      · split
        · simp_all
        · split
          · exact calc_null (by simp_all)
          · split
            · exact test_null (by simp_all)
            · split
              · exact both_null (by simp_all)
              · simp_all
theorem eval_null {rows : List (List Val)} (e : Ex) (h : (e.eval rows).2 ≠ 0) : (e.eval rows).1 = Val.null := by
  cases e with
  | mk k r c v l => simp only [Ex.eval] at *; exact head_null h
set_option maxRecDepth 100000 in
set_option maxHeartbeats 2000000 in
theorem rEval_of (e : Ex) (s : Value) (w : World) (rv : Value) (rows : List (List Val)) (hin : Ex.In w e s) (hrows : RowsIn w rv rows) :
    Calls Try.prog 29 #[.agg (e.cells s).toArray, rv] w (CalcR w (e.Eval rows)) := by
  obtain ⟨-, A', cap', rfl, -⟩ := hin.mk_inv.2.2.2.2
  have HF := Lib.hid (fun u (hu : Ext w u) => rformed_of e (.slice A' e.kids.length cap') u (Ex.In.ext hu _ _ hin))
  have HV : Hid (0 ≤ e.count 1 400 → ∀ u, Ext w u → Calls Try.prog 88 #[.agg (e.cells (.slice A' e.kids.length cap')).toArray, rv] u (CalcR u (e.eval rows))) := Lib.hid fun hc u hu => reval_of e _ u rv rows (Ex.In.ext hu _ _ hin) (hrows.ext hu) (Ex.count_wf e 1 400 hc)
  obtain ⟨RA, rc, rfl, -⟩ := hrows.val
  have hb0 : BoxAt ((w.alloc (.cells (e.cells (.slice A' e.kids.length cap')).toArray 27)).alloc (.cells nullCells.toArray 24)) w.heap.size (e.cells (.slice A' e.kids.length cap')) := (BoxAt.new rfl rfl).ext ((Ext.refl _).alloc _)
  have hb1 : BoxAt ((w.alloc (.cells (e.cells (.slice A' e.kids.length cap')).toArray 27)).alloc (.cells nullCells.toArray 24)) (w.heap.size + 1) nullCells := BoxAt.new (by simp) rfl
  have hE := ((Ext.refl w).alloc (.cells (e.cells (.slice A' e.kids.length cap')).toArray 27)).alloc (.cells nullCells.toArray 24)
  have HB0 := Lib.hid hb0; have HB1 := Lib.hid hb1; have HE := Lib.hid hE
  clear hin hrows hb0 hb1 hE
  unfold Ex.Eval
  unfold Ex.cells exCells nullCells at *
  by_cases hc : 0 ≤ e.count 1 400
  · rw [if_pos hc]
    have HV2 := Lib.hid (HV.out hc)
    have HN := Lib.hid (eval_null (rows := rows) e)
    rw [decide_eq_true hc] at HF
    clear HV hc
    generalize e.eval rows = q at *
    have HQ : Hid ((if q.2 = 0 then (q.1, (0 : Int)) else (Val.null, q.2)) = q) := Lib.hid (by
      by_cases h : q.2 = 0
      · rw [if_pos h]; exact Prod.ext rfl h.symm
      · rw [if_neg h]; exact Prod.ext (HN.out h).symm rfl)
    rw [HQ.out]
    clear HQ HN
    go_enter Try.func29, Try.ntmps29
    go_wp2_with (first
      | (refine wpList_wish rfl fun K hK => wp_loadA (vs := [.int .i64 e.kind, .int .i64 e.rel, .int .i64 e.col, .int .i64 e.const.kind, .int .i64 e.const.int, .float .f64 e.const.flt, .string e.const.text, .slice A' e.kids.length cap']) agg_ex (.tmp 2) rfl rfl HB0.out.cells (hK _ _ ?_))
      | (refine wpList_wish rfl fun K hK => wp_loadA (vs := [.int .i64 e.kind, .int .i64 e.rel, .int .i64 e.col, .int .i64 e.const.kind, .int .i64 e.const.int, .float .f64 e.const.flt, .string e.const.text, .slice A' e.kids.length cap']) agg_ex (.tmp 2) rfl rfl HB2.out.cells (hK _ _ ?_))
      | (go_at_call 87; refine (HF.out _ HE.out).mono ?_; rintro ev w2 ⟨rfl, hb⟩; have HB2 := Lib.hid (HB0.out.ext hb); have HB3 := Lib.hid (HB1.out.ext hb); have HE2 := Lib.hid (HE.out.trans hb); clear hb)
      | (go_at_call 88; refine (HV2.out _ HE2.out).mono ?_; rintro ev w3 ⟨vq, rfl, hl, ho, he⟩; have HB4 := Lib.hid (HB3.out.ext he); have HE3 := Lib.hid (HE2.out.trans he); have HLQ := Lib.hid hl; have HOQ := Lib.hid ho; clear he hl ho)
      | (refine wpList_storeA (val_one vq) HB4.out sizeVal rfl rfl (.tmp 4) _ rfl rfl rfl ?_; intro w9 hq1 hq2))
    exact back_ct rfl vq.cells (.int .i64 q.2) rfl rfl agg_val rfl hq1.cells ⟨_, rfl, HLQ.out, HOQ.out, But.to_ext HE3.out hq2 (by omega)⟩
  · rw [if_neg hc]
    rw [decide_eq_false hc] at HF
    clear HV hc
    go_enter Try.func29, Try.ntmps29
    go_wp2_with (first
      | (refine wpList_wish rfl fun K hK => wp_loadA (vs := [.int .i64 e.kind, .int .i64 e.rel, .int .i64 e.col, .int .i64 e.const.kind, .int .i64 e.const.int, .float .f64 e.const.flt, .string e.const.text, .slice A' e.kids.length cap']) agg_ex (.tmp 2) rfl rfl HB0.out.cells (hK _ _ ?_))
      | (go_at_call 87; refine (HF.out _ HE.out).mono ?_; rintro ev w2 ⟨rfl, hb⟩; have HB3 := Lib.hid (HB1.out.ext hb); have HE2 := Lib.hid (HE.out.trans hb); clear hb)
      | (refine wpList_storeA (val_one Val.null) HB3.out sizeVal rfl rfl (.tmp 4) _ rfl rfl rfl ?_; intro w9 hq1 hq2))
    exact back_ct rfl Val.null.cells (.int .i64 2) rfl rfl agg_val rfl hq1.cells ⟨_, rfl, Val.like.refl _, Val.null_ok, But.to_ext HE2.out hq2 (by omega)⟩
set_option maxHeartbeats 1000000 in
theorem rtrue_of (v : Val) (w : World) : Calls Try.prog 89 #[.agg #[.int .i64 v.kind, .int .i64 v.int, .float .f64 v.flt, .string v.text]] w fun e w' => e = .returned (.bool (decide (v.kind = 1) && decide (v.int = 1))) ∧ Ext w w' := by
  go_enter Try.func89, Try.ntmps89
  go_wp2_with fail
  all_goals
    go_ret
    refine ⟨ret_bool ?_, ?_⟩
    · go_tidy; first | (simp_all; done) | (simp_all; rw [Bool.eq_iff_iff]; simp)
    · repeat (first | (with_reducible exact Ext.refl _) | (with_reducible refine Ext.set_ ?_ _ ?_; focus (first | (simp; done) | (simp; omega) | (simp at *; omega))) | (with_reducible refine Ext.alloc ?_ _) | (with_reducible refine Ext.drew ?_) | (with_reducible refine Ext.drewN ?_ _) | (with_reducible refine Ext.trans ?_ (by assumption)))
end Go.Proofs.Ytlcdjaclahhdnaa
namespace Go.Proofs.Ytlcdjaclahhdnaa
open Go.RowKit
set_option linter.unusedSimpArgs false
set_option linter.unusedVariables false

set_option maxRecDepth 100000 in
set_option maxHeartbeats 4000000 in
theorem rholds_of (l : List Ex) (x : Value) (w : World) (rv : Value) (rows : List (List Val)) (hx : ExsIn w x l) (hrows : RowsIn w rv rows) :
    Calls Try.prog 31 #[x, rv] w fun ev w' => ev = .returned (.tuple #[.bool (holds rows l).1, .int .i64 (holds rows l).2]) ∧ Ext w w' := by
  obtain ⟨hlm, A, cap, rfl, _⟩ := hx.2 |> fun h => (⟨hx.1, h⟩ : l.length ≤ 9223372036854775807 ∧ _)
  have HX := Lib.hid hx; have HR := Lib.hid hrows
  clear hx hrows
  go_enter Try.func31, Try.ntmps31
  go_wp2_with fail
  go_loopw [6] (fun y wr => ∃ i : Nat, y = .int .i64 (i : Int) ∧ i ≤ l.length ∧ holds rows l = holds rows (l.drop i) ∧ Ext w wr) (fun y _ => l.length - (intOf y).toNat)
  case atStart => exact ⟨0, rfl, by omega, rfl, Ext.refl _⟩
  case round =>
    rename_i hrel
    obtain ⟨i, rfl, hi, hh, hE⟩ := hrel
    have HH := Lib.hid hh; clear hh
    by_cases hlt : i < l.length
    · have hlt' : (i : Int) < (l.length : Int) := by omega
      have hw : wrap64 ((i : Int) + 1) = (i : Int) + 1 := by unfold wrap64; omega
      obtain ⟨g, o, s', rfl, -, hat, hin2, hg⟩ := (HX.out.ext hE).get i hlt
      obtain ⟨-, A', cap', rfl, -⟩ := (Ex.In.mk_inv hin2).2.2.2.2
      have HD := Lib.hid (holds_drop rows l i hlt)
      have hcall := Lib.hid (rEval_of l[i] (.slice A' l[i].kids.length cap') wr rv rows hin2 (HR.out.ext hE))
      have HAT := Lib.hid hat
      clear hat hin2
      unfold Ex.cells exCells at HAT hcall
      generalize l[i] = e at *
      generalize e.Eval rows = q at *
      by_cases h1 : q.2 = 0
      · have z1 : (q.2 != 0) = false := by simp [h1]
        by_cases h23 : q.1.kind = 1 ∧ q.1.int = 1
        · have HK : Hid (holds rows l = holds rows (l.drop (i + 1))) := Lib.hid (by rw [HH.out, HD.out, if_neg (by simpa using h1), if_neg (by omega)])
          have H23 := Lib.hid h23
          clear h23
          go_wp2_with (first
            | (refine wpList_wish rfl fun K hK => ?_; first | (refine wp_idxS (i := i) Try.underlying25 size_ex (.tmp 16) _ rfl rfl rfl hlt (hK _ _ ?_)) | (refine wp_loadA (vs := [.int .i64 e.kind, .int .i64 e.rel, .int .i64 e.col, .int .i64 e.const.kind, .int .i64 e.const.int, .float .f64 e.const.flt, .string e.const.text, .slice A' e.kids.length cap']) agg_ex (.tmp 18) rfl rfl HAT.out (hK _ _ ?_)))
            | (go_at_call 29; refine hcall.out.mono ?_; rintro ev w2 ⟨vq, rfl, hl, ho, hb⟩; have HE2 := Lib.hid (hE.trans hb); have HL := Lib.hid hl; clear hl ho hb)
            | (refine wpList_wish rfl fun K hK => wp_loadA (vs := [.int .i64 vq.kind, .int .i64 vq.int, .float .f64 vq.flt, .string vq.text]) agg_val (.tmp 7) rfl rfl (At.new rfl _ _ _ rfl) (hK _ _ ?_))
            | (go_at_call 89; refine ((by have h := rtrue_of vq (w2.alloc (.cells #[.int .i64 vq.kind, .int .i64 vq.int, .float .f64 vq.flt, .string vq.text] 24)); rw [show (decide (vq.kind = 1) && decide (vq.int = 1)) = true from by rw [HL.out.1, HL.out.2.1]; simp [H23.out.1, H23.out.2]] at h; exact h : Calls Try.prog 89 #[.agg #[.int .i64 vq.kind, .int .i64 vq.int, .float .f64 vq.flt, .string vq.text]] (w2.alloc (.cells #[.int .i64 vq.kind, .int .i64 vq.int, .float .f64 vq.flt, .string vq.text] 24)) fun e w' => e = .returned (.bool true) ∧ Ext (w2.alloc (.cells #[.int .i64 vq.kind, .int .i64 vq.int, .float .f64 vq.flt, .string vq.text] 24)) w')).mono ?_; rintro ev w4 ⟨rfl, hb4⟩))
          refine ⟨⟨i + 1, by simp, by omega, HK.out, HE2.out.trans (((Ext.refl _).alloc _).trans hb4)⟩, by simp [intOf] <;> omega⟩
        · have HK : Hid (holds rows l = (false, 0)) := Lib.hid (by rw [HH.out, HD.out, if_neg (by simpa using h1), if_pos (by omega)])
          have H23 := Lib.hid h23
          clear h23
          go_wp2_with (first
            | (refine wpList_wish rfl fun K hK => ?_; first | (refine wp_idxS (i := i) Try.underlying25 size_ex (.tmp 16) _ rfl rfl rfl hlt (hK _ _ ?_)) | (refine wp_loadA (vs := [.int .i64 e.kind, .int .i64 e.rel, .int .i64 e.col, .int .i64 e.const.kind, .int .i64 e.const.int, .float .f64 e.const.flt, .string e.const.text, .slice A' e.kids.length cap']) agg_ex (.tmp 18) rfl rfl HAT.out (hK _ _ ?_)))
            | (go_at_call 29; refine hcall.out.mono ?_; rintro ev w2 ⟨vq, rfl, hl, ho, hb⟩; have HE2 := Lib.hid (hE.trans hb); have HL := Lib.hid hl; clear hl ho hb)
            | (refine wpList_wish rfl fun K hK => wp_loadA (vs := [.int .i64 vq.kind, .int .i64 vq.int, .float .f64 vq.flt, .string vq.text]) agg_val (.tmp 7) rfl rfl (At.new rfl _ _ _ rfl) (hK _ _ ?_))
            | (go_at_call 89; refine ((by have h := rtrue_of vq (w2.alloc (.cells #[.int .i64 vq.kind, .int .i64 vq.int, .float .f64 vq.flt, .string vq.text] 24)); rw [show (decide (vq.kind = 1) && decide (vq.int = 1)) = false from by rw [HL.out.1, HL.out.2.1]; simp only [Bool.and_eq_false_iff, decide_eq_false_iff_not]; have h := H23.out; omega] at h; exact h : Calls Try.prog 89 #[.agg #[.int .i64 vq.kind, .int .i64 vq.int, .float .f64 vq.flt, .string vq.text]] (w2.alloc (.cells #[.int .i64 vq.kind, .int .i64 vq.int, .float .f64 vq.flt, .string vq.text] 24)) fun e w' => e = .returned (.bool false) ∧ Ext (w2.alloc (.cells #[.int .i64 vq.kind, .int .i64 vq.int, .float .f64 vq.flt, .string vq.text] 24)) w')).mono ?_; rintro ev w4 ⟨rfl, hb4⟩))
          go_ret2
          exact ⟨by rw [HK.out]; rfl, HE2.out.trans (((Ext.refl _).alloc _).trans hb4)⟩
      · have z1 : (q.2 != 0) = true := by simpa using h1
        have HK : Hid (holds rows l = (false, q.2)) := Lib.hid (by rw [HH.out, HD.out, if_pos (by simpa using h1)])
        go_wp2_with (first
          | (refine wpList_wish rfl fun K hK => ?_; first | (refine wp_idxS (i := i) Try.underlying25 size_ex (.tmp 16) _ rfl rfl rfl hlt (hK _ _ ?_)) | (refine wp_loadA (vs := [.int .i64 e.kind, .int .i64 e.rel, .int .i64 e.col, .int .i64 e.const.kind, .int .i64 e.const.int, .float .f64 e.const.flt, .string e.const.text, .slice A' e.kids.length cap']) agg_ex (.tmp 18) rfl rfl HAT.out (hK _ _ ?_)))
          | (go_at_call 29; refine hcall.out.mono ?_; rintro ev w2 ⟨vq, rfl, hl, ho, hb⟩; have HE2 := Lib.hid (hE.trans hb); have HL := Lib.hid hl; clear hl ho hb))
        go_ret2
        exact ⟨by rw [HK.out]; rfl, HE2.out.trans ((Ext.refl _).alloc _)⟩
    · have hlt' : ¬ ((i : Int) < (l.length : Int)) := by omega
      obtain rfl : i = l.length := by omega
      have e1 : holds rows l = (true, 0) := by rw [HH.out, List.drop_of_length_le (Nat.le_refl _)]; rfl
      rw [e1]
      go_wp2_with fail
      go_ret2
      exact ⟨rfl, hE⟩
end Go.Proofs.Ytlcdjaclahhdnaa
namespace Go.Proofs.Ytlcdjaclahhdnaa
open Go.RowKit
set_option linter.unusedSimpArgs false
set_option linter.unusedVariables false
attribute [local irreducible] wpQuiet
theorem likeSymm {a b : Val} (h : a.like b) : b.like a := ⟨h.1.symm, h.2.1.symm, h.2.2.1.symm, h.2.2.2.imp Eq.symm And.symm⟩
theorem name_worldE {P : Program} {c : Code} {Q : Exit → Act → World → Prop} {a : Act} {w : World} (F : World → Prop) (hF : F w) (h : ∀ u, F u → c.wp P Q a u) : c.wp P Q a w := h w hF

set_option maxRecDepth 100000 in
set_option maxHeartbeats 20000000 in
theorem evals_walk (e : Ex) (se lv rv : Value) (l : List Ex) (rows : List (List Val)) (w : World) (hine : Ex.In w e se) (hl : ExsIn w lv l) (hle : (1 + l.length) * 88 ≤ 140737488355328) (hrows : RowsIn w rv rows) :
    Calls Try.prog 6 #[.agg (e.cells se).toArray, lv, rv] w fun ev w' => ev = .returned (.bool true) ∧ Ext w w' := by
  obtain ⟨-, EA, ecap, rfl, -⟩ := hine.mk_inv.2.2.2.2
  obtain ⟨hl63, LA, lcap, rfl, -⟩ := hl.2 |> fun h => (⟨hl.1, h⟩ : l.length ≤ 9223372036854775807 ∧ _)
  obtain ⟨RA, rc, rfl, -⟩ := hrows.val
  have HIN := Lib.hid hine; have HL := Lib.hid hl; have HR := Lib.hid hrows; have HLE := Lib.hid hle
  clear hl63 hle
  have hb0 : BoxAt (w.alloc (.cells (e.cells (.slice EA e.kids.length ecap)).toArray 27)) w.heap.size (e.cells (.slice EA e.kids.length ecap)) := BoxAt.new rfl rfl
  have hE0 : Ext w (w.alloc (.cells (e.cells (.slice EA e.kids.length ecap)).toArray 27)) := (Ext.refl _).alloc _
  have hE1 : Ext w ((w.alloc (.cells (e.cells (.slice EA e.kids.length ecap)).toArray 27)).alloc (.cells (e.cells (.slice EA e.kids.length ecap)).toArray 27)) := ((Ext.refl _).alloc _).alloc _
  have hown : ((w.alloc (.cells (e.cells (.slice EA e.kids.length ecap)).toArray 27)).alloc (.cells (e.cells (.slice EA e.kids.length ecap)).toArray 27)).ownsRow w.heap.size 27 8 (.slice (some ⟨w.heap.size + 1, 0, none⟩) 1 1) 1 (e.cells (.slice EA e.kids.length ecap)) := by
    refine ⟨rfl, .inr ⟨w.heap.size + 1, 1, (e.cells (.slice EA e.kids.length ecap)).toArray, rfl, by omega, ?_, by omega, by decide, rfl, rfl⟩⟩
    have h := heap_alloc_new (w.alloc (.cells (e.cells (.slice EA e.kids.length ecap)).toArray 27)) (.cells (e.cells (.slice EA e.kids.length ecap)).toArray 27)
    simpa using h
  have HB0 := Lib.hid hb0; have HE0 := Lib.hid hE0; have HE1 := Lib.hid hE1; have HO := Lib.hid hown
  have HEV : Hid (∀ u, Ext w u → Calls Try.prog 28 #[.agg (e.cells (.slice EA e.kids.length ecap)).toArray, .slice RA rows.length rc] u fun ev w' => ev = .returned (.tuple #[(e.Eval rows).1.enc, .int .i64 (e.Eval rows).2]) ∧ Ext u w') := Lib.hid fun u h => Eval_of e _ u _ rows (Ex.In.ext h _ _ hine) (hrows.ext h)
  have HRV : Hid (∀ u, Ext w u → Calls Try.prog 29 #[.agg (e.cells (.slice EA e.kids.length ecap)).toArray, .slice RA rows.length rc] u (CalcR u (e.Eval rows))) := Lib.hid fun u h => rEval_of e _ u _ rows (Ex.In.ext h _ _ hine) (hrows.ext h)
  have HHO : Hid (∀ u, Ext w u → Calls Try.prog 30 #[.slice LA l.length lcap, .slice RA rows.length rc] u fun ev w' => ev = .returned (.tuple #[.bool (holds rows l).1, .int .i64 (holds rows l).2]) ∧ Ext u w') := Lib.hid fun u h => holds_of l _ u _ rows (hl.ext h) (hrows.ext h)
  have HRH : Hid (∀ u, Ext w u → Calls Try.prog 31 #[.slice LA l.length lcap, .slice RA rows.length rc] u fun ev w' => ev = .returned (.tuple #[.bool (holds rows l).1, .int .i64 (holds rows l).2]) ∧ Ext u w') := Lib.hid fun u h => rholds_of l _ u _ rows (hl.ext h) (hrows.ext h)
  have hro : ∀ r ∈ rows, ∀ v ∈ r, v.Ok := by
    intro r hr v hv
    obtain ⟨i, hi, rfl⟩ := List.getElem_of_mem hr
    obtain ⟨_, _, _, _, _, _, _, _, _, h8⟩ := hrows.at_ i hi
    exact h8.ok v hv
  have HOK := Lib.hid (Eval_ok hro e w _ hine)
  clear hine hl hrows hb0 hE0 hE1 hown hro
  unfold Ex.cells exCells at *
  generalize e.Eval rows = q at *
  generalize holds rows l = p at *
  go_enter Try.func6, Try.ntmps6
  go_upto_region 3 with (first
    | (refine wpList_wish rfl fun K hK => wp_loadA (vs := [.int .i64 e.kind, .int .i64 e.rel, .int .i64 e.col, .int .i64 e.const.kind, .int .i64 e.const.int, .float .f64 e.const.flt, .string e.const.text, (.slice EA e.kids.length ecap)]) agg_ex (.tmp 3) rfl rfl HB0.out.cells (hK _ _ ?_))
    | (refine wpList_exs (w0 := w) rfl _ _ rfl rfl HO.out (by omega) HIN.out rfl HL.out HE1.out HLE.out ?_; intro A c w2 hx hE hg; have HX := Lib.hid hx; have HE2 := Lib.hid hE; have HB2 := Lib.hid ((ButS.of_grown (M := fun k => k = w.heap.size + 1) hg (fun k hk => by simpa using hk.symm)).box (by omega) (HB0.out.ext ((Ext.refl _).alloc _))); clear hx hE hg)
    | (go_at_call 14; refine (great_of (e :: l) _ rows _ _ HX.out (HR.out.ext HE2.out)).mono ?_; rintro ev w3 ⟨hh, rfl⟩; obtain ⟨b1, rfl, hb1⟩ := hh.get; clear hb1; cases b1)
    | (go_at_call 13; refine (works22 _).mono ?_; rintro ev w4 ⟨rfl, hb3⟩))
  rotate_left
  · go_ret
    exact ⟨rfl, HE2.out.trans hb3⟩
  refine name_worldE (fun u => Ext w u ∧ BoxAt u w.heap.size [.int .i64 e.kind, .int .i64 e.rel, .int .i64 e.col, .int .i64 e.const.kind, .int .i64 e.const.int, .float .f64 e.const.flt, .string e.const.text, (.slice EA e.kids.length ecap)]) ⟨HE2.out, HB2.out⟩ ?_
  clear HIN HL HR HLE HB0 HE0 HE1 HO HX HE2 HB2
  rintro U ⟨hE, hb0⟩
  have HB0 := Lib.hid hb0; have HE := Lib.hid hE
  clear hb0 hE
  have hUs : w.heap.size < U.heap.size := HB0.out.lt
  go_upto_region 4 with (first
    | (refine wpList_wish rfl fun K hK => wp_loadA (vs := [.int .i64 e.kind, .int .i64 e.rel, .int .i64 e.col, .int .i64 e.const.kind, .int .i64 e.const.int, .float .f64 e.const.flt, .string e.const.text, (.slice EA e.kids.length ecap)]) agg_ex (.tmp 3) rfl rfl HB0.out.cells (hK _ _ ?_))
    | (go_at_call 28; refine (HEV.out _ HE.out).mono ?_; rintro ev w1 ⟨rfl, he⟩; have HE1 := Lib.hid he; clear he)
    | (refine wpList_storeA (vs' := [.int .i64 q.1.kind, .int .i64 q.1.int, .float .f64 q.1.flt, .string q.1.text]) (val_one q.1) (BoxAt.new (w := w1) (vs := nullCells) (t := 24) rfl rfl) sizeVal rfl rfl (.tmp 7) _ rfl rfl rfl ?_; intro w2 hq1 hq2; have HX1 := Lib.hid hq1; have HE2 := Lib.hid (But.to_ext (HE1.out.alloc _) hq2 HE1.out.size); clear hq1 hq2))
  refine name_worldE (fun u => Ext w u ∧ BoxAt u w.heap.size [.int .i64 e.kind, .int .i64 e.rel, .int .i64 e.col, .int .i64 e.const.kind, .int .i64 e.const.int, .float .f64 e.const.flt, .string e.const.text, (.slice EA e.kids.length ecap)] ∧ BoxAt u w1.heap.size [.int .i64 q.1.kind, .int .i64 q.1.int, .float .f64 q.1.flt, .string q.1.text]) ⟨HE.out.trans HE2.out, HB0.out.ext HE2.out, HX1.out⟩ ?_
  have hs1 := HE1.out.size
  clear HB0 HE HE1 HE2 HX1 HEV
  generalize w1.heap.size = g7 at *
  clear w1 w2
  rintro U4 ⟨hE, hb0, hx1⟩
  have HB0 := Lib.hid hb0; have HE := Lib.hid hE; have HX1 := Lib.hid hx1
  have hg7 : g7 < U4.heap.size := HX1.out.lt
  clear hb0 hE hx1
  go_upto_region 5 with (first
    | (refine wpList_wish rfl fun K hK => wp_loadA (vs := [.int .i64 e.kind, .int .i64 e.rel, .int .i64 e.col, .int .i64 e.const.kind, .int .i64 e.const.int, .float .f64 e.const.flt, .string e.const.text, (.slice EA e.kids.length ecap)]) agg_ex (.tmp 3) rfl rfl HB0.out.cells (hK _ _ ?_))
    | (go_at_call 29; refine (HRV.out _ HE.out).mono ?_; rintro ev w1 ⟨vq, rfl, hlq, hok, he⟩; have HE1 := Lib.hid he; have HLQ := Lib.hid hlq; have HOQ := Lib.hid hok; clear he hlq hok)
    | (refine wpList_storeA (vs' := [.int .i64 vq.kind, .int .i64 vq.int, .float .f64 vq.flt, .string vq.text]) (val_one vq) (BoxAt.new (w := w1) (vs := nullCells) (t := 24) rfl rfl) sizeVal rfl rfl (.tmp 9) _ rfl rfl rfl ?_; intro w2 hq1 hq2; have HX2 := Lib.hid hq1; have HE2 := Lib.hid (But.to_ext (HE1.out.alloc _) hq2 HE1.out.size); clear hq1 hq2))
  refine name_worldE (fun u => Ext w u ∧ BoxAt u g7 [.int .i64 q.1.kind, .int .i64 q.1.int, .float .f64 q.1.flt, .string q.1.text] ∧ BoxAt u w1.heap.size [.int .i64 vq.kind, .int .i64 vq.int, .float .f64 vq.flt, .string vq.text]) ⟨HE.out.trans HE2.out, HX1.out.ext HE2.out, HX2.out⟩ ?_
  have hs2 := HE1.out.size
  clear HB0 HE HE1 HE2 HX1 HX2 HRV
  generalize w1.heap.size = g9 at *
  clear w1 w2
  rintro U5 ⟨hE, hx1, hx2⟩
  have HE := Lib.hid hE; have HX1 := Lib.hid hx1; have HX2 := Lib.hid hx2
  clear hE hx1 hx2
  have HEX : Hid (∀ u, Calls Try.prog 32 #[.agg #[.int .i64 q.1.kind, .int .i64 q.1.int, .float .f64 q.1.flt, .string q.1.text], .agg #[.int .i64 vq.kind, .int .i64 vq.int, .float .f64 vq.flt, .string vq.text]] u fun e w' => e = .returned (.bool true) ∧ Ext u w') := Lib.hid fun u => exact_of q.1 vq u (likeSymm HLQ.out) HOK.out.flt HOQ.out.flt
  clear HLQ HOQ HOK
  go_upto_region 7 with (first
    | (go_at_call 30; refine (HHO.out _ HE.out).mono ?_; rintro ev w1 ⟨rfl, he⟩; have HE1 := Lib.hid he; clear he)
    | (go_at_call 31; refine (HRH.out _ (HE.out.trans HE1.out)).mono ?_; rintro ev w2 ⟨rfl, he⟩; have HE2 := Lib.hid (HE1.out.trans he); clear he))
  refine name_worldE (fun u => Ext w u ∧ BoxAt u g7 [.int .i64 q.1.kind, .int .i64 q.1.int, .float .f64 q.1.flt, .string q.1.text] ∧ BoxAt u g9 [.int .i64 vq.kind, .int .i64 vq.int, .float .f64 vq.flt, .string vq.text]) ⟨HE.out.trans HE2.out, HX1.out.ext HE2.out, HX2.out.ext HE2.out⟩ ?_
  clear HE HE1 HE2 HX1 HX2 HHO HRH w1 w2
  rintro U7 ⟨hE, hx1, hx2⟩
  have HE := Lib.hid hE; have HX1 := Lib.hid hx1; have HX2 := Lib.hid hx2
  clear hE hx1 hx2
  go_wp2_with (first
    | (refine wpList_wish rfl fun K hK => wp_loadA (vs := [.int .i64 q.1.kind, .int .i64 q.1.int, .float .f64 q.1.flt, .string q.1.text]) agg_val (.tmp 7) rfl rfl HX1.out.cells (hK _ _ ?_))
    | (refine wpList_wish rfl fun K hK => wp_loadA (vs := [.int .i64 vq.kind, .int .i64 vq.int, .float .f64 vq.flt, .string vq.text]) agg_val (.tmp 9) rfl rfl HX2.out.cells (hK _ _ ?_))
    | (go_at_call 32; refine (HEX.out _).mono ?_; rintro ev w1 ⟨rfl, he⟩; have HE1 := Lib.hid (HE.out.trans he); clear he)
    | (go_at_call 13; refine (works22 _).mono ?_; rintro ev w4 ⟨rfl, hb3⟩))
  go_ret
  exact ⟨by simp, HE1.out.trans hb3⟩
end Go.Proofs.Ytlcdjaclahhdnaa
