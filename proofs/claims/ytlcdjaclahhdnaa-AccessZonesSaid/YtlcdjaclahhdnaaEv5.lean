/- The call of expr.eval. -/
import Derived.Test.YtlcdjaclahhdnaaEv0
import Derived.Test.YtlcdjaclahhdnaaEv1
import Derived.Test.YtlcdjaclahhdnaaEv2
import Derived.Test.YtlcdjaclahhdnaaEv3
import Derived.Test.YtlcdjaclahhdnaaEv4
namespace Go.Proofs.Ytlcdjaclahhdnaa
open Go.RowKit
set_option linter.unusedSimpArgs false
set_option linter.unusedVariables false

mutual
/-- Formed, but for depth and number. -/
def Ex.wf : Ex → Bool
  | .mk k r c v l => decide (kidsOf k = (l.length : Int)) && fieldsOk k r c v && Exs.wf l
termination_by structural e => e
def Exs.wf : List Ex → Bool
  | [] => true
  | e :: l => e.wf && Exs.wf l
termination_by structural l => l
end
theorem Exs.wf_iff (l : List Ex) : Exs.wf l = true ↔ ∀ e ∈ l, e.wf = true := by
  induction l with
  | nil => simp [Exs.wf]
  | cons e l ih => simp [Exs.wf, ih]
theorem Exs.count_wf (l : List Ex) (ih : ∀ e ∈ l, ∀ d left, 0 ≤ e.count d left → e.wf = true) : ∀ d left, 0 ≤ Exs.count l d left → Exs.wf l = true := by
  induction l with
  | nil => intro d left _; simp [Exs.wf]
  | cons e l ih2 =>
    intro d left h
    simp only [Exs.count] at h
    split at h
    · omega
    · rename_i hc
      simp only [Exs.wf, Bool.and_eq_true]
      exact ⟨ih e (by simp) d left (by omega), ih2 (fun e he => ih e (by simp [he])) _ _ h⟩
theorem Ex.count_wf : ∀ (e : Ex) (d left : Int), 0 ≤ e.count d left → e.wf = true := by
  intro e
  induction e using Ex.ind with
  | h k r c v l ih =>
    intro d left h
    simp only [Ex.count] at h
    split at h
    · omega
    · rename_i hc
      have h3 : kidsOf k = (l.length : Int) := by
        by_cases h : kidsOf k = (l.length : Int)
        · exact h
        · exact absurd (.inr (.inr (.inl h))) hc
      have h4 : fieldsOk k r c v = true := by
        cases h : fieldsOk k r c v
        · exact absurd (.inr (.inr (.inr h))) hc
        · rfl
      simp only [Ex.wf, Bool.and_eq_true, decide_eq_true_eq]
      exact ⟨⟨h3, h4⟩, Exs.count_wf l ih _ _ h⟩

theorem lookup_ok {rows : List (List Val)} (h : ∀ r ∈ rows, ∀ v ∈ r, v.Ok) (r c : Int) : (lookup rows r c).Ok := by
  unfold lookup
  split
  · rename_i row hrow
    split
    · rename_i v hv
      split
      · exact h row (List.mem_of_getElem? hrow) v (List.mem_of_getElem? hv)
      · exact Val.null_ok
    · exact Val.null_ok
  · exact Val.null_ok
theorem evalHead_ok {rows : List (List Val)} (h : ∀ r ∈ rows, ∀ v ∈ r, v.Ok) (k r c : Int) {v : Val} (hv : v.Ok) {rs : List (Val × Int)} (hrs : ∀ x ∈ rs, x.1.Ok) : (evalHead rows k r c v rs).1.Ok := by
  have h0 : ∀ i, (rs.getD i (Val.null, 0)).1.Ok := fun i => by
    rw [List.getD_eq_getElem?_getD]
    cases he : rs[i]? with
    | none => exact Val.null_ok
    | some x => exact hrs x (List.mem_of_getElem? he)
  unfold evalHead
  repeat (first | exact Val.null_ok | exact lookup_ok h _ _ | exact hv | exact calc_ok (h0 0) | exact test_ok | exact both_ok | exact truth_ok _ | split)
theorem Exs.eval_map (rows : List (List Val)) (l : List Ex) : Exs.eval rows l = l.map (Ex.eval rows) := by
  induction l with
  | nil => simp [Exs.eval]
  | cons e l ih => simp [Exs.eval, ih]
theorem Ex.eval_ok {rows : List (List Val)} (h : ∀ r ∈ rows, ∀ v ∈ r, v.Ok) : ∀ (e : Ex) (w : World) (s : Value), Ex.In w e s → (e.eval rows).1.Ok := by
  intro e
  induction e using Ex.ind with
  | h k r c v l ih =>
    intro w s hin
    simp only [Ex.eval]
    refine evalHead_ok h k r c hin.fields.2.2.2 ?_
    rw [Exs.eval_map]
    intro x hx
    obtain ⟨e, he, rfl⟩ := List.mem_map.1 hx
    obtain ⟨i, hi, rfl⟩ := List.getElem_of_mem he
    obtain ⟨_, A, cap, rfl, _⟩ := hin.kids
    obtain ⟨_, _, s', _, _, _, h2, _⟩ := hin.kids.get i hi
    exact ih _ he w s' h2

/-- expr.eval: a well-formed expression's value over rows, or what it gives up with. -/
theorem eval_of : ∀ (e : Ex) (s : Value) (w : World) (rv : Value) (rows : List (List Val)), Ex.In w e s → RowsIn w rv rows → e.wf = true →
    Calls Try.prog 86 #[.agg (e.cells s).toArray, rv] w (EvR w (e.eval rows)) := by
  intro e
  induction e using Ex.ind with
  | h k r c v l ih =>
    intro s w rv rows hin hrows hwf
    simp only [Ex.wf, Bool.and_eq_true, decide_eq_true_eq] at hwf
    obtain ⟨⟨hk, hf⟩, hl⟩ := hwf
    rw [Exs.wf_iff] at hl
    obtain ⟨_, A, cap, rfl, hkr⟩ := hin.kids
    have hro : ∀ r ∈ rows, ∀ v ∈ r, v.Ok := by
      intro r hr v hv
      obtain ⟨i, hi, rfl⟩ := List.getElem_of_mem hr
      obtain ⟨RA, rc, rfl, _⟩ := hrows.val
      obtain ⟨_, _, _, _, _, _, _, _, _, h8⟩ := hrows.at_ i hi
      exact h8.ok v hv
    show Calls Try.prog 86 #[.agg (exCells k r c v (.slice A l.length cap)).toArray, rv] w (EvR w ((Ex.mk k r c v l).eval rows))
    simp only [Ex.eval, Exs.eval_map]
    have kid : ∀ i (hi : i < l.length), ∃ g o s, A = some ⟨g, o, none⟩ ∧ Hid (∀ w', Ext w w' → At w' g (o + i * 8) (l[i].cells s)) ∧ Hid (∀ w', Ext w w' → Calls Try.prog 86 #[.agg (l[i].cells s).toArray, rv] w' (EvR w' (l[i].eval rows))) ∧ (l[i].eval rows).1.Ok := by
      intro i hi
      obtain ⟨g, o, s, h1, _, h3, h4, h5⟩ := hin.kids.get i hi
      exact ⟨g, o, s, h1, Lib.hid (fun w' he => h3.ext he h5), Lib.hid (fun w' he => ih _ (List.getElem_mem hi) s w' rv rows (Ex.In.ext he _ _ h4) (hrows.ext he) (hl _ (List.getElem_mem hi))), Ex.eval_ok hro _ w s h4⟩
    have hkk : (k = 1 ∨ k = 2) ∧ l = [] ∨ (k = 6 ∨ k = 12 ∨ k = 13) ∧ (∃ a, l = [a]) ∨ (k = 3 ∨ k = 4 ∨ k = 5 ∨ k = 7 ∨ k = 8 ∨ k = 9 ∨ k = 10 ∨ k = 11) ∧ (∃ a b, l = [a, b]) := by
      unfold kidsOf at hk
      split at hk
      · rename_i h; exact .inl ⟨h, List.eq_nil_of_length_eq_zero (by omega)⟩
      · split at hk
        · rename_i h
          refine .inr (.inl ⟨h, ?_⟩)
          match l, (show l.length = 1 by omega) with
          | [a], _ => exact ⟨a, rfl⟩
        · split at hk
          · rename_i h
            refine .inr (.inr ⟨h, ?_⟩)
            match l, (show l.length = 2 by omega) with
            | [a, b], _ => exact ⟨a, b, rfl⟩
          · omega
    clear ih hin hl hk
    rcases hkk with ⟨hk, rfl⟩ | ⟨hk, a, rfl⟩ | ⟨hk, a, b, rfl⟩
    · rcases hk with rfl | rfl
      · have hR : 0 ≤ r ∧ r ≤ 31 ∧ 0 ≤ c ∧ c ≤ 31 := by
          unfold fieldsOk at hf
          split at hf
          · cases hf
          · rename_i h
            simp only [inRel, Bool.and_eq_false_iff, decide_eq_false_iff_not] at h
            omega
        obtain ⟨R, rfl⟩ : ∃ R : Nat, r = (R : Int) := ⟨r.toNat, by omega⟩
        obtain ⟨C, rfl⟩ : ∃ C : Nat, c = (C : Int) := ⟨c.toNat, by omega⟩
        have e1 : evalHead rows 1 (R : Int) (C : Int) v (([] : List Ex).map (Ex.eval rows)) = (lookup rows (R : Int) (C : Int), 0) := by simp [evalHead]
        rw [e1]
        exact (eval_col R C v A cap rv rows w hrows).mono fun ev w' ⟨h1, h2⟩ => ⟨h1, h2⟩
      · have e1 : evalHead rows 2 r c v (([] : List Ex).map (Ex.eval rows)) = (v, 0) := by simp [evalHead]
        rw [e1]
        exact (eval_const r c v A cap rv w).mono fun ev w' ⟨h1, h2⟩ => ⟨h1, h2⟩
    · obtain ⟨g, o, s0, rfl, HAT, HC, hok⟩ := kid 0 (by simp)
      rcases hk with rfl | rfl | rfl
      · exact eval1_6 r c v g o cap rv rows w a s0 (a.eval rows) HAT HC hok
      · exact eval1_12 r c v g o cap rv rows w a s0 (a.eval rows) HAT HC hok
      · exact eval1_13 r c v g o cap rv rows w a s0 (a.eval rows) HAT HC hok
    · obtain ⟨g, o, s0, rfl, HAT, HC, hok⟩ := kid 0 (by simp)
      obtain ⟨g', o', s1, h1, HAT1, HC1, hok1⟩ := kid 1 (by simp)
      simp only [Option.some.injEq, Addr.mk.injEq, and_true] at h1
      obtain ⟨rfl, rfl⟩ := h1
      by_cases hp : (a.eval rows).2 ≠ 0 ∨ (b.eval rows).2 ≠ 0
      · exact eval2_p k r c v g o cap rv rows w a s0 (a.eval rows) b s1 (b.eval rows) HAT HC hok HAT1 HC1 hok1 hp
      · have hz0 : (a.eval rows).2 = 0 := Decidable.not_not.1 fun h => hp (.inl h)
        have hz1 : (b.eval rows).2 = 0 := Decidable.not_not.1 fun h => hp (.inr h)
        rcases hk with rfl | rfl | rfl | rfl | rfl | rfl | rfl | rfl
        · exact eval2_3 r c v g o cap rv rows w a s0 (a.eval rows) b s1 (b.eval rows) HAT HC hok HAT1 HC1 hok1 hz0 hz1
        · exact eval2_4 r c v g o cap rv rows w a s0 (a.eval rows) b s1 (b.eval rows) HAT HC hok HAT1 HC1 hok1 hz0 hz1
        · exact eval2_5 r c v g o cap rv rows w a s0 (a.eval rows) b s1 (b.eval rows) HAT HC hok HAT1 HC1 hok1 hz0 hz1
        · exact eval2_7 r c v g o cap rv rows w a s0 (a.eval rows) b s1 (b.eval rows) HAT HC hok HAT1 HC1 hok1 hz0 hz1
        · exact eval2_8 r c v g o cap rv rows w a s0 (a.eval rows) b s1 (b.eval rows) HAT HC hok HAT1 HC1 hok1 hz0 hz1
        · exact eval2_9 r c v g o cap rv rows w a s0 (a.eval rows) b s1 (b.eval rows) HAT HC hok HAT1 HC1 hok1 hz0 hz1
        · exact eval2_10 r c v g o cap rv rows w a s0 (a.eval rows) b s1 (b.eval rows) HAT HC hok HAT1 HC1 hok1 hz0 hz1
        · exact eval2_11 r c v g o cap rv rows w a s0 (a.eval rows) b s1 (b.eval rows) HAT HC hok HAT1 HC1 hok1 hz0 hz1
end Go.Proofs.Ytlcdjaclahhdnaa
