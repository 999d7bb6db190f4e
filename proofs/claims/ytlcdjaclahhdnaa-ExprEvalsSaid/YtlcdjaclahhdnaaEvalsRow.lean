/- The row of ExprEvals. -/
import Derived.Test.YtlcdjaclahhdnaaOpenX
import Derived.Test.YtlcdjaclahhdnaaEvalsA
import Derived.SizedLaws
namespace Go.Proofs.Ytlcdjaclahhdnaa.exprEvals
open Go.RowKit Go.ChangeShapes Go.WideShapes Go.ChangeAt
set_option linter.unusedSimpArgs false
set_option linter.unusedVariables false

set_option maxRecDepth 100000 in
set_option linter.constructorNameAsVariable false in
/-- Expressions among the arguments, and how many at most. -/
theorem open_exsN {H : Type} {enc : TypeId × Value → H} {w : World} {base : Nat} {spare : Nat → Bool} {held : Bool} {r : Reach} {b0 : Nat} {v : Value} {d : DataW H} {p : List MemPlace} (hv : Value.okWide Try.prog w r b0 25 v) (h : DataW.Trod enc Try.prog w base spare held 25 v d p) :
    ∃ l, ExsIn w v l ∧ ((∃ elems rest, d = .slice elems rest ∧ elems.length = l.length) ∨ l = []) := by
  obtain ⟨l, hl⟩ := open_exs hv h
  refine ⟨l, hl, ?_⟩
  obtain ⟨oa, n, c, rfl⟩ := okWide_slice Try.underlying25 hv
  obtain ⟨fuel, hf⟩ := h
  obtain ⟨_, A, cap, h6, h7, h8, h9⟩ := hl
  simp only [Value.slice.injEq] at h6
  obtain ⟨rfl, rfl, rfl⟩ := h6
  rcases DataW.trod_slice Try.underlying25 (show DataW.trod enc Try.prog w base spare held fuel 25 [.slice oa l.length c] = _ from by simpa [Value.cells] using hf) with ⟨h1, _⟩ | ⟨a, len, cap, elems, rest, m, h0, h1, hx0, hb, hl, hm, hlen, hall, hx9⟩
  · right
    simp at h1
    exact h1.2.1
  · left
    simp only [List.cons.injEq, Value.slice.injEq, and_true] at h1
    have hd : d = .slice (elems.map (·.1)) (rest.map (·.1)) := by first | exact congrArg Prod.fst hx0 | exact congrArg Prod.fst hx9 | exact congrArg Prod.fst hx9.1 | exact congrArg Prod.fst hx9.2
    exact ⟨_, _, hd, by rw [List.length_map]; omega⟩

set_option maxRecDepth 100000 in
theorem lifted (os : Os) (started : os.Started) (H : Type) (enc : TypeId × Value → H) :
    ReturnsInHanded {} Try.checked os 6 .any (Rows.exprEvalsSpec.pre6 enc Try.prog Try.f6 Rows.exprEvalsRow.domain false) (Rows.exprEvalsSpec.post enc Try.prog Try.f6 false true false false) := by
  refine returnsInHanded_of_change_sized (C := Try.checked) own started (by kernel_rfl) Try.func6
    (ChangeSpec.witness6 (enc := enc) (C := Try.checked) false ⟨#[], #[.agg #[.int .i64 0, .int .i64 0, .int .i64 0, .int .i64 0, .int .i64 0, .float .f64 0, .string ⟨#[]⟩, .slice none 0 0], .slice none 0 0, .slice none 0 0], []⟩ 8 (by kernel_rfl) (by kernel_rfl) (by kernel_rfl) (by kernel_rfl)) ?_
  intro W base args ds gs before hval0 hW hcnd hsz _
  have hval : ∀ (j : Nat) t v, Try.f6.params[j]? = some t → args[j]? = some v → Value.okWide Try.prog W .any base t v := hval0
  have hW' := hW
  obtain ⟨p, q, hA0, hV, rfl, hfz, hnd⟩ := hW
  have hA : DataW.TrodAll enc Try.prog W 0 (fun _ => true) true Try.f6.params.toList args.toList ds p := hA0
  rw [Try.params6] at hA hval hsz
  obtain ⟨v0, v1, v2, d0, d1, d2, p0, p1, p2, rfl, rfl, rfl, h0, h1, h2⟩ := trodAll_three hA
  obtain ⟨rfl, rfl⟩ := trodVars_none hV
  obtain ⟨e, se, rfl, hine⟩ := open_ex (hval 0 _ _ rfl rfl) h0
  obtain ⟨l, hl, hn⟩ := open_exsN (hval 1 _ _ rfl rfl) h1
  obtain ⟨rows, hrows⟩ := open_rows (hval 2 _ _ rfl rfl) h2
  have hle : (1 + l.length) * 88 ≤ 140737488355328 := by
    rcases hn with ⟨elems, rest, rfl, hlen⟩ | rfl
    · have hz := sized_slice hsz (j := 1) rfl rfl Try.underlying25
      have hby : Try.checked.prog.bytesOf 27 = 88 := by kernel_rfl
      rw [hby] at hz
      have : reachBytes = 140737488351232 := by decide
      omega
    · simp
  refine (evals_walk e se v1 v2 l rows W hine hl hle hrows).mono fun e W' ⟨he, hE⟩ => ?_
  subst he
  exact ⟨_, rfl, hE.post hW' rfl rfl rfl (by rw [Try.params6]; decide +kernel)⟩

theorem proved : Rows.ExprEvalsSaid :=
  OpenClaim.holds_of_wide 6 Try.f6 rfl rfl rfl rfl rfl rfl rfl ⟨rfl, rfl, rfl, rfl, rfl⟩ rfl rfl rfl rfl rfl (by kernel_rfl) Try.func6 (by kernel_rfl)
    (of_decide_eq_true (by kernel_rfl)) (by unfold Func.isWrapper; first | (rw [if_pos (by decide +kernel)]; kernel_rfl) | (rw [if_neg (by decide +kernel)]; exact ⟨rfl, rfl⟩))
    (fun os started H enc _ => lifted os started H enc)
end Go.Proofs.Ytlcdjaclahhdnaa.exprEvals
