/- The row of AccessAnds, where what it reads is of bulk at most 1048576: true, whatever the rows and the conditions. -/
import Derived.Test.YtlcdjaclahhdnaaOpenA
import Derived.Test.YtlcdjaclahhdnaaAndsL
import Derived.OpenShut
import Derived.JoinedCond
namespace Go.Proofs.Ytlcdjaclahhdnaa.accessAnds
open Go.RowKit Go.ChangeShapes Go.WideShapes Go.ChangeAt
set_option linter.unusedSimpArgs false
set_option linter.unusedVariables false

theorem one_le {H : Type} (d : DataW H) : 1 ≤ Rows.uptoBulk d := by
  cases d with
  | lit l => cases l <;> simp [Rows.uptoBulk]
  | nil => simp [Rows.uptoBulk]
  | ptr d => simp [Rows.uptoBulk]
  | slice elems spare => simp [Rows.uptoBulk]
  | agg parts => simp [Rows.uptoBulk]
  | iface t d => simp [Rows.uptoBulk]
  | map entries => simp [Rows.uptoBulk]
  | held h => simp [Rows.uptoBulk]
theorem length_le {H : Type} (l : List (DataW H)) : l.length ≤ Rows.uptoBulkAll l := by
  induction l with
  | nil => simp [Rows.uptoBulkAll]
  | cons x r ih => have := one_le x; simp only [Rows.uptoBulkAll, List.length_cons]; omega
theorem slice_le {H : Type} (elems spare : List (DataW H)) : elems.length ≤ Rows.uptoBulk (.slice elems spare) := by
  have h1 := length_le elems
  simp only [Rows.uptoBulk]
  omega

set_option maxRecDepth 100000 in
set_option linter.constructorNameAsVariable false in
/-- Expressions among the arguments: no more than their reading's bulk. -/
theorem open_exsB {H : Type} {enc : TypeId × Value → H} {w : World} {base : Nat} {spare : Nat → Bool} {held : Bool} {r : Reach} {b0 : Nat} {v : Value} {d : DataW H} {p : List MemPlace} (hv : Value.okWide Try.prog w r b0 25 v) (h : DataW.Trod enc Try.prog w base spare held 25 v d p) :
    ∃ l, ExsIn w v l ∧ l.length ≤ Rows.uptoBulk d := by
  obtain ⟨l, hl⟩ := open_exs hv h
  refine ⟨l, hl, ?_⟩
  obtain ⟨oa, n, c, rfl⟩ := okWide_slice Try.underlying25 hv
  obtain ⟨fuel, hf⟩ := h
  obtain ⟨_, A, cap, h6, h7, h8, h9⟩ := hl
  simp only [Value.slice.injEq] at h6
  obtain ⟨rfl, rfl, rfl⟩ := h6
  rcases DataW.trod_slice Try.underlying25 (show DataW.trod enc Try.prog w base spare held fuel 25 [.slice oa l.length c] = _ from by simpa [Value.cells] using hf) with ⟨h1, _⟩ | ⟨a, len, cap, elems, rest, m, h0, h1, hx0, hb, hl, hm, hlen, hall, hx9⟩
  · simp at h1
    rw [h1.2.1]; exact Nat.zero_le _
  · simp only [List.cons.injEq, Value.slice.injEq, and_true] at h1
    have hd : d = .slice (elems.map (·.1)) (rest.map (·.1)) := congrArg Prod.fst hx0
    have := slice_le (elems.map (·.1)) (rest.map (·.1))
    rw [hd]
    rw [List.length_map] at this
    omega
set_option maxRecDepth 100000 in
set_option linter.constructorNameAsVariable false in
/-- Rows among the arguments: no more than their reading's bulk. -/
theorem open_rowsB {H : Type} {enc : TypeId × Value → H} {w : World} {base : Nat} {spare : Nat → Bool} {held : Bool} {r : Reach} {b0 : Nat} {v : Value} {d : DataW H} {p : List MemPlace} (hv : Value.okWide Try.prog w r b0 50 v) (h : DataW.Trod enc Try.prog w base spare held 50 v d p) :
    ∃ rows, RowsIn w v rows ∧ rows.length ≤ Rows.uptoBulk d := by
  obtain ⟨l, hl⟩ := open_rows hv h
  refine ⟨l, hl, ?_⟩
  obtain ⟨oa, n, c, rfl⟩ := okWide_slice Try.underlying50 hv
  obtain ⟨fuel, hf⟩ := h
  obtain ⟨A, cap, h6, h7, h8, h9⟩ := hl.val
  simp only [Value.slice.injEq] at h6
  obtain ⟨rfl, rfl, rfl⟩ := h6
  rcases DataW.trod_slice Try.underlying50 (show DataW.trod enc Try.prog w base spare held fuel 50 [.slice oa l.length c] = _ from by simpa [Value.cells] using hf) with ⟨h1, _⟩ | ⟨a, len, cap, elems, rest, m, h0, h1, hx0, hb, hl, hm, hlen, hall, hx9⟩
  · simp at h1
    rw [h1.2.1]; exact Nat.zero_le _
  · simp only [List.cons.injEq, Value.slice.injEq, and_true] at h1
    have hd : d = .slice (elems.map (·.1)) (rest.map (·.1)) := congrArg Prod.fst hx0
    have := slice_le (elems.map (·.1)) (rest.map (·.1))
    rw [hd]
    rw [List.length_map] at this
    omega

set_option maxRecDepth 100000 in
theorem lifted (os : Os) (started : os.Started) (H : Type) (enc : TypeId × Value → H) (F : Stop.Interp) :
    ReturnsInHanded {} Try.checked os 12 .any ((Rows.OpenSpec.upto Rows.accessAndsSpec).pre6 enc Try.prog Try.f12 Rows.accessAndsUptoRow.domain false) (((Rows.OpenSpec.upto Rows.accessAndsSpec).at F).post enc Try.prog Try.f12 false true false false) := by
  refine returnsInHanded_of_cond (C := Try.checked) (s := Rows.OpenSpec.upto Rows.accessAndsSpec) (k := Rows.uptoSmall) rfl own started (by kernel_rfl) Try.func12
    (OpenSpec.witness (enc := enc) (C := Try.checked) (s := Rows.OpenSpec.upto Rows.accessAndsSpec) (k := Rows.uptoSmall) rfl false ⟨#[], #[.slice none 0 0, .slice none 0 0, .slice none 0 0, .agg #[.int .i64 0, .int .i64 0, .int .i64 0, .int .i64 0, .int .i64 0, .float .f64 0, .string ⟨#[]⟩, .slice none 0 0]], []⟩ 8 (by kernel_rfl) (by kernel_rfl) (by kernel_rfl)
      (x := ([.nil, .nil, .nil, .agg [.lit (.int .i64 0), .lit (.int .i64 0), .lit (.int .i64 0), .agg [.lit (.int .i64 0), .lit (.int .i64 0), .lit (.float .f64 0), .lit (.string [])], .nil]], [], [])) (by kernel_rfl) rfl (by kernel_rfl)) ?_
  intro W base args ds gs before hval0 hW hcnd hk _
  have hval : ∀ (j : Nat) t v, Try.f12.params[j]? = some t → args[j]? = some v → Value.okWide Try.prog W .any base t v := hval0
  have hW' := hW
  obtain ⟨p, q, hA0, hV, rfl, hfz, hnd⟩ := hW
  have hA : DataW.TrodAll enc Try.prog W 0 (fun _ => true) true Try.f12.params.toList args.toList ds p := hA0
  rw [Try.params12] at hA hval
  obtain ⟨v0, v1, v2, v3, d0, d1, d2, d3, p0, p1, p2, p3, rfl, rfl, rfl, h0, h1, h2, h3⟩ := trodAll_four hA
  obtain ⟨rfl, rfl⟩ := trodVars_none hV
  obtain ⟨a, ha, hla⟩ := open_rowsB (hval 0 _ _ rfl rfl) h0
  obtain ⟨b, hb, hlb⟩ := open_rowsB (hval 1 _ _ rfl rfl) h1
  obtain ⟨l, hl, hll⟩ := open_exsB (hval 2 _ _ rfl rfl) h2
  obtain ⟨e, se, rfl, hine⟩ := open_ex (hval 3 _ _ rfl rfl) h3
  have hbk : Rows.uptoBulkAll ([d0, d1, d2, d3] ++ []) ≤ 1048576 := of_decide_eq_true hk
  simp only [List.append_nil, Rows.uptoBulkAll] at hbk
  refine (ands_walk a b v0 v1 l v2 e se W ha hb hl hine (by omega) (by omega) (by omega)).mono fun e W' ⟨he, hE⟩ => ?_
  subst he
  exact ⟨_, rfl, hE.post hW' rfl rfl rfl (by rw [Try.params12]; decide +kernel)⟩

theorem proved : Rows.AccessAndsUptoSaid :=
  OpenClaim.holds_of_cond 12 Try.f12 rfl rfl rfl rfl rfl rfl rfl ⟨rfl, rfl, rfl, rfl, rfl⟩ rfl rfl rfl rfl rfl (by kernel_rfl) Try.func12 (by kernel_rfl)
    (of_decide_eq_true (by kernel_rfl)) (by unfold Func.isWrapper; first | (rw [if_pos (by decide +kernel)]; kernel_rfl) | (rw [if_neg (by decide +kernel)]; exact ⟨rfl, rfl⟩))
    (fun os started H enc _ F => lifted os started H enc F)
end Go.Proofs.Ytlcdjaclahhdnaa.accessAnds
