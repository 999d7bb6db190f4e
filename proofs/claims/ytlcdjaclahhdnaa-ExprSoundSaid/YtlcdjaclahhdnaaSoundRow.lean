/- How tables among the arguments are opened; the row of ExprSound. -/
import Derived.Test.YtlcdjaclahhdnaaOpenX
import Derived.Test.YtlcdjaclahhdnaaSoundW
namespace Go.Proofs.Ytlcdjaclahhdnaa
open Go.RowKit Go.ChangeShapes Go.WideShapes Go.ChangeAt
set_option linter.unusedSimpArgs false
set_option linter.unusedVariables false
section
variable {H : Type} {enc : TypeId × Value → H} {w : World} {base : Nat} {spare : Nat → Bool} {held : Bool}
set_option maxRecDepth 100000 in
set_option linter.constructorNameAsVariable false in
/-- A column's two cells. -/
theorem open_col {fuel : Nat} {cs : List Value} {x : DataW H × List MemPlace} (h : DataW.trod enc Try.prog w base spare held fuel 173 cs = some x) : ∃ (nm : ByteArray) (k : Int), cs = [.string nm, .int .i64 k] := by
  obtain ⟨xs, m, rfl, _, hl, hxs, hf⟩ := DataW.trod_struct Try.underlying173 h
  have hc : Try.prog.cellsOf 173 = 2 := by kernel_rfl
  rw [hc] at hl
  match cs, hl with
  | [c0, c1], _ =>
    have hxs' : xs.length = 2 := hxs
    have e0 : Try.prog.cellsOf 9 = 1 := by kernel_rfl
    have e1 : Try.prog.cellsOf 3 = 1 := by kernel_rfl
    have h0 : DataW.trod enc Try.prog w base spare held m 9 ([c0, c1].take (Try.prog.cellsOf 9)) = xs[0]? := hf 0 _ rfl
    have h1 : DataW.trod enc Try.prog w base spare held m 3 ([c1].take (Try.prog.cellsOf 3)) = xs[1]? := hf 1 _ rfl
    simp only [e0, e1, List.take] at h0 h1
    rw [List.getElem?_eq_getElem (by omega)] at h0 h1
    obtain ⟨s, hs, _, _⟩ := DataW.trod_string Try.underlying9 h0
    obtain ⟨k, hk, _, _⟩ := DataW.trod_int Try.underlying3 h1
    obtain rfl : c0 = .string s := by simpa using hs
    obtain rfl : c1 = .int .i64 k := by simpa using hk
    exact ⟨s, k, rfl⟩
/-- A slice of columns. -/
theorem open_cols {n : Nat} {v : Value} {x : DataW H × List MemPlace} (h : DataW.trod enc Try.prog w base spare held n 134 [v] = some x) : ∃ cols, ColsIn w v cols := by
  have hc : Try.prog.cellsOf 173 = 2 := by kernel_rfl
  rcases DataW.trod_slice Try.underlying134 h with ⟨h1, _⟩ | ⟨a, len, cap, elems, rest, m, rfl, h1, _, hb, hl, hm, hlen, hall, _⟩
  · obtain rfl : v = .slice none 0 0 := by simpa using h1
    exact ⟨[], none, 0, rfl, fun h => absurd rfl h⟩
  · obtain rfl : v = .slice (some a) len cap := by simpa using h1
    rw [hc] at hall
    have hex : ∀ i, i < len → ∃ nk : ByteArray × Int, ∀ j u, [Value.string nk.1, Value.int .i64 nk.2][j]? = some u → w.cell? (a.add (i * 2 + j)) = some u := fun i hi => by
      have h2 := hall i hi
      rw [List.getElem?_eq_getElem (by omega)] at h2
      obtain ⟨cs, h3, h4⟩ := Option.bind_eq_some_iff.1 h2
      obtain ⟨nm, k, rfl⟩ := open_col h4
      refine ⟨(nm, k), fun j u hu => ?_⟩
      rw [← Go.Deep.add_add]
      exact (cells?_get h3).2 j u hu
    have : Inhabited (ByteArray × Int) := ⟨(⟨#[]⟩, 0)⟩
    obtain ⟨f, hF⟩ := Go.Deep.choose_lt hex
    refine ⟨(List.range len).map fun i => (f i).2, some a, cap, by simp, fun hne => ?_⟩
    have hn : 0 < len := by
      rcases Nat.eq_zero_or_pos len with h | h
      · subst h; simp at hne
      · exact h
    have h0 := hF 0 hn 0 _ rfl
    obtain ⟨g, o, rfl⟩ := spot_none h0
    refine ⟨g, o, rfl, ?_, fun i hi => ?_⟩
    · rw [add_at] at h0; exact cell_lt h0
    · have hi' : i < len := by simpa using hi
      refine ⟨(f i).1, At.of_get fun j u hu => ?_⟩
      have := hF i hi' j u (by simpa using hu)
      rwa [add_at, ← Nat.add_assoc] at this
set_option maxRecDepth 100000 in
set_option linter.constructorNameAsVariable false in
/-- Tables among the arguments. -/
theorem open_tabs {r : Reach} {b0 : Nat} {v : Value} {d : DataW H} {p : List MemPlace} (hv : Value.okWide Try.prog w r b0 65 v) (h : DataW.Trod enc Try.prog w base spare held 65 v d p) : ∃ tabs, TabsIn w v tabs := by
  obtain ⟨oa, n0, c0, rfl⟩ := okWide_slice Try.underlying65 hv
  obtain ⟨fuel, hf⟩ := h
  have hf' : DataW.trod enc Try.prog w base spare held fuel 65 [.slice oa n0 c0] = some (d, p) := by simpa [Value.cells] using hf
  have hc : Try.prog.cellsOf 136 = 2 := by kernel_rfl
  have hml := maxLen_le
  rcases DataW.trod_slice Try.underlying65 hf' with ⟨h1, _⟩ | ⟨a, len, cap, elems, rest, m, rfl, h1, _, hb, hl, hm, hlen, hall, _⟩
  · obtain ⟨rfl, rfl, rfl⟩ : oa = none ∧ n0 = 0 ∧ c0 = 0 := by simpa using h1
    exact ⟨[], by simp, none, 0, rfl, fun h => absurd rfl h⟩
  · obtain ⟨rfl, rfl, rfl⟩ : oa = some a ∧ n0 = len ∧ c0 = cap := by simpa using h1
    rw [hc] at hall
    have hex : ∀ i, i < n0 → ∃ t : ByteArray × Value × List Int, ColsIn w t.2.1 t.2.2 ∧ ∀ j u, [Value.string t.1, t.2.1][j]? = some u → w.cell? (a.add (i * 2 + j)) = some u := fun i hi => by
      have h2 := hall i hi
      rw [List.getElem?_eq_getElem (by omega)] at h2
      obtain ⟨cs, h3, h4⟩ := Option.bind_eq_some_iff.1 h2
      obtain ⟨xs, m2, rfl, _, hl2, hxs, hf2⟩ := DataW.trod_struct Try.underlying136 h4
      rw [hc] at hl2
      match cs, hl2 with
      | [c0, c1], _ =>
        have hxs' : xs.length = 2 := hxs
        have e0 : Try.prog.cellsOf 9 = 1 := by kernel_rfl
        have e1 : Try.prog.cellsOf 134 = 1 := by kernel_rfl
        have h5 : DataW.trod enc Try.prog w base spare held m2 9 ([c0, c1].take (Try.prog.cellsOf 9)) = xs[0]? := hf2 0 _ rfl
        have h6 : DataW.trod enc Try.prog w base spare held m2 134 ([c1].take (Try.prog.cellsOf 134)) = xs[1]? := hf2 1 _ rfl
        simp only [e0, e1, List.take] at h5 h6
        rw [List.getElem?_eq_getElem (by omega)] at h5 h6
        obtain ⟨s, hs, _, _⟩ := DataW.trod_string Try.underlying9 h5
        obtain rfl : c0 = .string s := by simpa using hs
        obtain ⟨cols, hcols⟩ := open_cols h6
        refine ⟨(s, c1, cols), hcols, fun j u hu => ?_⟩
        rw [← Go.Deep.add_add]
        exact (cells?_get h3).2 j u hu
    have : Inhabited (ByteArray × Value × List Int) := ⟨(⟨#[]⟩, .slice none 0 0, [])⟩
    obtain ⟨f, hF⟩ := Go.Deep.choose_lt hex
    refine ⟨(List.range n0).map fun i => (f i).2.2, by simp; omega, some a, c0, by simp, fun hne => ?_⟩
    have hn : 0 < n0 := by
      rcases Nat.eq_zero_or_pos n0 with h | h
      · subst h; simp at hne
      · exact h
    have h0 := (hF 0 hn).2 0 _ rfl
    obtain ⟨g, o, rfl⟩ := spot_none h0
    refine ⟨g, o, rfl, ?_, fun i hi => ?_⟩
    · rw [add_at] at h0; exact cell_lt h0
    · have hi' : i < n0 := by simpa using hi
      refine ⟨(f i).1, (f i).2.1, At.of_get fun j u hu => ?_, by simpa using (hF i hi').1⟩
      have := (hF i hi').2 j u hu
      rwa [add_at, ← Nat.add_assoc] at this
end
end Go.Proofs.Ytlcdjaclahhdnaa
namespace Go.Proofs.Ytlcdjaclahhdnaa.exprSound
open Go.RowKit Go.ChangeShapes Go.WideShapes Go.ChangeAt
set_option maxRecDepth 100000 in
theorem lifted (os : Os) (started : os.Started) (H : Type) (enc : TypeId × Value → H) :
    ReturnsInHanded {} Try.checked os 8 .any (Rows.exprSoundSpec.pre6 enc Try.prog Try.f8 Rows.exprSoundRow.domain false) (Rows.exprSoundSpec.post enc Try.prog Try.f8 false true false false) := by
  refine returnsInHanded_of_change (C := Try.checked) own started (by kernel_rfl) Try.func8
    (ChangeSpec.witness6 (enc := enc) (C := Try.checked) false ⟨#[], #[.agg #[.int .i64 0, .int .i64 0, .int .i64 0, .int .i64 0, .int .i64 0, .float .f64 0, .string ⟨#[]⟩, .slice none 0 0], .slice none 0 0, .slice none 0 0], []⟩ 8 (by kernel_rfl) (by kernel_rfl) (by kernel_rfl) (by kernel_rfl)) ?_
  intro W base args ds gs before hval0 hW hcnd _
  have hval : ∀ (j : Nat) t v, Try.f8.params[j]? = some t → args[j]? = some v → Value.okWide Try.prog W .any base t v := hval0
  have hW' := hW
  obtain ⟨p, q, hA0, hV, rfl, hfz, hnd⟩ := hW
  have hA : DataW.TrodAll enc Try.prog W 0 (fun _ => true) true Try.f8.params.toList args.toList ds p := hA0
  rw [Try.params8] at hA hval
  obtain ⟨v0, v1, v2, d0, d1, d2, p0, p1, p2, rfl, rfl, rfl, h0, h1, h2⟩ := trodAll_three hA
  obtain ⟨rfl, rfl⟩ := trodVars_none hV
  obtain ⟨e, se, rfl, hine⟩ := open_ex (hval 0 _ _ rfl rfl) h0
  obtain ⟨tabs, htabs⟩ := open_tabs (hval 1 _ _ rfl rfl) h1
  obtain ⟨rows, hrows⟩ := open_rows (hval 2 _ _ rfl rfl) h2
  refine (sound_walk e se v1 v2 tabs rows W hine htabs hrows).mono fun e W' ⟨he, hE⟩ => ?_
  subst he
  exact ⟨_, rfl, hE.post hW' rfl rfl rfl (by rw [Try.params8]; decide +kernel)⟩

theorem proved : Rows.ExprSoundSaid :=
  OpenClaim.holds_of_wide 8 Try.f8 rfl rfl rfl rfl rfl rfl rfl ⟨rfl, rfl, rfl, rfl, rfl⟩ rfl rfl rfl rfl rfl (by kernel_rfl) Try.func8 (by kernel_rfl)
    (of_decide_eq_true (by kernel_rfl)) (by unfold Func.isWrapper; first | (rw [if_pos (by decide +kernel)]; kernel_rfl) | (rw [if_neg (by decide +kernel)]; exact ⟨rfl, rfl⟩))
    (fun os started H enc _ => lifted os started H enc)
end Go.Proofs.Ytlcdjaclahhdnaa.exprSound
