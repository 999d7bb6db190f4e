/- Lists of values in memory, rows of them. -/
import Derived.Test.YtlcdjaclahhdnaaEx
namespace Go.Proofs.Ytlcdjaclahhdnaa
open Go.RowKit
set_option linter.unusedSimpArgs false
set_option linter.unusedVariables false

def vc (l : List Val) : List Value := l.flatMap Val.cells
theorem vc_length (l : List Val) : (vc l).length = l.length * 4 := by
  induction l with
  | nil => rfl
  | cons v l ih => simp only [vc, List.flatMap_cons, List.length_append, List.length_cons] at *; rw [ih]; simp [Val.cells]; omega
theorem vc_append (l m : List Val) : vc (l ++ m) = vc l ++ vc m := by simp [vc]
theorem vc_one (l : List Val) : ∀ u ∈ vc l, u.oneCell' = true := by
  intro u hu
  simp only [vc, List.mem_flatMap, Val.cells] at hu
  obtain ⟨v, _, hv⟩ := hu
  simp at hv
  rcases hv with rfl | rfl | rfl | rfl <;> rfl
/-- The i-th value's cells. -/
theorem vc_get (l : List Val) (i : Nat) (hi : i < l.length) (j : Nat) (u : Value) (hu : (l[i].cells)[j]? = some u) : (vc l)[i * 4 + j]? = some u := by
  have hj : j < 4 := by
    have := (List.getElem?_eq_some_iff.1 hu).1
    simpa [Val.cells] using this
  induction l generalizing i with
  | nil => simp at hi
  | cons v l ih =>
    have hl : v.cells.length = 4 := rfl
    cases i with
    | zero =>
      simp only [vc, List.flatMap_cons]
      rw [List.getElem?_append_left (by omega)]
      simpa using hu
    | succ i =>
      simp only [vc, List.flatMap_cons]
      rw [List.getElem?_append_right (by omega), show (i + 1) * 4 + j - v.cells.length = i * 4 + j by omega]
      exact ih i (by simpa using hi) (by simpa using hu)
/-- A slice that holds values. -/
structure ValsIn (w : World) (x : Value) (l : List Val) : Prop where
  val : ∃ A c, x = .slice A l.length c ∧ l.length ≤ c ∧ (A = none → c = 0) ∧ (l ≠ [] → ∃ g o, A = some ⟨g, o, none⟩ ∧ At w g o (vc l))
  ok : ∀ v ∈ l, v.Ok
theorem at_lt {w : World} {g o : Nat} {vs : List Value} (h : At w g o vs) (hn : vs ≠ []) : g < w.heap.size := by
  cases vs with
  | nil => exact absurd rfl hn
  | cons v vs =>
    have h1 := h.1
    rcases Nat.lt_or_ge g w.heap.size with hl | hl
    · exact hl
    · simp [World.cell?, Array.getElem?_eq_none hl] at h1
theorem vc_ne {l : List Val} (h : l ≠ []) : vc l ≠ [] := fun e => by
  have := vc_length l
  rw [e] at this
  have h2 : l.length = 0 := by simp at this; omega
  exact h (List.eq_nil_of_length_eq_zero h2)
theorem ValsIn.ext {w w' : World} {x : Value} {l : List Val} (he : Ext w w') (h : ValsIn w x l) : ValsIn w' x l := by
  obtain ⟨⟨A, c, h1, h2, h3, h4⟩, ok⟩ := h
  refine ⟨⟨A, c, h1, h2, h3, fun hn => ?_⟩, ok⟩
  obtain ⟨g, o, h5, h6⟩ := h4 hn
  exact ⟨g, o, h5, h6.ext he (at_lt h6 (vc_ne hn))⟩
/-- The i-th value. -/
theorem ValsIn.at_ {w : World} {A : Option Addr} {n c : Nat} {l : List Val} (h : ValsIn w (.slice A n c) l) (i : Nat) (hi : i < l.length) :
    ∃ g o, A = some ⟨g, o, none⟩ ∧ n = l.length ∧ At w g (o + i * 4) l[i].cells ∧ l[i].Ok ∧ g < w.heap.size := by
  obtain ⟨⟨A', c', h1, h2, h3, h4⟩, ok⟩ := h
  have hn : l ≠ [] := fun e => by subst e; simp at hi
  obtain ⟨g, o, rfl, h6⟩ := h4 hn
  simp only [Value.slice.injEq] at h1
  obtain ⟨rfl, rfl, rfl⟩ := h1
  refine ⟨g, o, rfl, rfl, At.of_get fun j u hu => ?_, ok _ (List.getElem_mem hi), at_lt h6 (vc_ne hn)⟩
  have := h6.get _ u (vc_get l i hi j u hu)
  rwa [Nat.add_assoc]

theorem sizeVal : (Try.prog.info? 24).map (·.size) = some 4 := by kernel_rfl
theorem size_slice59 : (Try.prog.info? 59).map (·.size) = some 1 := by kernel_rfl
/-- A slice of rows. -/
structure RowsIn (w : World) (x : Value) (rows : List (List Val)) : Prop where
  val : ∃ A c, x = .slice A rows.length c ∧ rows.length ≤ c ∧ (A = none → c = 0) ∧ (rows ≠ [] → ∃ g o, A = some ⟨g, o, none⟩ ∧ ∀ i (hi : i < rows.length), ∃ s, w.cell? ⟨g, o + i, none⟩ = some s ∧ ValsIn w s rows[i])
  lens : rows.length ≤ 9223372036854775807 ∧ ∀ r ∈ rows, r.length ≤ 9223372036854775807
theorem cell_lt {w : World} {p : Addr} {u : Value} (h : w.cell? p = some u) : p.block < w.heap.size := by
  rcases Nat.lt_or_ge p.block w.heap.size with hl | hl
  · exact hl
  · simp [World.cell?, Array.getElem?_eq_none hl] at h
theorem RowsIn.ext {w w' : World} {x : Value} {rows : List (List Val)} (he : Ext w w') (h : RowsIn w x rows) : RowsIn w' x rows := by
  obtain ⟨⟨A, c, h1, h2, h3, h4⟩, h5⟩ := h
  refine ⟨⟨A, c, h1, h2, h3, fun hn => ?_⟩, h5⟩
  obtain ⟨g, o, h6, h7⟩ := h4 hn
  refine ⟨g, o, h6, fun i hi => ?_⟩
  obtain ⟨s, h8, h9⟩ := h7 i hi
  exact ⟨s, (he.cell (cell_lt h8)).trans h8, h9.ext he⟩
/-- The i-th row. -/
theorem RowsIn.at_ {w : World} {A : Option Addr} {n c : Nat} {rows : List (List Val)} (h : RowsIn w (.slice A n c) rows) (i : Nat) (hi : i < rows.length) :
    ∃ g o B m cb, A = some ⟨g, o, none⟩ ∧ n = rows.length ∧ m = rows[i].length ∧ w.cell? ⟨g, o + i, none⟩ = some (.slice B m cb) ∧ ValsIn w (.slice B m cb) rows[i] := by
  obtain ⟨⟨A', c', h1, h2, h3, h4⟩, h5⟩ := h
  have hn : rows ≠ [] := fun e => by subst e; simp at hi
  obtain ⟨g, o, rfl, h6⟩ := h4 hn
  simp only [Value.slice.injEq] at h1
  obtain ⟨rfl, rfl, rfl⟩ := h1
  obtain ⟨s, h7, h8⟩ := h6 i hi
  obtain ⟨B, cb, rfl, _⟩ := h8.val
  exact ⟨g, o, B, _, cb, rfl, rfl, rfl, h7, h8⟩
end Go.Proofs.Ytlcdjaclahhdnaa
