/- How the arguments of the laws of layer 17 are opened: slices of values and of numbers, rows of bytes; the table that their rows list. -/
import Derived.Test.YtlcdjaclahhdnaaDoorRows
import Derived.Test.YtlcdjaclahhdnaaDoorHll12
import Derived.Test.YtlcdjaclahhdnaaDoorRowkit
import Derived.Deep.Slices
import Derived.Deep.DeepHandedRow
import Derived.Lib.LaidTab
namespace Go.Proofs.YtlcdjaclahhdnaaDoor
open Go.RowKit Go.ChangeShapes Go.WideShapes Go.ChangeAt
set_option linter.unusedSimpArgs false
set_option linter.unusedVariables false

section
variable {H : Type} {enc : TypeId × Value → H}
set_option maxRecDepth 100000 in
set_option linter.constructorNameAsVariable false in
/-- A value's four cells. -/
theorem open_cells {w : World} {base : Nat} {spare : Nat → Bool} {held : Bool} {fuel : Nat} {cs : List Value} {x : DataW H × List MemPlace}
    (h : DataW.trod enc Tryd.prog w base spare held fuel 27 cs = some x) : ∃ a : Val, a.Ok ∧ cs = a.cells := by
  obtain ⟨y0, y1, y2, y3, n, hx, hl, h0, h1, h2, h3⟩ := Go.Joins.trod_struct4 Tryd.underlying27 h
  have hc : Tryd.prog.cellsOf 27 = 4 := by kernel_rfl
  rw [hc] at hl
  match cs, hl with
  | [v0, v1, v2, v3], _ =>
    have e0 : Tryd.prog.cellsOf 3 = 1 := by kernel_rfl
    have e1 : Tryd.prog.cellsOf 2 = 1 := by kernel_rfl
    have e2 : Tryd.prog.cellsOf 25 = 1 := by kernel_rfl
    have e3 : Tryd.prog.cellsOf 9 = 1 := by kernel_rfl
    simp only [e0, e1, e2, e3, List.drop, List.take] at h0 h1 h2 h3
    obtain ⟨k, hk, hy0, wk⟩ := DataW.trod_int Tryd.underlying3 h0
    obtain ⟨i, hi, hy1, wi⟩ := DataW.trod_int Tryd.underlying2 h1
    obtain ⟨s, hs, hy3, ws⟩ := DataW.trod_string Tryd.underlying9 h3
    have hf : ∃ b, v2 = .float .f64 b ∧ (Lit.float .f64 b).wf = true := by
      cases n with
      | zero => simp [DataW.trod] at h2
      | succ n =>
        unfold DataW.trod at h2
        rw [Tryd.underlying25] at h2
        split at h2 <;> simp_all
    obtain ⟨b, rfl, wf⟩ := hf
    obtain rfl : v0 = .int .i64 k := by simpa using hk
    obtain rfl : v1 = .int .i64 i := by simpa using hi
    obtain rfl : v3 = .string s := by simpa using hs
    refine ⟨⟨k, i, b, s⟩, ⟨?_, ?_, ?_, ?_⟩, rfl⟩
    · simpa [Lit.wf, IntKind.min, IntKind.max, IntKind.signed, IntKind.bits] using wk
    · simpa [Lit.wf, IntKind.min, IntKind.max, IntKind.signed, IntKind.bits] using wi
    · simpa [Lit.wf] using wf
    · have : maxLen ≤ 9223372036854775807 := by decide
      exact Nat.le_trans ws this
theorem cells?_get {w : World} {base n : Nat} {a : Addr} {cs : List Value} (h : w.cells? base a n = some cs) : cs.length = n ∧ ∀ j u, cs[j]? = some u → w.cell? (a.add j) = some u := by
  obtain ⟨_, hl, hc⟩ := World.cells?_some h
  exact ⟨hl, fun j u hu => by
    have := hc j (by rw [← hl]; exact (List.getElem?_eq_some_iff.1 hu).1)
    rw [hu] at this; exact this⟩
theorem spot_none {w : World} {a : Addr} {u : Value} (h : w.cell? (a.add 0) = some u) : ∃ g o, a = ⟨g, o, none⟩ := by
  obtain ⟨g, o, s⟩ := a
  cases s with
  | none => exact ⟨g, o, rfl⟩
  | some x =>
    exfalso
    unfold World.cell? Addr.add at h
    simp at h
    split at h <;> simp_all
/-- A slice of values among the arguments. -/
theorem open_vals {r : Reach} {b0 : Nat} {w : World} {v : Value} {d : DataW H} {p : List MemPlace}
    (hv : Value.okWide Tryd.prog w r b0 22 v) (h : DataW.Trod enc Tryd.prog w 0 (fun _ => true) true 22 v d p) : ∃ l : List Val, ValsIn w v l := by
  obtain ⟨oa, n, c, rfl⟩ := okWide_slice Tryd.underlying22 hv
  obtain ⟨fuel, hf⟩ := h
  have hc : Tryd.prog.cellsOf 27 = 4 := by kernel_rfl
  rcases Go.Deep.open_slice Tryd.underlying22 hf with ⟨h1, _⟩ | ⟨a, len, cap, m, k, D, Pl, h1, hb, hl, hm, hmm, hx, hall⟩
  · obtain ⟨rfl, rfl, rfl⟩ : oa = none ∧ n = 0 ∧ c = 0 := by simpa [Value.cells] using h1
    exact ⟨[], ⟨none, 0, rfl, Nat.le_refl _, fun _ => rfl, fun h => absurd rfl h⟩, by simp⟩
  · obtain ⟨rfl, rfl, rfl⟩ : oa = some a ∧ n = len ∧ c = cap := by simpa [Value.cells] using h1
    simp only [if_true] at hmm
    rw [hc] at hall
    have hex : ∀ i, i < n → ∃ u : Val, u.Ok ∧ ∀ j x, u.cells[j]? = some x → w.cell? (a.add (i * 4 + j)) = some x := fun i hi => by
      obtain ⟨cs, h2, h3⟩ := hall i (by omega)
      obtain ⟨u, hu, rfl⟩ := open_cells h3
      refine ⟨u, hu, fun j x hx => ?_⟩
      rw [← Go.Deep.add_add]
      exact (cells?_get h2).2 j x hx
    have : Inhabited Val := ⟨Val.null⟩
    obtain ⟨f, hF⟩ := Go.Deep.choose_lt hex
    refine ⟨(List.range n).map f, ⟨some a, c, by simp, by simp; omega, (fun h => by cases h), fun hne => ?_⟩, fun v hv => ?_⟩
    · have hn : 0 < n := by
        rcases Nat.eq_zero_or_pos n with h | h
        · subst h; simp at hne
        · exact h
      obtain ⟨g, o, rfl⟩ := spot_none ((hF 0 hn).2 0 _ rfl)
      refine ⟨g, o, rfl, At.of_get fun j x hx => ?_⟩
      have hj : j < (vc ((List.range n).map f)).length := (List.getElem?_eq_some_iff.1 hx).1
      rw [vc_length] at hj
      simp only [List.length_map, List.length_range] at hj
      have hi : j / 4 < n := by omega
      have hcell : ((((List.range n).map f)[j / 4]'(by simpa using hi)).cells)[j % 4]? = some x := by
        have h4 : j % 4 < 4 := Nat.mod_lt _ (by decide)
        obtain ⟨u, hu⟩ : ∃ u, ((((List.range n).map f)[j / 4]'(by simpa using hi)).cells)[j % 4]? = some u := by
          refine ⟨_, List.getElem?_eq_getElem ?_⟩
          simpa [Val.cells] using h4
        have := vc_get _ _ (by simpa using hi) _ _ hu
        rw [show j / 4 * 4 + j % 4 = j by omega, hx] at this
        rw [hu]; exact this.symm
      have := (hF (j / 4) hi).2 (j % 4) x (by simpa using hcell)
      rw [add_at, show j / 4 * 4 + j % 4 = j by omega] at this
      exact this
    · obtain ⟨i, hi, rfl⟩ := List.mem_map.1 hv
      exact (hF i (List.mem_range.1 hi)).1
/-- A slice of numbers among the arguments. -/
theorem open_nums {r : Reach} {b0 : Nat} {w : World} {v : Value} {d : DataW H} {p : List MemPlace}
    (hv : Value.okWide Tryd.prog w r b0 23 v) (h : DataW.Trod enc Tryd.prog w 0 (fun _ => true) true 23 v d p) : ∃ n, IntsIn w v n := by
  obtain ⟨oa, n, c, rfl⟩ := okWide_slice Tryd.underlying23 hv
  obtain ⟨fuel, hf⟩ := h
  rcases open_ints Tryd.underlying23 Tryd.underlying3 (by kernel_rfl) hf with ⟨h1, _⟩ | ⟨a, len, cap, zs, h1, hb, hl, hm, hz, hx, hcell, hwf⟩
  · obtain ⟨rfl, rfl, rfl⟩ : oa = none ∧ n = 0 ∧ c = 0 := by simpa [Value.cells] using h1
    exact ⟨0, ⟨none, 0, rfl, Nat.le_refl _, fun h => absurd h (by omega)⟩⟩
  · obtain ⟨rfl, rfl, rfl⟩ : oa = some a ∧ n = len ∧ c = cap := by simpa [Value.cells] using h1
    simp only [if_true] at hz
    refine ⟨n, ⟨some a, c, rfl, hl, fun hn => ?_⟩⟩
    obtain ⟨g, o, rfl⟩ := spot_none (hcell 0 (by omega))
    refine ⟨g, o, rfl, ?_, fun i hi => ⟨zs.getD i 0, ?_⟩⟩
    · have h0 := hcell 0 (by omega)
      rcases Nat.lt_or_ge g w.heap.size with hl | hl
      · exact hl
      · rw [add_at] at h0; simp [World.cell?, Array.getElem?_eq_none hl] at h0
    · have := hcell i (by omega)
      rwa [add_at] at this
end

def fewZ : List Int := [0, 266, 222, 196, 177, 163, 151, 142, 133, 126, 119, 113, 107, 102, 97, 93, 89, 85, 81, 78, 74, 71, 68, 65, 63, 60, 58, 55, 53, 51, 48, 46, 44, 42, 40, 39, 37, 35, 33, 32, 30, 28, 27, 25, 24, 23, 21, 20, 18, 17, 16, 15, 13, 12, 11, 10, 9, 7, 6, 5, 4, 3, 2, 1, 0]
theorem gFew : Tryd.prog.globalNamed "tabulary/hll.few" = some 0 := by kernel_rfl
theorem gFewType : (Tryd.prog.globals[0]?).map (·.type) = some 59 := by kernel_rfl
theorem fewCells : Tryd.prog.cellsOf 59 = 65 := by kernel_rfl
theorem u16Cells : Tryd.prog.cellsOf 58 = 1 := by kernel_rfl
theorem few_met {W : World} (h : laidMetH Tryd.prog [("tabulary/hll.few", Rows.laid_tabulary_hll_few)] W) : W.cell? ⟨0, 63, none⟩ = some (.int .u16 1) ∧ 0 < W.heap.size := by
  have ht : Lib.TabIs Tryd.prog W "tabulary/hll.few" .u16 fewZ := Lib.tabIs_of_head (rest := []) gFew gFewType Tryd.underlying59 Tryd.underlying58 u16Cells fewCells h
  have hc := ht.cell gFew 63 (by decide)
  refine ⟨hc, ?_⟩
  rcases Nat.lt_or_ge 0 W.heap.size with hl | hl
  · exact hl
  · simp [World.cell?, Array.getElem?_eq_none hl] at hc
/-- A world in which the table holds what its initialiser lays. -/
noncomputable def laidWorld (os : Os) : World :=
  { World.holding Tryd.prog os ⟨#[], #[], []⟩ with heap := (World.holding Tryd.prog os ⟨#[], #[], []⟩).heap.modify 0 fun
      | .cells _ t frozen => .cells (fewZ.map (Value.int .u16)).toArray t frozen
      | o => o }
end Go.Proofs.YtlcdjaclahhdnaaDoor
