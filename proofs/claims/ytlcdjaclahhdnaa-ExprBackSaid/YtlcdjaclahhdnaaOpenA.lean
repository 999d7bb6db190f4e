/- What all rows share: a walk that ends in 'true' over an old world that has not turned meets the law's 'post'; how a value among the arguments is opened. How the arguments of the laws of layers 22 and 26 are opened: expressions, lists of them, rows of values. -/
import Derived.Test.YtlcdjaclahhdnaaPutV
import Derived.ProofKit
import Derived.OpenShut
import Derived.Carry
import Derived.Lib.SmallJoins
import Derived.Laws.Cover2
import Derived.Test.YtlcdjaclahhdnaaRows
import Derived.Test.YtlcdjaclahhdnaaEx
import Derived.Test.YtlcdjaclahhdnaaVals
import Derived.Test.YtlcdjaclahhdnaaW22
import Derived.Deep.Slices
import Derived.Deep.DeepHandedRow
namespace Go.Proofs.Ytlcdjaclahhdnaa
open Go.RowKit Go.ChangeShapes Go.WideShapes Go.ChangeAt
set_option linter.unusedSimpArgs false
set_option linter.unusedVariables false

theorem laidOut : laidOutB Try.prog = true := by kernel_rfl
theorem own : ownKnob Try.prog.godebug = none := by kernel_rfl

section
variable {H : Type} {enc : TypeId × Value → H}

theorem Ext.trodAll {W W' : World} (hE : Ext W W') : ∀ {ts : List TypeId} {vs : List Value} {ds : List (DataW H)} {ps : List MemPlace},
    (∀ t ∈ ts, Try.prog.readableRec t = true ∧ t < Try.prog.types.size) → (∀ x ∈ ps, x.block < W.heap.size) →
    DataW.TrodAll enc Try.prog W 0 (fun _ => true) true ts vs ds ps → DataW.TrodAll enc Try.prog W' 0 (fun b => decide (b < W.heap.size)) true ts vs ds ps
  | [], _, _, _, _, _, h => by
    obtain ⟨rfl, rfl, rfl⟩ := trodAll_nil h
    exact trodAll_mk0
  | t :: ts, _, _, _, ht, hlt, h => by
    obtain ⟨v, vs1, d, ds1, a, b, rfl, rfl, rfl, h1, h2⟩ := trodAll_cons h
    obtain ⟨r1, r2⟩ := ht t (by simp)
    exact ⟨a, b, Below.trod laidOut r1 r2 h1 hE (fun x hx => hlt x (by simp [hx])), Ext.trodAll hE (fun t ht' => ht t (by simp [ht'])) (fun x hx => hlt x (by simp [hx])) h2, rfl⟩

/-- THE END OF EVERY ROW. -/
theorem Ext.post {f : Func} {s : ChangeSpec} {W W' : World} {args : Array Value} {ds gs : List (DataW H)} {before : List MemPlace} (hE : Ext W W')
    (hW : DataW.Whole enc Try.prog f.params.toList s.vars false W args.toList ds gs before)
    (hv : s.vars = []) (hr : f.resultTypes = #[4])
    (hs : s.fn H (ds ++ gs) = { results := [.lit (.bool true)], args := ds })
    (ht : ∀ t ∈ f.params.toList, Try.prog.readableRec t = true ∧ t < Try.prog.types.size) :
    s.post enc Try.prog f false true false false W args (.bool true) W' := by
  have hlt := hW.lt
  have hW' := hW
  obtain ⟨p, q, hA, hV, rfl, hfz, hnd⟩ := hW
  rw [hv] at hV
  obtain ⟨rfl, rfl⟩ := trodVars_none hV
  refine ⟨ds, [], p ++ [], [], p, [], hW', ?_, ?_, ?_, Below.frame hE _, fun h => by cases h⟩
  · rw [hr, hs]
    exact trodAll_mk1 (shut_bool Try.underlying4 _)
  · rw [hs]
    exact hE.trodAll ht (fun x hx => hlt x (by simp [hx])) hA
  · rw [hs, hv]
    rfl

set_option maxRecDepth 100000 in
set_option linter.constructorNameAsVariable false in
theorem open_val {r : Reach} {b0 : Nat} {w : World} {base : Nat} {spare : Nat → Bool} {held : Bool} {v : Value} {d : DataW H} {p : List MemPlace}
    (hv : Value.okWide Try.prog w r b0 24 v) (h : DataW.Trod enc Try.prog w base spare held 24 v d p) :
    ∃ a : Val, a.Ok ∧ v = .agg #[.int .i64 a.kind, .int .i64 a.int, .float .f64 a.flt, .string a.text] ∧ p = [] ∧
      d = .agg [.lit (.int .i64 a.kind), .lit (.int .i64 a.int), .lit (.float .f64 a.flt), .lit (.string a.text.data.toList)] := by
  obtain ⟨v0, v1, v2, v3, y0, y1, y2, y3, n, rfl, rfl, rfl, h0, h1, h2, h3⟩ := Go.Joins.open_agg4 Try.underlying24 (by kernel_rfl) (by kernel_rfl) hv h
  obtain ⟨k, hk, hy0, wk⟩ := DataW.trod_int Try.underlying3 h0
  obtain ⟨i, hi, hy1, wi⟩ := DataW.trod_int Try.underlying2 h1
  obtain ⟨s, hs, hy3, ws⟩ := DataW.trod_string Try.underlying9 h3
  have hf : ∃ b, v2 = .float .f64 b ∧ y2 = (.lit (.float .f64 b), []) ∧ (Lit.float .f64 b).wf = true := by
    cases n with
    | zero => simp [DataW.trod] at h2
    | succ n =>
      unfold DataW.trod at h2
      rw [Try.underlying22] at h2
      split at h2 <;> simp_all
  obtain ⟨b, rfl, rfl, wf⟩ := hf
  obtain rfl : v0 = .int .i64 k := by simpa using hk
  obtain rfl : v1 = .int .i64 i := by simpa using hi
  obtain rfl : v3 = .string s := by simpa using hs
  subst hy0 hy1 hy3
  refine ⟨⟨k, i, b, s⟩, ⟨?_, ?_, ?_, ?_⟩, rfl, rfl, rfl⟩
  · simpa [Lit.wf, IntKind.min, IntKind.max, IntKind.signed, IntKind.bits] using wk
  · simpa [Lit.wf, IntKind.min, IntKind.max, IntKind.signed, IntKind.bits] using wi
  · simpa [Lit.wf] using wf
  · have : maxLen ≤ 9223372036854775807 := by decide
    exact Nat.le_trans ws this
end
end Go.Proofs.Ytlcdjaclahhdnaa
namespace Go.Proofs.Ytlcdjaclahhdnaa
open Go.RowKit Go.ChangeShapes Go.WideShapes Go.ChangeAt
set_option linter.unusedSimpArgs false
set_option linter.unusedVariables false

theorem Exs.At.of_get {w : World} {g : Nat} : ∀ {l : List Ex} {o : Nat}, (∀ (i : Nat) (hi : i < l.length), ∃ s, Go.Proofs.Ytlcdjaclahhdnaa.At w g (o + i * 8) (l[i].cells s) ∧ Ex.In w l[i] s) → Exs.At w g o l
  | [], _, _ => by simp [Exs.At]
  | e :: l, o, h => by
    simp only [Exs.At]
    refine ⟨by have := h 0 (by simp); rw [Nat.zero_mul, Nat.add_zero] at this; exact this, Exs.At.of_get fun i hi => ?_⟩
    have := h (i + 1) (by simpa using hi)
    rw [show o + 8 + i * 8 = o + (i + 1) * 8 by omega]
    simpa using this
theorem cells?_get {w : World} {base n : Nat} {a : Addr} {cs : List Value} (h : w.cells? base a n = some cs) : cs.length = n ∧ ∀ j u, cs[j]? = some u → w.cell? (a.add j) = some u := by
  obtain ⟨_, hl, hc⟩ := World.cells?_some h
  exact ⟨hl, fun j u hu => by
    have := hc j (by rw [← hl]; exact (List.getElem?_eq_some_iff.1 hu).1)
    rw [hu] at this; exact this⟩
theorem spot_none {w : World} {a : Addr} {u : Value} (h : w.cell? (a.add 0) = some u) : ∃ g o, a = ⟨g, o, none⟩ := by
  obtain ⟨g, o, s⟩ := a
  cases s with
  | none => exact ⟨g, o, rfl⟩
  | some x =>
    exfalso
    unfold World.cell? Addr.add at h
    simp at h
    split at h <;> simp_all

section
variable {H : Type} {enc : TypeId × Value → H} {w : World} {base : Nat} {spare : Nat → Bool} {held : Bool}
set_option maxRecDepth 100000 in
set_option linter.constructorNameAsVariable false in
/-- A value's four cells. -/
theorem open_cells {fuel : Nat} {cs : List Value} {x : DataW H × List MemPlace}
    (h : DataW.trod enc Try.prog w base spare held fuel 24 cs = some x) : ∃ a : Val, a.Ok ∧ cs = a.cells := by
  obtain ⟨y0, y1, y2, y3, n, hx, hl, h0, h1, h2, h3⟩ := Go.Joins.trod_struct4 Try.underlying24 h
  have hc : Try.prog.cellsOf 24 = 4 := by kernel_rfl
  rw [hc] at hl
  match cs, hl with
  | [v0, v1, v2, v3], _ =>
    have e0 : Try.prog.cellsOf 3 = 1 := by kernel_rfl
    have e1 : Try.prog.cellsOf 2 = 1 := by kernel_rfl
    have e2 : Try.prog.cellsOf 22 = 1 := by kernel_rfl
    have e3 : Try.prog.cellsOf 9 = 1 := by kernel_rfl
    simp only [e0, e1, e2, e3, List.drop, List.take] at h0 h1 h2 h3
    obtain ⟨k, hk, hy0, wk⟩ := DataW.trod_int Try.underlying3 h0
    obtain ⟨i, hi, hy1, wi⟩ := DataW.trod_int Try.underlying2 h1
    obtain ⟨s, hs, hy3, ws⟩ := DataW.trod_string Try.underlying9 h3
    have hf : ∃ b, v2 = .float .f64 b ∧ (Lit.float .f64 b).wf = true := by
      cases n with
      | zero => simp [DataW.trod] at h2
      | succ n =>
        unfold DataW.trod at h2
        rw [Try.underlying22] at h2
        split at h2 <;> simp_all
    obtain ⟨b, rfl, wf⟩ := hf
    obtain rfl : v0 = .int .i64 k := by simpa using hk
    obtain rfl : v1 = .int .i64 i := by simpa using hi
    obtain rfl : v3 = .string s := by simpa using hs
    refine ⟨⟨k, i, b, s⟩, ⟨?_, ?_, ?_, ?_⟩, rfl⟩
    · simpa [Lit.wf, IntKind.min, IntKind.max, IntKind.signed, IntKind.bits] using wk
    · simpa [Lit.wf, IntKind.min, IntKind.max, IntKind.signed, IntKind.bits] using wi
    · simpa [Lit.wf] using wf
    · have : maxLen ≤ 9223372036854775807 := by decide
      exact Nat.le_trans ws this
theorem list8 {α : Type} {cs : List α} (h : cs.length = 8) : ∃ c0 c1 c2 c3 c4 c5 c6 c7, cs = [c0, c1, c2, c3, c4, c5, c6, c7] := by
  match cs, h with
  | [c0, c1, c2, c3, c4, c5, c6, c7], _ => exact ⟨c0, c1, c2, c3, c4, c5, c6, c7, rfl⟩
theorem maxLen_le : maxLen ≤ 9223372036854775807 := by decide
theorem wf_i64 {k : Int} (h : (Lit.int .i64 k).wf = true) : I64 k := by
  unfold I64
  simpa [Lit.wf, IntKind.min, IntKind.max, IntKind.signed, IntKind.bits] using h
/-- A slice of expressions, opened, where each of its elements is. -/
theorem open_exsG {n : Nat} (ih : ∀ m, m < n → ∀ (cs : List Value) (x : DataW H × List MemPlace), DataW.trod enc Try.prog w base spare held m 27 cs = some x → ∃ e s, Ex.In w e s ∧ cs = e.cells s)
    {v : Value} {x : DataW H × List MemPlace} (h : DataW.trod enc Try.prog w base spare held n 25 [v] = some x) : ∃ l, ExsIn w v l := by
  have hc : Try.prog.cellsOf 27 = 8 := by kernel_rfl
  rcases DataW.trod_slice Try.underlying25 h with ⟨h1, _⟩ | ⟨a, len, cap, elems, rest, m, rfl, h1, _, hb, hl, hm, hlen, hall, _⟩
  · obtain rfl : v = .slice none 0 0 := by simpa using h1
    exact ⟨[], by simp, none, 0, rfl, Nat.le_refl _, fun _ => rfl, fun h => absurd rfl h⟩
  · obtain rfl : v = .slice (some a) len cap := by simpa using h1
    rw [hc] at hall
    have hex : ∀ i, i < len → ∃ es : Ex × Value, Ex.In w es.1 es.2 ∧ ∀ j u, (es.1.cells es.2)[j]? = some u → w.cell? (a.add (i * 8 + j)) = some u := fun i hi => by
      have h2 := hall i hi
      rw [List.getElem?_eq_getElem (by omega)] at h2
      obtain ⟨cs, h3, h4⟩ := Option.bind_eq_some_iff.1 h2
      obtain ⟨e, s, h5, rfl⟩ := ih m (by omega) _ _ h4
      refine ⟨(e, s), h5, fun j u hu => ?_⟩
      rw [← Go.Deep.add_add]
      exact (cells?_get h3).2 j u hu
    have : Inhabited (Ex × Value) := ⟨(.mk 0 0 0 Val.null [], .slice none 0 0)⟩
    obtain ⟨f, hF⟩ := Go.Deep.choose_lt hex
    have hml := maxLen_le
    refine ⟨(List.range len).map fun i => (f i).1, by simp; omega, some a, cap, by simp, by simpa using hl, (fun h => by cases h), fun hne => ?_⟩
    have hn : 0 < len := by
      rcases Nat.eq_zero_or_pos len with h | h
      · subst h; simp at hne
      · exact h
    obtain ⟨g, o, rfl⟩ := spot_none ((hF 0 hn).2 0 _ rfl)
    refine ⟨g, o, rfl, Exs.At.of_get fun i hi => ?_⟩
    have hi' : i < len := by simpa using hi
    refine ⟨(f i).2, At.of_get fun j u hu => ?_, by simpa using (hF i hi').1⟩
    have := (hF i hi').2 j u (by simpa using hu)
    rwa [add_at, ← Nat.add_assoc] at this
set_option maxRecDepth 100000 in
/-- An expression's eight cells. -/
theorem open_exF : ∀ (n : Nat) (cs : List Value) (x : DataW H × List MemPlace), DataW.trod enc Try.prog w base spare held n 27 cs = some x → ∃ e s, Ex.In w e s ∧ cs = e.cells s := by
  intro n
  induction n using Nat.strongRecOn with
  | _ n ih =>
    intro cs x h
    obtain ⟨xs, m, rfl, _, hl, hxs, hf⟩ := DataW.trod_struct Try.underlying27 h
    have hc : Try.prog.cellsOf 27 = 8 := by kernel_rfl
    rw [hc] at hl
    obtain ⟨c0, c1, c2, c3, c4, c5, c6, c7, rfl⟩ := list8 hl
    have hxs' : xs.length = 5 := hxs
    have e0 : Try.prog.cellsOf 3 = 1 := by kernel_rfl
    have e1 : Try.prog.cellsOf 24 = 4 := by kernel_rfl
    have e2 : Try.prog.cellsOf 25 = 1 := by kernel_rfl
    have h0 : DataW.trod enc Try.prog w base spare held m 3 ([c0, c1, c2, c3, c4, c5, c6, c7].take (Try.prog.cellsOf 3)) = xs[0]? := hf 0 _ rfl
    have h1 : DataW.trod enc Try.prog w base spare held m 3 ([c1, c2, c3, c4, c5, c6, c7].take (Try.prog.cellsOf 3)) = xs[1]? := hf 1 _ rfl
    have h2 : DataW.trod enc Try.prog w base spare held m 3 ([c2, c3, c4, c5, c6, c7].take (Try.prog.cellsOf 3)) = xs[2]? := hf 2 _ rfl
    have h3 : DataW.trod enc Try.prog w base spare held m 24 ([c3, c4, c5, c6, c7].take (Try.prog.cellsOf 24)) = xs[3]? := hf 3 _ rfl
    have h4 : DataW.trod enc Try.prog w base spare held m 25 ([c7].take (Try.prog.cellsOf 25)) = xs[4]? := hf 4 _ rfl
    simp only [e0, e1, e2, List.take] at h0 h1 h2 h3 h4
    rw [List.getElem?_eq_getElem (by omega)] at h0 h1 h2 h3 h4
    obtain ⟨k, hk, _, wk⟩ := DataW.trod_int Try.underlying3 h0
    obtain ⟨r, hr, _, wr⟩ := DataW.trod_int Try.underlying3 h1
    obtain ⟨c, hcc, _, wc⟩ := DataW.trod_int Try.underlying3 h2
    obtain ⟨a, ha, hac⟩ := open_cells h3
    obtain ⟨l, hin⟩ := open_exsG (fun i hi cs x => ih i (by omega) cs x) h4
    obtain rfl : c0 = .int .i64 k := by simpa using hk
    obtain rfl : c1 = .int .i64 r := by simpa using hr
    obtain rfl : c2 = .int .i64 c := by simpa using hcc
    simp only [Val.cells, List.cons.injEq, and_true] at hac
    obtain ⟨rfl, rfl, rfl, rfl⟩ := hac
    exact ⟨.mk k r c a l, c7, Ex.In.mk_of (wf_i64 wk) (wf_i64 wr) (wf_i64 wc) ha hin, rfl⟩
/-- A slice of values. -/
theorem open_valsF {n : Nat} {v : Value} {x : DataW H × List MemPlace} (h : DataW.trod enc Try.prog w base spare held n 59 [v] = some x) : ∃ l : List Val, ValsIn w v l ∧ l.length ≤ 9223372036854775807 := by
  have hc : Try.prog.cellsOf 24 = 4 := by kernel_rfl
  rcases DataW.trod_slice Try.underlying59 h with ⟨h1, _⟩ | ⟨a, len, cap, elems, rest, m, rfl, h1, _, hb, hl, hm, hlen, hall, _⟩
  · obtain rfl : v = .slice none 0 0 := by simpa using h1
    exact ⟨[], ⟨⟨none, 0, rfl, Nat.le_refl _, fun _ => rfl, fun h => absurd rfl h⟩, by simp⟩, by simp⟩
  · obtain rfl : v = .slice (some a) len cap := by simpa using h1
    rw [hc] at hall
    have hml := maxLen_le
    have hex : ∀ i, i < len → ∃ u : Val, u.Ok ∧ ∀ j x, u.cells[j]? = some x → w.cell? (a.add (i * 4 + j)) = some x := fun i hi => by
      have h2 := hall i hi
      rw [List.getElem?_eq_getElem (by omega)] at h2
      obtain ⟨cs, h3, h4⟩ := Option.bind_eq_some_iff.1 h2
      obtain ⟨u, hu, rfl⟩ := open_cells h4
      refine ⟨u, hu, fun j x hx => ?_⟩
      rw [← Go.Deep.add_add]
      exact (cells?_get h3).2 j x hx
    have : Inhabited Val := ⟨Val.null⟩
    obtain ⟨f, hF⟩ := Go.Deep.choose_lt hex
    refine ⟨(List.range len).map f, ⟨⟨some a, cap, by simp, by simpa using hl, (fun h => by cases h), fun hne => ?_⟩, fun v hv => ?_⟩, by simp; omega⟩
    · have hn : 0 < len := by
        rcases Nat.eq_zero_or_pos len with h | h
        · subst h; simp at hne
        · exact h
      obtain ⟨g, o, rfl⟩ := spot_none ((hF 0 hn).2 0 _ rfl)
      refine ⟨g, o, rfl, At.of_get fun j x hx => ?_⟩
      have hj : j < (vc ((List.range len).map f)).length := (List.getElem?_eq_some_iff.1 hx).1
      rw [vc_length] at hj
      simp only [List.length_map, List.length_range] at hj
      have hi : j / 4 < len := by omega
      have hcell : ((((List.range len).map f)[j / 4]'(by simpa using hi)).cells)[j % 4]? = some x := by
        have h4 : j % 4 < 4 := Nat.mod_lt _ (by decide)
        obtain ⟨u, hu⟩ : ∃ u, ((((List.range len).map f)[j / 4]'(by simpa using hi)).cells)[j % 4]? = some u := by
          refine ⟨_, List.getElem?_eq_getElem ?_⟩
          simpa [Val.cells] using h4
        have := vc_get _ _ (by simpa using hi) _ _ hu
        rw [show j / 4 * 4 + j % 4 = j by omega, hx] at this
        rw [hu]; exact this.symm
      have := (hF (j / 4) hi).2 (j % 4) x (by simpa using hcell)
      rw [add_at, show j / 4 * 4 + j % 4 = j by omega] at this
      exact this
    · obtain ⟨i, hi, rfl⟩ := List.mem_map.1 hv
      exact (hF i (List.mem_range.1 hi)).1
/-- A slice of rows of values. -/
theorem open_rowsF {n : Nat} {v : Value} {x : DataW H × List MemPlace} (h : DataW.trod enc Try.prog w base spare held n 50 [v] = some x) : ∃ rows : List (List Val), RowsIn w v rows := by
  have hc : Try.prog.cellsOf 59 = 1 := by kernel_rfl
  rcases DataW.trod_slice Try.underlying50 h with ⟨h1, _⟩ | ⟨a, len, cap, elems, rest, m, rfl, h1, _, hb, hl, hm, hlen, hall, _⟩
  · obtain rfl : v = .slice none 0 0 := by simpa using h1
    exact ⟨[], ⟨⟨none, 0, rfl, Nat.le_refl _, fun _ => rfl, fun h => absurd rfl h⟩, by simp, by simp⟩⟩
  · obtain rfl : v = .slice (some a) len cap := by simpa using h1
    rw [hc] at hall
    have hml := maxLen_le
    have hex : ∀ i, i < len → ∃ us : Value × List Val, w.cell? (a.add i) = some us.1 ∧ ValsIn w us.1 us.2 ∧ us.2.length ≤ 9223372036854775807 := fun i hi => by
      have h2 := hall i hi
      rw [List.getElem?_eq_getElem (by omega)] at h2
      obtain ⟨cs, h3, h4⟩ := Option.bind_eq_some_iff.1 h2
      obtain ⟨h5, h6⟩ := cells?_get h3
      match cs, h5 with
      | [u], _ =>
        obtain ⟨l, h7, h8⟩ := open_valsF h4
        refine ⟨(u, l), ?_, h7, h8⟩
        have := h6 0 u rfl
        rwa [Nat.mul_one, Go.Deep.add_add, Nat.add_zero] at this
    have : Inhabited (Value × List Val) := ⟨(.slice none 0 0, [])⟩
    obtain ⟨f, hF⟩ := Go.Deep.choose_lt hex
    refine ⟨(List.range len).map fun i => (f i).2, ⟨⟨some a, cap, by simp, by simpa using hl, (fun h => by cases h), fun hne => ?_⟩, by simp; omega, fun r hr => ?_⟩⟩
    · have hn : 0 < len := by
        rcases Nat.eq_zero_or_pos len with h | h
        · subst h; simp at hne
        · exact h
      have h0 := (hF 0 hn).1
      obtain ⟨g, o, rfl⟩ := spot_none h0
      refine ⟨g, o, rfl, fun i hi => ?_⟩
      have hi' : i < len := by simpa using hi
      refine ⟨(f i).1, ?_, by simpa using (hF i hi').2.1⟩
      have := (hF i hi').1
      rwa [add_at] at this
    · obtain ⟨i, hi, rfl⟩ := List.mem_map.1 hr
      exact (hF i (List.mem_range.1 hi)).2.2
set_option maxRecDepth 100000 in
set_option linter.constructorNameAsVariable false in
/-- An expression among the arguments. -/
theorem open_ex {r : Reach} {b0 : Nat} {v : Value} {d : DataW H} {p : List MemPlace} (hv : Value.okWide Try.prog w r b0 27 v) (h : DataW.Trod enc Try.prog w base spare held 27 v d p) : ∃ e s, v = .agg (e.cells s).toArray ∧ Ex.In w e s := by
  obtain ⟨cs, rfl, _⟩ := okWide_struct Try.underlying27 hv
  obtain ⟨fuel, hf⟩ := h
  obtain ⟨e, s, h1, h2⟩ := open_exF fuel _ _ hf
  refine ⟨e, s, ?_, h1⟩
  have h3 : cs.toList = e.cells s := by simpa [Value.cells] using h2
  rw [← h3]
set_option maxRecDepth 100000 in
set_option linter.constructorNameAsVariable false in
/-- Expressions among the arguments. -/
theorem open_exs {r : Reach} {b0 : Nat} {v : Value} {d : DataW H} {p : List MemPlace} (hv : Value.okWide Try.prog w r b0 25 v) (h : DataW.Trod enc Try.prog w base spare held 25 v d p) : ∃ l, ExsIn w v l := by
  obtain ⟨oa, n, c, rfl⟩ := okWide_slice Try.underlying25 hv
  obtain ⟨fuel, hf⟩ := h
  exact open_exsG (fun i _ => open_exF i) (show DataW.trod enc Try.prog w base spare held fuel 25 [.slice oa n c] = _ from by simpa [Value.cells] using hf)
set_option maxRecDepth 100000 in
set_option linter.constructorNameAsVariable false in
/-- Rows among the arguments. -/
theorem open_rows {r : Reach} {b0 : Nat} {v : Value} {d : DataW H} {p : List MemPlace} (hv : Value.okWide Try.prog w r b0 50 v) (h : DataW.Trod enc Try.prog w base spare held 50 v d p) : ∃ rows, RowsIn w v rows := by
  obtain ⟨oa, n, c, rfl⟩ := okWide_slice Try.underlying50 hv
  obtain ⟨fuel, hf⟩ := h
  exact open_rowsF (show DataW.trod enc Try.prog w base spare held fuel 50 [.slice oa n c] = _ from by simpa [Value.cells] using hf)
end
end Go.Proofs.Ytlcdjaclahhdnaa
