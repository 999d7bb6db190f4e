/- Expressions: as plain data, and as they lie in memory. -/
import Derived.Test.YtlcdjaclahhdnaaSlc
import Derived.Test.YtlcdjaclahhdnaaPutV
namespace Go.Proofs.Ytlcdjaclahhdnaa
open Go.RowKit
set_option linter.unusedSimpArgs false
set_option linter.unusedVariables false

/-- An expression: its kind, relation, column, value, parts. -/
inductive Ex where
  | mk (kind rel col : Int) (const : Val) (kids : List Ex)
def Ex.kind : Ex → Int | .mk k _ _ _ _ => k
def Ex.rel : Ex → Int | .mk _ r _ _ _ => r
def Ex.col : Ex → Int | .mk _ _ c _ _ => c
def Ex.const : Ex → Val | .mk _ _ _ v _ => v
def Ex.kids : Ex → List Ex | .mk _ _ _ _ l => l
def exCells (k r c : Int) (v : Val) (s : Value) : List Value := [.int .i64 k, .int .i64 r, .int .i64 c, .int .i64 v.kind, .int .i64 v.int, .float .f64 v.flt, .string v.text, s]
def Ex.cells (e : Ex) (s : Value) : List Value := exCells e.kind e.rel e.col e.const s
/-- A number that an int holds. -/
def I64 (n : Int) : Prop := -9223372036854775808 ≤ n ∧ n ≤ 9223372036854775807

mutual
/-- An expression whose parts' slice is the value s. -/
def Ex.In (w : World) : Ex → Value → Prop
  | .mk k r c v l, s => I64 k ∧ I64 r ∧ I64 c ∧ v.Ok ∧ l.length ≤ 9223372036854775807 ∧ ∃ A cap, s = .slice A l.length cap ∧ l.length ≤ cap ∧ (A = none → cap = 0) ∧ (l ≠ [] → ∃ g o, A = some ⟨g, o, none⟩ ∧ Exs.At w g o l)
termination_by structural e => e
def Exs.At (w : World) (g o : Nat) : List Ex → Prop
  | [] => True
  | e :: l => (∃ s, Go.Proofs.Ytlcdjaclahhdnaa.At w g o (e.cells s) ∧ Ex.In w e s) ∧ Exs.At w g (o + 8) l
termination_by structural l => l
end
/-- A slice of expressions. -/
def ExsIn (w : World) (s : Value) (l : List Ex) : Prop :=
  l.length ≤ 9223372036854775807 ∧ ∃ A cap, s = .slice A l.length cap ∧ l.length ≤ cap ∧ (A = none → cap = 0) ∧ (l ≠ [] → ∃ g o, A = some ⟨g, o, none⟩ ∧ Exs.At w g o l)

theorem Ex.ind {P : Ex → Prop} (h : ∀ k r c v l, (∀ e ∈ l, P e) → P (.mk k r c v l)) : ∀ e, P e := by
  intro e
  refine Ex.rec (motive_1 := P) (motive_2 := fun l => ∀ e ∈ l, P e) ?_ ?_ ?_ e
  · intro k r c v l ih; exact h k r c v l ih
  · intro e he; simp at he
  · intro e l h1 h2 x hx
    rcases List.mem_cons.1 hx with rfl | hx
    · exact h1
    · exact h2 x hx
theorem at_lt' {w : World} {g o : Nat} {v : Value} {vs : List Value} (h : At w g o (v :: vs)) : g < w.heap.size := by
  have h1 := h.1
  rcases Nat.lt_or_ge g w.heap.size with hl | hl
  · exact hl
  · simp [World.cell?, Array.getElem?_eq_none hl] at h1
theorem Exs.At.ext_of {w w' : World} (he : Ext w w') (l : List Ex) (ih : ∀ e ∈ l, ∀ s, Ex.In w e s → Ex.In w' e s) : ∀ g o, Exs.At w g o l → Exs.At w' g o l := by
  induction l with
  | nil => intro g o _; simp [Exs.At]
  | cons e l ih2 =>
    intro g o h
    simp only [Exs.At] at h ⊢
    obtain ⟨⟨s, h1, h2⟩, h3⟩ := h
    exact ⟨⟨s, h1.ext he (at_lt' h1), ih e (by simp) s h2⟩, ih2 (fun e he => ih e (by simp [he])) g (o + 8) h3⟩
theorem Ex.In.ext {w w' : World} (he : Ext w w') : ∀ (e : Ex) (s : Value), Ex.In w e s → Ex.In w' e s := by
  intro e
  induction e using Ex.ind with
  | h k r c v l ih =>
    intro s h
    simp only [Ex.In] at h ⊢
    obtain ⟨h1, h2, h3, h4, h5, A, cap, h6, h7, h8, h9⟩ := h
    refine ⟨h1, h2, h3, h4, h5, A, cap, h6, h7, h8, fun hn => ?_⟩
    obtain ⟨g, o, h10, h11⟩ := h9 hn
    exact ⟨g, o, h10, Exs.At.ext_of he l ih g o h11⟩
theorem ExsIn.ext {w w' : World} (he : Ext w w') {s : Value} {l : List Ex} (h : ExsIn w s l) : ExsIn w' s l := by
  obtain ⟨h5, A, cap, h6, h7, h8, h9⟩ := h
  refine ⟨h5, A, cap, h6, h7, h8, fun hn => ?_⟩
  obtain ⟨g, o, h10, h11⟩ := h9 hn
  exact ⟨g, o, h10, Exs.At.ext_of he l (fun e _ => Ex.In.ext he e) g o h11⟩
theorem Ex.In.kids {w : World} {k r c : Int} {v : Val} {l : List Ex} {s : Value} (h : Ex.In w (.mk k r c v l) s) : ExsIn w s l := by
  simp only [Ex.In] at h
  exact h.2.2.2.2
theorem Ex.In.fields {w : World} {k r c : Int} {v : Val} {l : List Ex} {s : Value} (h : Ex.In w (.mk k r c v l) s) : I64 k ∧ I64 r ∧ I64 c ∧ v.Ok := by
  simp only [Ex.In] at h
  exact ⟨h.1, h.2.1, h.2.2.1, h.2.2.2.1⟩
/-- The i-th of them. -/
theorem Exs.At.get {w : World} {g : Nat} : ∀ {l : List Ex} {o : Nat}, Exs.At w g o l → ∀ (i : Nat) (hi : i < l.length), ∃ s, Go.Proofs.Ytlcdjaclahhdnaa.At w g (o + i * 8) (l[i].cells s) ∧ Ex.In w l[i] s
  | [], _, _, i, hi => by simp at hi
  | e :: l, o, h, 0, _ => by
    simp only [Exs.At] at h
    simpa using h.1
  | e :: l, o, h, i + 1, hi => by
    simp only [Exs.At] at h
    have := Exs.At.get h.2 i (by simpa using hi)
    rw [show o + 8 + i * 8 = o + (i + 1) * 8 by omega] at this
    simpa using this
theorem ExsIn.get {w : World} {A : Option Addr} {n cap : Nat} {l : List Ex} (h : ExsIn w (.slice A n cap) l) (i : Nat) (hi : i < l.length) :
    ∃ g o s, A = some ⟨g, o, none⟩ ∧ n = l.length ∧ At w g (o + i * 8) (l[i].cells s) ∧ Ex.In w l[i] s ∧ g < w.heap.size := by
  obtain ⟨_, A', cap', h6, h7, h8, h9⟩ := h
  have hn : l ≠ [] := fun e => by subst e; simp at hi
  obtain ⟨g, o, rfl, h11⟩ := h9 hn
  simp only [Value.slice.injEq] at h6
  obtain ⟨rfl, rfl, rfl⟩ := h6
  obtain ⟨s, h1, h2⟩ := h11.get i hi
  exact ⟨g, o, s, rfl, rfl, h1, h2, at_lt' h1⟩
theorem agg_ex : aggOk Try.prog 27 8 = true := by kernel_rfl
theorem size_ex : (Try.prog.info? 27).map (·.size) = some 8 := by kernel_rfl

section
variable {P : Program} {C : World → Prop} {ops : Array Oper} {rest : List Oper} {o : Oper} {a : Act} {Q : Act → Prop} {g : Nat}
theorem quiet_loadA (hw : Region.wanted o (yielded ops a.tmps) = true) (x : Operand) {t : TypeId} {f : Nat} {vs : List Value} (hk : aggOk P t vs.length = true) (ho : o.op = .load t x) (hx : a.eval x = .pointer (some ⟨g, f, none⟩)) (hc : ∀ w, C w → At w g f vs)
    (h : wpQuiet P ops C Q rest (a.put o.dst (.agg vs.toArray))) : wpQuiet P ops C Q (o :: rest) a :=
  quiet_run hw _ (fun w hC => by
    have hl := run_loadVar_at hk (hc w hC)
    unfold execOp
    simp only [ho, hx, Instr.loadAt, Instr.sureAddr, Sem.run_bind, Sem.run_pure, Result.andThen_ok, hl]) h
/-- A cell that is no struct. -/
theorem quiet_cell (hw : Region.wanted o (yielded ops a.tmps) = true) (x : Operand) {t : TypeId} {f : Nat} {v : Value} {d : TypeDesc} (hu : P.underlying t = some d) (hd : d.isRow = false) (ho : o.op = .load t x) (hx : a.eval x = .pointer (some ⟨g, f, none⟩)) (hc : ∀ w, C w → w.cell? ⟨g, f, none⟩ = some v)
    (h : wpQuiet P ops C Q rest (a.put o.dst v)) : wpQuiet P ops C Q (o :: rest) a :=
  quiet_run hw _ (fun w hC => by
    have h1 := hc w hC
    have hagg : (isAgg t).run P w = .ok false w := by
      unfold isAgg
      rw [Sem.run_bind, run_underlying hu w]
      cases d <;> simp_all [TypeDesc.isRow]
    unfold execOp
    simp only [ho, hx]
    simp [Instr.loadAt, Instr.sureAddr, loadVar, hagg, h1]) h
end
end Go.Proofs.Ytlcdjaclahhdnaa
