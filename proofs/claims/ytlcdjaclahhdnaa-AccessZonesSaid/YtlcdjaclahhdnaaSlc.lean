/- Slices of structs and of whatever else: indexed, an element loaded, appended to; regions that draw their order and only read or make memory. -/
import Derived.Test.YtlcdjaclahhdnaaWr
import Derived.Deep.MidRow
import Derived.Deep.QuietTactic
namespace Go.Proofs.Ytlcdjaclahhdnaa
open Go.RowKit
set_option linter.unusedSimpArgs false
set_option linter.unusedVariables false

section
variable {P : Program} {w : World} {ops : Array Oper} {rest : List Oper} {o : Oper} {a : Act} {Q : Exit → Act → World → Prop}
theorem wpList_wish (hw : Region.wanted o (yielded ops a.tmps) = true)
    (h : ∀ K : Act → World → Prop, (∀ a w, wpList P ops Q rest a w → K a w) → o.wp P a w K Q) : wpList P ops Q (o :: rest) a w :=
  wpList_step fun K hK => by rw [hw]; exact h K hK
theorem run_idxS {t e : TypeId} {size g f n c i : Nat} {k : IntKind} (ht : P.underlying t = some (.slice e)) (hz : (P.info? e).map (·.size) = some size) (hi : i < n) (w : World) :
    (Instr.indexAt t (.slice (some ⟨g, f, none⟩) n c) (.int k (i : Int))).run P w = .ok (.pointer (some ⟨g, f + i * size, none⟩)) w := by
  have h1 : (0 : Int) ≤ (i : Int) ∧ (i : Int) < (n : Int) := by omega
  obtain ⟨x, hx1, hx2⟩ := Option.map_eq_some_iff.1 hz
  simp [Instr.indexAt, run_underlying ht, asIntOf, h1, sizeOf, typeInfo, hx1, hx2, add_at]
  intro h3; omega
/-- 'xs[i]', its address. -/
theorem wp_idxS {K : Act → World → Prop} {t e : TypeId} {size g f n c i : Nat} {k : IntKind} (ht : P.underlying t = some (.slice e)) (hz : (P.info? e).map (·.size) = some size)
    (x y : Operand) (ho : o.op = .indexAddr t x y) (hx : a.eval x = .slice (some ⟨g, f, none⟩) n c) (hy : a.eval y = .int k (i : Int)) (hi : i < n)
    (h : K (a.put o.dst (.pointer (some ⟨g, f + i * size, none⟩))) w) : o.wp P a w K Q := by
  unfold Oper.wp execOp
  simp only [ho, hx, hy, Sem.run_bind, Sem.run_pure, Result.andThen_ok, run_idxS ht hz hi]
  exact h
/-- A struct that lies in memory, loaded. -/
theorem wp_loadA {K : Act → World → Prop} {t : TypeId} {g f : Nat} {vs : List Value} (hk : aggOk P t vs.length = true) (x : Operand) (ho : o.op = .load t x) (hx : a.eval x = .pointer (some ⟨g, f, none⟩)) (hc : At w g f vs)
    (h : K (a.put o.dst (.agg vs.toArray)) w) : o.wp P a w K Q := by
  unfold aggOk at hk
  simp only [Bool.and_eq_true, beq_iff_eq] at hk
  cases hu : P.underlying t with
  | none => rw [hu] at hk; simp at hk
  | some d =>
    refine wp_load_mid t x ho g f hx vs d (fun j v hv => hc.get j v hv) hu ?_ hk.2 h
    rw [hu] at hk
    cases d <;> simp at hk <;> rfl
end

section
variable {P : Program} {C : World → Prop} {ops : Array Oper} {rest : List Oper} {o : Oper} {a : Act} {Q : Act → Prop}
theorem quiet_wish (hw : Region.wanted o (yielded ops a.tmps) = true) (v : Value) (h1 : ∀ w, C w → o.quietAt P a C w v) (h : wpQuiet P ops C Q rest (a.put o.dst v)) : wpQuiet P ops C Q (o :: rest) a := by
  unfold wpQuiet; rw [hw, if_pos rfl]; exact ⟨v, h1, h⟩
theorem quiet_skip (hw : Region.wanted o (yielded ops a.tmps) = false) (h : wpQuiet P ops C Q rest (a.put o.dst undef)) : wpQuiet P ops C Q (o :: rest) a := by
  unfold wpQuiet; rw [hw]; exact h
/-- An operation whose run is known. -/
theorem quiet_run (hw : Region.wanted o (yielded ops a.tmps) = true) (v : Value) (h1 : ∀ w, C w → (execOp a.eval o).run P w = .ok (.value v) w) (h : wpQuiet P ops C Q rest (a.put o.dst v)) : wpQuiet P ops C Q (o :: rest) a :=
  quiet_wish hw v (fun w hC => by unfold Oper.quietAt; rw [h1 w hC]; exact ⟨rfl, rfl⟩) h
/-- An operation that yields one value in every world. -/
theorem quiet_op (hw : Region.wanted o (yielded ops a.tmps) = true) (h : ∃ v, (∀ w, (execOp a.eval o).run P w = .ok (.value v) w) ∧ wpQuiet P ops C Q rest (a.put o.dst v)) : wpQuiet P ops C Q (o :: rest) a := by
  obtain ⟨v, h1, h2⟩ := h
  exact quiet_run hw v (fun w _ => h1 w) h2
/-- A call. -/
theorem quiet_call (hw : Region.wanted o (yielded ops a.tmps) = true) {f : FuncId} {args : Array Value} (v : Value) (h1 : ∀ w, (execOp a.eval o).run P w = .ok (.enter f args) w) (h2 : ∀ w, C w → Calls P f args w fun e w' => e = .returned v ∧ C w')
    (h : wpQuiet P ops C Q rest (a.put o.dst v)) : wpQuiet P ops C Q (o :: rest) a :=
  quiet_wish hw v (fun w hC => by unfold Oper.quietAt; rw [h1 w]; exact ⟨rfl, h2 w hC⟩) h
end
/-- A region that draws its order, walked once: whatever is done there only makes memory. -/
theorem wp_region_ext {P : Program} {id : Nat} {Q : Exit → Act → World → Prop} {a : Act} {w : World} {l : List Oper} (hm : P.follows .mixedOrders = true) (hB : Region.lexB .any l.toArray = true)
    (h : wpQuiet P l.toArray (Ext w) (fun a' => ∀ w', Ext w w' → Q .normal a' w') l a) : (Code.region id l.toArray true).wp P Q a w :=
  wp_region_quiet (C := Ext w) hm hB (Ext.refl w).drew (by simpa using h)
/-- A callee that only makes memory, in a world that only grew. -/
theorem Calls.in_ext {P : Program} {f : FuncId} {args : Array Value} {w0 : World} {v : Value} (h : ∀ w, Calls P f args w fun e w' => e = .returned v ∧ Ext w w') :
    ∀ w, Ext w0 w → Calls P f args w fun e w' => e = .returned v ∧ Ext w0 w' :=
  fun w hE => (h w).mono fun _ _ ⟨h1, h2⟩ => ⟨h1, hE.trans h2⟩
end Go.Proofs.Ytlcdjaclahhdnaa
