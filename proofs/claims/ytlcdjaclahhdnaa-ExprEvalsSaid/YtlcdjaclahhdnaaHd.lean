/- Moves of a walk through a region that draws its order, by hand: what reads only is taken first where a condition on the world holds all through; what writes is carried out. -/
import Derived.Test.YtlcdjaclahhdnaaEv
import Derived.OrdersHeld
namespace Go.Proofs.Ytlcdjaclahhdnaa
open Go.RowKit
set_option linter.unusedSimpArgs false
set_option linter.unusedVariables false

section
variable {P : Program} {ops : Array Oper} {Q : Exit → Act → World → Prop} {md : Region.Mode} {S : World → Prop} {i : Nat} {oi : Oper} {fuel : Nat} {listed : Array Bool} {a : Act} {w : World}
theorem at_list {o : Oper} (h : ops.toList[i]? = some o) : ops[i]? = some o := by rw [← Array.getElem?_toList]; exact h
theorem held_run (v : Value) (hi : ops.toList[i]? = some oi) (hs : Region.noSelect ops = true) (hf : Region.free md ops listed i = true) (hr : (Region.ready md ops listed).contains i = true)
    (hQ : ∀ c a w, Q (.panic c) (a.put oi.dst v) w → Q (.panic c) a w) (hw : Region.wanted oi (yielded ops a.tmps) = true) (hv : ∀ u, S u → (execOp a.eval oi).run P u = .ok (.value v) u) (hS : S w)
    (h : wpAnyH P md ops Q S fuel (listed.setIfInBounds i true) (a.put oi.dst v) w) : wpAnyH P md ops Q S (fuel + 1) listed a w :=
  wpAnyH_take (at_list hi) hs hf hr hQ (.inl ⟨hw, hv⟩) hS h
theorem held_skip (hi : ops.toList[i]? = some oi) (hs : Region.noSelect ops = true) (hf : Region.free md ops listed i = true) (hr : (Region.ready md ops listed).contains i = true)
    (hQ : ∀ c a w, Q (.panic c) (a.put oi.dst undef) w → Q (.panic c) a w) (hw : Region.wanted oi (yielded ops a.tmps) = false) (hS : S w)
    (h : wpAnyH P md ops Q S fuel (listed.setIfInBounds i true) (a.put oi.dst undef) w) : wpAnyH P md ops Q S (fuel + 1) listed a w :=
  wpAnyH_take (at_list hi) hs hf hr hQ (.inr ⟨hw, rfl⟩) hS h
theorem held_cell (x : Operand) {t : TypeId} {g f : Nat} {v : Value} {d : TypeDesc} (hi : ops.toList[i]? = some oi) (ho : oi.op = .load t x) (hs : Region.noSelect ops = true) (hf : Region.free md ops listed i = true) (hr : (Region.ready md ops listed).contains i = true)
    (hQ : ∀ c a w, Q (.panic c) (a.put oi.dst v) w → Q (.panic c) a w) (hw : Region.wanted oi (yielded ops a.tmps) = true) (hu : P.underlying t = some d) (hd : d.isRow = false) (hx : a.eval x = .pointer (some ⟨g, f, none⟩)) (hc : ∀ u, S u → u.cell? ⟨g, f, none⟩ = some v) (hS : S w)
    (h : wpAnyH P md ops Q S fuel (listed.setIfInBounds i true) (a.put oi.dst v) w) : wpAnyH P md ops Q S (fuel + 1) listed a w :=
  held_run v hi hs hf hr hQ hw (fun u hC => by
    have h1 := hc u hC
    have hagg : (isAgg t).run P u = .ok false u := by
      unfold isAgg
      rw [Sem.run_bind, run_underlying hu u]
      cases d <;> simp_all [TypeDesc.isRow]
    unfold execOp
    simp only [ho, hx]
    simp [Instr.loadAt, Instr.sureAddr, loadVar, hagg, h1]) hS h
theorem held_loadA (x : Operand) {t : TypeId} {g f : Nat} {vs : List Value} (hi : ops.toList[i]? = some oi) (ho : oi.op = .load t x) (hs : Region.noSelect ops = true) (hf : Region.free md ops listed i = true) (hr : (Region.ready md ops listed).contains i = true)
    (hQ : ∀ c a w, Q (.panic c) (a.put oi.dst (.agg vs.toArray)) w → Q (.panic c) a w) (hw : Region.wanted oi (yielded ops a.tmps) = true) (hk : aggOk P t vs.length = true) (hx : a.eval x = .pointer (some ⟨g, f, none⟩)) (hc : ∀ u, S u → At u g f vs) (hS : S w)
    (h : wpAnyH P md ops Q S fuel (listed.setIfInBounds i true) (a.put oi.dst (.agg vs.toArray)) w) : wpAnyH P md ops Q S (fuel + 1) listed a w :=
  held_run _ hi hs hf hr hQ hw (fun u hC => by
    have hl := run_loadVar_at hk (hc u hC)
    unfold execOp
    simp only [ho, hx, Instr.loadAt, Instr.sureAddr, Sem.run_bind, Sem.run_pure, Result.andThen_ok, hl]) hS h
theorem held_idxS (j : Nat) (x y : Operand) {t e : TypeId} {size g f n c : Nat} {k : IntKind} (hi : ops.toList[i]? = some oi) (ho : oi.op = .indexAddr t x y) (hs : Region.noSelect ops = true) (hf : Region.free md ops listed i = true) (hr : (Region.ready md ops listed).contains i = true)
    (hQ : ∀ c a w, Q (.panic c) (a.put oi.dst (.pointer (some ⟨g, f + j * size, none⟩))) w → Q (.panic c) a w) (hw : Region.wanted oi (yielded ops a.tmps) = true)
    (ht : P.underlying t = some (.slice e)) (hz : (P.info? e).map (·.size) = some size) (hx : a.eval x = .slice (some ⟨g, f, none⟩) n c) (hy : a.eval y = .int k (j : Int)) (hj : j < n) (hS : S w)
    (h : wpAnyH P md ops Q S fuel (listed.setIfInBounds i true) (a.put oi.dst (.pointer (some ⟨g, f + j * size, none⟩))) w) : wpAnyH P md ops Q S (fuel + 1) listed a w :=
  held_run _ hi hs hf hr hQ hw (fun u _ => by
    unfold execOp
    simp only [ho, hx, hy, Sem.run_bind, Sem.run_pure, Result.andThen_ok, run_idxS ht hz hj]) hS h
/-- An operation that is carried out, the only one that may come up. -/
theorem held_do (hi : ops.toList[i]? = some oi) (hr : Region.ready md ops listed = [i]) (hw : Region.wanted oi (yielded ops a.tmps) = true)
    (h : ∀ K : Act → World → Prop, (∀ a' w', S w' → wpAnyH P md ops Q S fuel (listed.setIfInBounds i true) a' w' → K a' w') → oi.wp P a w K Q) : wpAnyH P md ops Q S (fuel + 1) listed a w := by
  refine wpAnyH_all hr (by simp) fun j hj => ?_
  simp only [List.mem_singleton] at hj
  subst hj
  unfold wpOp
  simp only [at_list hi, hw, if_true]
  exact .inl (h _ fun a' w' h1 h2 => ⟨h1, h2⟩)
/-- Two may come up. -/
theorem held_two {j : Nat} {oj : Oper} (hi : ops.toList[i]? = some oi) (hj : ops.toList[j]? = some oj) (hr : Region.ready md ops listed = [i, j]) (hwi : Region.wanted oi (yielded ops a.tmps) = true) (hwj : Region.wanted oj (yielded ops a.tmps) = true)
    (h1 : ∀ K : Act → World → Prop, (∀ a' w', S w' → wpAnyH P md ops Q S fuel (listed.setIfInBounds i true) a' w' → K a' w') → oi.wp P a w K Q)
    (h2 : ∀ K : Act → World → Prop, (∀ a' w', S w' → wpAnyH P md ops Q S fuel (listed.setIfInBounds j true) a' w' → K a' w') → oj.wp P a w K Q) : wpAnyH P md ops Q S (fuel + 1) listed a w := by
  refine wpAnyH_all hr (by simp) fun k hk => ?_
  simp only [List.mem_cons, List.not_mem_nil, or_false] at hk
  rcases hk with rfl | rfl
  · unfold wpOp
    simp only [at_list hi, hwi, if_true]
    exact .inl (h1 _ fun a' w' h1 h2 => ⟨h1, h2⟩)
  · unfold wpOp
    simp only [at_list hj, hwj, if_true]
    exact .inl (h2 _ fun a' w' h1 h2 => ⟨h1, h2⟩)
end
section
variable {P : Program} {w : World} {o : Oper} {a : Act} {Q : Exit → Act → World → Prop} {K : Act → World → Prop}
/-- A call, by its contract. -/
theorem wp_callF {f : FuncId} {args : Array Value} (R : Value → World → Prop) (h1 : ∀ u, (execOp a.eval o).run P u = .ok (.enter f args) u) (h2 : Calls P f args w fun e w' => ∃ v, e = .returned v ∧ R v w')
    (h : ∀ v w', R v w' → K (a.put o.dst v) w') : o.wp P a w K Q := by
  unfold Oper.wp
  rw [h1]
  simp only [Oper.upon]
  refine h2.mono ?_
  rintro e w' ⟨v, rfl, hr⟩
  exact h v w' hr
/-- A struct stored into a block of its own. -/
theorem wp_storeA {t : TypeId} {g : Nat} {vs vs' : List Value} (h1 : ∀ u ∈ vs', u.oneCell' = true) (hb : BoxAt w g vs) (hk : (P.info? t).map (·.size) = some vs'.length) (hl : vs.length = vs'.length) (x y : Operand) (ho : o.op = .store t x y)
    (hx : a.eval x = .pointer (some ⟨g, 0, none⟩)) (hy : a.eval y = .agg vs'.toArray)
    (h : ∀ w', BoxAt w' g vs' → But g w w' → K (a.put o.dst undef) w') : o.wp P a w K Q := by
  have hth : w.there g 0 vs'.length := fun j hj => by
    rw [Nat.zero_add]
    have := hb.cells.get j vs[j] (List.getElem?_eq_getElem (by omega))
    rw [Nat.zero_add] at this
    exact ⟨by rw [this]; rfl, hb.free j⟩
  have hkk : ∀ (us : List Value) (o : Nat) (w : World), But g w (w.setCells g o us) := by
    intro us
    induction us with
    | nil => intro o w; exact But.refl g w
    | cons v us ih => intro o w; exact (But.set_ (p := ⟨g, o, none⟩) (.inr rfl) v (But.refl g w)).trans (ih _ _)
  refine wp_store_mid _ x y ho g 0 vs'.toArray hx hy (by simpa using hth) (by rw [hk]; simp) (by simpa using all_oneCell_toArray h1) ?_
  refine h _ ⟨?_, ?_, Nat.lt_of_lt_of_le hb.lt (hkk _ _ _).size⟩ (hkk _ _ _)
  · exact At.of_get fun j v hv => World.rangeAt_setCells_same w g 0 vs' hth j v hv
  · intro j
    rw [World.frozen?_setCells]; exact hb.free j
end
end Go.Proofs.Ytlcdjaclahhdnaa
