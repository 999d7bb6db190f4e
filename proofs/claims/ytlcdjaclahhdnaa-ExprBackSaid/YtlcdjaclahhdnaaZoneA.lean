/- What a zone knows of a column, as plain data; the calls of access.at and access.widen. Printed by wip/tools/gen_rg.py. Moves of a walk through a region that draws its order, by hand: what reads only is taken first where a condition on the world holds all through; what writes is carried out. Worlds in which a few blocks alone may have turned; worlds of which some blocks are looked at; a row of expressions of the call's own; expr.guarded around expr.Take's closure. The call of access.widen. Printed by wip/tools/gen_rg2.py. A struct loaded, an element's address, in an operation list: what the operation is is asked first (an arm that does not fit fails at once). Rows of the call's own, whatever their elements: append of one element; what keeps them. Printed by wip/tools/gen_zone.py. The call of access.zone. Printed by wip/tools/gen_zone.py. Rounds of a range over a function: what is proved of an operation list, or of a region, out of rounds holds in a round, where nothing is deferred. slices.Chunk over rows: the value it hands back, and what that value does with each loop body. The call of access.Zones. Printed by wip/tools/gen_zones.py. -/
import Derived.Test.YtlcdjaclahhdnaaEv
import Derived.OrdersHeld
import Derived.Test.YtlcdjaclahhdnaaEx3
import Derived.Test.YtlcdjaclahhdnaaGd
import Derived.Maps.AppendAt
import Derived.Deep.DeepCutAuto
import Derived.Deep.CutBlock
import Derived.Test.YtlcdjaclahhdnaaSlc
import Derived.Deep.AppendLies
import Derived.RangeFuncBox
import Derived.RangeFuncNested
import Derived.RangeFuncBound
import Derived.RangeFuncCalls
import Derived.RangeFuncLeaves
import Derived.Shelf.Abstract
import Derived.WalkKit
import Derived.OwnWalkIn
import Derived.TacticsInMore
import Derived.LoopNIn
import Derived.LoopIn
import Derived.Test.YtlcdjaclahhdnaaVals
namespace Go.Proofs.Ytlcdjaclahhdnaa
open Go.RowKit
set_option linter.unusedSimpArgs false
set_option linter.unusedVariables false
attribute [local irreducible] wpQuiet

/-- What is known of a column: kind, nulls, least, greatest. -/
structure Rng where
  kind : Int
  nulls : Int
  low : Val
  high : Val
def Rng.cells (g : Rng) : List Value := [.int .i64 g.kind, .int .i64 g.nulls, .int .i64 g.low.kind, .int .i64 g.low.int, .float .f64 g.low.flt, .string g.low.text, .int .i64 g.high.kind, .int .i64 g.high.int, .float .f64 g.high.flt, .string g.high.text]
def Rng.zero : Rng := ⟨0, 0, Val.null, Val.null⟩
def rng0 : List Value := [.int .i64 0, .int .i64 0, .int .i64 0, .int .i64 0, .float .f64 0, .string ⟨#[]⟩, .int .i64 0, .int .i64 0, .float .f64 0, .string ⟨#[]⟩]
theorem rng0_eq : Rng.zero.cells = rng0 := rfl
/-- The value in a place of a row. -/
def atV (row : List Val) (i : Nat) : Val := match row[i]? with | some v => v.plain | none => Val.null
/-- A value taken into a range. -/
def Rng.widen (g : Rng) (v : Val) : Rng :=
  if v.kind = 0 then ⟨g.kind, g.nulls + 1, g.low, g.high⟩
  else if g.kind = 0 then ⟨v.kind, g.nulls, v, v⟩
  else if g.kind ≠ v.kind then ⟨-1, g.nulls, Val.null, Val.null⟩
  else if v.cmp g.low < 0 then ⟨g.kind, g.nulls, v, g.high⟩
  else if 0 < v.cmp g.high then ⟨g.kind, g.nulls, g.low, v⟩
  else g
structure Rng.Ok (g : Rng) : Prop where
  low : g.low.Ok
  high : g.high.Ok
theorem Rng.zero_ok : Rng.zero.Ok := ⟨Val.null_ok, Val.null_ok⟩
theorem atV_ok {row : List Val} (h : ∀ v ∈ row, v.Ok) (i : Nat) : (atV row i).Ok := by
  unfold atV
  cases hr : row[i]? with
  | none => exact Val.null_ok
  | some v => exact (Val.plain_flat (h v (List.mem_of_getElem? hr))).ok
theorem Rng.widen_ok {g : Rng} {v : Val} (hg : g.Ok) (hv : v.Ok) : (g.widen v).Ok := by
  unfold Rng.widen
  repeat (first | exact ⟨hg.low, hg.high⟩ | exact ⟨hv, hv⟩ | exact ⟨Val.null_ok, Val.null_ok⟩ | exact ⟨hv, hg.high⟩ | exact ⟨hg.low, hv⟩ | split)
theorem Rng.widen_nulls (g : Rng) (v : Val) : g.nulls ≤ (g.widen v).nulls ∧ (g.widen v).nulls ≤ g.nulls + 1 := by
  unfold Rng.widen
  repeat (first | (constructor <;> first | omega | (dsimp only; omega)) | split)
theorem agg_rng : aggOk Try.prog 149 10 = true := by kernel_rfl
theorem size_rng : (Try.prog.info? 149).map (·.size) = some 10 := by kernel_rfl
theorem Rng.one (g : Rng) : ∀ u ∈ g.cells, u.oneCell' = true := by
  intro u hu
  simp only [Rng.cells, List.mem_cons, List.not_mem_nil, or_false] at hu
  rcases hu with rfl | rfl | rfl | rfl | rfl | rfl | rfl | rfl | rfl | rfl <;> rfl

set_option maxRecDepth 100000 in
set_option maxHeartbeats 2000000 in
theorem at_of (row : List Val) (s : Value) (i : Nat) (w : World) (hin : ValsIn w s row) (hl : row.length ≤ 9223372036854775807) :
    Calls Try.prog 144 #[s, .int .i64 (i : Int)] w fun e w' => e = .returned (atV row i).enc ∧ Ext w w' := by
  obtain ⟨A, c, rfl, -⟩ := hin.val
  have hb0 : BoxAt (w.alloc (.cells [.int .i64 0, .int .i64 0, .float .f64 0, .string ⟨#[]⟩].toArray 24)) w.heap.size [.int .i64 0, .int .i64 0, .float .f64 0, .string ⟨#[]⟩] := BoxAt.new rfl rfl
  have HB0 := Lib.hid hb0; have HE0 := Lib.hid ((Ext.refl w).alloc (.cells [.int .i64 0, .int .i64 0, .float .f64 0, .string ⟨#[]⟩].toArray 24))
  clear hb0
  by_cases hlt : i < row.length
  · obtain ⟨g, o, rfl, -, hat, hok, hg⟩ := hin.at_ i hlt
    have hlt' : decide (row.length ≤ i) = false := by simp; omega
    have e1 : atV row i = row[i].plain := by simp [atV, hlt]
    rw [e1]
    have HAT : Hid (∀ u, Ext w u → At u g (o + i * 4) row[i].cells) := Lib.hid fun u h => hat.ext h hg
    have HR := Lib.hid (fun w => right_of row[i] w hok.flt)
    have HP := Lib.hid (fun w => plain_of row[i] w hok.flt)
    have HN : Hid (row[i].right = false → row[i].plain = Val.null) := Lib.hid fun h => by unfold Val.plain; rw [if_neg (by simp [h])]
    clear hat hok hin e1
    generalize row[i] = v at *
    unfold Val.cells at HAT
    cases hr : v.right
    · rw [HN.out hr]
      rw [hr] at HR
      clear HN HP hr
      go_enter Try.func144, Try.ntmps144
      go_wp2_with (first
        | (refine wpList_wish rfl fun K hK => wp_idxS (i := i) Try.underlying59 sizeVal (.tmp 10) _ rfl rfl rfl hlt (hK _ _ ?_))
        | (refine wpList_wish rfl fun K hK => wp_loadA (vs := [.int .i64 v.kind, .int .i64 v.int, .float .f64 v.flt, .string v.text]) agg_val (.tmp 12) rfl rfl (HAT.out _ HE0.out) (hK _ _ ?_))
        | (go_at_call 27; refine (HR.out _).mono ?_; rintro e w2 ⟨rfl, hb⟩; have HB2 := Lib.hid (HB0.out.ext hb); have HE2 := Lib.hid (HE0.out.trans hb); clear hb)
        | (refine wpList_storeA (val_one Val.null) HB2.out sizeVal rfl rfl (.tmp 4) _ rfl rfl rfl ?_; intro w3 hb1 hb2))
      exact back_cell rfl Val.null.cells rfl agg_val rfl hb1.cells ⟨rfl, But.to_ext HE2.out hb2 (by omega)⟩
    · rw [hr] at HR
      clear HN hr
      go_enter Try.func144, Try.ntmps144
      go_wp2_with (first
        | (refine wpList_wish rfl fun K hK => wp_idxS (i := i) Try.underlying59 sizeVal (.tmp 10) _ rfl rfl rfl hlt (hK _ _ ?_))
        | (refine wpList_wish rfl fun K hK => wp_loadA (vs := [.int .i64 v.kind, .int .i64 v.int, .float .f64 v.flt, .string v.text]) agg_val (.tmp 12) rfl rfl (HAT.out _ HE0.out) (hK _ _ ?_))
        | (go_at_call 27; refine (HR.out _).mono ?_; rintro e w2 ⟨rfl, hb⟩; have HB2 := Lib.hid (HB0.out.ext hb); have HE2 := Lib.hid (HE0.out.trans hb); clear hb)
        | (refine wpList_wish rfl fun K hK => wp_idxS (i := i) Try.underlying59 sizeVal (.tmp 18) _ rfl rfl rfl hlt (hK _ _ ?_))
        | (refine wpList_wish rfl fun K hK => wp_loadA (vs := [.int .i64 v.kind, .int .i64 v.int, .float .f64 v.flt, .string v.text]) agg_val (.tmp 20) rfl rfl (HAT.out _ HE2.out) (hK _ _ ?_))
        | (go_at_call 25; refine (HP.out _).mono ?_; rintro e w4 ⟨rfl, hb⟩; have HB4 := Lib.hid (HB2.out.ext hb); have HE4 := Lib.hid (HE2.out.trans hb); clear hb)
        | (refine wpList_storeA (val_one v.plain) HB4.out sizeVal rfl rfl (.tmp 4) _ rfl rfl rfl ?_; intro w3 hb1 hb2))
      exact back_cell rfl v.plain.cells rfl agg_val rfl hb1.cells ⟨rfl, But.to_ext HE4.out hb2 (by omega)⟩
  · have hlt' : decide (row.length ≤ i) = true := by simp; omega
    have e1 : atV row i = Val.null := by unfold atV; rw [List.getElem?_eq_none (by omega)]
    rw [e1]
    clear hin
    go_enter Try.func144, Try.ntmps144
    go_wp2_with (refine wpList_storeA (val_one Val.null) HB0.out sizeVal rfl rfl (.tmp 4) _ rfl rfl rfl ?_; intro w3 hb1 hb2)
    exact back_cell rfl Val.null.cells rfl agg_val rfl hb1.cells ⟨rfl, But.to_ext HE0.out hb2 (by omega)⟩
end Go.Proofs.Ytlcdjaclahhdnaa
namespace Go.Proofs.Ytlcdjaclahhdnaa
open Go.RowKit
set_option linter.unusedSimpArgs false
set_option linter.unusedVariables false

section
variable {P : Program} {ops : Array Oper} {Q : Exit → Act → World → Prop} {md : Region.Mode} {S : World → Prop} {i : Nat} {oi : Oper} {fuel : Nat} {listed : Array Bool} {a : Act} {w : World}
theorem at_list {o : Oper} (h : ops.toList[i]? = some o) : ops[i]? = some o := by rw [← Array.getElem?_toList]; exact h
theorem held_run (v : Value) (hi : ops.toList[i]? = some oi) (hs : Region.noSelect ops = true) (hf : Region.free md ops listed i = true) (hr : (Region.ready md ops listed).contains i = true)
    (hQ : ∀ c a w, Q (.panic c) (a.put oi.dst v) w → Q (.panic c) a w) (hw : Region.wanted oi (yielded ops a.tmps) = true) (hv : ∀ u, S u → (execOp a.eval oi).run P u = .ok (.value v) u) (hS : S w)
    (h : wpAnyH P md ops Q S fuel (listed.setIfInBounds i true) (a.put oi.dst v) w) : wpAnyH P md ops Q S (fuel + 1) listed a w :=
  wpAnyH_take (at_list hi) hs hf hr hQ (.inl ⟨hw, hv⟩) hS h
theorem held_skip (hi : ops.toList[i]? = some oi) (hs : Region.noSelect ops = true) (hf : Region.free md ops listed i = true) (hr : (Region.ready md ops listed).contains i = true)
    (hQ : ∀ c a w, Q (.panic c) (a.put oi.dst undef) w → Q (.panic c) a w) (hw : Region.wanted oi (yielded ops a.tmps) = false) (hS : S w)
    (h : wpAnyH P md ops Q S fuel (listed.setIfInBounds i true) (a.put oi.dst undef) w) : wpAnyH P md ops Q S (fuel + 1) listed a w :=
  wpAnyH_take (at_list hi) hs hf hr hQ (.inr ⟨hw, rfl⟩) hS h
theorem held_cell (x : Operand) {t : TypeId} {g f : Nat} {v : Value} {d : TypeDesc} (hi : ops.toList[i]? = some oi) (ho : oi.op = .load t x) (hs : Region.noSelect ops = true) (hf : Region.free md ops listed i = true) (hr : (Region.ready md ops listed).contains i = true)
    (hQ : ∀ c a w, Q (.panic c) (a.put oi.dst v) w → Q (.panic c) a w) (hw : Region.wanted oi (yielded ops a.tmps) = true) (hu : P.underlying t = some d) (hd : d.isRow = false) (hx : a.eval x = .pointer (some ⟨g, f, none⟩)) (hc : ∀ u, S u → u.cell? ⟨g, f, none⟩ = some v) (hS : S w)
    (h : wpAnyH P md ops Q S fuel (listed.setIfInBounds i true) (a.put oi.dst v) w) : wpAnyH P md ops Q S (fuel + 1) listed a w :=
  held_run v hi hs hf hr hQ hw (fun u hC => by
    have h1 := hc u hC
    have hagg : (isAgg t).run P u = .ok false u := by
      unfold isAgg
      rw [Sem.run_bind, run_underlying hu u]
      cases d <;> simp_all [TypeDesc.isRow]
    unfold execOp
    simp only [ho, hx]
    simp [Instr.loadAt, Instr.sureAddr, loadVar, hagg, h1]) hS h
theorem held_loadA (x : Operand) {t : TypeId} {g f : Nat} {vs : List Value} (hi : ops.toList[i]? = some oi) (ho : oi.op = .load t x) (hs : Region.noSelect ops = true) (hf : Region.free md ops listed i = true) (hr : (Region.ready md ops listed).contains i = true)
    (hQ : ∀ c a w, Q (.panic c) (a.put oi.dst (.agg vs.toArray)) w → Q (.panic c) a w) (hw : Region.wanted oi (yielded ops a.tmps) = true) (hk : aggOk P t vs.length = true) (hx : a.eval x = .pointer (some ⟨g, f, none⟩)) (hc : ∀ u, S u → At u g f vs) (hS : S w)
    (h : wpAnyH P md ops Q S fuel (listed.setIfInBounds i true) (a.put oi.dst (.agg vs.toArray)) w) : wpAnyH P md ops Q S (fuel + 1) listed a w :=
  held_run _ hi hs hf hr hQ hw (fun u hC => by
    have hl := run_loadVar_at hk (hc u hC)
    unfold execOp
    simp only [ho, hx, Instr.loadAt, Instr.sureAddr, Sem.run_bind, Sem.run_pure, Result.andThen_ok, hl]) hS h
theorem held_idxS (j : Nat) (x y : Operand) {t e : TypeId} {size g f n c : Nat} {k : IntKind} (hi : ops.toList[i]? = some oi) (ho : oi.op = .indexAddr t x y) (hs : Region.noSelect ops = true) (hf : Region.free md ops listed i = true) (hr : (Region.ready md ops listed).contains i = true)
    (hQ : ∀ c a w, Q (.panic c) (a.put oi.dst (.pointer (some ⟨g, f + j * size, none⟩))) w → Q (.panic c) a w) (hw : Region.wanted oi (yielded ops a.tmps) = true)
    (ht : P.underlying t = some (.slice e)) (hz : (P.info? e).map (·.size) = some size) (hx : a.eval x = .slice (some ⟨g, f, none⟩) n c) (hy : a.eval y = .int k (j : Int)) (hj : j < n) (hS : S w)
    (h : wpAnyH P md ops Q S fuel (listed.setIfInBounds i true) (a.put oi.dst (.pointer (some ⟨g, f + j * size, none⟩))) w) : wpAnyH P md ops Q S (fuel + 1) listed a w :=
  held_run _ hi hs hf hr hQ hw (fun u _ => by
    unfold execOp
    simp only [ho, hx, hy, Sem.run_bind, Sem.run_pure, Result.andThen_ok, run_idxS ht hz hj]) hS h
/-- An operation that is carried out, the only one that may come up. -/
theorem held_do (hi : ops.toList[i]? = some oi) (hr : Region.ready md ops listed = [i]) (hw : Region.wanted oi (yielded ops a.tmps) = true)
    (h : ∀ K : Act → World → Prop, (∀ a' w', S w' → wpAnyH P md ops Q S fuel (listed.setIfInBounds i true) a' w' → K a' w') → oi.wp P a w K Q) : wpAnyH P md ops Q S (fuel + 1) listed a w := by
  refine wpAnyH_all hr (by simp) fun j hj => ?_
  simp only [List.mem_singleton] at hj
  subst hj
  unfold wpOp
  simp only [at_list hi, hw, if_true]
  exact .inl (h _ fun a' w' h1 h2 => ⟨h1, h2⟩)
/-- Two may come up. -/
theorem held_two {j : Nat} {oj : Oper} (hi : ops.toList[i]? = some oi) (hj : ops.toList[j]? = some oj) (hr : Region.ready md ops listed = [i, j]) (hwi : Region.wanted oi (yielded ops a.tmps) = true) (hwj : Region.wanted oj (yielded ops a.tmps) = true)
    (h1 : ∀ K : Act → World → Prop, (∀ a' w', S w' → wpAnyH P md ops Q S fuel (listed.setIfInBounds i true) a' w' → K a' w') → oi.wp P a w K Q)
    (h2 : ∀ K : Act → World → Prop, (∀ a' w', S w' → wpAnyH P md ops Q S fuel (listed.setIfInBounds j true) a' w' → K a' w') → oj.wp P a w K Q) : wpAnyH P md ops Q S (fuel + 1) listed a w := by
  refine wpAnyH_all hr (by simp) fun k hk => ?_
  simp only [List.mem_cons, List.not_mem_nil, or_false] at hk
  rcases hk with rfl | rfl
  · unfold wpOp
    simp only [at_list hi, hwi, if_true]
    exact .inl (h1 _ fun a' w' h1 h2 => ⟨h1, h2⟩)
  · unfold wpOp
    simp only [at_list hj, hwj, if_true]
    exact .inl (h2 _ fun a' w' h1 h2 => ⟨h1, h2⟩)
end
section
variable {P : Program} {w : World} {o : Oper} {a : Act} {Q : Exit → Act → World → Prop} {K : Act → World → Prop}
/-- A call, by its contract. -/
theorem wp_callF {f : FuncId} {args : Array Value} (R : Value → World → Prop) (h1 : ∀ u, (execOp a.eval o).run P u = .ok (.enter f args) u) (h2 : Calls P f args w fun e w' => ∃ v, e = .returned v ∧ R v w')
    (h : ∀ v w', R v w' → K (a.put o.dst v) w') : o.wp P a w K Q := by
  unfold Oper.wp
  rw [h1]
  simp only [Oper.upon]
  refine h2.mono ?_
  rintro e w' ⟨v, rfl, hr⟩
  exact h v w' hr
/-- A struct stored into a block of its own. -/
theorem wp_storeA {t : TypeId} {g : Nat} {vs vs' : List Value} (h1 : ∀ u ∈ vs', u.oneCell' = true) (hb : BoxAt w g vs) (hk : (P.info? t).map (·.size) = some vs'.length) (hl : vs.length = vs'.length) (x y : Operand) (ho : o.op = .store t x y)
    (hx : a.eval x = .pointer (some ⟨g, 0, none⟩)) (hy : a.eval y = .agg vs'.toArray)
    (h : ∀ w', BoxAt w' g vs' → But g w w' → K (a.put o.dst undef) w') : o.wp P a w K Q := by
  have hth : w.there g 0 vs'.length := fun j hj => by
    rw [Nat.zero_add]
    have := hb.cells.get j vs[j] (List.getElem?_eq_getElem (by omega))
    rw [Nat.zero_add] at this
    exact ⟨by rw [this]; rfl, hb.free j⟩
  have hkk : ∀ (us : List Value) (o : Nat) (w : World), But g w (w.setCells g o us) := by
    intro us
    induction us with
    | nil => intro o w; exact But.refl g w
    | cons v us ih => intro o w; exact (But.set_ (p := ⟨g, o, none⟩) (.inr rfl) v (But.refl g w)).trans (ih _ _)
  refine wp_store_mid _ x y ho g 0 vs'.toArray hx hy (by simpa using hth) (by rw [hk]; simp) (by simpa using all_oneCell_toArray h1) ?_
  refine h _ ⟨?_, ?_, Nat.lt_of_lt_of_le hb.lt (hkk _ _ _).size⟩ (hkk _ _ _)
  · exact At.of_get fun j v hv => World.rangeAt_setCells_same w g 0 vs' hth j v hv
  · intro j
    rw [World.frozen?_setCells]; exact hb.free j
end
end Go.Proofs.Ytlcdjaclahhdnaa
namespace Go.Proofs.Ytlcdjaclahhdnaa
open Go.RowKit
set_option linter.unusedSimpArgs false
set_option linter.unusedVariables false

/-- Nothing that was there has turned, but the blocks of M. -/
structure ButS (M : Nat → Prop) (w w' : World) : Prop where
  os : w'.os = w.os
  tape : w'.tape = w.tape
  output : w'.output = w.output
  size : w.heap.size ≤ w'.heap.size
  block : ∀ k, k < w.heap.size → ¬ M k → w'.heap[k]? = w.heap[k]?
section
variable {M M' : Nat → Prop} {w w' w'' : World}
theorem ButS.refl (M : Nat → Prop) (w : World) : ButS M w w := ⟨rfl, rfl, rfl, Nat.le_refl _, fun _ _ _ => rfl⟩
theorem ButS.trans (h : ButS M w w') (k : ButS M w' w'') : ButS M w w'' :=
  ⟨k.os.trans h.os, k.tape.trans h.tape, k.output.trans h.output, Nat.le_trans h.size k.size, fun i hi hn => (k.block i (Nat.lt_of_lt_of_le hi h.size) hn).trans (h.block i hi hn)⟩
/-- What the later step may turn besides is new. -/
theorem ButS.over (h : ButS M w w') (k : ButS M' w' w'') (hm : ∀ i, M' i → M i ∨ w.heap.size ≤ i) : ButS M w w'' :=
  ⟨k.os.trans h.os, k.tape.trans h.tape, k.output.trans h.output, Nat.le_trans h.size k.size, fun i hi hn => (k.block i (Nat.lt_of_lt_of_le hi h.size) (fun hk => by rcases hm i hk with h1 | h1; exact hn h1; omega)).trans (h.block i hi hn)⟩
theorem ButS.of_ext (h : Ext w w') : ButS M w w' := by
  have h' : Below w.heap.size w w' := h
  exact ⟨h'.os, h'.tape, h'.output, h'.size, fun k hk _ => h'.block k hk⟩
theorem ButS.of_but {r : Nat} (h : But r w w') (hr : M r) : ButS M w w' := ⟨h.os, h.tape, h.output, h.size, fun k hk hn => h.block k hk (fun e => hn (e ▸ hr))⟩
theorem ButS.of_grown {row : Option Nat} (h : w.grownBy w' row) (hr : ∀ k, row = some k → M k) : ButS M w w' := ⟨h.os, h.tape, h.output, h.size, fun k hk hn => h.block k hk (fun e => hn (hr k e.symm))⟩
theorem ButS.alloc (h : ButS M w w') (o : Obj) : ButS M w (w'.alloc o) := h.trans (.of_ext ((Ext.refl _).alloc o))
theorem ButS.drew (h : ButS M w w') : ButS M w w'.drew := h.trans (.of_ext (Ext.refl _).drew)
theorem ButS.set_ {p : Addr} (hp : w.heap.size ≤ p.block ∨ M p.block) (u : Value) (h : ButS M w w') : ButS M w (w'.setCell p u) := by
  refine ⟨h.os, h.tape, h.output, by have := h.size; simpa [World.setCell] using this, fun k hk hn => ?_⟩
  rw [Below.heap_setCell _ _ _ _ (by rcases hp with hp | hp; omega; exact fun e => hn (e ▸ hp))]
  exact h.block k hk hn
theorem ButS.at_ (h : ButS M w w') (g : Nat) (hg : g < w.heap.size) (hn : ¬ M g) : (∀ o, w'.cell? ⟨g, o, none⟩ = w.cell? ⟨g, o, none⟩) ∧ (∀ o, w'.frozen? ⟨g, o, none⟩ = w.frozen? ⟨g, o, none⟩) ∧ g < w'.heap.size := by
  have hb := h.block g hg hn
  refine ⟨fun o => ?_, fun o => ?_, Nat.lt_of_lt_of_le hg h.size⟩
  · simp only [World.cell?, hb]
  · simp only [World.frozen?, hb]
theorem ButS.to_ext {w0 : World} (h0 : Ext w0 w) (h : ButS M w w') (hr : ∀ k, M k → w0.heap.size ≤ k) : Ext w0 w' := by
  have h' : Below w0.heap.size w0 w := h0
  exact ⟨h.os.trans h'.os, h.tape.trans h'.tape, h.output.trans h'.output, Nat.le_trans h'.size h.size, fun k hk => (h.block k (Nat.lt_of_lt_of_le hk h'.size) (fun hm => by have := hr k hm; omega)).trans (h'.block k hk)⟩
theorem ButS.box (h : ButS M w w') {g : Nat} {vs : List Value} (hn : ¬ M g) (hb : BoxAt w g vs) : BoxAt w' g vs := by
  obtain ⟨c, f, l⟩ := h.at_ g hb.lt hn
  exact ⟨hb.cells.keep c, fun j => (f j).trans (hb.free j), l⟩
end

/-- The world, the blocks outside p being empty. -/
def only (w : World) (p : Nat → Bool) : World := { w with heap := w.heap.mapIdx fun i o => if p i then o else .cells #[] 0 }
theorem only_get {w : World} {p : Nat → Bool} {k : Nat} (h : p k = true) : (only w p).heap[k]? = w.heap[k]? := by
  simp [only, h]
theorem only_not {w : World} {p : Nat → Bool} {k : Nat} (h : p k = false) : (only w p).heap[k]? = (w.heap[k]?).map fun _ => .cells #[] 0 := by
  simp [only, h]
theorem only_cell {w w' : World} {p q : Nat → Bool} (h : ∀ k, k < w.heap.size → p k = true → q k = true ∧ w'.heap[k]? = w.heap[k]?) (a : Addr) (v : Value) (hc : (only w p).cell? a = some v) : (only w' q).cell? a = some v := by
  by_cases hp : p a.block = true
  · have hl : a.block < w.heap.size := by
      rcases Nat.lt_or_ge a.block w.heap.size with hl | hl
      · exact hl
      · simp only [World.cell?, only_get hp, Array.getElem?_eq_none hl] at hc; simp at hc
    obtain ⟨h1, h2⟩ := h _ hl hp
    simp only [World.cell?, only_get hp, only_get h1, h2] at hc ⊢
    exact hc
  · have hp' : p a.block = false := by simpa using hp
    simp only [World.cell?, only_not hp'] at hc
    cases hh : w.heap[a.block]? with
    | none => simp [hh] at hc
    | some o => simp [hh] at hc
theorem only_all (w : World) : only w (fun _ => true) = w := by
  have h : Array.mapIdx (fun (_ : Nat) (o : Obj) => o) w.heap = w.heap := by apply Array.ext <;> simp
  simp [only, h]
theorem At.of_cells {w w' : World} (hc : ∀ a v, w.cell? a = some v → w'.cell? a = some v) {g o : Nat} {vs : List Value} (h : At w g o vs) : At w' g o vs := .of_get fun j v hv => hc _ _ (h.get j v hv)
theorem Exs.At.of_cells {w w' : World} (hc : ∀ a v, w.cell? a = some v → w'.cell? a = some v) (l : List Ex) (ih : ∀ e ∈ l, ∀ s, Ex.In w e s → Ex.In w' e s) : ∀ g o, Exs.At w g o l → Exs.At w' g o l := by
  induction l with
  | nil => intro g o _; simp [Exs.At]
  | cons e l ih2 =>
    intro g o h
    simp only [Exs.At] at h ⊢
    obtain ⟨⟨s, h1, h2⟩, h3⟩ := h
    exact ⟨⟨s, Go.Proofs.Ytlcdjaclahhdnaa.At.of_cells hc h1, ih e (by simp) s h2⟩, ih2 (fun e he => ih e (by simp [he])) g (o + 8) h3⟩
theorem Ex.In.of_cells {w w' : World} (hc : ∀ a v, w.cell? a = some v → w'.cell? a = some v) : ∀ (e : Ex) (s : Value), Ex.In w e s → Ex.In w' e s := by
  intro e
  induction e using Ex.ind with
  | h k r c v l ih =>
    intro s h
    simp only [Ex.In] at h ⊢
    obtain ⟨h1, h2, h3, h4, h5, A, cap, h6, h7, h8, h9⟩ := h
    refine ⟨h1, h2, h3, h4, h5, A, cap, h6, h7, h8, fun hn => ?_⟩
    obtain ⟨g, o, h10, h11⟩ := h9 hn
    exact ⟨g, o, h10, Exs.At.of_cells hc l ih g o h11⟩
/-- Among the blocks from b on. -/
def from_ (b : Nat) : Nat → Bool := fun k => decide (b ≤ k)
theorem Ex.In.from_ext {M : Nat → Prop} {w w' : World} {b : Nat} {e : Ex} {s : Value} (h : Ex.In (only w (from_ b)) e s) (hb : ButS M w w') (hm : ∀ k, M k → k < b) : Ex.In (only w' (from_ b)) e s :=
  Ex.In.of_cells (only_cell fun k hk hp => ⟨hp, hb.block k hk fun hM => by have := hm k hM; simp only [from_, decide_eq_true_eq] at hp; omega⟩) e s h
theorem Ex.In.of_from {w : World} {b : Nat} {e : Ex} {s : Value} (h : Ex.In (only w (from_ b)) e s) : Ex.In w e s := by
  rw [← only_all w]
  exact Ex.In.of_cells (only_cell fun k hk hp => ⟨rfl, rfl⟩) e s h

/-- The blocks from base on, but the row's own. -/
def beside (base : Nat) (v : Value) : Nat → Bool := fun k => decide (base ≤ k) && !decide (v.ownBlock = some k)
def zipCells : List Ex → List Value → List Value
  | e :: l, s :: ss => e.cells s ++ zipCells l ss
  | _, _ => []
/-- A row of the call's own that holds expressions, the parts of which lie beside it. -/
def OwnX (w : World) (base : Nat) (v : Value) (l : List Ex) : Prop :=
  ∃ ss : List Value, ss.length = l.length ∧ w.ownsRow base 27 8 v l.length (zipCells l ss) ∧ ∀ (i : Nat) (e : Ex) (s : Value), l[i]? = some e → ss[i]? = some s → Ex.In (only w (beside base v)) e s
theorem OwnX.nil (w : World) (base : Nat) : OwnX w base (.slice none 0 0) [] := ⟨[], rfl, ⟨by simp [zipCells], .inl ⟨rfl, rfl⟩⟩, by simp⟩
theorem zipCells_snoc : ∀ (l : List Ex) (ss : List Value) (e : Ex) (s : Value), ss.length = l.length → zipCells (l ++ [e]) (ss ++ [s]) = zipCells l ss ++ e.cells s
  | [], [], e, s, _ => by simp [zipCells]
  | [], _ :: _, e, s, h => by simp at h
  | _ :: _, [], e, s, h => by simp at h
  | f :: l, t :: ss, e, s, h => by
    simp only [List.cons_append, zipCells]
    rw [zipCells_snoc l ss e s (by simpa using h), List.append_assoc]
theorem owns_lt {w : World} {base : Nat} {T : TypeId} {size : Nat} {v : Value} {n : Nat} {xs : List Value} (h : w.ownsRow base T size v n xs) {g : Nat} (hg : v.ownBlock = some g) : g < w.heap.size ∧ base ≤ g := by
  rcases h.2 with ⟨rfl, _⟩ | ⟨g', cap, cur, rfl, hb, hh, _⟩
  · simp [Value.ownBlock] at hg
  · simp [Value.ownBlock] at hg; subst hg
    exact ⟨(Array.getElem?_eq_some_iff.1 hh).1, hb⟩
/-- Behind a step that turns only blocks below the row's base. -/
theorem OwnX.buts {M : Nat → Prop} {w w' : World} {base : Nat} {v : Value} {l : List Ex} (h : OwnX w base v l) (hb : ButS M w w') (hm : ∀ k, M k → k < base) : OwnX w' base v l := by
  obtain ⟨ss, h1, h2, h3⟩ := h
  refine ⟨ss, h1, ?_, fun i e s he hs => Ex.In.of_cells (only_cell fun k hk hp => ⟨hp, hb.block k hk fun hM => ?_⟩) e s (h3 i e s he hs)⟩
  · refine ⟨h2.1, h2.2.imp id ?_⟩
    rintro ⟨g, cap, cur, hv, hbg, hh, r⟩
    exact ⟨g, cap, cur, hv, hbg, by rw [hb.block g (Array.getElem?_eq_some_iff.1 hh).1 (fun hM => by have := hm g hM; omega)]; exact hh, r⟩
  · have := hm k hM
    simp only [beside, Bool.and_eq_true, decide_eq_true_eq] at hp
    omega
/-- One more, of blocks from b on. -/
theorem OwnX.snoc {w w' : World} {base b : Nat} {v v' : Value} {l : List Ex} {ss : List Value} {e : Ex} {s : Value} (h1 : ss.length = l.length)
    (h3 : ∀ (i : Nat) (e : Ex) (s : Value), l[i]? = some e → ss[i]? = some s → Ex.In (only w (beside base v)) e s)
    (he : Ex.In (only w (from_ b)) e s) (hbb : base ≤ b) (hv : ∀ g, v.ownBlock = some g → g < b)
    (ho : w'.ownsRow base 27 8 v' (l.length + 1) (zipCells l ss ++ e.cells s)) (hg : w.grownBy w' v.ownBlock) (hat : v'.ownBlock = v.ownBlock ∨ v'.ownBlock = some w.heap.size) : OwnX w' base v' (l ++ [e]) := by
  have hcell : ∀ a u, (only w (beside base v)).cell? a = some u → (only w' (beside base v')).cell? a = some u := only_cell fun k hk hp => by
    simp only [beside, Bool.and_eq_true, decide_eq_true_eq, Bool.not_eq_true', decide_eq_false_iff_not] at hp ⊢
    refine ⟨⟨hp.1, ?_⟩, hg.block k hk fun e => hp.2 e.symm⟩
    rcases hat with h | h
    · rw [h]; exact hp.2
    · rw [h]; simp; omega
  refine ⟨ss ++ [s], by simp [h1], ?_, fun i f t hf ht => ?_⟩
  · rw [zipCells_snoc l ss e s h1, List.length_append]; exact ho
  · rw [List.getElem?_append] at hf ht
    rw [← h1] at hf
    split at hf
    · rename_i hi
      rw [if_pos hi] at ht
      exact Ex.In.of_cells hcell f t (h3 i f t hf ht)
    · rename_i hi
      rw [if_neg hi] at ht
      have e0 : i - ss.length = 0 := by
        rcases Nat.eq_zero_or_pos (i - ss.length) with h | h
        · exact h
        · rw [List.getElem?_eq_none (by simp; omega)] at hf; cases hf
      rw [e0] at hf ht
      simp only [List.getElem?_cons_zero, Option.some.injEq] at hf ht
      subst hf; subst ht
      refine Ex.In.of_cells hcell e s (Ex.In.of_cells (only_cell fun k hk hp => ⟨?_, rfl⟩) e s he)
      simp only [from_, beside, Bool.and_eq_true, decide_eq_true_eq, Bool.not_eq_true', decide_eq_false_iff_not] at hp ⊢
      exact ⟨by omega, fun hk => by have := hv k hk; omega⟩
theorem Exs.At.of_row {w u : World} {g : Nat} (hu : ∀ a v, u.cell? a = some v → w.cell? a = some v) : ∀ (l : List Ex) (ss : List Value) (o : Nat), ss.length = l.length → Go.Proofs.Ytlcdjaclahhdnaa.At w g o (zipCells l ss) →
    (∀ (i : Nat) (e : Ex) (s : Value), l[i]? = some e → ss[i]? = some s → Ex.In u e s) → Exs.At w g o l
  | [], _, _, _, _, _ => by simp [Exs.At]
  | _ :: _, [], _, h, _, _ => by simp at h
  | e :: l, s :: ss, o, h, ha, hi => by
    simp only [zipCells] at ha
    obtain ⟨h1, h2⟩ := At.split ha
    simp only [Exs.At]
    exact ⟨⟨s, h1, Ex.In.of_cells hu e s (hi 0 e s rfl rfl)⟩, Exs.At.of_row hu l ss (o + 8) (by simpa using h) h2 fun i f t hf ht => hi (i + 1) f t (by simpa using hf) (by simpa using ht)⟩
/-- The parts of an expression that is done. -/
theorem OwnX.exsIn {w : World} {base : Nat} {v : Value} {l : List Ex} (h : OwnX w base v l) : ExsIn (only w (from_ base)) v l := by
  obtain ⟨ss, h1, h2, h3⟩ := h
  have hu : ∀ a u, (only w (beside base v)).cell? a = some u → (only w (from_ base)).cell? a = some u := only_cell fun k hk hp => by
    simp only [from_, beside, Bool.and_eq_true, decide_eq_true_eq] at hp ⊢
    exact ⟨hp.1, trivial⟩
  rcases h2.2 with ⟨rfl, h0⟩ | ⟨g, cap, cur, rfl, hb, hh, hc, hm, hx⟩
  · have : l = [] := List.eq_nil_of_length_eq_zero h0
    subst this
    exact ⟨by simp, none, 0, rfl, by simp, fun _ => rfl, fun h => absurd rfl h⟩
  · unfold maxLen at hm
    refine ⟨by omega, some ⟨g, 0, none⟩, cap, rfl, hc, (fun h => by cases h), fun _ => ⟨g, 0, rfl, Exs.At.of_row hu l ss 0 h1 ?_ h3⟩⟩
    refine At.of_get fun j u hu => ?_
    have h5 := World.ownsRow.cells h2 (g := g) rfl j u hu
    rw [add_at] at h5
    simp only [World.cell?] at h5 ⊢
    rw [only_get (by simp only [from_, decide_eq_true_eq]; exact hb)]
    exact h5
theorem info_ex : (Try.prog.info? 27).map (fun i => (i.zero, i.size, i.bytes)) = some (some (.agg #[.int .i64 0, .int .i64 0, .int .i64 0, .int .i64 0, .int .i64 0, .float .f64 0, .string ⟨#[]⟩, .slice none 0 0]), 8, 88) := by kernel_rfl
/-- 'append(kids, x)'. -/
theorem wpList_addX {w : World} {ops : Array Oper} {rest : List Oper} {o : Oper} {a : Act} {Q : Exit → Act → World → Prop} (hgd : o.guard = none) (x y : Operand)
    (ho : o.op = .call { callee := .builtin .append, args := #[x, y], argTypes := #[25, 25] })
    {base b : Nat} {v : Value} {l : List Ex} (hs : a.eval x = v) (hown : OwnX w base v l) (e : Ex) (s : Value) {g : Nat} (hx : a.eval y = .slice (some ⟨g, 0, none⟩) 1 1) (hg : g = w.heap.size)
    (he : Ex.In (only w (from_ b)) e s) (hbb : base ≤ b) (hv : ∀ g, v.ownBlock = some g → g < b) (hl : l.length ≤ 1000000000) (hbase : base ≤ w.heap.size) {A : Array Value} (hA : A = (e.cells s).toArray)
    (h : ∀ v' w', OwnX w' base v' (l ++ [e]) → ButS (fun k => v.ownBlock = some k) w w' → wpList Try.prog ops Q rest (a.put o.dst v') w') : wpList Try.prog ops Q (o :: rest) a (w.alloc (.cells A 27)) := by
  subst hg; subst hA
  obtain ⟨ss, h1, h2, h3⟩ := hown
  obtain ⟨i, hi1, hi2⟩ := Option.map_eq_some_iff.1 info_ex
  simp only [Prod.mk.injEq] at hi2
  refine wpList_append_own_at _ hgd x y 25 ho base 27 i _ 8 88 Try.underlying25 hi1 hi2.1 hi2.2.1 hi2.2.2 rfl (by omega) v l.length (zipCells l ss) hs (owns_ext h2 ((Ext.refl w).alloc _)) ⟨w.heap.size, 0, none⟩ 1 1 (e.cells s) hx rfl (fun j u hu => ?_) ?_ ?_ ?_ (by simp; omega) fun v' w' ho' hg' _ hat => ?_
  · rw [add_at]; exact (At.new rfl _ _ _ rfl).get j u hu
  · obtain ⟨_, A', cap', rfl, _⟩ := (Ex.In.mk_inv he).2.2.2.2
    intro u hu
    simp only [Ex.cells, exCells, List.mem_cons, List.not_mem_nil, or_false] at hu
    rcases hu with rfl | rfl | rfl | rfl | rfl | rfl | rfl | rfl <;> rfl
  · unfold maxLen; omega
  · omega
  · have hgr : w.grownBy w' v.ownBlock := ⟨hg'.os, hg'.tape, hg'.output, Nat.le_trans (by simp) hg'.size, fun k hk hn => (hg'.block k (by simp; omega) hn).trans (heap_alloc_old w _ hk)⟩
    refine h v' w' ?_ (ButS.of_grown hgr fun k hk => hk)
    have hc : ∀ p : Nat → Bool, ∀ a u, (only w p).cell? a = some u → (only (w.alloc (.cells (e.cells s).toArray 27)) p).cell? a = some u := fun p => only_cell fun k hk hp => ⟨hp, heap_alloc_old w _ hk⟩
    exact OwnX.snoc h1 (fun i f t hf ht => Ex.In.of_cells (hc _) f t (h3 i f t hf ht)) (Ex.In.of_cells (hc _) e s he) hbb hv ho' hg' hat
set_option maxRecDepth 100000 in
set_option maxHeartbeats 1000000 in
/-- expr.guarded around expr.Take's closure, that turns the blocks of M alone. -/
theorem guarded_take (M : Nat → Prop) (cap : Array Value) (w : World) (S : World → Prop) (hM : ∀ k, M k → k < w.heap.size)
    (hcall : Hid (∀ w', Ext w w' → Calls Try.prog 59 cap w' fun e u => e = .returned (.tuple #[]) ∧ ButS M w' u ∧ S u)) :
    Calls Try.prog 58 #[.func (.func 59) #[] cap] w fun e w' => e = .returned (.int .i64 0) ∧ (∃ u, S u ∧ But w.heap.size u w') ∧ ButS M w w' := by
  have hmf : ∀ (fn : Fn) (first cap : Array Value) (w : World), (Instr.makeFunc fn first cap).run Try.prog w = .ok (.func fn first cap) w := fun _ _ _ _ => rfl
  have h0 : BoxAt (w.alloc (.cells #[.int .i64 0] 35)) w.heap.size [.int .i64 0] := BoxAt.new rfl rfl
  have H0 := Lib.hid h0; clear h0
  have hng : ¬ M w.heap.size := fun h => by have := hM _ h; omega
  have HNG := Lib.hid hng; have HM := Lib.hid hM; clear hng hM
  go_enter_defers Try.func58, Try.ntmps58
  go_wp2_with (go_at_call 59; refine (hcall.out _ (by repeat (first | (with_reducible exact Ext.refl _) | (with_reducible refine Ext.set_ ?_ _ ?_; focus (first | (simp; done) | (simp; omega) | (simp at *; omega))) | (with_reducible refine Ext.alloc ?_ _) | (with_reducible refine Ext.drew ?_) | (with_reducible refine Ext.drewN ?_ _) | (with_reducible refine Ext.trans ?_ (by assumption))))).mono ?_; rintro e u ⟨rfl, hb, hs⟩; have HB := Lib.hid (ButS.box hb HNG.out H0.out); have HBU := Lib.hid hb; have HS := Lib.hid hs; obtain ⟨c0, f0, l0⟩ := hb.at_ w.heap.size (by simp) HNG.out; clear hb hs)
  have HB1 := Lib.hid (HB.out.set1 (v := .int .i64 0))
  have hc := HB1.out.cells.1
  refine leaves_cons (f := 111) (args := #[.pointer (some ⟨w.heap.size, 0, none⟩)]) (by simp) (by simp [go_sem]) ?_
  refine (catch_idle w.heap.size _).mono ?_
  rintro e u' w'' ⟨rfl, rfl, rfl⟩
  have h1 : But w.heap.size u (u.setCell ⟨w.heap.size, 0, none⟩ (.int .i64 0)) := But.set_ (p := ⟨w.heap.size, 0, none⟩) (.inr rfl) _ (But.refl _ u)
  have h2 : ButS M w (u.setCell ⟨w.heap.size, 0, none⟩ (.int .i64 0)) := ButS.set_ (p := ⟨w.heap.size, 0, none⟩) (.inl (Nat.le_refl _)) _ ((ButS.of_ext ((Ext.refl w).alloc _)).trans HBU.out)
  have h3 : ∃ x, S x ∧ But w.heap.size x (u.setCell ⟨w.heap.size, 0, none⟩ (.int .i64 0)) := ⟨u, HS.out, h1⟩
  simp [Leaves, settle, results, Try.results58, go_sem, hc, h2, h3]
end Go.Proofs.Ytlcdjaclahhdnaa
namespace Go.Proofs.Ytlcdjaclahhdnaa
open Go.RowKit
set_option linter.unusedSimpArgs false
set_option linter.unusedVariables false
attribute [local irreducible] wpQuiet

theorem name_worldA {P : Program} {c : Code} {Q : Exit → Act → World → Prop} {a : Act} {w : World} (F : World → Prop) (hF : F w) (h : ∀ u, F u → c.wp P Q a u) : c.wp P Q a w := h w hF
theorem BoxAt.setAt9 {w : World} {g i : Nat} {vs : List Value} (u : Value) (h : BoxAt w g vs) (hi : i < vs.length) : BoxAt (w.setCell ⟨g, i, none⟩ u) g (vs.set i u) := by
  have hb : But g w (w.setCell ⟨g, i, none⟩ u) := But.set_ (p := ⟨g, i, none⟩) (.inr rfl) u (But.refl g w)
  refine ⟨At.of_get fun j v hv => ?_, fun j => by rw [World.frozen?_setCell]; exact h.free j, Nat.lt_of_lt_of_le h.lt hb.size⟩
  rw [List.getElem?_set] at hv
  by_cases hij : i = j
  · subst hij
    rw [if_pos rfl] at hv
    have hc := h.cells.get i vs[i] (List.getElem?_eq_getElem hi)
    rw [Nat.zero_add] at hc ⊢
    rw [if_pos (by simpa using hi)] at hv
    simp only [Option.some.injEq] at hv
    subst hv
    exact World.cell?_setCell_same' _ _ _ (by rw [hc]; rfl)
  · rw [if_neg hij] at hv
    have hc := h.cells.get j v hv
    rw [Nat.zero_add] at hc ⊢
    rw [← hc]
    apply World.cell?_setCell_other
    simp [hij]
/-- Cells laid over others, from a place on. -/
def setMany : List Value → Nat → List Value → List Value
  | vs, _, [] => vs
  | vs, o, u :: us => setMany (vs.set o u) (o + 1) us
theorem setMany_length : ∀ (us vs : List Value) (o : Nat), (setMany vs o us).length = vs.length
  | [], _, _ => rfl
  | u :: us, vs, o => by simp only [setMany]; rw [setMany_length us]; simp
theorem BoxAt.setCells {g : Nat} : ∀ (us : List Value) {w : World} {vs : List Value} {o : Nat}, BoxAt w g vs → o + us.length ≤ vs.length → BoxAt (w.setCells g o us) g (setMany vs o us)
  | [], w, vs, o, h, _ => h
  | u :: us, w, vs, o, h, hl => BoxAt.setCells us (h.setAt9 u (by simp only [List.length_cons] at hl; omega)) (by simp only [List.length_cons, List.length_set] at *; omega)
theorem But.setCells {g : Nat} : ∀ (us : List Value) (o : Nat) (w : World), But g w (w.setCells g o us)
  | [], o, w => But.refl g w
  | v :: us, o, w => (But.set_ (p := ⟨g, o, none⟩) (.inr rfl) v (But.refl g w)).trans (But.setCells us (o + 1) (w.setCell ⟨g, o, none⟩ v))
section
variable {P : Program} {w : World} {ops : Array Oper} {rest : List Oper} {o : Oper} {a : Act} {Q : Exit → Act → World → Prop} {K : Act → World → Prop}
theorem run_storeG {t : TypeId} {g f : Nat} {vs' : List Value} {va : Value} (hva : va.cells = vs'.toArray) (h1 : ∀ u ∈ vs', u.oneCell' = true) (hk : (P.info? t).map (·.size) = some vs'.length) (ht : w.there g f vs'.length) :
    (storeVar t ⟨g, f, none⟩ va).run P w = .ok () (w.setCells g f vs') := by
  have := run_storeCells_cells (P := P) g f vs' 0 w (fun j hj => by simpa using (ht j hj).1) (fun j hj => by simpa using (ht j hj).2) h1
  cases hq : P.info? t with
  | none => simp [hq] at hk
  | some i =>
    have hs : vs'.length = i.size := by simp [hq] at hk; omega
    simp only [Nat.add_zero] at this
    simp [storeVar, sizeOf, typeInfo, hq, hva, hs, this]
/-- A value stored into a part of a block. -/
theorem wp_storeM {t : TypeId} {g f : Nat} {vs vs' : List Value} (h1 : ∀ u ∈ vs', u.oneCell' = true) (hb : BoxAt w g vs) (hk : (P.info? t).map (·.size) = some vs'.length) (hl : f + vs'.length ≤ vs.length) {va : Value} (hva : va.cells = vs'.toArray) (x y : Operand) (ho : o.op = .store t x y)
    (hx : a.eval x = .pointer (some ⟨g, f, none⟩)) (hy : a.eval y = va)
    (h : ∀ w', BoxAt w' g (setMany vs f vs') → But g w w' → K (a.put o.dst undef) w') : o.wp P a w K Q := by
  have hth : w.there g f vs'.length := fun j hj => by
    have := hb.cells.get (f + j) vs[f + j] (List.getElem?_eq_getElem (by omega))
    rw [Nat.zero_add] at this
    exact ⟨by rw [this]; rfl, hb.free _⟩
  unfold Oper.wp execOp
  simp only [ho, hx, hy, Instr.storeAt, Instr.sureAddr, Sem.run_bind, Sem.run_pure, Result.andThen_ok, run_storeG hva h1 hk hth]
  exact h _ (hb.setCells vs' hl) (But.setCells _ _ _)
theorem wpList_storeM {t : TypeId} {g f : Nat} {vs vs' : List Value} (h1 : ∀ u ∈ vs', u.oneCell' = true) (hb : BoxAt w g vs) (hk : (P.info? t).map (·.size) = some vs'.length) (hl : f + vs'.length ≤ vs.length) (hgd : o.guard = none) {va : Value} (hva : va.cells = vs'.toArray) (x y : Operand) (ho : o.op = .store t x y)
    (hx : a.eval x = .pointer (some ⟨g, f, none⟩)) (hy : a.eval y = va)
    (h : ∀ w', BoxAt w' g (setMany vs f vs') → But g w w' → wpList P ops Q rest (a.put o.dst undef) w') : wpList P ops Q (o :: rest) a w :=
  wpList_plain hgd fun K hK => wp_storeM h1 hb hk hl hva x y ho hx hy fun w' h2 h3 => hK _ _ (h w' h2 h3)
end
theorem sizeInt9 : (Try.prog.info? 3).map (·.size) = some 1 := by kernel_rfl
theorem Rng.one9 {us : List Value} (h : us.all (fun u => u.oneCell') = true) : ∀ u ∈ us, u.oneCell' = true := List.all_eq_true.1 h

set_option maxRecDepth 100000 in
set_option maxHeartbeats 4000000 in
theorem widen_a (g : Rng) (v : Val) (w : World) (hg : g.Ok) (hv : v.Ok) (hk : v.kind = 0) (h1 : -9223372036854775808 ≤ g.nulls ∧ g.nulls < 9223372036854775807) :
    Calls Try.prog 143 #[.agg g.cells.toArray, .agg #[.int .i64 v.kind, .int .i64 v.int, .float .f64 v.flt, .string v.text]] w fun e w' => e = .returned (.agg [.int .i64 g.kind, .int .i64 (g.nulls + 1), .int .i64 g.low.kind, .int .i64 g.low.int, .float .f64 g.low.flt, .string g.low.text, .int .i64 g.high.kind, .int .i64 g.high.int, .float .f64 g.high.flt, .string g.high.text].toArray) ∧ Ext w w' := by
  have hk' : (v.kind == 0) = true := by simpa using hk
  have hw : wrap64 (g.nulls + 1) = g.nulls + 1 := by unfold wrap64; omega
  clear hk
  unfold Rng.cells
  have HB0 := Lib.hid (((BoxAt.new (w := w) (vs := [.int .i64 g.kind, .int .i64 g.nulls, .int .i64 g.low.kind, .int .i64 g.low.int, .float .f64 g.low.flt, .string g.low.text, .int .i64 g.high.kind, .int .i64 g.high.int, .float .f64 g.high.flt, .string g.high.text]) (t := 149) rfl rfl).ext ((Ext.refl _).alloc (.cells [.int .i64 v.kind, .int .i64 v.int, .float .f64 v.flt, .string v.text].toArray 24))).ext ((Ext.refl _).alloc (.cells [.int .i64 0, .int .i64 0, .int .i64 0, .int .i64 0, .float .f64 0, .string ⟨#[]⟩, .int .i64 0, .int .i64 0, .float .f64 0, .string ⟨#[]⟩].toArray 149)))
  have HB1 := Lib.hid ((BoxAt.new (w := w.alloc (.cells [.int .i64 g.kind, .int .i64 g.nulls, .int .i64 g.low.kind, .int .i64 g.low.int, .float .f64 g.low.flt, .string g.low.text, .int .i64 g.high.kind, .int .i64 g.high.int, .float .f64 g.high.flt, .string g.high.text].toArray 149)) (g := w.heap.size + 1) (vs := [.int .i64 v.kind, .int .i64 v.int, .float .f64 v.flt, .string v.text]) (t := 24) (by simp) rfl).ext ((Ext.refl _).alloc (.cells [.int .i64 0, .int .i64 0, .int .i64 0, .int .i64 0, .float .f64 0, .string ⟨#[]⟩, .int .i64 0, .int .i64 0, .float .f64 0, .string ⟨#[]⟩].toArray 149)))
  have HB2 := Lib.hid (BoxAt.new (w := (w.alloc (.cells [.int .i64 g.kind, .int .i64 g.nulls, .int .i64 g.low.kind, .int .i64 g.low.int, .float .f64 g.low.flt, .string g.low.text, .int .i64 g.high.kind, .int .i64 g.high.int, .float .f64 g.high.flt, .string g.high.text].toArray 149)).alloc (.cells [.int .i64 v.kind, .int .i64 v.int, .float .f64 v.flt, .string v.text].toArray 24)) (g := w.heap.size + 2) (vs := [.int .i64 0, .int .i64 0, .int .i64 0, .int .i64 0, .float .f64 0, .string ⟨#[]⟩, .int .i64 0, .int .i64 0, .float .f64 0, .string ⟨#[]⟩]) (t := 149) (by simp) rfl)
  have HE := Lib.hid ((((Ext.refl w).alloc (.cells [.int .i64 g.kind, .int .i64 g.nulls, .int .i64 g.low.kind, .int .i64 g.low.int, .float .f64 g.low.flt, .string g.low.text, .int .i64 g.high.kind, .int .i64 g.high.int, .float .f64 g.high.flt, .string g.high.text].toArray 149)).alloc (.cells [.int .i64 v.kind, .int .i64 v.int, .float .f64 v.flt, .string v.text].toArray 24)).alloc (.cells [.int .i64 0, .int .i64 0, .int .i64 0, .int .i64 0, .float .f64 0, .string ⟨#[]⟩, .int .i64 0, .int .i64 0, .float .f64 0, .string ⟨#[]⟩].toArray 149))
  go_enter Try.func143, Try.ntmps143
  go_upto_block 0 with fail
  refine name_worldA (fun u => Ext w u ∧ BoxAt u w.heap.size [.int .i64 g.kind, .int .i64 g.nulls, .int .i64 g.low.kind, .int .i64 g.low.int, .float .f64 g.low.flt, .string g.low.text, .int .i64 g.high.kind, .int .i64 g.high.int, .float .f64 g.high.flt, .string g.high.text] ∧ BoxAt u (w.heap.size + 1) [.int .i64 v.kind, .int .i64 v.int, .float .f64 v.flt, .string v.text] ∧ BoxAt u (w.heap.size + 2) [.int .i64 0, .int .i64 0, .int .i64 0, .int .i64 0, .float .f64 0, .string ⟨#[]⟩, .int .i64 0, .int .i64 0, .float .f64 0, .string ⟨#[]⟩]) ⟨HE.out, HB0.out, HB1.out, HB2.out⟩ ?_
  clear HB0 HB1 HB2 HE
  rintro U ⟨hE, hb0, hb1, hb2⟩
  have HB0 := Lib.hid hb0; have HB1 := Lib.hid hb1; have HB2 := Lib.hid hb2; have HE := Lib.hid hE
  have hs : w.heap.size + 2 < U.heap.size := hb2.lt
  obtain ⟨x0, x1, -⟩ := hb0.cells
  obtain ⟨y0, -⟩ := hb1.cells
  simp only [Nat.zero_add, Nat.reduceAdd] at x0 x1 y0
  have z0 := hb0.free 0; have z1 := hb0.free 1
  clear hb0 hb1 hb2 hE
  go_upto_region 11 with fail
  have HB8 := Lib.hid (HB0.out.setAt9 (i := 1) (.int .i64 (g.nulls + 1)) (by simp))
  have HE8 := Lib.hid (HE.out.set_ (p := ⟨w.heap.size, 1, none⟩) (by simp) (.int .i64 (g.nulls + 1)))
  have HB9 := Lib.hid (But.box (But.set_ (p := ⟨w.heap.size, 1, none⟩) (.inr rfl) (.int .i64 (g.nulls + 1)) (But.refl w.heap.size U)) (show w.heap.size + 2 ≠ w.heap.size by omega) HB2.out)
  simp only [List.set_cons_zero, List.set_cons_succ] at HB8
  go_wp2_with (first
    | (refine wpList_wish rfl fun K hK => wp_loadA (vs := [.int .i64 g.kind, .int .i64 (g.nulls + 1), .int .i64 g.low.kind, .int .i64 g.low.int, .float .f64 g.low.flt, .string g.low.text, .int .i64 g.high.kind, .int .i64 g.high.int, .float .f64 g.high.flt, .string g.high.text]) agg_rng (.tmp 2) rfl rfl (HB8.out.cells) (hK _ _ ?_))
    | (refine wpList_storeA (vs' := [.int .i64 g.kind, .int .i64 (g.nulls + 1), .int .i64 g.low.kind, .int .i64 g.low.int, .float .f64 g.low.flt, .string g.low.text, .int .i64 g.high.kind, .int .i64 g.high.int, .float .f64 g.high.flt, .string g.high.text]) (Rng.one9 rfl) (HB9.out) size_rng rfl rfl (.tmp 4) _ rfl rfl rfl ?_; intro w9 hq1 hq2))
  exact back_cell rfl [.int .i64 g.kind, .int .i64 (g.nulls + 1), .int .i64 g.low.kind, .int .i64 g.low.int, .float .f64 g.low.flt, .string g.low.text, .int .i64 g.high.kind, .int .i64 g.high.int, .float .f64 g.high.flt, .string g.high.text] rfl agg_rng rfl hq1.cells ⟨by rfl, But.to_ext HE8.out hq2 (by omega)⟩
set_option maxRecDepth 100000 in
set_option maxHeartbeats 4000000 in
theorem widen_b (g : Rng) (v : Val) (w : World) (hg : g.Ok) (hv : v.Ok) (hk : ¬ v.kind = 0) (hgk : g.kind = 0) :
    Calls Try.prog 143 #[.agg g.cells.toArray, .agg #[.int .i64 v.kind, .int .i64 v.int, .float .f64 v.flt, .string v.text]] w fun e w' => e = .returned (.agg [.int .i64 v.kind, .int .i64 g.nulls, .int .i64 v.kind, .int .i64 v.int, .float .f64 v.flt, .string v.text, .int .i64 v.kind, .int .i64 v.int, .float .f64 v.flt, .string v.text].toArray) ∧ Ext w w' := by
  have hk' : (v.kind == 0) = false := by simpa using hk
  have hg' : (g.kind == 0) = true := by simpa using hgk
  clear hk hgk
  unfold Rng.cells
  have HB0 := Lib.hid (((BoxAt.new (w := w) (vs := [.int .i64 g.kind, .int .i64 g.nulls, .int .i64 g.low.kind, .int .i64 g.low.int, .float .f64 g.low.flt, .string g.low.text, .int .i64 g.high.kind, .int .i64 g.high.int, .float .f64 g.high.flt, .string g.high.text]) (t := 149) rfl rfl).ext ((Ext.refl _).alloc (.cells [.int .i64 v.kind, .int .i64 v.int, .float .f64 v.flt, .string v.text].toArray 24))).ext ((Ext.refl _).alloc (.cells [.int .i64 0, .int .i64 0, .int .i64 0, .int .i64 0, .float .f64 0, .string ⟨#[]⟩, .int .i64 0, .int .i64 0, .float .f64 0, .string ⟨#[]⟩].toArray 149)))
  have HB1 := Lib.hid ((BoxAt.new (w := w.alloc (.cells [.int .i64 g.kind, .int .i64 g.nulls, .int .i64 g.low.kind, .int .i64 g.low.int, .float .f64 g.low.flt, .string g.low.text, .int .i64 g.high.kind, .int .i64 g.high.int, .float .f64 g.high.flt, .string g.high.text].toArray 149)) (g := w.heap.size + 1) (vs := [.int .i64 v.kind, .int .i64 v.int, .float .f64 v.flt, .string v.text]) (t := 24) (by simp) rfl).ext ((Ext.refl _).alloc (.cells [.int .i64 0, .int .i64 0, .int .i64 0, .int .i64 0, .float .f64 0, .string ⟨#[]⟩, .int .i64 0, .int .i64 0, .float .f64 0, .string ⟨#[]⟩].toArray 149)))
  have HB2 := Lib.hid (BoxAt.new (w := (w.alloc (.cells [.int .i64 g.kind, .int .i64 g.nulls, .int .i64 g.low.kind, .int .i64 g.low.int, .float .f64 g.low.flt, .string g.low.text, .int .i64 g.high.kind, .int .i64 g.high.int, .float .f64 g.high.flt, .string g.high.text].toArray 149)).alloc (.cells [.int .i64 v.kind, .int .i64 v.int, .float .f64 v.flt, .string v.text].toArray 24)) (g := w.heap.size + 2) (vs := [.int .i64 0, .int .i64 0, .int .i64 0, .int .i64 0, .float .f64 0, .string ⟨#[]⟩, .int .i64 0, .int .i64 0, .float .f64 0, .string ⟨#[]⟩]) (t := 149) (by simp) rfl)
  have HE := Lib.hid ((((Ext.refl w).alloc (.cells [.int .i64 g.kind, .int .i64 g.nulls, .int .i64 g.low.kind, .int .i64 g.low.int, .float .f64 g.low.flt, .string g.low.text, .int .i64 g.high.kind, .int .i64 g.high.int, .float .f64 g.high.flt, .string g.high.text].toArray 149)).alloc (.cells [.int .i64 v.kind, .int .i64 v.int, .float .f64 v.flt, .string v.text].toArray 24)).alloc (.cells [.int .i64 0, .int .i64 0, .int .i64 0, .int .i64 0, .float .f64 0, .string ⟨#[]⟩, .int .i64 0, .int .i64 0, .float .f64 0, .string ⟨#[]⟩].toArray 149))
  go_enter Try.func143, Try.ntmps143
  go_upto_block 0 with fail
  refine name_worldA (fun u => Ext w u ∧ BoxAt u w.heap.size [.int .i64 g.kind, .int .i64 g.nulls, .int .i64 g.low.kind, .int .i64 g.low.int, .float .f64 g.low.flt, .string g.low.text, .int .i64 g.high.kind, .int .i64 g.high.int, .float .f64 g.high.flt, .string g.high.text] ∧ BoxAt u (w.heap.size + 1) [.int .i64 v.kind, .int .i64 v.int, .float .f64 v.flt, .string v.text] ∧ BoxAt u (w.heap.size + 2) [.int .i64 0, .int .i64 0, .int .i64 0, .int .i64 0, .float .f64 0, .string ⟨#[]⟩, .int .i64 0, .int .i64 0, .float .f64 0, .string ⟨#[]⟩]) ⟨HE.out, HB0.out, HB1.out, HB2.out⟩ ?_
  clear HB0 HB1 HB2 HE
  rintro U ⟨hE, hb0, hb1, hb2⟩
  have HB0 := Lib.hid hb0; have HB1 := Lib.hid hb1; have HB2 := Lib.hid hb2; have HE := Lib.hid hE
  have hs : w.heap.size + 2 < U.heap.size := hb2.lt
  obtain ⟨x0, x1, -⟩ := hb0.cells
  obtain ⟨y0, -⟩ := hb1.cells
  simp only [Nat.zero_add, Nat.reduceAdd] at x0 x1 y0
  have z0 := hb0.free 0; have z1 := hb0.free 1
  clear hb0 hb1 hb2 hE
  go_upto_region 4 with fail
  refine wp_region_held (S := ButS (fun k => k = w.heap.size) U) (by kernel_rfl) ?_
  change wpAnyH _ _ _ _ _ _ _ _ U.drew
  have HS0 := Lib.hid ((ButS.refl (fun k => k = w.heap.size) U).drew)
  have HV : Hid (∀ u, ButS (fun k => k = w.heap.size) U u → At u (w.heap.size + 1) 0 [.int .i64 v.kind, .int .i64 v.int, .float .f64 v.flt, .string v.text]) := Lib.hid fun u h => (ButS.box h (by omega) HB1.out).cells
  have HC : Hid (∀ u, ButS (fun k => k = w.heap.size) U u → u.cell? ⟨w.heap.size + 1, 0, none⟩ = some (.int .i64 v.kind)) := Lib.hid fun u h => by have := (HV.out u h).get 0 _ rfl; simpa using this
  refine held_run (i := 0) (.pointer (some ⟨w.heap.size + 1, 0, none⟩)) rfl (by kernel_rfl) (by kernel_rfl) (by kernel_rfl) (fun _ _ _ h => h) rfl (fun u _ => by go_simp) HS0.out ?_
  simp only [Act.put, List.setIfInBounds_toArray, List.set_cons_zero, List.set_cons_succ]
  refine held_cell (i := 1) (v := (.int .i64 v.kind)) (.tmp 17) rfl rfl (by kernel_rfl) (by kernel_rfl) (by kernel_rfl) (fun _ _ _ h => h) rfl Try.underlying3 rfl rfl (fun u h => HC.out u h) HS0.out ?_
  simp only [Act.put, List.setIfInBounds_toArray, List.set_cons_zero, List.set_cons_succ]
  refine held_loadA (i := 2) (vs := [.int .i64 v.kind, .int .i64 v.int, .float .f64 v.flt, .string v.text]) (.tmp 3) rfl rfl (by kernel_rfl) (by kernel_rfl) (by kernel_rfl) (fun _ _ _ h => h) rfl agg_val rfl (fun u h => HV.out u h) HS0.out ?_
  simp only [Act.put, List.setIfInBounds_toArray, List.set_cons_zero, List.set_cons_succ]
  refine held_loadA (i := 3) (vs := [.int .i64 v.kind, .int .i64 v.int, .float .f64 v.flt, .string v.text]) (.tmp 3) rfl rfl (by kernel_rfl) (by kernel_rfl) (by kernel_rfl) (fun _ _ _ h => h) rfl agg_val rfl (fun u h => HV.out u h) HS0.out ?_
  simp only [Act.put, List.setIfInBounds_toArray, List.set_cons_zero, List.set_cons_succ]
  refine held_run (i := 4) (.pointer (some ⟨w.heap.size, 0, none⟩)) rfl (by kernel_rfl) (by kernel_rfl) (by kernel_rfl) (fun _ _ _ h => h) rfl (fun u _ => by go_simp) HS0.out ?_
  simp only [Act.put, List.setIfInBounds_toArray, List.set_cons_zero, List.set_cons_succ]
  refine held_do (i := 5) rfl (by kernel_rfl) rfl fun K hK => ?_
  refine wp_storeM (f := 0) (vs' := [.int .i64 v.kind]) (by simp [Value.oneCell']) (HB0.out.ext (Ext.refl _).drew) sizeInt9 (by simp [setMany]) rfl (.tmp 21) (.tmp 18) rfl rfl rfl ?_
  intro w4 hq1 hq2
  have HD1 := Lib.hid hq1; have HE4 := Lib.hid (But.to_ext HE.out.drew hq2 (Nat.le_refl _)); have HS1 := Lib.hid (HS0.out.trans (ButS.of_but (M := fun k => k = w.heap.size) hq2 rfl))
  clear hq1 hq2
  refine hK _ _ HS1.out ?_
  simp only [Act.put, List.setIfInBounds_toArray, List.set_cons_zero, List.set_cons_succ]
  clear hK K
  refine held_run (i := 6) (.pointer (some ⟨w.heap.size, 2, none⟩)) rfl (by kernel_rfl) (by kernel_rfl) (by kernel_rfl) (fun _ _ _ h => h) rfl (fun u _ => by go_simp) HS1.out ?_
  simp only [Act.put, List.setIfInBounds_toArray, List.set_cons_zero, List.set_cons_succ]
  refine held_do (i := 7) rfl (by kernel_rfl) rfl fun K hK => ?_
  refine wp_storeM (f := 2) (vs' := [.int .i64 v.kind, .int .i64 v.int, .float .f64 v.flt, .string v.text]) (val_one v) HD1.out sizeVal (by simp [setMany]) rfl (.tmp 22) (.tmp 19) rfl rfl rfl ?_
  intro w5 hq1 hq2
  have HD2 := Lib.hid hq1; have HE5 := Lib.hid (But.to_ext HE4.out hq2 (Nat.le_refl _)); have HS2 := Lib.hid (HS1.out.trans (ButS.of_but (M := fun k => k = w.heap.size) hq2 rfl))
  clear hq1 hq2
  refine hK _ _ HS2.out ?_
  simp only [Act.put, List.setIfInBounds_toArray, List.set_cons_zero, List.set_cons_succ]
  clear hK K
  refine held_run (i := 8) (.pointer (some ⟨w.heap.size, 6, none⟩)) rfl (by kernel_rfl) (by kernel_rfl) (by kernel_rfl) (fun _ _ _ h => h) rfl (fun u _ => by go_simp) HS2.out ?_
  simp only [Act.put, List.setIfInBounds_toArray, List.set_cons_zero, List.set_cons_succ]
  refine held_do (i := 9) rfl (by kernel_rfl) rfl fun K hK => ?_
  refine wp_storeM (f := 6) (vs' := [.int .i64 v.kind, .int .i64 v.int, .float .f64 v.flt, .string v.text]) (val_one v) HD2.out sizeVal (by simp [setMany]) rfl (.tmp 23) (.tmp 20) rfl rfl rfl ?_
  intro w6 hq1 hq2
  have HD3 := Lib.hid hq1; have HE6 := Lib.hid (But.to_ext HE5.out hq2 (Nat.le_refl _)); have HS3 := Lib.hid (HS2.out.trans (ButS.of_but (M := fun k => k = w.heap.size) hq2 rfl))
  clear hq1 hq2
  refine hK _ _ HS3.out ?_
  simp only [Act.put, List.setIfInBounds_toArray, List.set_cons_zero, List.set_cons_succ]
  clear hK K
  refine wpAnyH_done (by kernel_rfl) ?_ _
  have HB9 := Lib.hid (ButS.box HS3.out (by omega) HB2.out)
  simp only [setMany, List.set_cons_zero, List.set_cons_succ] at HD3
  clear HB0 HB1 HB2 HD1 HD2 HE HE4 HE5 HS0 HS1 HS2 HS3 HV HC x0 x1 y0 z0 z1
  go_wp2_with (first
    | (refine wpList_wish rfl fun K hK => wp_loadA (vs := [.int .i64 v.kind, .int .i64 g.nulls, .int .i64 v.kind, .int .i64 v.int, .float .f64 v.flt, .string v.text, .int .i64 v.kind, .int .i64 v.int, .float .f64 v.flt, .string v.text]) agg_rng (.tmp 2) rfl rfl (HD3.out.cells) (hK _ _ ?_))
    | (refine wpList_storeA (vs' := [.int .i64 v.kind, .int .i64 g.nulls, .int .i64 v.kind, .int .i64 v.int, .float .f64 v.flt, .string v.text, .int .i64 v.kind, .int .i64 v.int, .float .f64 v.flt, .string v.text]) (Rng.one9 rfl) (HB9.out) size_rng rfl rfl (.tmp 4) _ rfl rfl rfl ?_; intro w9 hq1 hq2))
  exact back_cell rfl [.int .i64 v.kind, .int .i64 g.nulls, .int .i64 v.kind, .int .i64 v.int, .float .f64 v.flt, .string v.text, .int .i64 v.kind, .int .i64 v.int, .float .f64 v.flt, .string v.text] rfl agg_rng rfl hq1.cells ⟨by rfl, But.to_ext HE6.out hq2 (by omega)⟩
set_option maxRecDepth 100000 in
set_option maxHeartbeats 4000000 in
theorem widen_c (g : Rng) (v : Val) (w : World) (hg : g.Ok) (hv : v.Ok) (hk : ¬ v.kind = 0) (hgk : ¬ g.kind = 0) (hne : ¬ g.kind = v.kind) :
    Calls Try.prog 143 #[.agg g.cells.toArray, .agg #[.int .i64 v.kind, .int .i64 v.int, .float .f64 v.flt, .string v.text]] w fun e w' => e = .returned (.agg [.int .i64 (-1), .int .i64 g.nulls, .int .i64 0, .int .i64 0, .float .f64 0, .string ⟨#[]⟩, .int .i64 0, .int .i64 0, .float .f64 0, .string ⟨#[]⟩].toArray) ∧ Ext w w' := by
  have hk' : (v.kind == 0) = false := by simpa using hk
  have hg' : (g.kind == 0) = false := by simpa using hgk
  have hn' : (g.kind != v.kind) = true := by simpa using hne
  clear hk hgk hne
  unfold Rng.cells
  have HB0 := Lib.hid (((BoxAt.new (w := w) (vs := [.int .i64 g.kind, .int .i64 g.nulls, .int .i64 g.low.kind, .int .i64 g.low.int, .float .f64 g.low.flt, .string g.low.text, .int .i64 g.high.kind, .int .i64 g.high.int, .float .f64 g.high.flt, .string g.high.text]) (t := 149) rfl rfl).ext ((Ext.refl _).alloc (.cells [.int .i64 v.kind, .int .i64 v.int, .float .f64 v.flt, .string v.text].toArray 24))).ext ((Ext.refl _).alloc (.cells [.int .i64 0, .int .i64 0, .int .i64 0, .int .i64 0, .float .f64 0, .string ⟨#[]⟩, .int .i64 0, .int .i64 0, .float .f64 0, .string ⟨#[]⟩].toArray 149)))
  have HB1 := Lib.hid ((BoxAt.new (w := w.alloc (.cells [.int .i64 g.kind, .int .i64 g.nulls, .int .i64 g.low.kind, .int .i64 g.low.int, .float .f64 g.low.flt, .string g.low.text, .int .i64 g.high.kind, .int .i64 g.high.int, .float .f64 g.high.flt, .string g.high.text].toArray 149)) (g := w.heap.size + 1) (vs := [.int .i64 v.kind, .int .i64 v.int, .float .f64 v.flt, .string v.text]) (t := 24) (by simp) rfl).ext ((Ext.refl _).alloc (.cells [.int .i64 0, .int .i64 0, .int .i64 0, .int .i64 0, .float .f64 0, .string ⟨#[]⟩, .int .i64 0, .int .i64 0, .float .f64 0, .string ⟨#[]⟩].toArray 149)))
  have HB2 := Lib.hid (BoxAt.new (w := (w.alloc (.cells [.int .i64 g.kind, .int .i64 g.nulls, .int .i64 g.low.kind, .int .i64 g.low.int, .float .f64 g.low.flt, .string g.low.text, .int .i64 g.high.kind, .int .i64 g.high.int, .float .f64 g.high.flt, .string g.high.text].toArray 149)).alloc (.cells [.int .i64 v.kind, .int .i64 v.int, .float .f64 v.flt, .string v.text].toArray 24)) (g := w.heap.size + 2) (vs := [.int .i64 0, .int .i64 0, .int .i64 0, .int .i64 0, .float .f64 0, .string ⟨#[]⟩, .int .i64 0, .int .i64 0, .float .f64 0, .string ⟨#[]⟩]) (t := 149) (by simp) rfl)
  have HE := Lib.hid ((((Ext.refl w).alloc (.cells [.int .i64 g.kind, .int .i64 g.nulls, .int .i64 g.low.kind, .int .i64 g.low.int, .float .f64 g.low.flt, .string g.low.text, .int .i64 g.high.kind, .int .i64 g.high.int, .float .f64 g.high.flt, .string g.high.text].toArray 149)).alloc (.cells [.int .i64 v.kind, .int .i64 v.int, .float .f64 v.flt, .string v.text].toArray 24)).alloc (.cells [.int .i64 0, .int .i64 0, .int .i64 0, .int .i64 0, .float .f64 0, .string ⟨#[]⟩, .int .i64 0, .int .i64 0, .float .f64 0, .string ⟨#[]⟩].toArray 149))
  go_enter Try.func143, Try.ntmps143
  go_upto_block 0 with fail
  refine name_worldA (fun u => Ext w u ∧ BoxAt u w.heap.size [.int .i64 g.kind, .int .i64 g.nulls, .int .i64 g.low.kind, .int .i64 g.low.int, .float .f64 g.low.flt, .string g.low.text, .int .i64 g.high.kind, .int .i64 g.high.int, .float .f64 g.high.flt, .string g.high.text] ∧ BoxAt u (w.heap.size + 1) [.int .i64 v.kind, .int .i64 v.int, .float .f64 v.flt, .string v.text] ∧ BoxAt u (w.heap.size + 2) [.int .i64 0, .int .i64 0, .int .i64 0, .int .i64 0, .float .f64 0, .string ⟨#[]⟩, .int .i64 0, .int .i64 0, .float .f64 0, .string ⟨#[]⟩]) ⟨HE.out, HB0.out, HB1.out, HB2.out⟩ ?_
  clear HB0 HB1 HB2 HE
  rintro U ⟨hE, hb0, hb1, hb2⟩
  have HB0 := Lib.hid hb0; have HB1 := Lib.hid hb1; have HB2 := Lib.hid hb2; have HE := Lib.hid hE
  have hs : w.heap.size + 2 < U.heap.size := hb2.lt
  obtain ⟨x0, x1, -⟩ := hb0.cells
  obtain ⟨y0, -⟩ := hb1.cells
  simp only [Nat.zero_add, Nat.reduceAdd] at x0 x1 y0
  have z0 := hb0.free 0; have z1 := hb0.free 1
  clear hb0 hb1 hb2 hE
  go_upto_region 11 with (first
    | (refine wpList_storeA (vs' := [.int .i64 (-1), .int .i64 g.nulls, .int .i64 0, .int .i64 0, .float .f64 0, .string ⟨#[]⟩, .int .i64 0, .int .i64 0, .float .f64 0, .string ⟨#[]⟩]) (Rng.one9 rfl) (HB0.out) size_rng rfl rfl (.tmp 2) _ rfl rfl rfl ?_; intro w8 hq1 hq2; have HB8 := Lib.hid hq1; have HE8 := Lib.hid (But.to_ext HE.out hq2 (Nat.le_refl _)); have HB9 := Lib.hid (But.box hq2 (by omega) HB2.out); clear hq1 hq2))
  clear HB0 HB1 HB2 HE x0 x1 y0 z0 z1
  go_wp2_with (first
    | (refine wpList_wish rfl fun K hK => wp_loadA (vs := [.int .i64 (-1), .int .i64 g.nulls, .int .i64 0, .int .i64 0, .float .f64 0, .string ⟨#[]⟩, .int .i64 0, .int .i64 0, .float .f64 0, .string ⟨#[]⟩]) agg_rng (.tmp 2) rfl rfl (HB8.out.cells) (hK _ _ ?_))
    | (refine wpList_storeA (vs' := [.int .i64 (-1), .int .i64 g.nulls, .int .i64 0, .int .i64 0, .float .f64 0, .string ⟨#[]⟩, .int .i64 0, .int .i64 0, .float .f64 0, .string ⟨#[]⟩]) (Rng.one9 rfl) (HB9.out) size_rng rfl rfl (.tmp 4) _ rfl rfl rfl ?_; intro w9 hq1 hq2))
  exact back_cell rfl [.int .i64 (-1), .int .i64 g.nulls, .int .i64 0, .int .i64 0, .float .f64 0, .string ⟨#[]⟩, .int .i64 0, .int .i64 0, .float .f64 0, .string ⟨#[]⟩] rfl agg_rng rfl hq1.cells ⟨by rfl, But.to_ext HE8.out hq2 (by omega)⟩
set_option maxRecDepth 100000 in
set_option maxHeartbeats 4000000 in
theorem widen_d (g : Rng) (v : Val) (w : World) (hg : g.Ok) (hv : v.Ok) (hk : ¬ v.kind = 0) (hgk : ¬ g.kind = 0) (heq : g.kind = v.kind) (hlt : v.cmp g.low < 0) :
    Calls Try.prog 143 #[.agg g.cells.toArray, .agg #[.int .i64 v.kind, .int .i64 v.int, .float .f64 v.flt, .string v.text]] w fun e w' => e = .returned (.agg [.int .i64 g.kind, .int .i64 g.nulls, .int .i64 v.kind, .int .i64 v.int, .float .f64 v.flt, .string v.text, .int .i64 g.high.kind, .int .i64 g.high.int, .float .f64 g.high.flt, .string g.high.text].toArray) ∧ Ext w w' := by
  have hk' : (v.kind == 0) = false := by simpa using hk
  have hg' : (g.kind == 0) = false := by simpa using hgk
  have hn' : (g.kind != v.kind) = false := by simp [bne, heq]
  clear hk hgk heq
  have HCL := Lib.hid (fun w => cmp_of v g.low w hv.flt hg.low.flt)
  have HCH := Lib.hid (fun w => cmp_of v g.high w hv.flt hg.high.flt)
  generalize v.cmp g.low = c1 at *
  have hc1 : decide (c1 < 0) = true := by simpa using hlt
  clear hlt
  unfold Rng.cells
  have HB0 := Lib.hid (((BoxAt.new (w := w) (vs := [.int .i64 g.kind, .int .i64 g.nulls, .int .i64 g.low.kind, .int .i64 g.low.int, .float .f64 g.low.flt, .string g.low.text, .int .i64 g.high.kind, .int .i64 g.high.int, .float .f64 g.high.flt, .string g.high.text]) (t := 149) rfl rfl).ext ((Ext.refl _).alloc (.cells [.int .i64 v.kind, .int .i64 v.int, .float .f64 v.flt, .string v.text].toArray 24))).ext ((Ext.refl _).alloc (.cells [.int .i64 0, .int .i64 0, .int .i64 0, .int .i64 0, .float .f64 0, .string ⟨#[]⟩, .int .i64 0, .int .i64 0, .float .f64 0, .string ⟨#[]⟩].toArray 149)))
  have HB1 := Lib.hid ((BoxAt.new (w := w.alloc (.cells [.int .i64 g.kind, .int .i64 g.nulls, .int .i64 g.low.kind, .int .i64 g.low.int, .float .f64 g.low.flt, .string g.low.text, .int .i64 g.high.kind, .int .i64 g.high.int, .float .f64 g.high.flt, .string g.high.text].toArray 149)) (g := w.heap.size + 1) (vs := [.int .i64 v.kind, .int .i64 v.int, .float .f64 v.flt, .string v.text]) (t := 24) (by simp) rfl).ext ((Ext.refl _).alloc (.cells [.int .i64 0, .int .i64 0, .int .i64 0, .int .i64 0, .float .f64 0, .string ⟨#[]⟩, .int .i64 0, .int .i64 0, .float .f64 0, .string ⟨#[]⟩].toArray 149)))
  have HB2 := Lib.hid (BoxAt.new (w := (w.alloc (.cells [.int .i64 g.kind, .int .i64 g.nulls, .int .i64 g.low.kind, .int .i64 g.low.int, .float .f64 g.low.flt, .string g.low.text, .int .i64 g.high.kind, .int .i64 g.high.int, .float .f64 g.high.flt, .string g.high.text].toArray 149)).alloc (.cells [.int .i64 v.kind, .int .i64 v.int, .float .f64 v.flt, .string v.text].toArray 24)) (g := w.heap.size + 2) (vs := [.int .i64 0, .int .i64 0, .int .i64 0, .int .i64 0, .float .f64 0, .string ⟨#[]⟩, .int .i64 0, .int .i64 0, .float .f64 0, .string ⟨#[]⟩]) (t := 149) (by simp) rfl)
  have HE := Lib.hid ((((Ext.refl w).alloc (.cells [.int .i64 g.kind, .int .i64 g.nulls, .int .i64 g.low.kind, .int .i64 g.low.int, .float .f64 g.low.flt, .string g.low.text, .int .i64 g.high.kind, .int .i64 g.high.int, .float .f64 g.high.flt, .string g.high.text].toArray 149)).alloc (.cells [.int .i64 v.kind, .int .i64 v.int, .float .f64 v.flt, .string v.text].toArray 24)).alloc (.cells [.int .i64 0, .int .i64 0, .int .i64 0, .int .i64 0, .float .f64 0, .string ⟨#[]⟩, .int .i64 0, .int .i64 0, .float .f64 0, .string ⟨#[]⟩].toArray 149))
  go_enter Try.func143, Try.ntmps143
  go_upto_block 0 with fail
  refine name_worldA (fun u => Ext w u ∧ BoxAt u w.heap.size [.int .i64 g.kind, .int .i64 g.nulls, .int .i64 g.low.kind, .int .i64 g.low.int, .float .f64 g.low.flt, .string g.low.text, .int .i64 g.high.kind, .int .i64 g.high.int, .float .f64 g.high.flt, .string g.high.text] ∧ BoxAt u (w.heap.size + 1) [.int .i64 v.kind, .int .i64 v.int, .float .f64 v.flt, .string v.text] ∧ BoxAt u (w.heap.size + 2) [.int .i64 0, .int .i64 0, .int .i64 0, .int .i64 0, .float .f64 0, .string ⟨#[]⟩, .int .i64 0, .int .i64 0, .float .f64 0, .string ⟨#[]⟩]) ⟨HE.out, HB0.out, HB1.out, HB2.out⟩ ?_
  clear HB0 HB1 HB2 HE
  rintro U ⟨hE, hb0, hb1, hb2⟩
  have HB0 := Lib.hid hb0; have HB1 := Lib.hid hb1; have HB2 := Lib.hid hb2; have HE := Lib.hid hE
  have hs : w.heap.size + 2 < U.heap.size := hb2.lt
  obtain ⟨x0, x1, -⟩ := hb0.cells
  obtain ⟨y0, -⟩ := hb1.cells
  simp only [Nat.zero_add, Nat.reduceAdd] at x0 x1 y0
  have z0 := hb0.free 0; have z1 := hb0.free 1
  clear hb0 hb1 hb2 hE
  have HLO : Hid (∀ u, Ext U u → At u w.heap.size 2 [.int .i64 g.low.kind, .int .i64 g.low.int, .float .f64 g.low.flt, .string g.low.text]) := Lib.hid fun u h => by obtain ⟨-, -, a2, a3, a4, a5, -⟩ := (HB0.out.ext h).cells; exact ⟨a2, a3, a4, a5, trivial⟩
  have HHI : Hid (∀ u, Ext U u → At u w.heap.size 6 [.int .i64 g.high.kind, .int .i64 g.high.int, .float .f64 g.high.flt, .string g.high.text]) := Lib.hid fun u h => by obtain ⟨-, -, -, -, -, -, a6, a7, a8, a9, -⟩ := (HB0.out.ext h).cells; exact ⟨a6, a7, a8, a9, trivial⟩
  go_upto_region 8 with (first
    | (refine wpList_wish rfl fun K hK => wp_loadA (vs := [.int .i64 v.kind, .int .i64 v.int, .float .f64 v.flt, .string v.text]) agg_val (.tmp 3) rfl rfl (HB1.out.cells) (hK _ _ ?_))
    | (refine wpList_wish rfl fun K hK => wp_loadA (vs := [.int .i64 g.low.kind, .int .i64 g.low.int, .float .f64 g.low.flt, .string g.low.text]) agg_val (.tmp 35) rfl rfl (HLO.out _ (Ext.refl _)) (hK _ _ ?_))
    | (go_at_call 22; refine (HCL.out _).mono ?_; rintro e w5 ⟨rfl, hb⟩; have HB5 := Lib.hid (HB0.out.ext hb); have HV5 := Lib.hid (HB1.out.ext hb); have HR5 := Lib.hid (HB2.out.ext hb); have HE5 := Lib.hid (HE.out.trans hb); clear hb))
  clear HB0 HB1 HB2 HE x0 x1 y0 z0 z1 HLO HHI HCL HCH
  go_upto_region 11 with (first
    | (refine wpList_wish rfl fun K hK => wp_loadA (vs := [.int .i64 v.kind, .int .i64 v.int, .float .f64 v.flt, .string v.text]) agg_val (.tmp 3) rfl rfl (HV5.out.cells) (hK _ _ ?_))
    | (refine wpList_storeM (f := 2) (vs' := [.int .i64 v.kind, .int .i64 v.int, .float .f64 v.flt, .string v.text]) (val_one v) (HB5.out) sizeVal (by simp [setMany]) rfl rfl (.tmp 40) _ rfl rfl rfl ?_; intro w8 hq1 hq2; have HB8 := Lib.hid hq1; have HE8 := Lib.hid (But.to_ext HE5.out hq2 (Nat.le_refl _)); have HB9 := Lib.hid (But.box hq2 (by omega) HR5.out); clear hq1 hq2))
  simp only [setMany, List.set_cons_zero, List.set_cons_succ] at HB8
  clear HB5 HV5 HR5 HE5
  go_wp2_with (first
    | (refine wpList_wish rfl fun K hK => wp_loadA (vs := [.int .i64 g.kind, .int .i64 g.nulls, .int .i64 v.kind, .int .i64 v.int, .float .f64 v.flt, .string v.text, .int .i64 g.high.kind, .int .i64 g.high.int, .float .f64 g.high.flt, .string g.high.text]) agg_rng (.tmp 2) rfl rfl (HB8.out.cells) (hK _ _ ?_))
    | (refine wpList_storeA (vs' := [.int .i64 g.kind, .int .i64 g.nulls, .int .i64 v.kind, .int .i64 v.int, .float .f64 v.flt, .string v.text, .int .i64 g.high.kind, .int .i64 g.high.int, .float .f64 g.high.flt, .string g.high.text]) (Rng.one9 rfl) (HB9.out) size_rng rfl rfl (.tmp 4) _ rfl rfl rfl ?_; intro w9 hq1 hq2))
  exact back_cell rfl [.int .i64 g.kind, .int .i64 g.nulls, .int .i64 v.kind, .int .i64 v.int, .float .f64 v.flt, .string v.text, .int .i64 g.high.kind, .int .i64 g.high.int, .float .f64 g.high.flt, .string g.high.text] rfl agg_rng rfl hq1.cells ⟨by rfl, But.to_ext HE8.out hq2 (by omega)⟩
set_option maxRecDepth 100000 in
set_option maxHeartbeats 4000000 in
theorem widen_e (g : Rng) (v : Val) (w : World) (hg : g.Ok) (hv : v.Ok) (hk : ¬ v.kind = 0) (hgk : ¬ g.kind = 0) (heq : g.kind = v.kind) (hlt : ¬ v.cmp g.low < 0) (hgt : 0 < v.cmp g.high) :
    Calls Try.prog 143 #[.agg g.cells.toArray, .agg #[.int .i64 v.kind, .int .i64 v.int, .float .f64 v.flt, .string v.text]] w fun e w' => e = .returned (.agg [.int .i64 g.kind, .int .i64 g.nulls, .int .i64 g.low.kind, .int .i64 g.low.int, .float .f64 g.low.flt, .string g.low.text, .int .i64 v.kind, .int .i64 v.int, .float .f64 v.flt, .string v.text].toArray) ∧ Ext w w' := by
  have hk' : (v.kind == 0) = false := by simpa using hk
  have hg' : (g.kind == 0) = false := by simpa using hgk
  have hn' : (g.kind != v.kind) = false := by simp [bne, heq]
  clear hk hgk heq
  have HCL := Lib.hid (fun w => cmp_of v g.low w hv.flt hg.low.flt)
  have HCH := Lib.hid (fun w => cmp_of v g.high w hv.flt hg.high.flt)
  generalize v.cmp g.low = c1 at *
  generalize v.cmp g.high = c2 at *
  have hc1 : decide (c1 < 0) = false := by simpa using hlt
  have hc2 : decide (0 < c2) = true := by simpa using hgt
  clear hlt hgt
  unfold Rng.cells
  have HB0 := Lib.hid (((BoxAt.new (w := w) (vs := [.int .i64 g.kind, .int .i64 g.nulls, .int .i64 g.low.kind, .int .i64 g.low.int, .float .f64 g.low.flt, .string g.low.text, .int .i64 g.high.kind, .int .i64 g.high.int, .float .f64 g.high.flt, .string g.high.text]) (t := 149) rfl rfl).ext ((Ext.refl _).alloc (.cells [.int .i64 v.kind, .int .i64 v.int, .float .f64 v.flt, .string v.text].toArray 24))).ext ((Ext.refl _).alloc (.cells [.int .i64 0, .int .i64 0, .int .i64 0, .int .i64 0, .float .f64 0, .string ⟨#[]⟩, .int .i64 0, .int .i64 0, .float .f64 0, .string ⟨#[]⟩].toArray 149)))
  have HB1 := Lib.hid ((BoxAt.new (w := w.alloc (.cells [.int .i64 g.kind, .int .i64 g.nulls, .int .i64 g.low.kind, .int .i64 g.low.int, .float .f64 g.low.flt, .string g.low.text, .int .i64 g.high.kind, .int .i64 g.high.int, .float .f64 g.high.flt, .string g.high.text].toArray 149)) (g := w.heap.size + 1) (vs := [.int .i64 v.kind, .int .i64 v.int, .float .f64 v.flt, .string v.text]) (t := 24) (by simp) rfl).ext ((Ext.refl _).alloc (.cells [.int .i64 0, .int .i64 0, .int .i64 0, .int .i64 0, .float .f64 0, .string ⟨#[]⟩, .int .i64 0, .int .i64 0, .float .f64 0, .string ⟨#[]⟩].toArray 149)))
  have HB2 := Lib.hid (BoxAt.new (w := (w.alloc (.cells [.int .i64 g.kind, .int .i64 g.nulls, .int .i64 g.low.kind, .int .i64 g.low.int, .float .f64 g.low.flt, .string g.low.text, .int .i64 g.high.kind, .int .i64 g.high.int, .float .f64 g.high.flt, .string g.high.text].toArray 149)).alloc (.cells [.int .i64 v.kind, .int .i64 v.int, .float .f64 v.flt, .string v.text].toArray 24)) (g := w.heap.size + 2) (vs := [.int .i64 0, .int .i64 0, .int .i64 0, .int .i64 0, .float .f64 0, .string ⟨#[]⟩, .int .i64 0, .int .i64 0, .float .f64 0, .string ⟨#[]⟩]) (t := 149) (by simp) rfl)
  have HE := Lib.hid ((((Ext.refl w).alloc (.cells [.int .i64 g.kind, .int .i64 g.nulls, .int .i64 g.low.kind, .int .i64 g.low.int, .float .f64 g.low.flt, .string g.low.text, .int .i64 g.high.kind, .int .i64 g.high.int, .float .f64 g.high.flt, .string g.high.text].toArray 149)).alloc (.cells [.int .i64 v.kind, .int .i64 v.int, .float .f64 v.flt, .string v.text].toArray 24)).alloc (.cells [.int .i64 0, .int .i64 0, .int .i64 0, .int .i64 0, .float .f64 0, .string ⟨#[]⟩, .int .i64 0, .int .i64 0, .float .f64 0, .string ⟨#[]⟩].toArray 149))
  go_enter Try.func143, Try.ntmps143
  go_upto_block 0 with fail
  refine name_worldA (fun u => Ext w u ∧ BoxAt u w.heap.size [.int .i64 g.kind, .int .i64 g.nulls, .int .i64 g.low.kind, .int .i64 g.low.int, .float .f64 g.low.flt, .string g.low.text, .int .i64 g.high.kind, .int .i64 g.high.int, .float .f64 g.high.flt, .string g.high.text] ∧ BoxAt u (w.heap.size + 1) [.int .i64 v.kind, .int .i64 v.int, .float .f64 v.flt, .string v.text] ∧ BoxAt u (w.heap.size + 2) [.int .i64 0, .int .i64 0, .int .i64 0, .int .i64 0, .float .f64 0, .string ⟨#[]⟩, .int .i64 0, .int .i64 0, .float .f64 0, .string ⟨#[]⟩]) ⟨HE.out, HB0.out, HB1.out, HB2.out⟩ ?_
  clear HB0 HB1 HB2 HE
  rintro U ⟨hE, hb0, hb1, hb2⟩
  have HB0 := Lib.hid hb0; have HB1 := Lib.hid hb1; have HB2 := Lib.hid hb2; have HE := Lib.hid hE
  have hs : w.heap.size + 2 < U.heap.size := hb2.lt
  obtain ⟨x0, x1, -⟩ := hb0.cells
  obtain ⟨y0, -⟩ := hb1.cells
  simp only [Nat.zero_add, Nat.reduceAdd] at x0 x1 y0
  have z0 := hb0.free 0; have z1 := hb0.free 1
  clear hb0 hb1 hb2 hE
  have HLO : Hid (∀ u, Ext U u → At u w.heap.size 2 [.int .i64 g.low.kind, .int .i64 g.low.int, .float .f64 g.low.flt, .string g.low.text]) := Lib.hid fun u h => by obtain ⟨-, -, a2, a3, a4, a5, -⟩ := (HB0.out.ext h).cells; exact ⟨a2, a3, a4, a5, trivial⟩
  have HHI : Hid (∀ u, Ext U u → At u w.heap.size 6 [.int .i64 g.high.kind, .int .i64 g.high.int, .float .f64 g.high.flt, .string g.high.text]) := Lib.hid fun u h => by obtain ⟨-, -, -, -, -, -, a6, a7, a8, a9, -⟩ := (HB0.out.ext h).cells; exact ⟨a6, a7, a8, a9, trivial⟩
  go_upto_region 9 with (first
    | (refine wpList_wish rfl fun K hK => wp_loadA (vs := [.int .i64 v.kind, .int .i64 v.int, .float .f64 v.flt, .string v.text]) agg_val (.tmp 3) rfl rfl (HB1.out.cells) (hK _ _ ?_))
    | (refine wpList_wish rfl fun K hK => wp_loadA (vs := [.int .i64 g.low.kind, .int .i64 g.low.int, .float .f64 g.low.flt, .string g.low.text]) agg_val (.tmp 35) rfl rfl (HLO.out _ (Ext.refl _)) (hK _ _ ?_))
    | (go_at_call 22; refine (HCL.out _).mono ?_; rintro e w5 ⟨rfl, hb⟩; have HB5 := Lib.hid (HB0.out.ext hb); have HV5 := Lib.hid (HB1.out.ext hb); have HR5 := Lib.hid (HB2.out.ext hb); have HE5 := Lib.hid (HE.out.trans hb); have HH5 := Lib.hid (HHI.out _ hb); clear hb))
  clear HB0 HB1 HB2 HE x0 x1 y0 z0 z1 HLO HHI HCL
  go_upto_region 10 with (first
    | (refine wpList_wish rfl fun K hK => wp_loadA (vs := [.int .i64 v.kind, .int .i64 v.int, .float .f64 v.flt, .string v.text]) agg_val (.tmp 3) rfl rfl (HV5.out.cells) (hK _ _ ?_))
    | (refine wpList_wish rfl fun K hK => wp_loadA (vs := [.int .i64 g.high.kind, .int .i64 g.high.int, .float .f64 g.high.flt, .string g.high.text]) agg_val (.tmp 43) rfl rfl (HH5.out) (hK _ _ ?_))
    | (go_at_call 22; refine (HCH.out _).mono ?_; rintro e w6 ⟨rfl, hb⟩; have HB6 := Lib.hid (HB5.out.ext hb); have HV6 := Lib.hid (HV5.out.ext hb); have HR6 := Lib.hid (HR5.out.ext hb); have HE6 := Lib.hid (HE5.out.trans hb); clear hb))
  clear HB5 HV5 HR5 HE5 HH5 HCH
  go_upto_region 11 with (first
    | (refine wpList_wish rfl fun K hK => wp_loadA (vs := [.int .i64 v.kind, .int .i64 v.int, .float .f64 v.flt, .string v.text]) agg_val (.tmp 3) rfl rfl (HV6.out.cells) (hK _ _ ?_))
    | (refine wpList_storeM (f := 6) (vs' := [.int .i64 v.kind, .int .i64 v.int, .float .f64 v.flt, .string v.text]) (val_one v) (HB6.out) sizeVal (by simp [setMany]) rfl rfl (.tmp 48) _ rfl rfl rfl ?_; intro w8 hq1 hq2; have HB8 := Lib.hid hq1; have HE8 := Lib.hid (But.to_ext HE6.out hq2 (Nat.le_refl _)); have HB9 := Lib.hid (But.box hq2 (by omega) HR6.out); clear hq1 hq2))
  simp only [setMany, List.set_cons_zero, List.set_cons_succ] at HB8
  clear HB6 HV6 HR6 HE6
  go_wp2_with (first
    | (refine wpList_wish rfl fun K hK => wp_loadA (vs := [.int .i64 g.kind, .int .i64 g.nulls, .int .i64 g.low.kind, .int .i64 g.low.int, .float .f64 g.low.flt, .string g.low.text, .int .i64 v.kind, .int .i64 v.int, .float .f64 v.flt, .string v.text]) agg_rng (.tmp 2) rfl rfl (HB8.out.cells) (hK _ _ ?_))
    | (refine wpList_storeA (vs' := [.int .i64 g.kind, .int .i64 g.nulls, .int .i64 g.low.kind, .int .i64 g.low.int, .float .f64 g.low.flt, .string g.low.text, .int .i64 v.kind, .int .i64 v.int, .float .f64 v.flt, .string v.text]) (Rng.one9 rfl) (HB9.out) size_rng rfl rfl (.tmp 4) _ rfl rfl rfl ?_; intro w9 hq1 hq2))
  exact back_cell rfl [.int .i64 g.kind, .int .i64 g.nulls, .int .i64 g.low.kind, .int .i64 g.low.int, .float .f64 g.low.flt, .string g.low.text, .int .i64 v.kind, .int .i64 v.int, .float .f64 v.flt, .string v.text] rfl agg_rng rfl hq1.cells ⟨by rfl, But.to_ext HE8.out hq2 (by omega)⟩
set_option maxRecDepth 100000 in
set_option maxHeartbeats 4000000 in
theorem widen_f (g : Rng) (v : Val) (w : World) (hg : g.Ok) (hv : v.Ok) (hk : ¬ v.kind = 0) (hgk : ¬ g.kind = 0) (heq : g.kind = v.kind) (hlt : ¬ v.cmp g.low < 0) (hgt : ¬ 0 < v.cmp g.high) :
    Calls Try.prog 143 #[.agg g.cells.toArray, .agg #[.int .i64 v.kind, .int .i64 v.int, .float .f64 v.flt, .string v.text]] w fun e w' => e = .returned (.agg [.int .i64 g.kind, .int .i64 g.nulls, .int .i64 g.low.kind, .int .i64 g.low.int, .float .f64 g.low.flt, .string g.low.text, .int .i64 g.high.kind, .int .i64 g.high.int, .float .f64 g.high.flt, .string g.high.text].toArray) ∧ Ext w w' := by
  have hk' : (v.kind == 0) = false := by simpa using hk
  have hg' : (g.kind == 0) = false := by simpa using hgk
  have hn' : (g.kind != v.kind) = false := by simp [bne, heq]
  clear hk hgk heq
  have HCL := Lib.hid (fun w => cmp_of v g.low w hv.flt hg.low.flt)
  have HCH := Lib.hid (fun w => cmp_of v g.high w hv.flt hg.high.flt)
  generalize v.cmp g.low = c1 at *
  generalize v.cmp g.high = c2 at *
  have hc1 : decide (c1 < 0) = false := by simpa using hlt
  have hc2 : decide (0 < c2) = false := by simpa using hgt
  clear hlt hgt
  unfold Rng.cells
  have HB0 := Lib.hid (((BoxAt.new (w := w) (vs := [.int .i64 g.kind, .int .i64 g.nulls, .int .i64 g.low.kind, .int .i64 g.low.int, .float .f64 g.low.flt, .string g.low.text, .int .i64 g.high.kind, .int .i64 g.high.int, .float .f64 g.high.flt, .string g.high.text]) (t := 149) rfl rfl).ext ((Ext.refl _).alloc (.cells [.int .i64 v.kind, .int .i64 v.int, .float .f64 v.flt, .string v.text].toArray 24))).ext ((Ext.refl _).alloc (.cells [.int .i64 0, .int .i64 0, .int .i64 0, .int .i64 0, .float .f64 0, .string ⟨#[]⟩, .int .i64 0, .int .i64 0, .float .f64 0, .string ⟨#[]⟩].toArray 149)))
  have HB1 := Lib.hid ((BoxAt.new (w := w.alloc (.cells [.int .i64 g.kind, .int .i64 g.nulls, .int .i64 g.low.kind, .int .i64 g.low.int, .float .f64 g.low.flt, .string g.low.text, .int .i64 g.high.kind, .int .i64 g.high.int, .float .f64 g.high.flt, .string g.high.text].toArray 149)) (g := w.heap.size + 1) (vs := [.int .i64 v.kind, .int .i64 v.int, .float .f64 v.flt, .string v.text]) (t := 24) (by simp) rfl).ext ((Ext.refl _).alloc (.cells [.int .i64 0, .int .i64 0, .int .i64 0, .int .i64 0, .float .f64 0, .string ⟨#[]⟩, .int .i64 0, .int .i64 0, .float .f64 0, .string ⟨#[]⟩].toArray 149)))
  have HB2 := Lib.hid (BoxAt.new (w := (w.alloc (.cells [.int .i64 g.kind, .int .i64 g.nulls, .int .i64 g.low.kind, .int .i64 g.low.int, .float .f64 g.low.flt, .string g.low.text, .int .i64 g.high.kind, .int .i64 g.high.int, .float .f64 g.high.flt, .string g.high.text].toArray 149)).alloc (.cells [.int .i64 v.kind, .int .i64 v.int, .float .f64 v.flt, .string v.text].toArray 24)) (g := w.heap.size + 2) (vs := [.int .i64 0, .int .i64 0, .int .i64 0, .int .i64 0, .float .f64 0, .string ⟨#[]⟩, .int .i64 0, .int .i64 0, .float .f64 0, .string ⟨#[]⟩]) (t := 149) (by simp) rfl)
  have HE := Lib.hid ((((Ext.refl w).alloc (.cells [.int .i64 g.kind, .int .i64 g.nulls, .int .i64 g.low.kind, .int .i64 g.low.int, .float .f64 g.low.flt, .string g.low.text, .int .i64 g.high.kind, .int .i64 g.high.int, .float .f64 g.high.flt, .string g.high.text].toArray 149)).alloc (.cells [.int .i64 v.kind, .int .i64 v.int, .float .f64 v.flt, .string v.text].toArray 24)).alloc (.cells [.int .i64 0, .int .i64 0, .int .i64 0, .int .i64 0, .float .f64 0, .string ⟨#[]⟩, .int .i64 0, .int .i64 0, .float .f64 0, .string ⟨#[]⟩].toArray 149))
  go_enter Try.func143, Try.ntmps143
  go_upto_block 0 with fail
  refine name_worldA (fun u => Ext w u ∧ BoxAt u w.heap.size [.int .i64 g.kind, .int .i64 g.nulls, .int .i64 g.low.kind, .int .i64 g.low.int, .float .f64 g.low.flt, .string g.low.text, .int .i64 g.high.kind, .int .i64 g.high.int, .float .f64 g.high.flt, .string g.high.text] ∧ BoxAt u (w.heap.size + 1) [.int .i64 v.kind, .int .i64 v.int, .float .f64 v.flt, .string v.text] ∧ BoxAt u (w.heap.size + 2) [.int .i64 0, .int .i64 0, .int .i64 0, .int .i64 0, .float .f64 0, .string ⟨#[]⟩, .int .i64 0, .int .i64 0, .float .f64 0, .string ⟨#[]⟩]) ⟨HE.out, HB0.out, HB1.out, HB2.out⟩ ?_
  clear HB0 HB1 HB2 HE
  rintro U ⟨hE, hb0, hb1, hb2⟩
  have HB0 := Lib.hid hb0; have HB1 := Lib.hid hb1; have HB2 := Lib.hid hb2; have HE := Lib.hid hE
  have hs : w.heap.size + 2 < U.heap.size := hb2.lt
  obtain ⟨x0, x1, -⟩ := hb0.cells
  obtain ⟨y0, -⟩ := hb1.cells
  simp only [Nat.zero_add, Nat.reduceAdd] at x0 x1 y0
  have z0 := hb0.free 0; have z1 := hb0.free 1
  clear hb0 hb1 hb2 hE
  have HLO : Hid (∀ u, Ext U u → At u w.heap.size 2 [.int .i64 g.low.kind, .int .i64 g.low.int, .float .f64 g.low.flt, .string g.low.text]) := Lib.hid fun u h => by obtain ⟨-, -, a2, a3, a4, a5, -⟩ := (HB0.out.ext h).cells; exact ⟨a2, a3, a4, a5, trivial⟩
  have HHI : Hid (∀ u, Ext U u → At u w.heap.size 6 [.int .i64 g.high.kind, .int .i64 g.high.int, .float .f64 g.high.flt, .string g.high.text]) := Lib.hid fun u h => by obtain ⟨-, -, -, -, -, -, a6, a7, a8, a9, -⟩ := (HB0.out.ext h).cells; exact ⟨a6, a7, a8, a9, trivial⟩
  go_upto_region 9 with (first
    | (refine wpList_wish rfl fun K hK => wp_loadA (vs := [.int .i64 v.kind, .int .i64 v.int, .float .f64 v.flt, .string v.text]) agg_val (.tmp 3) rfl rfl (HB1.out.cells) (hK _ _ ?_))
    | (refine wpList_wish rfl fun K hK => wp_loadA (vs := [.int .i64 g.low.kind, .int .i64 g.low.int, .float .f64 g.low.flt, .string g.low.text]) agg_val (.tmp 35) rfl rfl (HLO.out _ (Ext.refl _)) (hK _ _ ?_))
    | (go_at_call 22; refine (HCL.out _).mono ?_; rintro e w5 ⟨rfl, hb⟩; have HB5 := Lib.hid (HB0.out.ext hb); have HV5 := Lib.hid (HB1.out.ext hb); have HR5 := Lib.hid (HB2.out.ext hb); have HE5 := Lib.hid (HE.out.trans hb); have HH5 := Lib.hid (HHI.out _ hb); clear hb))
  clear HB0 HB1 HB2 HE x0 x1 y0 z0 z1 HLO HHI HCL
  go_upto_region 11 with (first
    | (refine wpList_wish rfl fun K hK => wp_loadA (vs := [.int .i64 v.kind, .int .i64 v.int, .float .f64 v.flt, .string v.text]) agg_val (.tmp 3) rfl rfl (HV5.out.cells) (hK _ _ ?_))
    | (refine wpList_wish rfl fun K hK => wp_loadA (vs := [.int .i64 g.high.kind, .int .i64 g.high.int, .float .f64 g.high.flt, .string g.high.text]) agg_val (.tmp 43) rfl rfl (HH5.out) (hK _ _ ?_))
    | (go_at_call 22; refine (HCH.out _).mono ?_; rintro e w6 ⟨rfl, hb⟩; have HB6 := Lib.hid (HB5.out.ext hb); have HV6 := Lib.hid (HV5.out.ext hb); have HR6 := Lib.hid (HR5.out.ext hb); have HE6 := Lib.hid (HE5.out.trans hb); clear hb))
  clear HB5 HV5 HR5 HE5 HH5 HCH
  have HB9 := HR6
  go_wp2_with (first
    | (refine wpList_wish rfl fun K hK => wp_loadA (vs := [.int .i64 g.kind, .int .i64 g.nulls, .int .i64 g.low.kind, .int .i64 g.low.int, .float .f64 g.low.flt, .string g.low.text, .int .i64 g.high.kind, .int .i64 g.high.int, .float .f64 g.high.flt, .string g.high.text]) agg_rng (.tmp 2) rfl rfl (HB6.out.cells) (hK _ _ ?_))
    | (refine wpList_storeA (vs' := [.int .i64 g.kind, .int .i64 g.nulls, .int .i64 g.low.kind, .int .i64 g.low.int, .float .f64 g.low.flt, .string g.low.text, .int .i64 g.high.kind, .int .i64 g.high.int, .float .f64 g.high.flt, .string g.high.text]) (Rng.one9 rfl) (HB9.out) size_rng rfl rfl (.tmp 4) _ rfl rfl rfl ?_; intro w9 hq1 hq2))
  exact back_cell rfl [.int .i64 g.kind, .int .i64 g.nulls, .int .i64 g.low.kind, .int .i64 g.low.int, .float .f64 g.low.flt, .string g.low.text, .int .i64 g.high.kind, .int .i64 g.high.int, .float .f64 g.high.flt, .string g.high.text] rfl agg_rng rfl hq1.cells ⟨by rfl, But.to_ext HE6.out hq2 (by omega)⟩
/-- access.widen. -/
theorem widen_of (g : Rng) (v : Val) (w : World) (hg : g.Ok) (hv : v.Ok) (h1 : -9223372036854775808 ≤ g.nulls ∧ g.nulls < 9223372036854775807) :
    Calls Try.prog 143 #[.agg g.cells.toArray, .agg #[.int .i64 v.kind, .int .i64 v.int, .float .f64 v.flt, .string v.text]] w fun e w' => e = .returned (.agg (g.widen v).cells.toArray) ∧ Ext w w' := by
  unfold Rng.widen
  split
  · exact widen_a g v w hg hv (by assumption) h1
  · split
    · exact widen_b g v w hg hv (by assumption) (by assumption)
    · split
      · exact widen_c g v w hg hv (by assumption) (by assumption) (by assumption)
      · rename_i hne
        split
        · exact widen_d g v w hg hv (by assumption) (by assumption) (Decidable.not_not.1 hne) (by assumption)
        · split
          · exact widen_e g v w hg hv (by assumption) (by assumption) (Decidable.not_not.1 hne) (by assumption) (by assumption)
          · exact widen_f g v w hg hv (by assumption) (by assumption) (Decidable.not_not.1 hne) (by assumption) (by assumption)
end Go.Proofs.Ytlcdjaclahhdnaa
namespace Go.Proofs.Ytlcdjaclahhdnaa
open Go.RowKit
set_option linter.unusedSimpArgs false
set_option linter.unusedVariables false
section
variable {P : Program} {w : World} {ops : Array Oper} {rest : List Oper} {o : Oper} {a : Act} {Q : Exit → Act → World → Prop}
theorem wpList_ldA (x : Operand) {t : TypeId} {g f : Nat} {vs : List Value} (ho : o.op = .load t x) (hw : Region.wanted o (yielded ops a.tmps) = true) (hk : aggOk P t vs.length = true) (hx : a.eval x = .pointer (some ⟨g, f, none⟩)) (hc : At w g f vs)
    (h : wpList P ops Q rest (a.put o.dst (.agg vs.toArray)) w) : wpList P ops Q (o :: rest) a w :=
  wpList_wish hw fun K hK => wp_loadA hk x ho hx hc (hK _ _ h)
theorem wpList_ixS (x y : Operand) {t e : TypeId} {size g f n c i : Nat} {k : IntKind} (ho : o.op = .indexAddr t x y) (hw : Region.wanted o (yielded ops a.tmps) = true) (ht : P.underlying t = some (.slice e)) (hz : (P.info? e).map (·.size) = some size)
    (hx : a.eval x = .slice (some ⟨g, f, none⟩) n c) (hy : a.eval y = .int k (i : Int)) (hi : i < n)
    (h : wpList P ops Q rest (a.put o.dst (.pointer (some ⟨g, f + i * size, none⟩))) w) : wpList P ops Q (o :: rest) a w :=
  wpList_wish hw fun K hK => wp_idxS ht hz x y ho hx hy hi (hK _ _ h)
end
end Go.Proofs.Ytlcdjaclahhdnaa
namespace Go.Proofs.Ytlcdjaclahhdnaa
open Go.RowKit
set_option linter.unusedSimpArgs false
set_option linter.unusedVariables false

theorem owns_buts {M : Nat → Prop} {w w' : World} {base : Nat} {T : TypeId} {size : Nat} {v : Value} {n : Nat} {xs : List Value} (h : w.ownsRow base T size v n xs) (hb : ButS M w w') (hm : ∀ g, v.ownBlock = some g → ¬ M g) : w'.ownsRow base T size v n xs := by
  refine ⟨h.1, h.2.imp id ?_⟩
  rintro ⟨g, cap, cur, rfl, hbg, hh, r⟩
  exact ⟨g, cap, cur, rfl, hbg, by rw [hb.block g (Array.getElem?_eq_some_iff.1 hh).1 (hm g rfl)]; exact hh, r⟩
theorem owns_down {w : World} {base base' : Nat} {T : TypeId} {size : Nat} {v : Value} {n : Nat} {xs : List Value} (h : w.ownsRow base T size v n xs) (hb : base' ≤ base) : w.ownsRow base' T size v n xs := by
  refine ⟨h.1, h.2.imp id ?_⟩
  rintro ⟨g, cap, cur, hv, hbg, r⟩
  exact ⟨g, cap, cur, hv, by omega, r⟩
theorem owns_shape {w : World} {base : Nat} {T : TypeId} {size : Nat} {v : Value} {n : Nat} {xs : List Value} (h : w.ownsRow base T size v n xs) : ∃ A c, v = .slice A n c := by
  obtain ⟨A, c, rfl, -⟩ := owns_form h
  exact ⟨A, c, rfl⟩
theorem owns_nil (w : World) (base : Nat) (T : TypeId) (size : Nat) : w.ownsRow base T size (.slice none 0 0) 0 [] := ⟨by simp, .inl ⟨rfl, rfl⟩⟩
theorem owns_cells {w : World} {base : Nat} {T : TypeId} {size : Nat} {g cap n : Nat} {xs : List Value} (h : w.ownsRow base T size (.slice (some ⟨g, 0, none⟩) n cap) n xs) : At w g 0 xs :=
  At.of_get fun j u hu => by
    have := World.ownsRow.cells h (g := g) rfl j u hu
    rwa [add_at] at this
/-- Two rows of different element types lie apart. -/
theorem owns_apart {w : World} {b b' : Nat} {T T' : TypeId} {s s' n n' : Nat} {v v' : Value} {xs xs' : List Value} (h : w.ownsRow b T s v n xs) (h' : w.ownsRow b' T' s' v' n' xs') (hT : T ≠ T') : ∀ g, v.ownBlock = some g → ¬ v'.ownBlock = some g := by
  intro g h1 h2
  rcases h.2 with ⟨rfl, _⟩ | ⟨g1, c1, cur1, rfl, _, hh1, _⟩
  · simp [Value.ownBlock] at h1
  · rcases h'.2 with ⟨rfl, _⟩ | ⟨g2, c2, cur2, rfl, _, hh2, _⟩
    · simp [Value.ownBlock] at h2
    · simp only [Value.ownBlock, Option.some.injEq] at h1 h2
      subst h1 h2
      rw [hh1] at hh2
      simp only [Option.some.injEq, Obj.cells.injEq, and_true] at hh2
      exact hT hh2.2
section
variable {P : Program} {w : World} {ops : Array Oper} {rest : List Oper} {o : Oper} {a : Act} {Q : Exit → Act → World → Prop} {K : Act → World → Prop}
/-- 'append(l, x)'. -/
theorem wp_one (s x : Operand) {S T : TypeId} (ho : o.op = .call { callee := .builtin .append, args := #[s, x], argTypes := #[S, S] }) {size bytes : Nat} (hu : P.underlying S = some (.slice T))
    (hi : (P.info? T).map (fun i => (i.zero.map (·.cells.size), i.size, i.bytes)) = some (some size, size, bytes)) (h0 : 0 < size) (hby : bytes ≤ 1000)
    {base : Nat} {v : Value} {n : Nat} {xs : List Value} (hs : a.eval s = v) (hown : w.ownsRow base T size v n xs) (news : List Value) (hl : news.length = size) (h1 : ∀ u ∈ news, u.oneCell' = true)
    {g : Nat} (hx : a.eval x = .slice (some ⟨g, 0, none⟩) 1 1) (hg : w.heap[g]? = some (.cells news.toArray T (0, 0))) (hn : n ≤ 1000000000) (hbase : base ≤ w.heap.size)
    (h : ∀ g' cap w', w'.ownsRow base T size (.slice (some ⟨g', 0, none⟩) (n + 1) cap) (n + 1) (xs ++ news) → ButS (fun k => v.ownBlock = some k) w w' → K (a.put o.dst (.slice (some ⟨g', 0, none⟩) (n + 1) cap)) w') : o.wp P a w K Q := by
  obtain ⟨i, hi1, hi2⟩ := Option.map_eq_some_iff.1 hi
  simp only [Prod.mk.injEq] at hi2
  obtain ⟨z, hz1, hz2⟩ := Option.map_eq_some_iff.1 hi2.1
  refine wp_append_own w s x S ho base T i z size bytes hu hi1 hz1 hi2.2.1 hi2.2.2 hz2 h0 v n xs hs hown ⟨g, 0, none⟩ 1 1 news hx (by omega) (fun j u hj => World.news_of_block hg j u (by simpa using hj)) h1 (by unfold maxLen; omega) ?_ hbase fun v' w' ho' hg' _ => ?_
  · have : (n + 1) * bytes ≤ (1000000000 + 1) * 1000 := Nat.mul_le_mul (by omega) hby
    omega
  · rcases ho'.2 with ⟨_, h0⟩ | ⟨g', cap, cur, rfl, _⟩
    · omega
    · exact h g' cap w' ho' (ButS.of_grown hg' fun k hk => hk)
theorem wpList_one (s x : Operand) {S T : TypeId} (ho : o.op = .call { callee := .builtin .append, args := #[s, x], argTypes := #[S, S] }) (hgd : o.guard = none) {size bytes : Nat} (hu : P.underlying S = some (.slice T))
    (hi : (P.info? T).map (fun i => (i.zero.map (·.cells.size), i.size, i.bytes)) = some (some size, size, bytes)) (h0 : 0 < size) (hby : bytes ≤ 1000)
    {base : Nat} {v : Value} {n : Nat} {xs : List Value} (hs : a.eval s = v) (hown : w.ownsRow base T size v n xs) (news : List Value) (hl : news.length = size) (h1 : ∀ u ∈ news, u.oneCell' = true)
    {g : Nat} (hx : a.eval x = .slice (some ⟨g, 0, none⟩) 1 1) (hg : w.heap[g]? = some (.cells news.toArray T (0, 0))) (hn : n ≤ 1000000000) (hbase : base ≤ w.heap.size)
    (h : ∀ g' cap w', w'.ownsRow base T size (.slice (some ⟨g', 0, none⟩) (n + 1) cap) (n + 1) (xs ++ news) → ButS (fun k => v.ownBlock = some k) w w' → wpList P ops Q rest (a.put o.dst (.slice (some ⟨g', 0, none⟩) (n + 1) cap)) w') : wpList P ops Q (o :: rest) a w :=
  wpList_plain hgd fun K hK => wp_one s x ho hu hi h0 hby hs hown news hl h1 hx hg hn hbase fun g' cap w' h2 h3 => hK _ _ (h g' cap w' h2 h3)
end
end Go.Proofs.Ytlcdjaclahhdnaa
namespace Go.Proofs.Ytlcdjaclahhdnaa
open Go.RowKit
set_option linter.unusedSimpArgs false
set_option linter.unusedVariables false
attribute [local irreducible] wpQuiet wpList Code.wp

/-- What the first j rows tell of column i. -/
def rgUpto (rows : List (List Val)) (j i : Nat) : Rng := (rows.take j).foldl (fun g r => g.widen (atV r i)) Rng.zero
def rgAt (rows : List (List Val)) (i : Nat) : Rng := rows.foldl (fun g r => g.widen (atV r i)) Rng.zero
def colsR (rows : List (List Val)) (n : Nat) : List Rng := (List.range n).map (rgAt rows)
def rgc (l : List Rng) : List Value := l.flatMap Rng.cells
theorem colsR_length (rows : List (List Val)) (n : Nat) : (colsR rows n).length = n := by simp [colsR]
def OwnR (w : World) (base : Nat) (v : Value) (l : List Rng) : Prop := w.ownsRow base 149 10 v l.length (rgc l)
theorem rgUpto_succ (rows : List (List Val)) {j i : Nat} (h : j < rows.length) : rgUpto rows (j + 1) i = (rgUpto rows j i).widen (atV rows[j] i) := by
  unfold rgUpto
  rw [List.take_succ_eq_append_getElem h, List.foldl_append]
  rfl
theorem fold_ok (i : Nat) : ∀ (l : List (List Val)) (g : Rng), (∀ r ∈ l, ∀ v ∈ r, v.Ok) → g.Ok → (l.foldl (fun g r => g.widen (atV r i)) g).Ok
  | [], g, _, hg => hg
  | r :: l, g, h, hg => fold_ok i l _ (fun r hr => h r (by simp [hr])) (Rng.widen_ok hg (atV_ok (h r (by simp)) i))
theorem fold_nulls (i : Nat) : ∀ (l : List (List Val)) (g : Rng), g.nulls ≤ (l.foldl (fun g r => g.widen (atV r i)) g).nulls ∧ (l.foldl (fun g r => g.widen (atV r i)) g).nulls ≤ g.nulls + l.length
  | [], g => by simp
  | r :: l, g => by
    have h1 := fold_nulls i l (g.widen (atV r i))
    have h2 := Rng.widen_nulls g (atV r i)
    simp only [List.foldl_cons, List.length_cons]
    omega
theorem rgUpto_ok {rows : List (List Val)} (h : ∀ r ∈ rows, ∀ v ∈ r, v.Ok) (j i : Nat) : (rgUpto rows j i).Ok := fold_ok i _ _ (fun r hr => h r (List.mem_of_mem_take hr)) Rng.zero_ok
theorem rgAt_ok {rows : List (List Val)} (h : ∀ r ∈ rows, ∀ v ∈ r, v.Ok) (i : Nat) : (rgAt rows i).Ok := fold_ok i _ _ h Rng.zero_ok
theorem rgUpto_nulls (rows : List (List Val)) (j i : Nat) : 0 ≤ (rgUpto rows j i).nulls ∧ (rgUpto rows j i).nulls ≤ j := by
  have h := fold_nulls i (rows.take j) Rng.zero
  have h2 : (rows.take j).length ≤ j := by simp; omega
  have h3 : Rng.zero.nulls = 0 := rfl
  unfold rgUpto
  omega
theorem info_rng : (Try.prog.info? 149).map (fun i => (i.zero.map (·.cells.size), i.size, i.bytes)) = some (some 10, 10, 96) := by kernel_rfl
theorem agg_zone : aggOk Try.prog 84 2 = true := by kernel_rfl
theorem size_zone : (Try.prog.info? 84).map (·.size) = some 2 := by kernel_rfl
theorem rows_ok {w : World} {x : Value} {rows : List (List Val)} (h : RowsIn w x rows) : ∀ r ∈ rows, ∀ v ∈ r, v.Ok := by
  obtain ⟨A, c, rfl, -⟩ := h.val
  intro r hr v hv
  obtain ⟨i, hi, rfl⟩ := List.getElem_of_mem hr
  obtain ⟨_, _, _, _, _, _, _, _, _, h8⟩ := h.at_ i hi
  exact h8.ok v hv

set_option maxRecDepth 100000 in
set_option maxHeartbeats 20000000 in
theorem zone_of (rows : List (List Val)) (rv : Value) (n : Nat) (w : World) (hrows : RowsIn w rv rows) (hn : n ≤ 1000000) (hrl : rows.length ≤ 1000000) :
    Calls Try.prog 101 #[rv, .int .i64 (n : Int)] w fun e w' => ∃ A c, e = .returned (.agg #[.int .i64 (rows.length : Int), .slice A n c]) ∧ OwnR w' w.heap.size (.slice A n c) (colsR rows n) ∧ Ext w w' := by
  obtain ⟨RA, rc, rfl, -⟩ := hrows.val
  have HR := Lib.hid hrows
  have HOK := Lib.hid (rows_ok hrows)
  clear hrows
  go_enter Try.func101, Try.ntmps101
  go_upto_block 0 with (refine wpList_storeA (vs' := [.int .i64 (rows.length : Int), .slice none 0 0]) (Rng.one9 rfl) (BoxAt.new (w := w.alloc (.cells #[.int .i64 0, .slice none 0 0] 84)) (g := w.heap.size + 1) (vs := [.int .i64 0, .slice none 0 0]) (t := 84) (by simp) rfl) size_zone rfl rfl (.tmp 5) _ rfl rfl rfl ?_; intro w2 hq1 hq2; have HB1 := Lib.hid hq1; have HB0 := Lib.hid (But.box hq2 (show w.heap.size ≠ w.heap.size + 1 by omega) ((BoxAt.new (w := w) (vs := [.int .i64 0, .slice none 0 0]) (t := 84) rfl rfl).ext ((Ext.refl _).alloc _))); have HE := Lib.hid (But.to_ext (((Ext.refl w).alloc (.cells #[.int .i64 0, .slice none 0 0] 84)).alloc (.cells #[.int .i64 0, .slice none 0 0] 84)) hq2 (by omega)); clear hq1 hq2)
  go_wp2_with fail
  go_loopw [14] (fun y wo => ∃ (i : Nat) (v : Value), y = .int .i64 (i : Int) ∧ i ≤ n ∧ OwnR wo (w.heap.size + 2) v (colsR rows i) ∧ BoxAt wo w.heap.size [.int .i64 0, .slice none 0 0] ∧ BoxAt wo (w.heap.size + 1) [.int .i64 (rows.length : Int), v] ∧ Ext w wo) (fun y _ => n - (intOf y).toNat)
  case atStart => exact ⟨0, _, rfl, by omega, owns_nil _ _ _ _, HB0.out, HB1.out, HE.out⟩
  case round =>
    rename_i hrel
    rename World => wo
    obtain ⟨i, v, rfl, hi, ho, hb0, hb1, hE⟩ := hrel
    clear HB0 HB1 HE
    have HO := Lib.hid ho; have HB0 := Lib.hid hb0; have HB1 := Lib.hid hb1; have HER := Lib.hid hE
    have hwo : w.heap.size + 1 < wo.heap.size := hb1.lt
    obtain ⟨A9, c9, rfl⟩ := owns_shape ho
    generalize hv9 : Value.slice A9 (colsR rows i).length c9 = v at *
    clear ho hb0 hb1 hE
    by_cases hlt : i < n
    · have hlt' : (i : Int) < (n : Int) := by omega
      have hw : wrap64 ((i : Int) + 1) = (i : Int) + 1 := by unfold wrap64; omega
      go_wp2_with fail
      go_loopw [19] (fun y wr => ∃ j : Nat, y = .int .i64 (j : Int) ∧ j ≤ rows.length ∧ BoxAt wr wo.heap.size (rgUpto rows j i).cells ∧ Ext wo wr) (fun y _ => rows.length - (intOf y).toNat)
      case atStart => exact ⟨0, rfl, by omega, BoxAt.new rfl rfl, (Ext.refl _).alloc _⟩
      case round =>
        rename_i hrel
        obtain ⟨j, rfl, hj, hg, hEi⟩ := hrel
        have HG := Lib.hid hg; have HEI := Lib.hid hEi
        have hwi : wo.heap.size < wr.heap.size := hg.lt
        clear hg hEi
        by_cases hjlt : j < rows.length
        · have hjlt' : (j : Int) < (rows.length : Int) := by omega
          have hwj : wrap64 ((j : Int) + 1) = (j : Int) + 1 := by unfold wrap64; omega
          obtain ⟨g, o, B, m, cb, rfl, -, hmr, hc, hv⟩ := (HR.out.ext (HER.out.trans HEI.out)).at_ j hjlt
          have hml := HR.out.lens.2 rows[j] (List.getElem_mem hjlt)
          have HC : Hid (wr.cell? ⟨g, o + j, none⟩ = some (.slice B m cb)) := Lib.hid hc
          have HAC : Hid (∀ u, Ext wr u → Calls Try.prog 144 #[.slice B m cb, .int .i64 (i : Int)] u fun e w' => e = .returned (atV rows[j] i).enc ∧ Ext u w') := Lib.hid fun u h => at_of rows[j] _ i u (hv.ext h) hml
          have hok : (atV rows[j] i).Ok := atV_ok hv.ok i
          have hgk := rgUpto_ok HOK.out j i
          have hnl := rgUpto_nulls rows j i
          have HWD : Hid (∀ u, Calls Try.prog 143 #[.agg (rgUpto rows j i).cells.toArray, .agg #[.int .i64 (atV rows[j] i).kind, .int .i64 (atV rows[j] i).int, .float .f64 (atV rows[j] i).flt, .string (atV rows[j] i).text]] u fun e w' => e = .returned (.agg ((rgUpto rows j i).widen (atV rows[j] i)).cells.toArray) ∧ Ext u w') := Lib.hid fun u => widen_of _ _ u hgk hok (by omega)
          have HSTEP : Hid ((rgUpto rows (j + 1) i).cells = ((rgUpto rows j i).widen (atV rows[j] i)).cells) := Lib.hid (by rw [rgUpto_succ rows hjlt])
          clear hc hv hml hok hgk hnl hmr
          unfold Rng.cells at HG HWD HSTEP ⊢
          unfold Val.enc at HAC
          generalize (rgUpto rows j i).widen (atV rows[j] i) = gq at *
          generalize atV rows[j] i = q at *
          generalize rgUpto rows j i = gp at *
          go_upto_region 9 with (first
            | (refine wpList_ixS (.tmp 21) _ (i := j) rfl rfl Try.underlying50 size_slice59 rfl rfl hjlt ?_)
            | (refine wpList_wish rfl fun K hK => wp_cell Try.underlying59 rfl (.tmp 21) rfl rfl HC.out (hK _ _ ?_)))
          refine wp_region_held (S := fun _ => True) (by kernel_rfl) ?_
          change wpAnyH _ _ _ _ _ _ _ _ wr.drew
          have HS0 : Hid True := Lib.hid trivial
          refine held_run (i := 1) (.slice B m cb) rfl (by kernel_rfl) (by kernel_rfl) (by kernel_rfl) (fun _ _ _ h => h) rfl (fun u _ => by go_simp) HS0.out ?_
          simp only [Act.put, List.setIfInBounds_toArray, List.set_cons_zero, List.set_cons_succ]
          refine held_run (i := 2) (.int .i64 (i : Int)) rfl (by kernel_rfl) (by kernel_rfl) (by kernel_rfl) (fun _ _ _ h => h) rfl (fun u _ => by go_simp) HS0.out ?_
          simp only [Act.put, List.setIfInBounds_toArray, List.set_cons_zero, List.set_cons_succ]
          refine held_two (i := 0) (j := 3) rfl rfl (by kernel_rfl) rfl rfl (fun K hK => ?_) (fun K hK => ?_)
          · refine wp_loadA (vs := [.int .i64 gp.kind, .int .i64 gp.nulls, .int .i64 gp.low.kind, .int .i64 gp.low.int, .float .f64 gp.low.flt, .string gp.low.text, .int .i64 gp.high.kind, .int .i64 gp.high.int, .float .f64 gp.high.flt, .string gp.high.text]) agg_rng (.tmp 7) rfl rfl (HG.out.cells) ?_
            refine hK _ _ trivial ?_
            simp only [Act.put, List.setIfInBounds_toArray, List.set_cons_zero, List.set_cons_succ]
            clear hK K
            refine held_do (i := 3) rfl (by kernel_rfl) rfl fun K hK => ?_
            refine wp_callF (fun x w' => x = .agg #[.int .i64 q.kind, .int .i64 q.int, .float .f64 q.flt, .string q.text] ∧ Ext wr.drew w') (fun u => by go_simp) ((HAC.out wr.drew (Ext.refl _).drew).mono fun e w' h => ⟨_, h.1, rfl, h.2⟩) ?_
            rintro _ w3 ⟨rfl, he3⟩
            refine hK _ _ trivial ?_
            simp only [Act.put, List.setIfInBounds_toArray, List.set_cons_zero, List.set_cons_succ]
            clear hK K
            refine held_do (i := 4) rfl (by kernel_rfl) rfl fun K hK => ?_
            refine wp_callF (fun x w' => x = .agg [.int .i64 gq.kind, .int .i64 gq.nulls, .int .i64 gq.low.kind, .int .i64 gq.low.int, .float .f64 gq.low.flt, .string gq.low.text, .int .i64 gq.high.kind, .int .i64 gq.high.int, .float .f64 gq.high.flt, .string gq.high.text].toArray ∧ Ext w3 w') (fun u => by go_simp) ((HWD.out w3).mono fun e w' h => ⟨_, h.1, rfl, h.2⟩) ?_
            rintro _ w4 ⟨rfl, he4⟩
            refine hK _ _ trivial ?_
            simp only [Act.put, List.setIfInBounds_toArray, List.set_cons_zero, List.set_cons_succ]
            clear hK K
            refine held_do (i := 5) rfl (by kernel_rfl) rfl fun K hK => ?_
            refine wp_storeA (vs' := [.int .i64 gq.kind, .int .i64 gq.nulls, .int .i64 gq.low.kind, .int .i64 gq.low.int, .float .f64 gq.low.flt, .string gq.low.text, .int .i64 gq.high.kind, .int .i64 gq.high.int, .float .f64 gq.high.flt, .string gq.high.text]) (Rng.one9 rfl) (HG.out.ext (((Ext.refl _).drew.trans he3).trans he4)) size_rng rfl (.tmp 7) (.tmp 27) rfl rfl rfl ?_
            intro w5 hq1 hq2
            refine hK _ _ trivial ?_
            simp only [Act.put, List.setIfInBounds_toArray, List.set_cons_zero, List.set_cons_succ]
            clear hK K
            refine wpAnyH_done (by kernel_rfl) ?_ _
            have HX5 : Hid (Ext wo w5) := Lib.hid (But.to_ext (HEI.out.trans (((Ext.refl _).drew.trans he3).trans he4)) hq2 (Nat.le_refl _))
            have HG5 := Lib.hid hq1
            clear hq1 hq2 he3 he4
            go_wp2_with fail
            exact ⟨⟨j + 1, by simp, by omega, by rw [HSTEP.out]; exact HG5.out, HX5.out⟩, by simp [intOf] <;> omega⟩
          · refine wp_callF (fun x w' => x = .agg #[.int .i64 q.kind, .int .i64 q.int, .float .f64 q.flt, .string q.text] ∧ Ext wr.drew w') (fun u => by go_simp) ((HAC.out wr.drew (Ext.refl _).drew).mono fun e w' h => ⟨_, h.1, rfl, h.2⟩) ?_
            rintro _ w3 ⟨rfl, he3⟩
            refine hK _ _ trivial ?_
            simp only [Act.put, List.setIfInBounds_toArray, List.set_cons_zero, List.set_cons_succ]
            clear hK K
            refine held_do (i := 0) rfl (by kernel_rfl) rfl fun K hK => ?_
            refine wp_loadA (vs := [.int .i64 gp.kind, .int .i64 gp.nulls, .int .i64 gp.low.kind, .int .i64 gp.low.int, .float .f64 gp.low.flt, .string gp.low.text, .int .i64 gp.high.kind, .int .i64 gp.high.int, .float .f64 gp.high.flt, .string gp.high.text]) agg_rng (.tmp 7) rfl rfl ((HG.out.ext ((Ext.refl _).drew.trans he3)).cells) ?_
            refine hK _ _ trivial ?_
            simp only [Act.put, List.setIfInBounds_toArray, List.set_cons_zero, List.set_cons_succ]
            clear hK K
            refine held_do (i := 4) rfl (by kernel_rfl) rfl fun K hK => ?_
            refine wp_callF (fun x w' => x = .agg [.int .i64 gq.kind, .int .i64 gq.nulls, .int .i64 gq.low.kind, .int .i64 gq.low.int, .float .f64 gq.low.flt, .string gq.low.text, .int .i64 gq.high.kind, .int .i64 gq.high.int, .float .f64 gq.high.flt, .string gq.high.text].toArray ∧ Ext w3 w') (fun u => by go_simp) ((HWD.out w3).mono fun e w' h => ⟨_, h.1, rfl, h.2⟩) ?_
            rintro _ w4 ⟨rfl, he4⟩
            refine hK _ _ trivial ?_
            simp only [Act.put, List.setIfInBounds_toArray, List.set_cons_zero, List.set_cons_succ]
            clear hK K
            refine held_do (i := 5) rfl (by kernel_rfl) rfl fun K hK => ?_
            refine wp_storeA (vs' := [.int .i64 gq.kind, .int .i64 gq.nulls, .int .i64 gq.low.kind, .int .i64 gq.low.int, .float .f64 gq.low.flt, .string gq.low.text, .int .i64 gq.high.kind, .int .i64 gq.high.int, .float .f64 gq.high.flt, .string gq.high.text]) (Rng.one9 rfl) (HG.out.ext (((Ext.refl _).drew.trans he3).trans he4)) size_rng rfl (.tmp 7) (.tmp 27) rfl rfl rfl ?_
            intro w5 hq1 hq2
            refine hK _ _ trivial ?_
            simp only [Act.put, List.setIfInBounds_toArray, List.set_cons_zero, List.set_cons_succ]
            clear hK K
            refine wpAnyH_done (by kernel_rfl) ?_ _
            have HX5 : Hid (Ext wo w5) := Lib.hid (But.to_ext (HEI.out.trans (((Ext.refl _).drew.trans he3).trans he4)) hq2 (Nat.le_refl _))
            have HG5 := Lib.hid hq1
            clear hq1 hq2 he3 he4
            go_wp2_with fail
            exact ⟨⟨j + 1, by simp, by omega, by rw [HSTEP.out]; exact HG5.out, HX5.out⟩, by simp [intOf] <;> omega⟩
        · have hjlt' : ¬ ((j : Int) < (rows.length : Int)) := by omega
          obtain rfl : j = rows.length := by omega
          have HGN : Hid (rgUpto rows rows.length i = rgAt rows i) := Lib.hid (by unfold rgUpto rgAt; rw [List.take_length])
          rw [HGN.out] at HG
          have HOI := Lib.hid (owns_ext HO.out HEI.out)
          have HBZ := Lib.hid (HB1.out.ext HEI.out)
          have HB00 := Lib.hid (HB0.out.ext HEI.out)
          have HEW := Lib.hid (HER.out.trans HEI.out)
          have HCOL : Hid (rgc (colsR rows (i + 1)) = rgc (colsR rows i) ++ (rgAt rows i).cells) := Lib.hid (by unfold colsR rgc; rw [List.range_succ]; simp)
          have HOB : Hid (∀ g, v.ownBlock = some g → g < wr.heap.size ∧ w.heap.size + 2 ≤ g) := Lib.hid fun g h => owns_lt HOI.out h
          have hs2 : w.heap.size + 2 ≤ wr.heap.size := HBZ.out.lt
          have hcl : (colsR rows i).length = i := colsR_length rows i
          have HCL := Lib.hid (colsR_length rows (i + 1))
          obtain ⟨b0, b1, -⟩ := HBZ.out.cells
          simp only [Nat.zero_add] at b0 b1
          clear HGN HO HB1 HB0 HER HEI HR hwi hwo
          unfold OwnR at HOI
          rw [hcl] at HOI
          unfold Rng.cells at HG HCOL
          generalize rgAt rows i = gp at *
          generalize rgc (colsR rows i) = pre at *
          go_wp2_with (first
            | (refine wpList_ldA (.tmp 7) (vs := [.int .i64 gp.kind, .int .i64 gp.nulls, .int .i64 gp.low.kind, .int .i64 gp.low.int, .float .f64 gp.low.flt, .string gp.low.text, .int .i64 gp.high.kind, .int .i64 gp.high.int, .float .f64 gp.high.flt, .string gp.high.text]) rfl rfl agg_rng rfl (HG.out.cells) ?_)
            | (refine wpList_one (base := w.heap.size + 2) (.tmp 30) (.tmp 32) rfl rfl Try.underlying82 info_rng (by decide) (by decide) rfl (owns_ext HOI.out ((Ext.refl _).alloc _)) [.int .i64 gp.kind, .int .i64 gp.nulls, .int .i64 gp.low.kind, .int .i64 gp.low.int, .float .f64 gp.low.flt, .string gp.low.text, .int .i64 gp.high.kind, .int .i64 gp.high.int, .float .f64 gp.high.flt, .string gp.high.text] rfl (Rng.one9 rfl) rfl (heap_alloc_new _ _) (by omega) (by simp; omega) ?_; intro g' cap' w6 ho6 hb6; have HO6 := Lib.hid ho6; have HZ6 := Lib.hid (hb6.box (fun h => by have := HOB.out _ h; omega) (HBZ.out.ext ((Ext.refl _).alloc _))); have HZ7 := Lib.hid (hb6.box (fun h => by have := HOB.out _ h; omega) (HB00.out.ext ((Ext.refl _).alloc _))); have HE6 := Lib.hid (hb6.to_ext (HEW.out.alloc _) (fun k h => by have := HOB.out _ h; omega)); obtain ⟨c0, c1, -⟩ := HZ6.out.cells; simp only [Nat.zero_add] at c0 c1; have f1 := HZ6.out.free 1; clear ho6 hb6 b0 b1))
          have HB8 := Lib.hid (HZ6.out.setAt9 (i := 1) (.slice (some ⟨g', 0, none⟩) (i + 1) cap') (by simp))
          simp only [List.set_cons_zero, List.set_cons_succ] at HB8
          have hlt8 : w.heap.size + 1 < w.heap.size + 2 := by omega
          have HM8 : ButS (fun k => k = w.heap.size + 1) w6 (w6.setCell ⟨w.heap.size + 1, 1, none⟩ (.slice (some ⟨g', 0, none⟩) (i + 1) cap')) := ButS.set_ (p := ⟨w.heap.size + 1, 1, none⟩) (w := w6) (w' := w6) (M := fun k => k = w.heap.size + 1) (.inr rfl) _ (ButS.refl _ _)
          refine ⟨⟨i + 1, .slice (some ⟨g', 0, none⟩) (i + 1) cap', by simp, by omega, ?_, HM8.box (by omega) HZ7.out, HB8.out, HM8.to_ext HE6.out (fun k h => by omega)⟩, by simp [intOf] <;> omega⟩
          unfold OwnR
          rw [HCL.out, HCOL.out]
          exact owns_buts HO6.out HM8 (fun g h => by have := owns_lt HO6.out h; omega)
    · have hlt' : ¬ ((i : Int) < (n : Int)) := by omega
      obtain rfl : i = n := by omega
      subst hv9
      rw [colsR_length] at *
      go_wp2_with (first
        | (refine wpList_ldA (.tmp 5) (vs := [.int .i64 (rows.length : Int), .slice A9 i c9]) rfl rfl agg_zone rfl (HB1.out.cells) ?_)
        | (refine wpList_storeA (vs' := [.int .i64 (rows.length : Int), .slice A9 i c9]) (Rng.one9 rfl) (HB0.out) size_zone rfl rfl (.tmp 4) _ rfl rfl rfl ?_; intro w9 hq1 hq2))
      exact back_cell rfl [.int .i64 (rows.length : Int), .slice A9 i c9] rfl agg_zone rfl hq1.cells ⟨A9, c9, rfl, owns_buts (owns_down HO.out (by omega)) (ButS.of_but (M := fun k => k = w.heap.size) hq2 rfl) (fun g h => by have := owns_lt HO.out h; omega), But.to_ext HER.out hq2 (by omega)⟩
end Go.Proofs.Ytlcdjaclahhdnaa
namespace Go.Proofs.Ytlcdjaclahhdnaa
open Go.RowKit
set_option linter.unusedSimpArgs false
set_option linter.unusedVariables false

/-- A round of the loop whose record is block l. -/
abbrev FR (l : Nat) : Fence := Fence.wide.inRound l
def Oper.noDefer (o : Oper) : Bool := match o.op with | .defer _ => false | _ => true
theorem Oper.noDefer_ne {o : Oper} (h : Oper.noDefer o = true) : ∀ c, o.op ≠ .defer c := by
  intro c e
  simp [Oper.noDefer, e] at h
section
variable {P : Program} {Q : Exit → Act → World → Prop} {a : Act} {w : World} {l n : Nat} {ops : Array Oper}
theorem rows_in {row : String} {args : Array Value} {R : Value → World → Prop} (h : Rows P row args w R) : Go.RowsIn (FR l) n P row args w R :=
  fun c cs _ => let ⟨v, w', r, s⟩ := h c cs; ⟨v, w', r, stepsIn_wide.2 s⟩
theorem calls_in {f : FuncId} {args : Array Value} {R : Ending → World → Prop} (h : Calls P f args w R) : CallsIn (FR l) n P f args w R :=
  CallsIn.inRound l (callsIn_wide.2 h)
theorem oper_in {o : Oper} {K : Act → World → Prop} (hd : Oper.noDefer o = true) (h : o.wp P a w K Q) : o.wpIn (FR l) n P a w K Q := by
  refine ⟨fun f _ => trivial, ?_⟩
  rw [Oper.semAt_eq _ _ _ (Oper.noDefer_ne hd)]
  unfold Oper.wp at h
  generalize (execOp a.eval o).run P w = r at *
  cases r with
  | ok x w' =>
    cases x <;> first | exact h | exact h.elim | exact ⟨fun h => by simp [FR, Fence.wide] at h, calls_in h⟩ | exact ⟨fun h => by simp [FR, Fence.wide] at h, rows_in h⟩
  | halt x w' => cases x <;> exact h
theorem list_in (hQ : ¬ LetsOut Q) : ∀ (L : List Oper), L.all Oper.noDefer = true → ∀ a w, wpList P ops Q L a w → wpListIn (FR l) n P ops Q L a w
  | [], _, _, _, h => h
  | o :: L, hd, a, w, h => by
    simp only [List.all_cons, Bool.and_eq_true] at hd
    simp only [wpList] at h
    simp only [wpListIn]
    split
    · rename_i hw
      rw [if_pos hw] at h
      rcases h with h | h
      · exact Oper.wpIn_mono (fun a' w' h' => list_in hQ L hd.2 a' w' h') (oper_in hd.1 h)
      · exact absurd h.2 hQ
    · rename_i hw
      rw [if_neg hw] at h
      exact ⟨fun f _ => trivial, list_in hQ L hd.2 _ _ h⟩
theorem op_in {i : Nat} {K : Act → World → Prop} (hQ : ¬ LetsOut Q) (hd : ops.toList.all Oper.noDefer = true) (h : wpOp P ops Q i K a w) : wpOpIn (FR l) n P ops Q i K a w := by
  unfold wpOp at h
  unfold wpOpIn
  cases ho : ops[i]? with
  | none => rw [ho] at h; exact h
  | some o =>
    rw [ho] at h
    have hod : Oper.noDefer o = true := List.all_eq_true.1 hd o (by
      rw [← Array.getElem?_toList] at ho
      exact List.mem_of_getElem? ho)
    simp only at h ⊢
    split
    · rename_i hw
      rw [if_pos hw] at h
      rcases h with h | h
      · exact oper_in hod h
      · exact absurd h.2 hQ
    · rename_i hw
      rw [if_neg hw] at h
      exact ⟨fun f _ => trivial, h⟩
theorem any_in {md : Region.Mode} (hQ : ¬ LetsOut Q) (hd : ops.toList.all Oper.noDefer = true) : ∀ (fuel : Nat) (listed : Array Bool) (a : Act) (w : World), wpAny P md ops Q fuel listed a w → wpAnyIn (FR l) n P md ops Q fuel listed a w
  | 0, _, _, _, h => h
  | fuel + 1, _, _, _, h => ⟨h.1, fun i hi => op_in hQ hd (wpOp_mono (fun a' w' h' => h') (h.2 i hi)) |> wpOpIn_mono fun a' w' h' => any_in hQ hd fuel _ a' w' h'⟩
/-- A region in a round. -/
theorem region_in {id : Nat} {L : List Oper} (hQ : ¬ LetsOut Q) (hd : L.all Oper.noDefer = true) (h : wpList P L.toArray Q L a w) : (Code.region id L.toArray false).wpIn (FR l) n P Q a w :=
  wpIn_region_list (by simpa using list_in hQ L hd a w h)
/-- A region that draws its order, in a round, in the class of worlds that only grew. -/
theorem region_ext_in {id : Nat} {L : List Oper} (hQ : ¬ LetsOut Q) (hd : L.all Oper.noDefer = true) (hm : P.follows .mixedOrders = true) (hB : Region.lexB .any L.toArray = true)
    (h : wpQuiet P L.toArray (Ext w) (fun a' => ∀ w', Ext w w' → Q .normal a' w') L a) : (Code.region id L.toArray true).wpIn (FR l) n P Q a w := by
  simp only [Region.lexB, Bool.and_eq_true] at hB
  refine wpIn_region_any hm (any_in hQ (by simpa using hd) _ _ _ _ (wpAny_of_quiet (C := Ext w) (Q := fun a' => ∀ w', Ext w w' → Q .normal a' w') (fun _ w' hw' h => h w' hw') _ _ _ _ (Ext.refl w).drew ?_))
  have := wpAnyQ_lex (C := Ext w) (md := .any) hB.1 L 0 (Array.replicate L.toArray.size false) a (by simp) (by simpa using hB.2) h
  simpa using this
/-- A region that draws its order, in a round, by moves. -/
theorem region_held_in {id : Nat} {L : List Oper} (S : World → Prop) (hQ : ¬ LetsOut Q) (hd : L.all Oper.noDefer = true) (hm : P.follows .mixedOrders = true)
    (h : wpAnyH P .any L.toArray Q S L.toArray.size (Array.replicate L.toArray.size false) a w.drew) : (Code.region id L.toArray true).wpIn (FR l) n P Q a w :=
  wpIn_region_any hm (any_in hQ (by simpa using hd) _ _ _ _ (wpAny_of_held _ _ _ _ h))
theorem not_lets {Q : Exit → Act → World → Prop} (h : ∀ a w, ¬ Q .outgrown a w) : ¬ LetsOut Q := fun ⟨a, w, h'⟩ => h a w h'
end
end Go.Proofs.Ytlcdjaclahhdnaa
namespace Go.Proofs.Ytlcdjaclahhdnaa
open Go.RowKit
set_option linter.unusedSimpArgs false
set_option linter.unusedVariables false
attribute [local go_sem] Oper.semAt_some

set_option maxHeartbeats 1000000 in
theorem chunk_of (A : Option Addr) (n c : Nat) (w : World) :
    Calls Try.prog 100 #[.slice A n c, .int .i64 16] w fun e w' => e = .returned (.func (.func 142) #[] #[.pointer (some ⟨w.heap.size, 0, none⟩), .pointer (some ⟨w.heap.size + 1, 0, none⟩)]) ∧ w' = (w.alloc (.cells #[.slice A n c] 50)).alloc (.cells #[.int .i64 16] 3) := by
  go_enter Try.func100, Try.ntmps100
  go_wp2_with fail
  go_ret
  exact ⟨rfl, rfl⟩
/-- Two blocks lie as they lay. -/
def KB (b0 b1 : Nat) (W W' : World) : Prop := W'.heap[b0]? = W.heap[b0]? ∧ W'.heap[b1]? = W.heap[b1]?
theorem KB.refl (b0 b1 : Nat) (W : World) : KB b0 b1 W W := ⟨rfl, rfl⟩
theorem KB.trans {b0 b1 : Nat} {A B C : World} (h : KB b0 b1 A B) (k : KB b0 b1 B C) : KB b0 b1 A C := ⟨k.1.trans h.1, k.2.trans h.2⟩
theorem KB.cell0 {b0 b1 : Nat} {A B : World} (h : KB b0 b1 A B) (o : Nat) : B.cell? ⟨b0, o, none⟩ = A.cell? ⟨b0, o, none⟩ := by simp only [World.cell?, h.1]
theorem KB.cell1 {b0 b1 : Nat} {A B : World} (h : KB b0 b1 A B) (o : Nat) : B.cell? ⟨b1, o, none⟩ = A.cell? ⟨b1, o, none⟩ := by simp only [World.cell?, h.2]
theorem KB.of_ext {b0 b1 : Nat} {A B : World} (h : Ext A B) (h0 : b0 < A.heap.size) (h1 : b1 < A.heap.size) : KB b0 b1 A B := ⟨h.block h0, h.block h1⟩
/-- The k-th chunk of a slice at cell o of block g, of N rows. -/
def chunkV (g o N k : Nat) : Value := .slice (some ⟨g, o + k * 16, none⟩) (min 16 (N - k * 16)) (min 16 (N - k * 16))
set_option maxRecDepth 100000 in
set_option maxHeartbeats 4000000 in
theorem chunk1_in (n : Nat) (hn : 1 ≤ n) (l b0 b1 g o N cap : Nat) (hN : N ≤ 1000000) (hc : N ≤ cap) (J Jx : List Nat → World → Prop) (B : Nat) (hJa : AbidesFrom B J)
    (hY : ∀ pre x W, J pre W → pre.length < (N + 15) / 16 → YieldAt Fence.wide (n - 1) Try.prog l #[chunkV g o N x] W fun e W' =>
      (e = .returned (.bool true) ∧ J (pre ++ [x]) W' ∧ KB b0 b1 W W') ∨ (e = .returned (.bool false) ∧ Jx (pre ++ [x]) W'))
    (W : World) (hB0 : W.cell? ⟨b0, 0, none⟩ = some (.slice (some ⟨g, o, none⟩) N cap)) (hB1 : W.cell? ⟨b1, 0, none⟩ = some (.int .i64 16)) (hJ0 : J [] W) :
    CallsIn Fence.wide n Try.prog 142 #[.func (.yield l) #[] #[], .pointer (some ⟨b0, 0, none⟩), .pointer (some ⟨b1, 0, none⟩)] W fun e W' => (∃ v, e = .returned v) ∧
      ((∃ ys, ys = List.range ((N + 15) / 16) ∧ J ys W') ∨ (∃ pre, pre <+: List.range ((N + 15) / 16) ∧ Jx pre W')) := by
  refine callsIn_of_wp Try.func142 rfl trivial ?_ rfl
  simp only [Try.ntmps142, List.size_toArray, List.length_cons, List.length_nil, Nat.reduceAdd, Nat.reduceSub, Array.replicate_succ, Array.replicate_zero, List.push_toArray, List.append_toArray, List.nil_append, List.cons_append]
  gi_wp2
  gi_loopw [4] (fun i wr => ∃ k : Nat, k ≤ (N + 15) / 16 ∧ i = .int .i64 ((k * 16 : Nat) : Int) ∧ J (List.range k) wr ∧ KB b0 b1 W wr)
    (fun i _ => N + 16 - (intOf i).toNat)
  case atStart => exact ⟨0, Nat.zero_le _, rfl, hJ0, KB.refl _ _ _⟩
  case round =>
    obtain ⟨k, hk, rfl, hJs, hnx⟩ := hrel
    have hc0 := (hnx.cell0 0).trans hB0
    have hc1 := (hnx.cell1 0).trans hB1
    by_cases hlt : k * 16 < N
    · obtain ⟨i, hi⟩ : ∃ i, i = k * 16 := ⟨_, rfl⟩
      obtain ⟨m, hm⟩ : ∃ m, m = min 16 (N - i) := ⟨_, rfl⟩
      rw [← hi] at hlt ⊢
      have hm1 : m ≤ 16 ∧ i + m ≤ N ∧ 0 < m := by omega
      have hm2 : (if ((N - i : Nat) : Int) < 16 then ((N - i : Nat) : Int) else 16) = (m : Int) := by split <;> omega
      have hiN : i ≤ N := by omega
      have hic : ¬ cap = i := by omega
      have HI := Lib.hid hi; have HM := Lib.hid hm; have HM2 := Lib.hid hm2; have HM1 := Lib.hid hm1
      have HK := Lib.hid hk
      clear hi hm hm2 hm1 hk
      gi_wp2
      refine wpIn_wide.2 ?_
      refine wp_region_ext (by kernel_rfl) (by kernel_rfl) ?_; (repeat (first | (refine quiet_cell rfl (.tmp 2) Try.underlying3 rfl rfl rfl (fun w' hw => (hw.cell (cell_lt hc1)).trans hc1) ?_) | (refine quiet_cell rfl (.tmp 1) Try.underlying50 rfl rfl rfl (fun w' hw => (hw.cell (cell_lt hc0)).trans hc0) ?_) | (refine quiet_run rfl (.slice (some ⟨g, o + i, none⟩) (N - i) (cap - i)) (fun w' hw => ?_) ?_; (focus (go_simp; simp [hiN, hic]; done))) | (refine wpQuiet_step (fun K hK => ?_); go_simp; first | (refine hK _ ?_; clear hK K) | (refine ⟨_, fun w hw => rfl, hK _ ?_⟩; clear hK K)))); refine wpQuiet_nil ?_
      intro wd hE
      simp only [HM2.out]
      have hJd : J (List.range k) wd := hJa _ _ _ none hJs ⟨hE.os, hE.tape, hE.output, hE.size, fun j hj _ => hE.block hj⟩ (fun r e => by cases e)
      have hnd : KB b0 b1 W wd := hnx.trans (KB.of_ext hE (cell_lt hc0) (cell_lt hc1))
      have hd0 := (hE.cell (cell_lt hc0)).trans hc0
      have hd1 := (hE.cell (cell_lt hc1)).trans hc1
      clear hc0 hc1 hJs hnx
      obtain ⟨fn, tmps, assign, body, hy, hR⟩ := hY _ k wd hJd (by rw [List.length_range]; have := HI.out; omega)
      unfold chunkV at hy
      rw [← HI.out, ← HM.out] at hy
      have hm1 := HM1.out.1; have hm2 := HM1.out.2.1; have hm3 := HM1.out.2.2
      gi_wp2
      refine hR.mono ?_
      rintro e W3 (⟨rfl, hJ3, hk3⟩ | ⟨rfl, hJx3⟩)
      · have hd3 := (hk3.cell1 0).trans hd1
        clear hd0 hd1
        gi_wp2
        go_roundw
        case rel => exact ⟨k + 1, by have := HI.out; omega, by simp only [Value.int.injEq, true_and]; have := HI.out; omega, by rw [List.range_succ]; exact hJ3, hnd.trans hk3⟩
        case measure => simp [intOf]; omega
      · gi_wp2
        refine bodyPost_ret (results_none rfl _ _ _) rfl ?_
        refine ⟨⟨_, rfl⟩, .inr ⟨_, ?_, hJx3⟩⟩
        rw [← List.range_succ]
        have hk9 : k + 1 ≤ (N + 15) / 16 := by have := HI.out; omega
        exact ⟨(List.range ((N + 15) / 16 - (k + 1))).map ((k + 1) + ·), by rw [← List.range_add]; congr 1; omega⟩
    · have hkC : k = (N + 15) / 16 := by omega
      have HKC := Lib.hid hkC
      obtain ⟨i, hi⟩ : ∃ i, i = k * 16 := ⟨_, rfl⟩
      rw [← hi] at hlt ⊢
      clear hi hkC hk
      gi_wp2
      go_end0
      exact ⟨⟨_, rfl⟩, .inl ⟨_, rfl, by rw [← HKC.out]; exact hJs⟩⟩
set_option maxRecDepth 100000 in
set_option maxHeartbeats 1000000 in
/-- .. of the nil slice: no round. -/
theorem chunk1_nil (n : Nat) (l b0 b1 : Nat) (A : Option Addr) (cap : Nat) (J : List Nat → World → Prop) (W : World) (hB0 : W.cell? ⟨b0, 0, none⟩ = some (.slice A 0 cap)) (hJ0 : J [] W) :
    CallsIn Fence.wide n Try.prog 142 #[.func (.yield l) #[] #[], .pointer (some ⟨b0, 0, none⟩), .pointer (some ⟨b1, 0, none⟩)] W fun e W' => (∃ v, e = .returned v) ∧ J [] W' := by
  refine callsIn_of_wp Try.func142 rfl trivial ?_ rfl
  simp only [Try.ntmps142, List.size_toArray, List.length_cons, List.length_nil, Nat.reduceAdd, Nat.reduceSub, Array.replicate_succ, Array.replicate_zero, List.push_toArray, List.append_toArray, List.nil_append, List.cons_append]
  gi_wp2
  gi_loopw [4] (fun i wr => i = .int .i64 0 ∧ J [] wr ∧ wr.cell? ⟨b0, 0, none⟩ = some (.slice A 0 cap)) (fun _ _ => 0)
  case atStart => exact ⟨rfl, hJ0, hB0⟩
  case round =>
    obtain ⟨rfl, hJs, hc⟩ := hrel
    gi_wp2
    go_end0
    exact ⟨⟨_, rfl⟩, hJs⟩
/-- What slices.Chunk hands back: a part of the chunks, in order; all of them, where no round said no. -/
theorem chunk_stops (A : Option Addr) (N cap b0 b1 : Nat) (w : World) (hs : N ≠ 0 → ∃ g o, A = some ⟨g, o, none⟩) (hN : N ≤ 1000000) (hc : N ≤ cap) (h0 : b0 < w.heap.size) (h1 : b1 < w.heap.size)
    (hB0 : w.cell? ⟨b0, 0, none⟩ = some (.slice A N cap)) (hB1 : w.cell? ⟨b1, 0, none⟩ = some (.int .i64 16)) :
    ∃ g o, (N ≠ 0 → A = some ⟨g, o, none⟩) ∧ ∀ n, 1 ≤ n → SeqStopsK Fence.wide n Try.prog 142 #[.pointer (some ⟨b0, 0, none⟩), .pointer (some ⟨b1, 0, none⟩)] (fun k : Nat => #[chunkV g o N k]) (KB b0 b1)
      (fun ys => ys = List.range ((N + 15) / 16)) (fun pre => pre <+: List.range ((N + 15) / 16)) ((N + 15) / 16) w := by
  by_cases hN0 : N = 0
  · subst hN0
    refine ⟨0, 0, fun h => absurd rfl h, fun n hn l J Jx W hW hJ _ hY hj0 => ?_⟩
    exact (chunk1_nil n l b0 b1 A cap J W ((hW.cell (p := ⟨b0, 0, none⟩) h0).trans hB0) hj0).mono fun e W' ⟨he, hj⟩ => ⟨he, .inl ⟨_, rfl, hj⟩⟩
  · obtain ⟨g, o, rfl⟩ := hs hN0
    refine ⟨g, o, fun _ => rfl, fun n hn l J Jx W hW hJ _ hY hj0 => ?_⟩
    exact chunk1_in n hn l b0 b1 g o N cap hN hc J Jx _ hJ hY W ((hW.cell (p := ⟨b0, 0, none⟩) h0).trans hB0) ((hW.cell (p := ⟨b1, 0, none⟩) h1).trans hB1) hj0
/-- The rows of the k-th chunk. -/
def chunkR {α : Type} (rows : List α) (k : Nat) : List α := (rows.drop (k * 16)).take 16
theorem chunkR_length {α : Type} (rows : List α) (k : Nat) : (chunkR rows k).length = min 16 (rows.length - k * 16) := by simp [chunkR]
theorem RowsIn.chunk {w : World} {g o cap : Nat} {rows : List (List Val)} (h : RowsIn w (.slice (some ⟨g, o, none⟩) rows.length cap) rows) (k : Nat) : RowsIn w (chunkV g o rows.length k) (chunkR rows k) := by
  refine ⟨⟨some ⟨g, o + k * 16, none⟩, min 16 (rows.length - k * 16), ?_, ?_, (fun h => by cases h), fun hn => ⟨g, o + k * 16, rfl, fun i hi => ?_⟩⟩, ?_, fun r hr => h.lens.2 r (List.mem_of_mem_drop (List.mem_of_mem_take hr))⟩
  · unfold chunkV; rw [chunkR_length]
  · rw [chunkR_length]; omega
  · rw [chunkR_length] at hi
    obtain ⟨g', o', B, m, cb, h1, -, -, h2, h3⟩ := h.at_ (k * 16 + i) (by omega)
    cases h1
    refine ⟨_, by rw [show o + k * 16 + i = o + (k * 16 + i) by omega]; exact h2, ?_⟩
    simpa [chunkR] using h3
  · rw [chunkR_length]; omega
end Go.Proofs.Ytlcdjaclahhdnaa
namespace Go.Proofs.Ytlcdjaclahhdnaa
open Go.RowKit
set_option linter.unusedSimpArgs false
set_option linter.unusedVariables false
attribute [local irreducible] wpQuiet wpList Code.wp
attribute [local go_sem] Oper.semAt_some

/-- Whatever is cells lies as it lay. -/
structure KeepC (W W' : World) : Prop where
  os : W'.os = W.os
  tape : W'.tape = W.tape
  output : W'.output = W.output
  size : W.heap.size ≤ W'.heap.size
  same : ∀ (k : Nat) (o : Obj), W.heap[k]? = some o → o.isCells = true → W'.heap[k]? = some o
theorem KeepC.of_turn {W W' : World} {row : Option Nat} (hg : W.grownBy W' row) (hr : ∀ r, row = some r → ∃ o : Obj, W.heap[r]? = some o ∧ o.isCells = false) : KeepC W W' :=
  ⟨hg.os, hg.tape, hg.output, hg.size, fun k o hk ho => (hg.block k (Array.getElem?_eq_some_iff.1 hk).1 (fun e => by
    obtain ⟨o', h1, h2⟩ := hr k e.symm
    rw [hk] at h1; cases h1; rw [ho] at h2; cases h2)).trans hk⟩
theorem keep_turn (W : World) {D : Nat} {o o' : Obj} (h : W.heap[D]? = some o) (ho : o.isCells = false) : KeepC W (W.putObj D o') :=
  KeepC.of_turn (grownBy_putObj' W D o') (fun r e => by cases e; exact ⟨o, h, ho⟩)
theorem own_keep {β : Type} {I : β → World → Prop} (B : Nat) (h : ∀ s W W', I s W → KeepC W W' → I s W') : OwnFrom B I :=
  fun s W W' row hs hg hr => h s W W' hs (KeepC.of_turn hg fun r e => (hr r e).2)
theorem cell_block {W : World} {p : Addr} {v : Value} (h : W.cell? p = some v) : ∃ o, W.heap[p.block]? = some o ∧ o.isCells = true := by
  unfold World.cell? at h
  cases hh : W.heap[p.block]? with
  | none => rw [hh] at h; simp at h
  | some o =>
    rw [hh] at h
    cases o <;> first | exact ⟨_, rfl, rfl⟩ | simp at h
theorem KeepC.cell {W W' : World} {p : Addr} {v : Value} (hk : KeepC W W') (h : W.cell? p = some v) : W'.cell? p = some v := by
  obtain ⟨o, h1, h2⟩ := cell_block h
  have h3 := hk.same _ _ h1 h2
  rw [← h]
  simp only [World.cell?, h1, h3]
theorem KeepC.box {W W' : World} {g : Nat} {v : Value} {vs : List Value} (hk : KeepC W W') (h : BoxAt W g (v :: vs)) : BoxAt W' g (v :: vs) := by
  obtain ⟨o, h1, h2⟩ := cell_block h.cells.1
  have h3 := hk.same _ _ h1 h2
  refine ⟨At.of_get fun j u hu => hk.cell (h.cells.get j u hu), fun j => ?_, Nat.lt_of_lt_of_le h.lt hk.size⟩
  rw [← h.free j]
  simp only [World.frozen?, h1, h3]
theorem KeepC.owns {W W' : World} {base : Nat} {Ty : TypeId} {size : Nat} {v : Value} {n : Nat} {xs : List Value} (hk : KeepC W W') (h : W.ownsRow base Ty size v n xs) : W'.ownsRow base Ty size v n xs := by
  refine ⟨h.1, h.2.imp id ?_⟩
  rintro ⟨g, cap, cur, hv, hb, hh, r⟩
  exact ⟨g, cap, cur, hv, hb, hk.same _ _ hh rfl, r⟩
/-- A zone: how many rows, what its columns' ranges are. -/
structure Zn where
  rows : Nat
  cols : List Rng
def zzip : List Zn → List Value → List Value
  | z :: zs, s :: ss => .int .i64 (z.rows : Int) :: s :: zzip zs ss
  | _, _ => []
theorem zzip_snoc : ∀ (zs : List Zn) (ss : List Value) (z : Zn) (s : Value), ss.length = zs.length → zzip (zs ++ [z]) (ss ++ [s]) = zzip zs ss ++ [.int .i64 (z.rows : Int), s]
  | [], [], z, s, _ => rfl
  | [], _ :: _, _, _, h => by simp at h
  | _ :: _, [], _, _, h => by simp at h
  | a :: zs, b :: ss, z, s, h => by
    have := zzip_snoc zs ss z s (by simpa using h)
    simp only [List.cons_append, zzip, this]
/-- A row of the call's own that holds zones, their ranges in rows of the call's own. -/
def OwnZ (Ty Tr : TypeId) (w : World) (base : Nat) (v : Value) (zs : List Zn) : Prop :=
  ∃ ss : List Value, ss.length = zs.length ∧ w.ownsRow base Ty 2 v zs.length (zzip zs ss) ∧ ∀ (i : Nat) (z : Zn) (s : Value), zs[i]? = some z → ss[i]? = some s → w.ownsRow base Tr 10 s z.cols.length (rgc z.cols)
theorem OwnZ.nil (Ty Tr : TypeId) (w : World) (base : Nat) : OwnZ Ty Tr w base (.slice none 0 0) [] := ⟨[], rfl, owns_nil _ _ _ _, by simp⟩
theorem OwnZ.ext {Ty Tr : TypeId} {w w' : World} {base : Nat} {v : Value} {zs : List Zn} (h : OwnZ Ty Tr w base v zs) (he : Ext w w') : OwnZ Ty Tr w' base v zs := by
  obtain ⟨ss, h1, h2, h3⟩ := h
  exact ⟨ss, h1, owns_ext h2 he, fun i z s hz hs => owns_ext (h3 i z s hz hs) he⟩
theorem OwnZ.keep {Ty Tr : TypeId} {w w' : World} {base : Nat} {v : Value} {zs : List Zn} (h : OwnZ Ty Tr w base v zs) (he : KeepC w w') : OwnZ Ty Tr w' base v zs := by
  obtain ⟨ss, h1, h2, h3⟩ := h
  exact ⟨ss, h1, he.owns h2, fun i z s hz hs => he.owns (h3 i z s hz hs)⟩
theorem OwnZ.buts {M : Nat → Prop} {Ty Tr : TypeId} {w w' : World} {base : Nat} {v : Value} {zs : List Zn} (h : OwnZ Ty Tr w base v zs) (hb : ButS M w w') (hm : ∀ k, M k → k < base) : OwnZ Ty Tr w' base v zs := by
  obtain ⟨ss, h1, h2, h3⟩ := h
  exact ⟨ss, h1, owns_buts h2 hb (fun g hg hM => by have := hm g hM; have := (owns_lt h2 hg).2; omega), fun i z s hz hs => owns_buts (h3 i z s hz hs) hb (fun g hg hM => by have := hm g hM; have := (owns_lt (h3 i z s hz hs) hg).2; omega)⟩
theorem OwnZ.shape {Ty Tr : TypeId} {w : World} {base : Nat} {v : Value} {zs : List Zn} (h : OwnZ Ty Tr w base v zs) : ∃ A c, v = .slice A zs.length c := by
  obtain ⟨ss, h1, h2, h3⟩ := h
  exact owns_shape h2
theorem OwnZ.down {Ty Tr : TypeId} {w : World} {base base' : Nat} {v : Value} {zs : List Zn} (h : OwnZ Ty Tr w base v zs) (hb : base' ≤ base) : OwnZ Ty Tr w base' v zs := by
  obtain ⟨ss, h1, h2, h3⟩ := h
  exact ⟨ss, h1, owns_down h2 hb, fun i z s hz hs => owns_down (h3 i z s hz hs) hb⟩
/-- One zone more. -/
theorem OwnZ.snoc {Ty Tr : TypeId} (hT : Tr ≠ Ty) {w w' : World} {base : Nat} {v v' : Value} {zs : List Zn} {ss : List Value} {z : Zn} {s : Value} (h1 : ss.length = zs.length) (h2 : w.ownsRow base Ty 2 v zs.length (zzip zs ss))
    (h3 : ∀ (i : Nat) (z : Zn) (s : Value), zs[i]? = some z → ss[i]? = some s → w.ownsRow base Tr 10 s z.cols.length (rgc z.cols)) (hz : w.ownsRow base Tr 10 s z.cols.length (rgc z.cols))
    (ho : w'.ownsRow base Ty 2 v' (zs.length + 1) (zzip zs ss ++ [.int .i64 (z.rows : Int), s])) (hb : ButS (fun k => v.ownBlock = some k) w w') : OwnZ Ty Tr w' base v' (zs ++ [z]) := by
  refine ⟨ss ++ [s], by simp [h1], ?_, fun i q u hq hu => ?_⟩
  · rw [zzip_snoc zs ss z s h1, List.length_append]; exact ho
  · rw [List.getElem?_append] at hq hu
    rw [h1] at hu
    split at hq
    · rename_i hi
      rw [if_pos hi] at hu
      exact owns_buts (h3 i q u hq hu) hb (owns_apart (h3 i q u hq hu) h2 hT)
    · rename_i hi
      rw [if_neg hi] at hu
      rcases Nat.eq_zero_or_pos (i - zs.length) with h0 | h0
      · rw [h0] at hq hu
        simp only [List.getElem?_cons_zero, Option.some.injEq] at hq hu
        subst hq hu
        exact owns_buts hz hb (owns_apart hz h2 hT)
      · rw [List.getElem?_eq_none (by simp; omega)] at hq; cases hq
theorem info_zone : (Try.prog.info? 84).map (fun i => (i.zero.map (·.cells.size), i.size, i.bytes)) = some (some 2, 2, 32) := by kernel_rfl
theorem size_zs : (Try.prog.info? 76).map (·.size) = some 1 := by kernel_rfl
/-- The zone of the k-th chunk. -/
def znOf (rows : List (List Val)) (n k : Nat) : Zn := ⟨(chunkR rows k).length, colsR (chunkR rows k) n⟩
def zonesOf (rows : List (List Val)) (n : Nat) : List Zn := (List.range ((rows.length + 15) / 16)).map (znOf rows n)
theorem RowsIn.chunk' {w : World} {A : Option Addr} {g o cap : Nat} {rows : List (List Val)} (hA : rows.length ≠ 0 → A = some ⟨g, o, none⟩) (h : RowsIn w (.slice A rows.length cap) rows) (k : Nat) : RowsIn w (chunkV g o rows.length k) (chunkR rows k) := by
  by_cases h0 : rows.length = 0
  · have he : rows = [] := List.eq_nil_of_length_eq_zero h0
    subst he
    exact ⟨⟨some ⟨g, o + k * 16, none⟩, 0, by simp [chunkV, chunkR], by simp [chunkR], (fun h => by cases h), fun hn => absurd (by simp [chunkR]) hn⟩, by simp [chunkR]⟩
  · obtain rfl := hA h0
    exact h.chunk k
theorem keepOthers_buts {M : Nat → Prop} {w w' : World} (B : Nat) (h : ButS M w w') (hM : ∀ k, M k → ∀ o, w.heap[k]? = some o → o.isCells = true) : KeepsFrom B w w' :=
  ⟨h.size, fun k o _ hk ho => (h.block k (Array.getElem?_eq_some_iff.1 hk).1 (fun hm => by have := hM k hm o hk; rw [this] at ho; cases ho)).trans hk⟩

set_option maxRecDepth 100000 in
set_option maxHeartbeats 8000000 in
theorem zones_of (rows : List (List Val)) (rv : Value) (cols : Int) (n : Nat) (w : World) (hrows : RowsIn w rv rows) (hrl : rows.length ≤ 1000000) (hn : (n : Int) = min (max cols 0) 40) :
    Calls Try.prog 44 #[rv, .int .i64 cols] w fun e w' => ∃ v, e = .returned v ∧ OwnZ 84 149 w' w.heap.size v (zonesOf rows n) ∧ Ext w w' := by
  obtain ⟨RA, rc, rfl, hrc, hrn, hra⟩ := hrows.val
  have HR := Lib.hid hrows
  have HS : Hid (rows.length ≠ 0 → ∃ g o, RA = some ⟨g, o, none⟩) := Lib.hid fun h => by
    obtain ⟨g, o, h1, -⟩ := hra (fun e => by subst e; exact h rfl)
    exact ⟨g, o, h1⟩
  have HN := Lib.hid hn
  have hn40 : n ≤ 40 := by omega
  have hmx : (if cols < 0 then (0 : Int) else cols) = max cols 0 := by split <;> omega
  clear hrows hra hrn hn
  refine (callsIn_wide (n := 3)).1 ?_
  refine callsIn_of_wp_marks Try.func44 rfl trivial ?_ rfl
  simp only [Try.ntmps44, List.size_toArray, List.length_cons, List.length_nil, Nat.reduceAdd, Nat.reduceSub, Array.replicate_succ, Array.replicate_zero, List.push_toArray, List.append_toArray, List.nil_append, List.cons_append]
  refine wpIn_wide.2 ?_
  by_cases h40 : 40 < max cols 0
  all_goals go_wp2_with (go_at_call 100; refine (chunk_of _ _ _ _).mono ?_; rintro e w2 ⟨rfl, rfl⟩)
  · have HV9 : Hid ((40 : Int) = (n : Int)) := Lib.hid (by have := HN.out; omega)
    clear HN hmx h40
    have hb0 : BoxAt ((((w.alloc (.cells #[.int .i64 40] 3)).alloc (.cells #[.slice none 0 0] 76)).alloc (.cells #[.slice RA rows.length rc] 50)).alloc (.cells #[.int .i64 16] 3)) w.heap.size [.int .i64 40] := (((BoxAt.new rfl rfl).ext ((Ext.refl _).alloc _)).ext ((Ext.refl _).alloc _)).ext ((Ext.refl _).alloc _)
    have hb1 : BoxAt ((((w.alloc (.cells #[.int .i64 40] 3)).alloc (.cells #[.slice none 0 0] 76)).alloc (.cells #[.slice RA rows.length rc] 50)).alloc (.cells #[.int .i64 16] 3)) (w.heap.size + 1) [.slice none 0 0] := ((BoxAt.new (by simp) rfl).ext ((Ext.refl _).alloc _)).ext ((Ext.refl _).alloc _)
    have hb2 : BoxAt ((((w.alloc (.cells #[.int .i64 40] 3)).alloc (.cells #[.slice none 0 0] 76)).alloc (.cells #[.slice RA rows.length rc] 50)).alloc (.cells #[.int .i64 16] 3)) (w.heap.size + 1 + 1) [.slice RA rows.length rc] := (BoxAt.new (by simp) rfl).ext ((Ext.refl _).alloc _)
    have hb3 : BoxAt ((((w.alloc (.cells #[.int .i64 40] 3)).alloc (.cells #[.slice none 0 0] 76)).alloc (.cells #[.slice RA rows.length rc] 50)).alloc (.cells #[.int .i64 16] 3)) (w.heap.size + 1 + 1 + 1) [.int .i64 16] := BoxAt.new (by simp) rfl
    have hb4 : Ext w ((((w.alloc (.cells #[.int .i64 40] 3)).alloc (.cells #[.slice none 0 0] 76)).alloc (.cells #[.slice RA rows.length rc] 50)).alloc (.cells #[.int .i64 16] 3)) := ((((Ext.refl _).alloc _).alloc _).alloc _).alloc _
    refine name_worldA (fun u => BoxAt u w.heap.size [.int .i64 40] ∧ BoxAt u (w.heap.size + 1) [.slice none 0 0] ∧ BoxAt u (w.heap.size + 1 + 1) [.slice RA rows.length rc] ∧ BoxAt u (w.heap.size + 1 + 1 + 1) [.int .i64 16] ∧ Ext w u) ⟨hb0, hb1, hb2, hb3, hb4⟩ ?_
    clear hb0 hb1 hb2 hb3 hb4
    rintro WL ⟨hb0, hb1, hb2, hb3, hb4⟩
    have HSZ : Hid (w.heap.size + 3 < WL.heap.size) := Lib.hid hb3.lt
    have HRW : Hid (∀ u, Ext w u → RowsIn u (.slice RA rows.length rc) rows) := Lib.hid fun u h => HR.out.ext h
    obtain ⟨g, o, hA, hstop⟩ := chunk_stops RA rows.length rc (w.heap.size + 1 + 1) (w.heap.size + 1 + 1 + 1) WL HS.out hrl hrc (by have := HSZ.out; omega) HSZ.out hb2.cells.1 hb3.cells.1
    refine (wpIn_wide (n := 3)).1 ?_
    refine wpIn_rangeFunc_ownG (F := Fence.wide) (n := 3) (w := WL) (w0 := WL) rfl (by decide) (gf := 142) (lb := #[.pointer (some ⟨w.heap.size + 1 + 1, 0, none⟩), .pointer (some ⟨w.heap.size + 1 + 1 + 1, 0, none⟩)]) rfl trivial (enters_of Try.func142 (by kernel_rfl) rfl)
      (hstop 2 (by decide)) (fun h k => h.trans k) (fun W l o o' hl ho hc _ => ⟨World.putObj_heap_other (by have := HSZ.out; omega), World.putObj_heap_other (by have := HSZ.out; omega)⟩) (Below.refl _ _) (fun _ => rfl)
      (fun pre W => (∃ v, BoxAt W (w.heap.size + 1) [v] ∧ OwnZ 84 149 W WL.heap.size v (pre.map (znOf rows n))) ∧ (BoxAt W w.heap.size [.int .i64 40] ∧ WL.heap.size ≤ W.heap.size) ∧ Ext w W)
      (fun _ _ _ => False)
      ?own (fun _ _ _ _ _ hs _ _ => hs) ⟨⟨_, hb1, OwnZ.nil _ _ _ _⟩, ⟨hb0, Nat.le_refl _⟩, hb4⟩
      (fun x => { tmps := #[.slice RA rows.length rc, .int .i64 cols, undef, .pointer (some ⟨w.heap.size, 0, none⟩), .slice none 0 0, .pointer (some ⟨w.heap.size + 1, 0, none⟩), chunkV g o rows.length x, .int .i64 cols, .int .i64 cols, .int .i64 40, .slice RA rows.length rc, .func (.func 142) #[] #[.pointer (some ⟨w.heap.size + 1 + 1, 0, none⟩), .pointer (some ⟨w.heap.size + 1 + 1 + 1, 0, none⟩)], chunkV g o rows.length x, undef, undef, undef, undef, undef, undef, undef], defers := [] }) ?assign ?body ?done ?stop
    case own =>
      refine OwnFrom.and (own_keep _ ?_) (OwnFrom.and (own_keep _ ?_) (ownFrom_below (Nat.le_refl _) (by have := HSZ.out; omega)))
      · rintro s A B ⟨v, h1, h2⟩ hk
        exact ⟨v, hk.box h1, h2.keep hk⟩
      · intro s A B h hk
        exact ⟨hk.box h.1, Nat.le_trans h.2 hk.size⟩
    case assign =>
      intro l x W K hK
      gi_wp2
      exact hK
    case body =>
      rintro l pre x W ⟨⟨v, ho, hz⟩, ⟨hc, hwl⟩, hE⟩ hlt
      have hlt' : pre.length ≤ 100000 := by omega
      have HO := Lib.hid ho; have HC := Lib.hid hc; have HE := Lib.hid hE
      obtain ⟨ss, hs1, hs2, hs3⟩ := hz
      have HL := Lib.hid hs1; have HS2 := Lib.hid hs2; have HS3 := Lib.hid hs3
      rw [List.length_map] at HS2
      have HZO : Hid (∀ u, Ext W u → Calls Try.prog 101 #[chunkV g o rows.length x, .int .i64 40] u fun e w' => ∃ A c, e = .returned (.agg #[.int .i64 ((chunkR rows x).length : Int), .slice A n c]) ∧ OwnR w' u.heap.size (.slice A n c) (colsR (chunkR rows x) n) ∧ Ext u w') := Lib.hid fun u h => by
        have h2 := zone_of (chunkR rows x) _ n u (RowsIn.chunk' hA (HRW.out u (hE.trans h)) x) (by omega) (by rw [chunkR_length]; omega)
        rwa [← HV9.out] at h2
      clear ho hc hE hs1 hs2 hs3
      have HWL : Hid (WL.heap.size ≤ W.heap.size) := Lib.hid hwl
      clear hwl
      gi_wp2
      refine region_held_in (L := _) (fun u => BoxAt u w.heap.size [.int .i64 40]) (not_lets fun a u h => h) rfl (by kernel_rfl) ?_
      have HS0 : Hid (BoxAt W.drew w.heap.size [.int .i64 40]) := Lib.hid (HC.out.ext (Ext.refl _).drew)
      refine held_run (i := 1) (chunkV g o rows.length x) rfl (by kernel_rfl) (by kernel_rfl) (by kernel_rfl) (fun _ _ _ h => h) rfl (fun u _ => by go_simp) HS0.out ?_
      simp only [Act.put, List.setIfInBounds_toArray, List.set_cons_zero, List.set_cons_succ]
      refine held_cell (i := 2) (v := (.int .i64 40)) (.tmp 3) rfl rfl (by kernel_rfl) (by kernel_rfl) (by kernel_rfl) (fun _ _ _ h => h) rfl Try.underlying3 rfl rfl (fun u h => h.cells.1) HS0.out ?_
      simp only [Act.put, List.setIfInBounds_toArray, List.set_cons_zero, List.set_cons_succ]
      refine held_two (i := 0) (j := 3) rfl rfl (by kernel_rfl) rfl rfl (fun K hK => ?_) (fun K hK => ?_)
      · refine wp_cell Try.underlying76 rfl (.tmp 5) rfl rfl ((HO.out.ext (Ext.refl _).drew).cells.1) ?_
        refine hK _ _ (HC.out.ext (Ext.refl _).drew) ?_
        try simp only [Act.put, List.setIfInBounds_toArray, List.set_cons_zero, List.set_cons_succ]
        clear hK K
        refine held_do (i := 3) rfl (by kernel_rfl) rfl fun K hK => ?_
        refine wp_callF (fun y w' => ∃ A c, y = .agg #[.int .i64 ((chunkR rows x).length : Int), .slice A n c] ∧ OwnR w' W.drew.heap.size (.slice A n c) (colsR (chunkR rows x) n) ∧ Ext W.drew w') (fun u => by go_simp) ((HZO.out W.drew ((Ext.refl _).drew)).mono fun e w' ⟨A, c, h1, h2, h3⟩ => ⟨_, h1, A, c, rfl, h2, h3⟩) ?_
        rintro _ w5 ⟨A9, c9, rfl, ho5, he5⟩
        refine hK _ _ (HC.out.ext ((Ext.refl _).drew.trans he5)) ?_
        try simp only [Act.put, List.setIfInBounds_toArray, List.set_cons_zero, List.set_cons_succ]
        clear hK K
        have HE5 : Hid (Ext W w5) := Lib.hid ((Ext.refl _).drew.trans he5)
        have HC5 : Hid (BoxAt w5 w.heap.size [.int .i64 40]) := Lib.hid (HC.out.ext HE5.out)
        have HO5 : Hid (BoxAt w5 (w.heap.size + 1) [v]) := Lib.hid (HO.out.ext HE5.out)
        have HOW : Hid ((w5.alloc (.cells #[.int .i64 ((chunkR rows x).length : Int), .slice A9 n c9] 84)).ownsRow WL.heap.size 84 2 v pre.length (zzip (pre.map (znOf rows n)) ss)) := Lib.hid (by have := owns_ext HS2.out (HE5.out.alloc (.cells #[.int .i64 ((chunkR rows x).length : Int), .slice A9 n c9] 84)); simpa using this)
        have HLT : Hid (∀ g, v.ownBlock = some g → w.heap.size + 3 < g ∧ WL.heap.size ≤ g) := Lib.hid fun g h => by have := (owns_lt HS2.out h).2; have := HSZ.out; omega
        have hs5 : w.heap.size + 1 < w5.heap.size := HO5.out.lt
        refine held_do (i := 4) rfl (by kernel_rfl) rfl fun K hK => ?_
        unfold Oper.wp execOp
        go_simp
        refine hK _ _ (HC5.out.ext ((Ext.refl _).alloc _)) ?_
        try simp only [Act.put, List.setIfInBounds_toArray, List.set_cons_zero, List.set_cons_succ]
        clear hK K
        refine held_do (i := 5) rfl (by kernel_rfl) rfl fun K hK => ?_
        refine wp_one (base := WL.heap.size) (n := pre.length) (.tmp 13) (.tmp 17) rfl Try.underlying76 info_zone (by decide) (by decide) rfl (HOW.out) [.int .i64 ((chunkR rows x).length : Int), .slice A9 n c9] rfl (Rng.one9 rfl) rfl (heap_alloc_new _ _) (by omega) (by have := HWL.out; have := HE5.out.size; simp; omega) ?_
        intro g6 c6 w6 ho6 hb6
        have HB6 : Hid (ButS (fun k => Value.ownBlock v = some k) w5 w6) := Lib.hid ((ButS.of_ext ((Ext.refl w5).alloc _)).trans hb6)
        refine hK _ _ (HB6.out.box (fun h => by have := HLT.out _ h; omega) (HC5.out)) ?_
        try simp only [Act.put, List.setIfInBounds_toArray, List.set_cons_zero, List.set_cons_succ]
        clear hK K
        refine held_do (i := 6) rfl (by kernel_rfl) rfl fun K hK => ?_
        refine wp_storeM (f := 0) (vs' := [.slice (some ⟨g6, 0, none⟩) (pre.length + 1) c6]) (Rng.one9 rfl) (HB6.out.box (fun h => by have := HLT.out _ h; omega) HO5.out) size_zs (by simp) rfl (.tmp 5) (.tmp 18) rfl rfl rfl ?_
        intro w7 hq1 hq2
        refine hK _ _ (But.box hq2 (by omega) (HB6.out.box (fun h => by have := HLT.out _ h; omega) HC5.out)) ?_
        try simp only [Act.put, List.setIfInBounds_toArray, List.set_cons_zero, List.set_cons_succ]
        clear hK K
        refine wpAnyH_done (by kernel_rfl) ?_ _
        have HS7 := OwnZ.snoc (zs := pre.map (znOf rows n)) (ss := ss) (z := znOf rows n x) (s := .slice A9 n c9) (Ty := 84) (Tr := 149) (w := w5) (w' := w6) (base := WL.heap.size) (v := v) (by decide) HL.out (by rw [List.length_map]; exact owns_ext HS2.out HE5.out) (fun i z s hz hs => owns_ext (HS3.out i z s hz hs) HE5.out) (show OwnR w5 WL.heap.size (.slice A9 n c9) (colsR (chunkR rows x) n) from owns_down ho5 HWL.out) (by rw [List.length_map]; exact ho6) HB6.out
        have HS8 := HS7.buts (ButS.of_but (M := fun k => k = w.heap.size + 1) hq2 rfl) (fun k h => by have := HSZ.out; omega)
        have HXt : Ext w w6 := HB6.out.to_ext (HE.out.trans HE5.out) (fun k h => by have := HLT.out _ h; omega)
        have HKF : KeepsFrom WL.heap.size W w7 := by
          refine KeepsFrom.trans (keepOthers_buts _ (ButS.of_ext (M := fun _ => False) HE5.out) (fun k h => h.elim)) (KeepsFrom.trans (keepOthers_buts _ HB6.out (fun k h o ho => ?_)) (keepOthers_buts _ (ButS.of_but (M := fun k => k = w.heap.size + 1) hq2 rfl) (fun k h o ho => ?_)))
          · rcases (owns_ext HS2.out HE5.out).2 with ⟨rfl, _⟩ | ⟨g, c, cur, rfl, _, hh, _⟩
            · simp [Value.ownBlock] at h
            · simp only [Value.ownBlock, Option.some.injEq] at h; subst h; rw [hh] at ho; cases ho; rfl
          · subst h
            obtain ⟨o', h1, h2⟩ := cell_block (HB6.out.box (fun h => by have := HLT.out _ h; omega) HO5.out).cells.1
            rw [h1] at ho; cases ho; exact h2
        have HKB : KB (w.heap.size + 1 + 1) (w.heap.size + 1 + 1 + 1) W w7 := by
          have hz : ∀ k, w.heap.size + 1 < k → k < WL.heap.size → w7.heap[k]? = W.heap[k]? := fun k h1 h2 => by
            have hkW : k < W.heap.size := Nat.lt_of_lt_of_le h2 HWL.out
            refine (hq2.block k (Nat.lt_of_lt_of_le hkW (Nat.le_trans HE5.out.size HB6.out.size)) (by omega)).trans ((HB6.out.block k (Nat.lt_of_lt_of_le hkW HE5.out.size) (fun h => ?_)).trans (HE5.out.block hkW))
            have := HLT.out _ h
            omega
          exact ⟨hz _ (by omega) (by have := HSZ.out; omega), hz _ (by omega) (by have := HSZ.out; omega)⟩
        gi_wp2
        refine ⟨HKF, HKB, ⟨_, hq1, by rw [List.map_append]; exact HS8⟩, ⟨But.box hq2 (by omega) (HB6.out.box (fun h => by have := HLT.out _ h; omega) HC5.out), Nat.le_trans HWL.out (Nat.le_trans HE5.out.size (Nat.le_trans HB6.out.size hq2.size))⟩, But.to_ext HXt hq2 (by omega)⟩
      · refine wp_callF (fun y w' => ∃ A c, y = .agg #[.int .i64 ((chunkR rows x).length : Int), .slice A n c] ∧ OwnR w' W.drew.heap.size (.slice A n c) (colsR (chunkR rows x) n) ∧ Ext W.drew w') (fun u => by go_simp) ((HZO.out W.drew ((Ext.refl _).drew)).mono fun e w' ⟨A, c, h1, h2, h3⟩ => ⟨_, h1, A, c, rfl, h2, h3⟩) ?_
        rintro _ w5 ⟨A9, c9, rfl, ho5, he5⟩
        refine hK _ _ (HC.out.ext ((Ext.refl _).drew.trans he5)) ?_
        try simp only [Act.put, List.setIfInBounds_toArray, List.set_cons_zero, List.set_cons_succ]
        clear hK K
        have HE5 : Hid (Ext W w5) := Lib.hid ((Ext.refl _).drew.trans he5)
        have HC5 : Hid (BoxAt w5 w.heap.size [.int .i64 40]) := Lib.hid (HC.out.ext HE5.out)
        have HO5 : Hid (BoxAt w5 (w.heap.size + 1) [v]) := Lib.hid (HO.out.ext HE5.out)
        have HOW : Hid ((w5.alloc (.cells #[.int .i64 ((chunkR rows x).length : Int), .slice A9 n c9] 84)).ownsRow WL.heap.size 84 2 v pre.length (zzip (pre.map (znOf rows n)) ss)) := Lib.hid (by have := owns_ext HS2.out (HE5.out.alloc (.cells #[.int .i64 ((chunkR rows x).length : Int), .slice A9 n c9] 84)); simpa using this)
        have HLT : Hid (∀ g, v.ownBlock = some g → w.heap.size + 3 < g ∧ WL.heap.size ≤ g) := Lib.hid fun g h => by have := (owns_lt HS2.out h).2; have := HSZ.out; omega
        have hs5 : w.heap.size + 1 < w5.heap.size := HO5.out.lt
        refine held_two (i := 0) (j := 4) rfl rfl (by kernel_rfl) rfl rfl (fun K hK => ?_) (fun K hK => ?_)
        · refine wp_cell Try.underlying76 rfl (.tmp 5) rfl rfl ((HO5.out).cells.1) ?_
          refine hK _ _ (HC5.out) ?_
          try simp only [Act.put, List.setIfInBounds_toArray, List.set_cons_zero, List.set_cons_succ]
          clear hK K
          refine held_do (i := 4) rfl (by kernel_rfl) rfl fun K hK => ?_
          unfold Oper.wp execOp
          go_simp
          refine hK _ _ (HC5.out.ext ((Ext.refl _).alloc _)) ?_
          try simp only [Act.put, List.setIfInBounds_toArray, List.set_cons_zero, List.set_cons_succ]
          clear hK K
          refine held_do (i := 5) rfl (by kernel_rfl) rfl fun K hK => ?_
          refine wp_one (base := WL.heap.size) (n := pre.length) (.tmp 13) (.tmp 17) rfl Try.underlying76 info_zone (by decide) (by decide) rfl (HOW.out) [.int .i64 ((chunkR rows x).length : Int), .slice A9 n c9] rfl (Rng.one9 rfl) rfl (heap_alloc_new _ _) (by omega) (by have := HWL.out; have := HE5.out.size; simp; omega) ?_
          intro g6 c6 w6 ho6 hb6
          have HB6 : Hid (ButS (fun k => Value.ownBlock v = some k) w5 w6) := Lib.hid ((ButS.of_ext ((Ext.refl w5).alloc _)).trans hb6)
          refine hK _ _ (HB6.out.box (fun h => by have := HLT.out _ h; omega) (HC5.out)) ?_
          try simp only [Act.put, List.setIfInBounds_toArray, List.set_cons_zero, List.set_cons_succ]
          clear hK K
          refine held_do (i := 6) rfl (by kernel_rfl) rfl fun K hK => ?_
          refine wp_storeM (f := 0) (vs' := [.slice (some ⟨g6, 0, none⟩) (pre.length + 1) c6]) (Rng.one9 rfl) (HB6.out.box (fun h => by have := HLT.out _ h; omega) HO5.out) size_zs (by simp) rfl (.tmp 5) (.tmp 18) rfl rfl rfl ?_
          intro w7 hq1 hq2
          refine hK _ _ (But.box hq2 (by omega) (HB6.out.box (fun h => by have := HLT.out _ h; omega) HC5.out)) ?_
          try simp only [Act.put, List.setIfInBounds_toArray, List.set_cons_zero, List.set_cons_succ]
          clear hK K
          refine wpAnyH_done (by kernel_rfl) ?_ _
          have HS7 := OwnZ.snoc (zs := pre.map (znOf rows n)) (ss := ss) (z := znOf rows n x) (s := .slice A9 n c9) (Ty := 84) (Tr := 149) (w := w5) (w' := w6) (base := WL.heap.size) (v := v) (by decide) HL.out (by rw [List.length_map]; exact owns_ext HS2.out HE5.out) (fun i z s hz hs => owns_ext (HS3.out i z s hz hs) HE5.out) (show OwnR w5 WL.heap.size (.slice A9 n c9) (colsR (chunkR rows x) n) from owns_down ho5 HWL.out) (by rw [List.length_map]; exact ho6) HB6.out
          have HS8 := HS7.buts (ButS.of_but (M := fun k => k = w.heap.size + 1) hq2 rfl) (fun k h => by have := HSZ.out; omega)
          have HXt : Ext w w6 := HB6.out.to_ext (HE.out.trans HE5.out) (fun k h => by have := HLT.out _ h; omega)
          have HKF : KeepsFrom WL.heap.size W w7 := by
            refine KeepsFrom.trans (keepOthers_buts _ (ButS.of_ext (M := fun _ => False) HE5.out) (fun k h => h.elim)) (KeepsFrom.trans (keepOthers_buts _ HB6.out (fun k h o ho => ?_)) (keepOthers_buts _ (ButS.of_but (M := fun k => k = w.heap.size + 1) hq2 rfl) (fun k h o ho => ?_)))
            · rcases (owns_ext HS2.out HE5.out).2 with ⟨rfl, _⟩ | ⟨g, c, cur, rfl, _, hh, _⟩
              · simp [Value.ownBlock] at h
              · simp only [Value.ownBlock, Option.some.injEq] at h; subst h; rw [hh] at ho; cases ho; rfl
            · subst h
              obtain ⟨o', h1, h2⟩ := cell_block (HB6.out.box (fun h => by have := HLT.out _ h; omega) HO5.out).cells.1
              rw [h1] at ho; cases ho; exact h2
          have HKB : KB (w.heap.size + 1 + 1) (w.heap.size + 1 + 1 + 1) W w7 := by
            have hz : ∀ k, w.heap.size + 1 < k → k < WL.heap.size → w7.heap[k]? = W.heap[k]? := fun k h1 h2 => by
              have hkW : k < W.heap.size := Nat.lt_of_lt_of_le h2 HWL.out
              refine (hq2.block k (Nat.lt_of_lt_of_le hkW (Nat.le_trans HE5.out.size HB6.out.size)) (by omega)).trans ((HB6.out.block k (Nat.lt_of_lt_of_le hkW HE5.out.size) (fun h => ?_)).trans (HE5.out.block hkW))
              have := HLT.out _ h
              omega
            exact ⟨hz _ (by omega) (by have := HSZ.out; omega), hz _ (by omega) (by have := HSZ.out; omega)⟩
          gi_wp2
          refine ⟨HKF, HKB, ⟨_, hq1, by rw [List.map_append]; exact HS8⟩, ⟨But.box hq2 (by omega) (HB6.out.box (fun h => by have := HLT.out _ h; omega) HC5.out), Nat.le_trans HWL.out (Nat.le_trans HE5.out.size (Nat.le_trans HB6.out.size hq2.size))⟩, But.to_ext HXt hq2 (by omega)⟩
        · unfold Oper.wp execOp
          go_simp
          refine hK _ _ (HC5.out.ext ((Ext.refl _).alloc _)) ?_
          try simp only [Act.put, List.setIfInBounds_toArray, List.set_cons_zero, List.set_cons_succ]
          clear hK K
          refine held_do (i := 0) rfl (by kernel_rfl) rfl fun K hK => ?_
          refine wp_cell Try.underlying76 rfl (.tmp 5) rfl rfl ((HO5.out.ext ((Ext.refl _).alloc _)).cells.1) ?_
          refine hK _ _ (HC5.out.ext ((Ext.refl _).alloc _)) ?_
          try simp only [Act.put, List.setIfInBounds_toArray, List.set_cons_zero, List.set_cons_succ]
          clear hK K
          refine held_do (i := 5) rfl (by kernel_rfl) rfl fun K hK => ?_
          refine wp_one (base := WL.heap.size) (n := pre.length) (.tmp 13) (.tmp 17) rfl Try.underlying76 info_zone (by decide) (by decide) rfl (HOW.out) [.int .i64 ((chunkR rows x).length : Int), .slice A9 n c9] rfl (Rng.one9 rfl) rfl (heap_alloc_new _ _) (by omega) (by have := HWL.out; have := HE5.out.size; simp; omega) ?_
          intro g6 c6 w6 ho6 hb6
          have HB6 : Hid (ButS (fun k => Value.ownBlock v = some k) w5 w6) := Lib.hid ((ButS.of_ext ((Ext.refl w5).alloc _)).trans hb6)
          refine hK _ _ (HB6.out.box (fun h => by have := HLT.out _ h; omega) (HC5.out)) ?_
          try simp only [Act.put, List.setIfInBounds_toArray, List.set_cons_zero, List.set_cons_succ]
          clear hK K
          refine held_do (i := 6) rfl (by kernel_rfl) rfl fun K hK => ?_
          refine wp_storeM (f := 0) (vs' := [.slice (some ⟨g6, 0, none⟩) (pre.length + 1) c6]) (Rng.one9 rfl) (HB6.out.box (fun h => by have := HLT.out _ h; omega) HO5.out) size_zs (by simp) rfl (.tmp 5) (.tmp 18) rfl rfl rfl ?_
          intro w7 hq1 hq2
          refine hK _ _ (But.box hq2 (by omega) (HB6.out.box (fun h => by have := HLT.out _ h; omega) HC5.out)) ?_
          try simp only [Act.put, List.setIfInBounds_toArray, List.set_cons_zero, List.set_cons_succ]
          clear hK K
          refine wpAnyH_done (by kernel_rfl) ?_ _
          have HS7 := OwnZ.snoc (zs := pre.map (znOf rows n)) (ss := ss) (z := znOf rows n x) (s := .slice A9 n c9) (Ty := 84) (Tr := 149) (w := w5) (w' := w6) (base := WL.heap.size) (v := v) (by decide) HL.out (by rw [List.length_map]; exact owns_ext HS2.out HE5.out) (fun i z s hz hs => owns_ext (HS3.out i z s hz hs) HE5.out) (show OwnR w5 WL.heap.size (.slice A9 n c9) (colsR (chunkR rows x) n) from owns_down ho5 HWL.out) (by rw [List.length_map]; exact ho6) HB6.out
          have HS8 := HS7.buts (ButS.of_but (M := fun k => k = w.heap.size + 1) hq2 rfl) (fun k h => by have := HSZ.out; omega)
          have HXt : Ext w w6 := HB6.out.to_ext (HE.out.trans HE5.out) (fun k h => by have := HLT.out _ h; omega)
          have HKF : KeepsFrom WL.heap.size W w7 := by
            refine KeepsFrom.trans (keepOthers_buts _ (ButS.of_ext (M := fun _ => False) HE5.out) (fun k h => h.elim)) (KeepsFrom.trans (keepOthers_buts _ HB6.out (fun k h o ho => ?_)) (keepOthers_buts _ (ButS.of_but (M := fun k => k = w.heap.size + 1) hq2 rfl) (fun k h o ho => ?_)))
            · rcases (owns_ext HS2.out HE5.out).2 with ⟨rfl, _⟩ | ⟨g, c, cur, rfl, _, hh, _⟩
              · simp [Value.ownBlock] at h
              · simp only [Value.ownBlock, Option.some.injEq] at h; subst h; rw [hh] at ho; cases ho; rfl
            · subst h
              obtain ⟨o', h1, h2⟩ := cell_block (HB6.out.box (fun h => by have := HLT.out _ h; omega) HO5.out).cells.1
              rw [h1] at ho; cases ho; exact h2
          have HKB : KB (w.heap.size + 1 + 1) (w.heap.size + 1 + 1 + 1) W w7 := by
            have hz : ∀ k, w.heap.size + 1 < k → k < WL.heap.size → w7.heap[k]? = W.heap[k]? := fun k h1 h2 => by
              have hkW : k < W.heap.size := Nat.lt_of_lt_of_le h2 HWL.out
              refine (hq2.block k (Nat.lt_of_lt_of_le hkW (Nat.le_trans HE5.out.size HB6.out.size)) (by omega)).trans ((HB6.out.block k (Nat.lt_of_lt_of_le hkW HE5.out.size) (fun h => ?_)).trans (HE5.out.block hkW))
              have := HLT.out _ h
              omega
            exact ⟨hz _ (by omega) (by have := HSZ.out; omega), hz _ (by omega) (by have := HSZ.out; omega)⟩
          gi_wp2
          refine ⟨HKF, HKB, ⟨_, hq1, by rw [List.map_append]; exact HS8⟩, ⟨But.box hq2 (by omega) (HB6.out.box (fun h => by have := HLT.out _ h; omega) HC5.out), Nat.le_trans HWL.out (Nat.le_trans HE5.out.size (Nat.le_trans HB6.out.size hq2.size))⟩, But.to_ext HXt hq2 (by omega)⟩
    case done =>
      rintro D ys W hD rfl ⟨⟨v, ho, hz⟩, ⟨hc, hwl⟩, hE⟩ hK
      obtain ⟨A0, c0, hv0⟩ := hz.shape
      rw [List.length_map, List.length_range] at hv0
      subst hv0
      have hc1 := ho.cells.1
      go_wp2_with fail
      refine ⟨by simp, .inl ⟨_, _, rfl, run_takeDeferred hK, ?_⟩⟩
      exact ⟨_, results_tmp rfl _ _ _, _, rfl, (hz.keep (keep_turn W hK rfl)).down (show w.heap.size ≤ WL.heap.size by have := HSZ.out; omega), (show Below w.heap.size w W from hE).trans (belowK_b (w := w) (Nat.le_refl _) W D _ _ (by have := HSZ.out; omega) hK rfl rfl)⟩
    case stop =>
      rintro D c pre W _ _ h _
      exact h.elim
  · have HV9 : Hid ((max cols 0) = (n : Int)) := Lib.hid (by have := HN.out; omega)
    clear HN hmx h40
    have hb0 : BoxAt ((((w.alloc (.cells #[.int .i64 (max cols 0)] 3)).alloc (.cells #[.slice none 0 0] 76)).alloc (.cells #[.slice RA rows.length rc] 50)).alloc (.cells #[.int .i64 16] 3)) w.heap.size [.int .i64 (max cols 0)] := (((BoxAt.new rfl rfl).ext ((Ext.refl _).alloc _)).ext ((Ext.refl _).alloc _)).ext ((Ext.refl _).alloc _)
    have hb1 : BoxAt ((((w.alloc (.cells #[.int .i64 (max cols 0)] 3)).alloc (.cells #[.slice none 0 0] 76)).alloc (.cells #[.slice RA rows.length rc] 50)).alloc (.cells #[.int .i64 16] 3)) (w.heap.size + 1) [.slice none 0 0] := ((BoxAt.new (by simp) rfl).ext ((Ext.refl _).alloc _)).ext ((Ext.refl _).alloc _)
    have hb2 : BoxAt ((((w.alloc (.cells #[.int .i64 (max cols 0)] 3)).alloc (.cells #[.slice none 0 0] 76)).alloc (.cells #[.slice RA rows.length rc] 50)).alloc (.cells #[.int .i64 16] 3)) (w.heap.size + 1 + 1) [.slice RA rows.length rc] := (BoxAt.new (by simp) rfl).ext ((Ext.refl _).alloc _)
    have hb3 : BoxAt ((((w.alloc (.cells #[.int .i64 (max cols 0)] 3)).alloc (.cells #[.slice none 0 0] 76)).alloc (.cells #[.slice RA rows.length rc] 50)).alloc (.cells #[.int .i64 16] 3)) (w.heap.size + 1 + 1 + 1) [.int .i64 16] := BoxAt.new (by simp) rfl
    have hb4 : Ext w ((((w.alloc (.cells #[.int .i64 (max cols 0)] 3)).alloc (.cells #[.slice none 0 0] 76)).alloc (.cells #[.slice RA rows.length rc] 50)).alloc (.cells #[.int .i64 16] 3)) := ((((Ext.refl _).alloc _).alloc _).alloc _).alloc _
    refine name_worldA (fun u => BoxAt u w.heap.size [.int .i64 (max cols 0)] ∧ BoxAt u (w.heap.size + 1) [.slice none 0 0] ∧ BoxAt u (w.heap.size + 1 + 1) [.slice RA rows.length rc] ∧ BoxAt u (w.heap.size + 1 + 1 + 1) [.int .i64 16] ∧ Ext w u) ⟨hb0, hb1, hb2, hb3, hb4⟩ ?_
    clear hb0 hb1 hb2 hb3 hb4
    rintro WL ⟨hb0, hb1, hb2, hb3, hb4⟩
    have HSZ : Hid (w.heap.size + 3 < WL.heap.size) := Lib.hid hb3.lt
    have HRW : Hid (∀ u, Ext w u → RowsIn u (.slice RA rows.length rc) rows) := Lib.hid fun u h => HR.out.ext h
    obtain ⟨g, o, hA, hstop⟩ := chunk_stops RA rows.length rc (w.heap.size + 1 + 1) (w.heap.size + 1 + 1 + 1) WL HS.out hrl hrc (by have := HSZ.out; omega) HSZ.out hb2.cells.1 hb3.cells.1
    refine (wpIn_wide (n := 3)).1 ?_
    refine wpIn_rangeFunc_ownG (F := Fence.wide) (n := 3) (w := WL) (w0 := WL) rfl (by decide) (gf := 142) (lb := #[.pointer (some ⟨w.heap.size + 1 + 1, 0, none⟩), .pointer (some ⟨w.heap.size + 1 + 1 + 1, 0, none⟩)]) rfl trivial (enters_of Try.func142 (by kernel_rfl) rfl)
      (hstop 2 (by decide)) (fun h k => h.trans k) (fun W l o o' hl ho hc _ => ⟨World.putObj_heap_other (by have := HSZ.out; omega), World.putObj_heap_other (by have := HSZ.out; omega)⟩) (Below.refl _ _) (fun _ => rfl)
      (fun pre W => (∃ v, BoxAt W (w.heap.size + 1) [v] ∧ OwnZ 84 149 W WL.heap.size v (pre.map (znOf rows n))) ∧ (BoxAt W w.heap.size [.int .i64 (max cols 0)] ∧ WL.heap.size ≤ W.heap.size) ∧ Ext w W)
      (fun _ _ _ => False)
      ?own (fun _ _ _ _ _ hs _ _ => hs) ⟨⟨_, hb1, OwnZ.nil _ _ _ _⟩, ⟨hb0, Nat.le_refl _⟩, hb4⟩
      (fun x => { tmps := #[.slice RA rows.length rc, .int .i64 cols, undef, .pointer (some ⟨w.heap.size, 0, none⟩), .slice none 0 0, .pointer (some ⟨w.heap.size + 1, 0, none⟩), chunkV g o rows.length x, .int .i64 cols, .int .i64 (max cols 0), .int .i64 (max cols 0), .slice RA rows.length rc, .func (.func 142) #[] #[.pointer (some ⟨w.heap.size + 1 + 1, 0, none⟩), .pointer (some ⟨w.heap.size + 1 + 1 + 1, 0, none⟩)], chunkV g o rows.length x, undef, undef, undef, undef, undef, undef, undef], defers := [] }) ?assign ?body ?done ?stop
    case own =>
      refine OwnFrom.and (own_keep _ ?_) (OwnFrom.and (own_keep _ ?_) (ownFrom_below (Nat.le_refl _) (by have := HSZ.out; omega)))
      · rintro s A B ⟨v, h1, h2⟩ hk
        exact ⟨v, hk.box h1, h2.keep hk⟩
      · intro s A B h hk
        exact ⟨hk.box h.1, Nat.le_trans h.2 hk.size⟩
    case assign =>
      intro l x W K hK
      gi_wp2
      exact hK
    case body =>
      rintro l pre x W ⟨⟨v, ho, hz⟩, ⟨hc, hwl⟩, hE⟩ hlt
      have hlt' : pre.length ≤ 100000 := by omega
      have HO := Lib.hid ho; have HC := Lib.hid hc; have HE := Lib.hid hE
      obtain ⟨ss, hs1, hs2, hs3⟩ := hz
      have HL := Lib.hid hs1; have HS2 := Lib.hid hs2; have HS3 := Lib.hid hs3
      rw [List.length_map] at HS2
      have HZO : Hid (∀ u, Ext W u → Calls Try.prog 101 #[chunkV g o rows.length x, .int .i64 (max cols 0)] u fun e w' => ∃ A c, e = .returned (.agg #[.int .i64 ((chunkR rows x).length : Int), .slice A n c]) ∧ OwnR w' u.heap.size (.slice A n c) (colsR (chunkR rows x) n) ∧ Ext u w') := Lib.hid fun u h => by
        have h2 := zone_of (chunkR rows x) _ n u (RowsIn.chunk' hA (HRW.out u (hE.trans h)) x) (by omega) (by rw [chunkR_length]; omega)
        rwa [← HV9.out] at h2
      clear ho hc hE hs1 hs2 hs3
      have HWL : Hid (WL.heap.size ≤ W.heap.size) := Lib.hid hwl
      clear hwl
      gi_wp2
      refine region_held_in (L := _) (fun u => BoxAt u w.heap.size [.int .i64 (max cols 0)]) (not_lets fun a u h => h) rfl (by kernel_rfl) ?_
      have HS0 : Hid (BoxAt W.drew w.heap.size [.int .i64 (max cols 0)]) := Lib.hid (HC.out.ext (Ext.refl _).drew)
      refine held_run (i := 1) (chunkV g o rows.length x) rfl (by kernel_rfl) (by kernel_rfl) (by kernel_rfl) (fun _ _ _ h => h) rfl (fun u _ => by go_simp) HS0.out ?_
      simp only [Act.put, List.setIfInBounds_toArray, List.set_cons_zero, List.set_cons_succ]
      refine held_cell (i := 2) (v := (.int .i64 (max cols 0))) (.tmp 3) rfl rfl (by kernel_rfl) (by kernel_rfl) (by kernel_rfl) (fun _ _ _ h => h) rfl Try.underlying3 rfl rfl (fun u h => h.cells.1) HS0.out ?_
      simp only [Act.put, List.setIfInBounds_toArray, List.set_cons_zero, List.set_cons_succ]
      refine held_two (i := 0) (j := 3) rfl rfl (by kernel_rfl) rfl rfl (fun K hK => ?_) (fun K hK => ?_)
      · refine wp_cell Try.underlying76 rfl (.tmp 5) rfl rfl ((HO.out.ext (Ext.refl _).drew).cells.1) ?_
        refine hK _ _ (HC.out.ext (Ext.refl _).drew) ?_
        try simp only [Act.put, List.setIfInBounds_toArray, List.set_cons_zero, List.set_cons_succ]
        clear hK K
        refine held_do (i := 3) rfl (by kernel_rfl) rfl fun K hK => ?_
        refine wp_callF (fun y w' => ∃ A c, y = .agg #[.int .i64 ((chunkR rows x).length : Int), .slice A n c] ∧ OwnR w' W.drew.heap.size (.slice A n c) (colsR (chunkR rows x) n) ∧ Ext W.drew w') (fun u => by go_simp) ((HZO.out W.drew ((Ext.refl _).drew)).mono fun e w' ⟨A, c, h1, h2, h3⟩ => ⟨_, h1, A, c, rfl, h2, h3⟩) ?_
        rintro _ w5 ⟨A9, c9, rfl, ho5, he5⟩
        refine hK _ _ (HC.out.ext ((Ext.refl _).drew.trans he5)) ?_
        try simp only [Act.put, List.setIfInBounds_toArray, List.set_cons_zero, List.set_cons_succ]
        clear hK K
        have HE5 : Hid (Ext W w5) := Lib.hid ((Ext.refl _).drew.trans he5)
        have HC5 : Hid (BoxAt w5 w.heap.size [.int .i64 (max cols 0)]) := Lib.hid (HC.out.ext HE5.out)
        have HO5 : Hid (BoxAt w5 (w.heap.size + 1) [v]) := Lib.hid (HO.out.ext HE5.out)
        have HOW : Hid ((w5.alloc (.cells #[.int .i64 ((chunkR rows x).length : Int), .slice A9 n c9] 84)).ownsRow WL.heap.size 84 2 v pre.length (zzip (pre.map (znOf rows n)) ss)) := Lib.hid (by have := owns_ext HS2.out (HE5.out.alloc (.cells #[.int .i64 ((chunkR rows x).length : Int), .slice A9 n c9] 84)); simpa using this)
        have HLT : Hid (∀ g, v.ownBlock = some g → w.heap.size + 3 < g ∧ WL.heap.size ≤ g) := Lib.hid fun g h => by have := (owns_lt HS2.out h).2; have := HSZ.out; omega
        have hs5 : w.heap.size + 1 < w5.heap.size := HO5.out.lt
        refine held_do (i := 4) rfl (by kernel_rfl) rfl fun K hK => ?_
        unfold Oper.wp execOp
        go_simp
        refine hK _ _ (HC5.out.ext ((Ext.refl _).alloc _)) ?_
        try simp only [Act.put, List.setIfInBounds_toArray, List.set_cons_zero, List.set_cons_succ]
        clear hK K
        refine held_do (i := 5) rfl (by kernel_rfl) rfl fun K hK => ?_
        refine wp_one (base := WL.heap.size) (n := pre.length) (.tmp 13) (.tmp 17) rfl Try.underlying76 info_zone (by decide) (by decide) rfl (HOW.out) [.int .i64 ((chunkR rows x).length : Int), .slice A9 n c9] rfl (Rng.one9 rfl) rfl (heap_alloc_new _ _) (by omega) (by have := HWL.out; have := HE5.out.size; simp; omega) ?_
        intro g6 c6 w6 ho6 hb6
        have HB6 : Hid (ButS (fun k => Value.ownBlock v = some k) w5 w6) := Lib.hid ((ButS.of_ext ((Ext.refl w5).alloc _)).trans hb6)
        refine hK _ _ (HB6.out.box (fun h => by have := HLT.out _ h; omega) (HC5.out)) ?_
        try simp only [Act.put, List.setIfInBounds_toArray, List.set_cons_zero, List.set_cons_succ]
        clear hK K
        refine held_do (i := 6) rfl (by kernel_rfl) rfl fun K hK => ?_
        refine wp_storeM (f := 0) (vs' := [.slice (some ⟨g6, 0, none⟩) (pre.length + 1) c6]) (Rng.one9 rfl) (HB6.out.box (fun h => by have := HLT.out _ h; omega) HO5.out) size_zs (by simp) rfl (.tmp 5) (.tmp 18) rfl rfl rfl ?_
        intro w7 hq1 hq2
        refine hK _ _ (But.box hq2 (by omega) (HB6.out.box (fun h => by have := HLT.out _ h; omega) HC5.out)) ?_
        try simp only [Act.put, List.setIfInBounds_toArray, List.set_cons_zero, List.set_cons_succ]
        clear hK K
        refine wpAnyH_done (by kernel_rfl) ?_ _
        have HS7 := OwnZ.snoc (zs := pre.map (znOf rows n)) (ss := ss) (z := znOf rows n x) (s := .slice A9 n c9) (Ty := 84) (Tr := 149) (w := w5) (w' := w6) (base := WL.heap.size) (v := v) (by decide) HL.out (by rw [List.length_map]; exact owns_ext HS2.out HE5.out) (fun i z s hz hs => owns_ext (HS3.out i z s hz hs) HE5.out) (show OwnR w5 WL.heap.size (.slice A9 n c9) (colsR (chunkR rows x) n) from owns_down ho5 HWL.out) (by rw [List.length_map]; exact ho6) HB6.out
        have HS8 := HS7.buts (ButS.of_but (M := fun k => k = w.heap.size + 1) hq2 rfl) (fun k h => by have := HSZ.out; omega)
        have HXt : Ext w w6 := HB6.out.to_ext (HE.out.trans HE5.out) (fun k h => by have := HLT.out _ h; omega)
        have HKF : KeepsFrom WL.heap.size W w7 := by
          refine KeepsFrom.trans (keepOthers_buts _ (ButS.of_ext (M := fun _ => False) HE5.out) (fun k h => h.elim)) (KeepsFrom.trans (keepOthers_buts _ HB6.out (fun k h o ho => ?_)) (keepOthers_buts _ (ButS.of_but (M := fun k => k = w.heap.size + 1) hq2 rfl) (fun k h o ho => ?_)))
          · rcases (owns_ext HS2.out HE5.out).2 with ⟨rfl, _⟩ | ⟨g, c, cur, rfl, _, hh, _⟩
            · simp [Value.ownBlock] at h
            · simp only [Value.ownBlock, Option.some.injEq] at h; subst h; rw [hh] at ho; cases ho; rfl
          · subst h
            obtain ⟨o', h1, h2⟩ := cell_block (HB6.out.box (fun h => by have := HLT.out _ h; omega) HO5.out).cells.1
            rw [h1] at ho; cases ho; exact h2
        have HKB : KB (w.heap.size + 1 + 1) (w.heap.size + 1 + 1 + 1) W w7 := by
          have hz : ∀ k, w.heap.size + 1 < k → k < WL.heap.size → w7.heap[k]? = W.heap[k]? := fun k h1 h2 => by
            have hkW : k < W.heap.size := Nat.lt_of_lt_of_le h2 HWL.out
            refine (hq2.block k (Nat.lt_of_lt_of_le hkW (Nat.le_trans HE5.out.size HB6.out.size)) (by omega)).trans ((HB6.out.block k (Nat.lt_of_lt_of_le hkW HE5.out.size) (fun h => ?_)).trans (HE5.out.block hkW))
            have := HLT.out _ h
            omega
          exact ⟨hz _ (by omega) (by have := HSZ.out; omega), hz _ (by omega) (by have := HSZ.out; omega)⟩
        gi_wp2
        refine ⟨HKF, HKB, ⟨_, hq1, by rw [List.map_append]; exact HS8⟩, ⟨But.box hq2 (by omega) (HB6.out.box (fun h => by have := HLT.out _ h; omega) HC5.out), Nat.le_trans HWL.out (Nat.le_trans HE5.out.size (Nat.le_trans HB6.out.size hq2.size))⟩, But.to_ext HXt hq2 (by omega)⟩
      · refine wp_callF (fun y w' => ∃ A c, y = .agg #[.int .i64 ((chunkR rows x).length : Int), .slice A n c] ∧ OwnR w' W.drew.heap.size (.slice A n c) (colsR (chunkR rows x) n) ∧ Ext W.drew w') (fun u => by go_simp) ((HZO.out W.drew ((Ext.refl _).drew)).mono fun e w' ⟨A, c, h1, h2, h3⟩ => ⟨_, h1, A, c, rfl, h2, h3⟩) ?_
        rintro _ w5 ⟨A9, c9, rfl, ho5, he5⟩
        refine hK _ _ (HC.out.ext ((Ext.refl _).drew.trans he5)) ?_
        try simp only [Act.put, List.setIfInBounds_toArray, List.set_cons_zero, List.set_cons_succ]
        clear hK K
        have HE5 : Hid (Ext W w5) := Lib.hid ((Ext.refl _).drew.trans he5)
        have HC5 : Hid (BoxAt w5 w.heap.size [.int .i64 (max cols 0)]) := Lib.hid (HC.out.ext HE5.out)
        have HO5 : Hid (BoxAt w5 (w.heap.size + 1) [v]) := Lib.hid (HO.out.ext HE5.out)
        have HOW : Hid ((w5.alloc (.cells #[.int .i64 ((chunkR rows x).length : Int), .slice A9 n c9] 84)).ownsRow WL.heap.size 84 2 v pre.length (zzip (pre.map (znOf rows n)) ss)) := Lib.hid (by have := owns_ext HS2.out (HE5.out.alloc (.cells #[.int .i64 ((chunkR rows x).length : Int), .slice A9 n c9] 84)); simpa using this)
        have HLT : Hid (∀ g, v.ownBlock = some g → w.heap.size + 3 < g ∧ WL.heap.size ≤ g) := Lib.hid fun g h => by have := (owns_lt HS2.out h).2; have := HSZ.out; omega
        have hs5 : w.heap.size + 1 < w5.heap.size := HO5.out.lt
        refine held_two (i := 0) (j := 4) rfl rfl (by kernel_rfl) rfl rfl (fun K hK => ?_) (fun K hK => ?_)
        · refine wp_cell Try.underlying76 rfl (.tmp 5) rfl rfl ((HO5.out).cells.1) ?_
          refine hK _ _ (HC5.out) ?_
          try simp only [Act.put, List.setIfInBounds_toArray, List.set_cons_zero, List.set_cons_succ]
          clear hK K
          refine held_do (i := 4) rfl (by kernel_rfl) rfl fun K hK => ?_
          unfold Oper.wp execOp
          go_simp
          refine hK _ _ (HC5.out.ext ((Ext.refl _).alloc _)) ?_
          try simp only [Act.put, List.setIfInBounds_toArray, List.set_cons_zero, List.set_cons_succ]
          clear hK K
          refine held_do (i := 5) rfl (by kernel_rfl) rfl fun K hK => ?_
          refine wp_one (base := WL.heap.size) (n := pre.length) (.tmp 13) (.tmp 17) rfl Try.underlying76 info_zone (by decide) (by decide) rfl (HOW.out) [.int .i64 ((chunkR rows x).length : Int), .slice A9 n c9] rfl (Rng.one9 rfl) rfl (heap_alloc_new _ _) (by omega) (by have := HWL.out; have := HE5.out.size; simp; omega) ?_
          intro g6 c6 w6 ho6 hb6
          have HB6 : Hid (ButS (fun k => Value.ownBlock v = some k) w5 w6) := Lib.hid ((ButS.of_ext ((Ext.refl w5).alloc _)).trans hb6)
          refine hK _ _ (HB6.out.box (fun h => by have := HLT.out _ h; omega) (HC5.out)) ?_
          try simp only [Act.put, List.setIfInBounds_toArray, List.set_cons_zero, List.set_cons_succ]
          clear hK K
          refine held_do (i := 6) rfl (by kernel_rfl) rfl fun K hK => ?_
          refine wp_storeM (f := 0) (vs' := [.slice (some ⟨g6, 0, none⟩) (pre.length + 1) c6]) (Rng.one9 rfl) (HB6.out.box (fun h => by have := HLT.out _ h; omega) HO5.out) size_zs (by simp) rfl (.tmp 5) (.tmp 18) rfl rfl rfl ?_
          intro w7 hq1 hq2
          refine hK _ _ (But.box hq2 (by omega) (HB6.out.box (fun h => by have := HLT.out _ h; omega) HC5.out)) ?_
          try simp only [Act.put, List.setIfInBounds_toArray, List.set_cons_zero, List.set_cons_succ]
          clear hK K
          refine wpAnyH_done (by kernel_rfl) ?_ _
          have HS7 := OwnZ.snoc (zs := pre.map (znOf rows n)) (ss := ss) (z := znOf rows n x) (s := .slice A9 n c9) (Ty := 84) (Tr := 149) (w := w5) (w' := w6) (base := WL.heap.size) (v := v) (by decide) HL.out (by rw [List.length_map]; exact owns_ext HS2.out HE5.out) (fun i z s hz hs => owns_ext (HS3.out i z s hz hs) HE5.out) (show OwnR w5 WL.heap.size (.slice A9 n c9) (colsR (chunkR rows x) n) from owns_down ho5 HWL.out) (by rw [List.length_map]; exact ho6) HB6.out
          have HS8 := HS7.buts (ButS.of_but (M := fun k => k = w.heap.size + 1) hq2 rfl) (fun k h => by have := HSZ.out; omega)
          have HXt : Ext w w6 := HB6.out.to_ext (HE.out.trans HE5.out) (fun k h => by have := HLT.out _ h; omega)
          have HKF : KeepsFrom WL.heap.size W w7 := by
            refine KeepsFrom.trans (keepOthers_buts _ (ButS.of_ext (M := fun _ => False) HE5.out) (fun k h => h.elim)) (KeepsFrom.trans (keepOthers_buts _ HB6.out (fun k h o ho => ?_)) (keepOthers_buts _ (ButS.of_but (M := fun k => k = w.heap.size + 1) hq2 rfl) (fun k h o ho => ?_)))
            · rcases (owns_ext HS2.out HE5.out).2 with ⟨rfl, _⟩ | ⟨g, c, cur, rfl, _, hh, _⟩
              · simp [Value.ownBlock] at h
              · simp only [Value.ownBlock, Option.some.injEq] at h; subst h; rw [hh] at ho; cases ho; rfl
            · subst h
              obtain ⟨o', h1, h2⟩ := cell_block (HB6.out.box (fun h => by have := HLT.out _ h; omega) HO5.out).cells.1
              rw [h1] at ho; cases ho; exact h2
          have HKB : KB (w.heap.size + 1 + 1) (w.heap.size + 1 + 1 + 1) W w7 := by
            have hz : ∀ k, w.heap.size + 1 < k → k < WL.heap.size → w7.heap[k]? = W.heap[k]? := fun k h1 h2 => by
              have hkW : k < W.heap.size := Nat.lt_of_lt_of_le h2 HWL.out
              refine (hq2.block k (Nat.lt_of_lt_of_le hkW (Nat.le_trans HE5.out.size HB6.out.size)) (by omega)).trans ((HB6.out.block k (Nat.lt_of_lt_of_le hkW HE5.out.size) (fun h => ?_)).trans (HE5.out.block hkW))
              have := HLT.out _ h
              omega
            exact ⟨hz _ (by omega) (by have := HSZ.out; omega), hz _ (by omega) (by have := HSZ.out; omega)⟩
          gi_wp2
          refine ⟨HKF, HKB, ⟨_, hq1, by rw [List.map_append]; exact HS8⟩, ⟨But.box hq2 (by omega) (HB6.out.box (fun h => by have := HLT.out _ h; omega) HC5.out), Nat.le_trans HWL.out (Nat.le_trans HE5.out.size (Nat.le_trans HB6.out.size hq2.size))⟩, But.to_ext HXt hq2 (by omega)⟩
        · unfold Oper.wp execOp
          go_simp
          refine hK _ _ (HC5.out.ext ((Ext.refl _).alloc _)) ?_
          try simp only [Act.put, List.setIfInBounds_toArray, List.set_cons_zero, List.set_cons_succ]
          clear hK K
          refine held_do (i := 0) rfl (by kernel_rfl) rfl fun K hK => ?_
          refine wp_cell Try.underlying76 rfl (.tmp 5) rfl rfl ((HO5.out.ext ((Ext.refl _).alloc _)).cells.1) ?_
          refine hK _ _ (HC5.out.ext ((Ext.refl _).alloc _)) ?_
          try simp only [Act.put, List.setIfInBounds_toArray, List.set_cons_zero, List.set_cons_succ]
          clear hK K
          refine held_do (i := 5) rfl (by kernel_rfl) rfl fun K hK => ?_
          refine wp_one (base := WL.heap.size) (n := pre.length) (.tmp 13) (.tmp 17) rfl Try.underlying76 info_zone (by decide) (by decide) rfl (HOW.out) [.int .i64 ((chunkR rows x).length : Int), .slice A9 n c9] rfl (Rng.one9 rfl) rfl (heap_alloc_new _ _) (by omega) (by have := HWL.out; have := HE5.out.size; simp; omega) ?_
          intro g6 c6 w6 ho6 hb6
          have HB6 : Hid (ButS (fun k => Value.ownBlock v = some k) w5 w6) := Lib.hid ((ButS.of_ext ((Ext.refl w5).alloc _)).trans hb6)
          refine hK _ _ (HB6.out.box (fun h => by have := HLT.out _ h; omega) (HC5.out)) ?_
          try simp only [Act.put, List.setIfInBounds_toArray, List.set_cons_zero, List.set_cons_succ]
          clear hK K
          refine held_do (i := 6) rfl (by kernel_rfl) rfl fun K hK => ?_
          refine wp_storeM (f := 0) (vs' := [.slice (some ⟨g6, 0, none⟩) (pre.length + 1) c6]) (Rng.one9 rfl) (HB6.out.box (fun h => by have := HLT.out _ h; omega) HO5.out) size_zs (by simp) rfl (.tmp 5) (.tmp 18) rfl rfl rfl ?_
          intro w7 hq1 hq2
          refine hK _ _ (But.box hq2 (by omega) (HB6.out.box (fun h => by have := HLT.out _ h; omega) HC5.out)) ?_
          try simp only [Act.put, List.setIfInBounds_toArray, List.set_cons_zero, List.set_cons_succ]
          clear hK K
          refine wpAnyH_done (by kernel_rfl) ?_ _
          have HS7 := OwnZ.snoc (zs := pre.map (znOf rows n)) (ss := ss) (z := znOf rows n x) (s := .slice A9 n c9) (Ty := 84) (Tr := 149) (w := w5) (w' := w6) (base := WL.heap.size) (v := v) (by decide) HL.out (by rw [List.length_map]; exact owns_ext HS2.out HE5.out) (fun i z s hz hs => owns_ext (HS3.out i z s hz hs) HE5.out) (show OwnR w5 WL.heap.size (.slice A9 n c9) (colsR (chunkR rows x) n) from owns_down ho5 HWL.out) (by rw [List.length_map]; exact ho6) HB6.out
          have HS8 := HS7.buts (ButS.of_but (M := fun k => k = w.heap.size + 1) hq2 rfl) (fun k h => by have := HSZ.out; omega)
          have HXt : Ext w w6 := HB6.out.to_ext (HE.out.trans HE5.out) (fun k h => by have := HLT.out _ h; omega)
          have HKF : KeepsFrom WL.heap.size W w7 := by
            refine KeepsFrom.trans (keepOthers_buts _ (ButS.of_ext (M := fun _ => False) HE5.out) (fun k h => h.elim)) (KeepsFrom.trans (keepOthers_buts _ HB6.out (fun k h o ho => ?_)) (keepOthers_buts _ (ButS.of_but (M := fun k => k = w.heap.size + 1) hq2 rfl) (fun k h o ho => ?_)))
            · rcases (owns_ext HS2.out HE5.out).2 with ⟨rfl, _⟩ | ⟨g, c, cur, rfl, _, hh, _⟩
              · simp [Value.ownBlock] at h
              · simp only [Value.ownBlock, Option.some.injEq] at h; subst h; rw [hh] at ho; cases ho; rfl
            · subst h
              obtain ⟨o', h1, h2⟩ := cell_block (HB6.out.box (fun h => by have := HLT.out _ h; omega) HO5.out).cells.1
              rw [h1] at ho; cases ho; exact h2
          have HKB : KB (w.heap.size + 1 + 1) (w.heap.size + 1 + 1 + 1) W w7 := by
            have hz : ∀ k, w.heap.size + 1 < k → k < WL.heap.size → w7.heap[k]? = W.heap[k]? := fun k h1 h2 => by
              have hkW : k < W.heap.size := Nat.lt_of_lt_of_le h2 HWL.out
              refine (hq2.block k (Nat.lt_of_lt_of_le hkW (Nat.le_trans HE5.out.size HB6.out.size)) (by omega)).trans ((HB6.out.block k (Nat.lt_of_lt_of_le hkW HE5.out.size) (fun h => ?_)).trans (HE5.out.block hkW))
              have := HLT.out _ h
              omega
            exact ⟨hz _ (by omega) (by have := HSZ.out; omega), hz _ (by omega) (by have := HSZ.out; omega)⟩
          gi_wp2
          refine ⟨HKF, HKB, ⟨_, hq1, by rw [List.map_append]; exact HS8⟩, ⟨But.box hq2 (by omega) (HB6.out.box (fun h => by have := HLT.out _ h; omega) HC5.out), Nat.le_trans HWL.out (Nat.le_trans HE5.out.size (Nat.le_trans HB6.out.size hq2.size))⟩, But.to_ext HXt hq2 (by omega)⟩
    case done =>
      rintro D ys W hD rfl ⟨⟨v, ho, hz⟩, ⟨hc, hwl⟩, hE⟩ hK
      obtain ⟨A0, c0, hv0⟩ := hz.shape
      rw [List.length_map, List.length_range] at hv0
      subst hv0
      have hc1 := ho.cells.1
      go_wp2_with fail
      refine ⟨by simp, .inl ⟨_, _, rfl, run_takeDeferred hK, ?_⟩⟩
      exact ⟨_, results_tmp rfl _ _ _, _, rfl, (hz.keep (keep_turn W hK rfl)).down (show w.heap.size ≤ WL.heap.size by have := HSZ.out; omega), (show Below w.heap.size w W from hE).trans (belowK_b (w := w) (Nat.le_refl _) W D _ _ (by have := HSZ.out; omega) hK rfl rfl)⟩
    case stop =>
      rintro D c pre W _ _ h _
      exact h.elim
end Go.Proofs.Ytlcdjaclahhdnaa
