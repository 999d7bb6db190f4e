/- The calls of expr.must and expr.eval. -/
import Derived.Test.YtlcdjaclahhdnaaVals
import Derived.Test.YtlcdjaclahhdnaaEx3
import Derived.Test.YtlcdjaclahhdnaaVal7
import Derived.Test.YtlcdjaclahhdnaaRead
namespace Go.Proofs.Ytlcdjaclahhdnaa
open Go.RowKit
set_option linter.unusedSimpArgs false
set_option linter.unusedVariables false

/-- A panic with an error by its number. -/
def chainE (n : Int) : List PanicEntry := [{ v := .iface 35 (.int .i64 n), recovered := false }]
set_option maxHeartbeats 400000 in
theorem must_ok (v : Val) (w : World) : Calls Try.prog 113 #[.agg #[.int .i64 v.kind, .int .i64 v.int, .float .f64 v.flt, .string v.text], .int .i64 0] w fun e w' => e = .returned v.enc ∧ Ext w w' := by
  go_enter Try.func113, Try.ntmps113
  go_wp2_with fail
  refine back_cell rfl (Val.cells v) rfl agg_val rfl ?_ ⟨rfl, ?_⟩
  · (simp only [At, Val.cells, Val.null, Val.number, Val.truth, Val.float]; repeat (first | exact trivial | (refine ⟨?_, ?_⟩; focus go_simp)))
  · repeat (first | (with_reducible exact Ext.refl _) | (with_reducible refine Ext.set_ ?_ _ ?_; focus (first | (simp; done) | (simp; omega) | (simp at *; omega))) | (with_reducible refine Ext.alloc ?_ _) | (with_reducible refine Ext.drew ?_) | (with_reducible refine Ext.drewN ?_ _) | (with_reducible refine Ext.trans ?_ (by assumption)))
set_option maxHeartbeats 400000 in
theorem must_bad (v : Val) (n : Int) (hn : n ≠ 0) (w : World) : Calls Try.prog 113 #[.agg #[.int .i64 v.kind, .int .i64 v.int, .float .f64 v.flt, .string v.text], .int .i64 n] w fun e w' => e = .panicked (chainE n) ∧ Ext w w' := by
  have hn' : (n == 0) = false := by simpa using hn
  go_enter Try.func113, Try.ntmps113
  go_wp2_with fail
  refine ⟨rfl, rfl, ?_⟩
  repeat (first | (with_reducible exact Ext.refl _) | (with_reducible refine Ext.set_ ?_ _ ?_; focus (first | (simp; done) | (simp; omega) | (simp at *; omega))) | (with_reducible refine Ext.alloc ?_ _) | (with_reducible refine Ext.drew ?_) | (with_reducible refine Ext.drewN ?_ _) | (with_reducible refine Ext.trans ?_ (by assumption)))

theorem Val.null_ok : Val.null.Ok := ⟨by decide, by decide, by decide, by decide⟩
theorem truth_ok (b : Bool) : (Val.truth b).Ok := by cases b <;> exact ⟨by decide, by decide, by decide, by decide⟩
theorem wrap64_range (n : Int) : -9223372036854775808 ≤ wrap64 n ∧ wrap64 n ≤ 9223372036854775807 := by unfold wrap64; omega
theorem whole_range (op a b : Int) : -9223372036854775808 ≤ whole op a b ∧ whole op a b ≤ 9223372036854775807 := by
  unfold whole
  repeat (first | exact wrap64_range _ | split)
theorem floatBits_lt {op : BinOp} {x y r : Nat} (h : floatBits op .f64 x y = some r) : r < 18446744073709551616 := by
  have := floatBits_wf h
  simpa [Lit.wf] using this
theorem broken_lt {op : Int} {x y : Nat} (hx : x < 18446744073709551616) : broken op x y < 18446744073709551616 := by
  unfold broken
  split
  · rename_i r hr
    refine plainF_lt ?_
    unfold brokenBits at hr
    split at hr
    · exact floatBits_lt hr
    · split at hr
      · exact floatBits_lt hr
      · split at hr
        · exact floatBits_lt hr
        · simp only [Option.some.injEq] at hr; rw [← hr]; exact neg_lt hx
  · decide
theorem number_ok {n : Int} (h : -9223372036854775808 ≤ n ∧ n ≤ 9223372036854775807) : (Val.number n).Ok := by
  refine ⟨?_, ?_, ?_, ?_⟩
  · simp [Val.number]
  · simpa [Val.number] using h
  · simp [Val.number]
  · show (⟨#[]⟩ : ByteArray).size ≤ _; decide
theorem float_ok {x : Nat} (h : x < 18446744073709551616) : (Val.float x).Ok := by
  refine ⟨?_, ?_, ?_, ?_⟩
  · simp [Val.float]
  · simp [Val.float]
  · simpa [Val.float] using h
  · show (⟨#[]⟩ : ByteArray).size ≤ _; decide
theorem calc_ok {op : Int} {a b : Val} (ha : a.Ok) : (Val.calc op a b).1.Ok := by
  unfold Val.calc Val.calc2
  repeat (first | exact Val.null_ok | exact number_ok (whole_range _ _ _) | exact float_ok (broken_lt ha.flt) | split)
theorem test_ok {op : Int} {a b : Val} : (Val.test op a b).1.Ok := by
  unfold Val.test
  repeat (first | exact Val.null_ok | exact truth_ok _ | split)
theorem both_ok {op : Int} {a b : Val} : (Val.both op a b).1.Ok := by
  unfold Val.both Val.both2
  repeat (first | exact Val.null_ok | exact truth_ok _ | split)

def lookup (rows : List (List Val)) (r c : Int) : Val :=
  match rows[r.toNat]? with
  | some row => (match row[c.toNat]? with | some v => if v.right = true then v else Val.null | none => Val.null)
  | none => Val.null
/-- What a head makes of its parts' values; a number above 0: what is given up with. -/
def evalHead (rows : List (List Val)) (k r c : Int) (v : Val) (rs : List (Val × Int)) : Val × Int :=
  if (rs.getD 0 (Val.null, 0)).2 ≠ 0 then (Val.null, (rs.getD 0 (Val.null, 0)).2)
  else if (rs.getD 1 (Val.null, 0)).2 ≠ 0 then (Val.null, (rs.getD 1 (Val.null, 0)).2)
  else if k = 1 then (lookup rows r c, 0) else if k = 2 then (v, 0)
  else if 3 ≤ k ∧ k ≤ 6 then Val.calc k (rs.getD 0 (Val.null, 0)).1 (rs.getD 1 (Val.null, 0)).1
  else if 7 ≤ k ∧ k ≤ 9 then Val.test k (rs.getD 0 (Val.null, 0)).1 (rs.getD 1 (Val.null, 0)).1
  else if 10 ≤ k ∧ k ≤ 12 then Val.both k (rs.getD 0 (Val.null, 0)).1 (rs.getD 1 (Val.null, 0)).1
  else (Val.truth ((rs.getD 0 (Val.null, 0)).1.kind == 0), 0)
mutual
def Ex.eval (rows : List (List Val)) : Ex → Val × Int
  | .mk k r c v l => evalHead rows k r c v (Exs.eval rows l)
termination_by structural e => e
def Exs.eval (rows : List (List Val)) : List Ex → List (Val × Int)
  | [] => []
  | e :: l => e.eval rows :: Exs.eval rows l
termination_by structural l => l
end
/-- How a call ends that gives a value, or gives up. -/
def EvR (w : World) (r : Val × Int) (ev : Ending) (w' : World) : Prop := (ev = if r.2 = 0 then .returned r.1.enc else .panicked (chainE r.2)) ∧ Ext w w'
theorem EvR.ok {w w' : World} {r : Val × Int} {ev : Ending} (h : r.2 = 0) (he : EvR w r ev w') : ev = .returned r.1.enc ∧ Ext w w' := by
  unfold EvR at he; rw [if_pos h] at he; exact he
theorem EvR.bad {w w' : World} {r : Val × Int} {ev : Ending} (h : r.2 ≠ 0) (he : EvR w r ev w') : ev = .panicked (chainE r.2) ∧ Ext w w' := by
  unfold EvR at he; rw [if_neg h] at he; exact he
/-- As wp_region_ext, the world behind a name, with what is known of it. -/
theorem wp_region_extF {P : Program} {id : Nat} {Q : Exit → Act → World → Prop} {a : Act} {w : World} {l : List Oper} (F : World → Prop) (hF : F w) (hm : P.follows .mixedOrders = true) (hB : Region.lexB .any l.toArray = true)
    (h : ∀ u, F u → wpQuiet P l.toArray (Ext u) (fun a' => ∀ w', Ext u w' → Q .normal a' w') l a) : (Code.region id l.toArray true).wp P Q a w :=
  wp_region_ext hm hB (h w hF)
/-- A block that holds cells, none frozen. -/
structure BoxAt (w : World) (g : Nat) (vs : List Value) : Prop where
  cells : At w g 0 vs
  free : ∀ j, w.frozen? ⟨g, j, none⟩ = false
  lt : g < w.heap.size
theorem BoxAt.ext {w w' : World} {g : Nat} {vs : List Value} (he : Ext w w') (h : BoxAt w g vs) : BoxAt w' g vs :=
  ⟨h.cells.ext he h.lt, fun j => ((he.at_ g h.lt).2.1 j).trans (h.free j), (he.at_ g h.lt).2.2⟩
theorem BoxAt.new {w : World} {g : Nat} (hg : g = w.heap.size) {vs : List Value} {t : TypeId} {A : Array Value} (hA : A = vs.toArray) : BoxAt (w.alloc (.cells A t)) g vs := by
  subst hg
  exact ⟨At.new rfl vs t A hA, fun j => frozen_of_row _ _ _ _ t (heap_alloc_new w _), by simp⟩
def nullCells : List Value := [.int .i64 0, .int .i64 0, .float .f64 0, .string ⟨#[]⟩]
theorem quiet_idxS {P : Program} {C : World → Prop} {ops : Array Oper} {rest : List Oper} {o : Oper} {a : Act} {Q : Act → Prop} {t e : TypeId} {size g f n c i : Nat} {k : IntKind} (hw : Region.wanted o (yielded ops a.tmps) = true)
    (ht : P.underlying t = some (.slice e)) (hz : (P.info? e).map (·.size) = some size) (x y : Operand) (ho : o.op = .indexAddr t x y) (hx : a.eval x = .slice (some ⟨g, f, none⟩) n c) (hy : a.eval y = .int k (i : Int)) (hi : i < n)
    (h : wpQuiet P ops C Q rest (a.put o.dst (.pointer (some ⟨g, f + i * size, none⟩)))) : wpQuiet P ops C Q (o :: rest) a :=
  quiet_run hw _ (fun w hC => by
    unfold execOp
    simp only [ho, hx, hy, Sem.run_bind, Sem.run_pure, Result.andThen_ok, run_idxS ht hz hi]) h
section
variable {P : Program} {w : World} {ops : Array Oper} {rest : List Oper} {o : Oper} {a : Act} {Q : Exit → Act → World → Prop}
/-- A cell that is no struct, loaded. -/
theorem wp_cell {K : Act → World → Prop} {t : TypeId} {g f : Nat} {v : Value} {d : TypeDesc} (hu : P.underlying t = some d) (hd : d.isRow = false) (x : Operand) (ho : o.op = .load t x) (hx : a.eval x = .pointer (some ⟨g, f, none⟩)) (hc : w.cell? ⟨g, f, none⟩ = some v)
    (h : K (a.put o.dst v) w) : o.wp P a w K Q := by
  have hagg : (isAgg t).run P w = .ok false w := by
    unfold isAgg
    rw [Sem.run_bind, run_underlying hu w]
    cases d <;> simp_all [TypeDesc.isRow]
  have hl : (Instr.loadAt t (.pointer (some ⟨g, f, none⟩))).run P w = .ok v w := by
    simp [Instr.loadAt, Instr.sureAddr, loadVar, hagg, hc]
  unfold Oper.wp execOp
  simp only [ho, hx, Sem.run_bind, Sem.run_pure, Result.andThen_ok, hl]
  exact h
theorem But.box {r g : Nat} {w w' : World} {vs : List Value} (he : But r w w') (hn : g ≠ r) (h : BoxAt w g vs) : BoxAt w' g vs := by
  obtain ⟨c, f, l⟩ := he.at_ g ⟨h.lt, hn⟩
  exact ⟨h.cells.keep c, fun j => (f j).trans (h.free j), l⟩
/-- A struct stored into a block of its own. -/
theorem wpList_storeA {t : TypeId} {g : Nat} {vs vs' : List Value} (h1 : ∀ u ∈ vs', u.oneCell' = true) (hb : BoxAt w g vs) (hk : (P.info? t).map (·.size) = some vs'.length) (hl : vs.length = vs'.length) (hgd : o.guard = none) (x y : Operand) (ho : o.op = .store t x y)
    (hx : a.eval x = .pointer (some ⟨g, 0, none⟩)) (hy : a.eval y = .agg vs'.toArray)
    (h : ∀ w', BoxAt w' g vs' → But g w w' → wpList P ops Q rest (a.put o.dst undef) w') : wpList P ops Q (o :: rest) a w := by
  have hth : w.there g 0 vs'.length := fun j hj => by
    rw [Nat.zero_add]
    have := hb.cells.get j vs[j] (List.getElem?_eq_getElem (by omega))
    rw [Nat.zero_add] at this
    exact ⟨by rw [this]; rfl, hb.free j⟩
  have hkk : ∀ (us : List Value) (o : Nat) (w : World), But g w (w.setCells g o us) := by
    intro us
    induction us with
    | nil => intro o w; exact But.refl g w
    | cons v us ih => intro o w; exact (But.set_ (p := ⟨g, o, none⟩) (.inr rfl) v (But.refl g w)).trans (ih _ _)
  refine wpList_store_mid hgd _ x y ho g 0 vs'.toArray hx hy (by simpa using hth) (by rw [hk]; simp) (by simpa using all_oneCell_toArray h1) ?_
  refine h _ ⟨?_, ?_, Nat.lt_of_lt_of_le hb.lt (hkk _ _ _).size⟩ (hkk _ _ _)
  · exact At.of_get fun j v hv => World.rangeAt_setCells_same w g 0 vs' hth j v hv
  · intro j
    rw [World.frozen?_setCells]; exact hb.free j
end
theorem val_one (v : Val) : ∀ u ∈ v.cells, u.oneCell' = true := by
  intro u hu
  simp only [Val.cells, List.mem_cons, List.not_mem_nil, or_false] at hu
  rcases hu with rfl | rfl | rfl | rfl <;> rfl
/-- The boxes of a call of eval. -/
structure EvW (w0 w : World) (xc v4 v5 v6 : List Value) : Prop where
  ext : Ext w0 w
  x : BoxAt w w0.heap.size xc
  r : BoxAt w (w0.heap.size + 1) v4
  a : BoxAt w (w0.heap.size + 1 + 1) v5
  b : BoxAt w (w0.heap.size + 1 + 1 + 1) v6
section
variable {w0 w w' : World} {xc v4 v5 v6 v : List Value}
theorem EvW.start (w0 : World) (xc : List Value) : EvW w0 ((((w0.alloc (.cells xc.toArray 27)).alloc (.cells nullCells.toArray 24)).alloc (.cells nullCells.toArray 24)).alloc (.cells nullCells.toArray 24)) xc nullCells nullCells nullCells :=
  ⟨(((((Ext.refl _).alloc _).alloc _).alloc _).alloc _), (((BoxAt.new rfl rfl).ext ((Ext.refl _).alloc _)).ext ((Ext.refl _).alloc _)).ext ((Ext.refl _).alloc _),
    ((BoxAt.new (by simp) rfl).ext ((Ext.refl _).alloc _)).ext ((Ext.refl _).alloc _), (BoxAt.new (by simp) rfl).ext ((Ext.refl _).alloc _), BoxAt.new (by simp) rfl⟩
theorem EvW.grow (h : EvW w0 w xc v4 v5 v6) (he : Ext w w') : EvW w0 w' xc v4 v5 v6 := ⟨h.ext.trans he, h.x.ext he, h.r.ext he, h.a.ext he, h.b.ext he⟩
theorem EvW.setA (h : EvW w0 w xc v4 v5 v6) (hb : BoxAt w' (w0.heap.size + 1 + 1) v) (he : But (w0.heap.size + 1 + 1) w w') : EvW w0 w' xc v4 v v6 :=
  ⟨But.to_ext h.ext he (by omega), But.box he (by omega) h.x, But.box he (by omega) h.r, hb, But.box he (by omega) h.b⟩
theorem EvW.setB (h : EvW w0 w xc v4 v5 v6) (hb : BoxAt w' (w0.heap.size + 1 + 1 + 1) v) (he : But (w0.heap.size + 1 + 1 + 1) w w') : EvW w0 w' xc v4 v5 v :=
  ⟨But.to_ext h.ext he (by omega), But.box he (by omega) h.x, But.box he (by omega) h.r, But.box he (by omega) h.a, hb⟩
theorem EvW.setR (h : EvW w0 w xc v4 v5 v6) (hb : BoxAt w' (w0.heap.size + 1) v) (he : But (w0.heap.size + 1) w w') : EvW w0 w' xc v v5 v6 :=
  ⟨But.to_ext h.ext he (by omega), But.box he (by omega) h.x, hb, But.box he (by omega) h.a, But.box he (by omega) h.b⟩
end
end Go.Proofs.Ytlcdjaclahhdnaa
