/- Words that all texts of this claim share: the record of a value, worlds that only grew, entries without a body. -/
import Derived.Test.YtlcdjaclahhdnaaProg
import Derived.WalkKit
import Derived.WalkSpells
import Derived.WalkLawsBesides
import Derived.KernelRfl
import Derived.Lib.Hide
import Derived.Deep.RegionWith
namespace Go
open Go.RowKit
section
variable (P : Program) (w : World) (a : Addr) (m : Mode)
@[go_sem] theorem run_store_float (k : FloatKind) (n : Nat) : (store a (.float k n) m).run P w = stored P w a (.float k n) m := run_store P w a _ m rfl
end
@[go_sem] theorem unary_neg_float (k : FloatKind) (b : Nat) : Op.unary .neg (.float k b) = pure (.float k (Op.negFloat k b)) := rfl
end Go
namespace Go.Proofs.Ytlcdjaclahhdnaa
open Go.RowKit
set_option linter.unusedSimpArgs false
set_option linter.unusedVariables false

/-- Nothing that was there has turned: there may be new blocks. -/
def Ext (w w' : World) : Prop := Below w.heap.size w w'
theorem Ext.refl (w : World) : Ext w w := Below.refl _ _
theorem Ext.size {w w' : World} (h : Ext w w') : w.heap.size ≤ w'.heap.size := Below.size h
theorem Ext.trans {a b c : World} (h : Ext a b) (k : Ext b c) : Ext a c := Below.trans h (Below.mono k h.size)
theorem Ext.alloc {a b : World} (h : Ext a b) (o : Obj) : Ext a (b.alloc o) := Below.alloc h h.size o
theorem Ext.set {a b : World} (h : Ext a b) {p : Addr} (hp : a.heap.size ≤ p.block) (u : Value) : Ext a (b.setCell p u) := Below.setCell h hp u
theorem Ext.set_ {a b : World} {p : Addr} (hp : a.heap.size ≤ p.block) (u : Value) (h : Ext a b) : Ext a (b.setCell p u) := h.set hp u
theorem Ext.drew {a b : World} (h : Ext a b) : Ext a b.drew := Below.drew h
theorem Ext.drewN {a b : World} (h : Ext a b) (n : Nat) : Ext a (b.drewN n) := by
  have h' : Below a.heap.size a b := h
  exact ⟨h'.os, h'.tape, h'.output, h'.size, h'.block⟩
theorem Ext.cell {w w' : World} (h : Ext w w') {p : Addr} (hp : p.block < w.heap.size) : w'.cell? p = w.cell? p := Below.cell h hp
theorem Ext.frozen {w w' : World} (h : Ext w w') {p : Addr} (hp : p.block < w.heap.size) : w'.frozen? p = w.frozen? p := Below.frozen h hp
theorem Ext.grown {a b c : World} (h : Ext a b) {row : Option Nat} (hg : b.grownBy c row) (hr : ∀ k, row = some k → a.heap.size ≤ k) : Ext a c := Below.grown h hg h.size hr
theorem Ext.block {w w' : World} (h : Ext w w') {k : Nat} (hk : k < w.heap.size) : w'.heap[k]? = w.heap[k]? := Below.block h k hk
/-- What a walk uses of it: the cells and marks of a block of the older world. -/
theorem Ext.at_ {w w' : World} (h : Ext w w') (g : Nat) (hg : g < w.heap.size) : (∀ o, w'.cell? ⟨g, o, none⟩ = w.cell? ⟨g, o, none⟩) ∧ (∀ o, w'.frozen? ⟨g, o, none⟩ = w.frozen? ⟨g, o, none⟩) ∧ g < w'.heap.size :=
  ⟨fun o => h.cell (p := ⟨g, o, none⟩) hg, fun o => h.frozen (p := ⟨g, o, none⟩) hg, Nat.lt_of_lt_of_le hg h.size⟩

/-- A value: its kind, its whole number, its float's bits, its text. -/
structure Val where
  kind : Int
  int : Int
  flt : Nat
  text : ByteArray
def Val.null : Val := ⟨0, 0, 0, ⟨#[]⟩⟩
/-- As it lies in memory. -/
def Val.enc (v : Val) : Value := .agg #[.int .i64 v.kind, .int .i64 v.int, .float .f64 v.flt, .string v.text]
attribute [go_sem] Val.enc
def Val.cells (v : Val) : List Value := [.int .i64 v.kind, .int .i64 v.int, .float .f64 v.flt, .string v.text]

/-- The cells at a place. -/
def At (w : World) (g o : Nat) : List Value → Prop
  | [] => True
  | v :: vs => w.cell? ⟨g, o, none⟩ = some v ∧ At w g (o + 1) vs
theorem add_at (g o j : Nat) : (⟨g, o, none⟩ : Addr).add j = ⟨g, o + j, none⟩ := by
  unfold Addr.add; split
  · simp_all
  · rfl
theorem At.get {w : World} {g : Nat} : ∀ {vs : List Value} {o : Nat}, At w g o vs → ∀ (j : Nat) (v : Value), vs[j]? = some v → w.cell? ⟨g, o + j, none⟩ = some v
  | [], _, _, j, v, h => by simp at h
  | u :: vs, o, h, 0, v, hv => by
    simp at hv; subst hv; exact h.1
  | u :: vs, o, h, j + 1, v, hv => by
    have := At.get h.2 j v (by simpa using hv)
    rw [← this, Nat.add_assoc, Nat.add_comm 1 j]
theorem At.of_get {w : World} {g : Nat} : ∀ {vs : List Value} {o : Nat}, (∀ (j : Nat) (v : Value), vs[j]? = some v → w.cell? ⟨g, o + j, none⟩ = some v) → At w g o vs
  | [], _, _ => trivial
  | u :: vs, o, h => ⟨h 0 u rfl, At.of_get fun j v hv => by
      have := h (j + 1) v (by simpa using hv)
      rw [← this, Nat.add_assoc, Nat.add_comm 1 j]⟩
theorem At.ext {w w' : World} {g o : Nat} {vs : List Value} (h : At w g o vs) (he : Ext w w') (hg : g < w.heap.size) : At w' g o vs :=
  .of_get fun j v hv => (he.cell (p := ⟨g, o + j, none⟩) hg).trans (h.get j v hv)

/-- A type whose values are so many cells. -/
def aggOk (P : Program) (ty : TypeId) (n : Nat) : Bool :=
  (match P.underlying ty with | some (.struct _) | some (.array _ _) => true | _ => false) && ((P.info? ty).map (·.size) == some n)
theorem run_loadVar_at {P : Program} {w : World} {g o : Nat} {ty : TypeId} {cs : List Value} (ho : aggOk P ty cs.length = true) (h : At w g o cs) :
    (loadVar ty ⟨g, o, none⟩).run P w = .ok (.agg cs.toArray) w := by
  unfold aggOk at ho
  simp only [Bool.and_eq_true, beq_iff_eq] at ho
  obtain ⟨hu, hi⟩ := ho
  obtain ⟨i, hi1, hi2⟩ := Option.map_eq_some_iff.1 hi
  cases hd : P.underlying ty with
  | none => rw [hd] at hu; simp at hu
  | some d =>
    rw [hd] at hu
    have hl := run_loadCells_list (P := P) (w := w) ⟨g, o, none⟩ cs (fun j v hv => by rw [add_at]; exact h.get j v hv)
    cases d <;> simp at hu <;> simp [loadVar, isAgg, run_underlying hd, sizeOf, typeInfo, hi1, hi2, hl]
theorem results_cell {P : Program} {fn : Func} {p : Tmp} {ty : TypeId} (h : fn.results = #[.cell p ty]) {tmps : Array Value} {w : World} {g o : Nat} {cs : List Value}
    (hp : tmps.getD p undef = .pointer (some ⟨g, o, none⟩)) (ho : aggOk P ty cs.length = true) (hc : At w g o cs) : (results fn tmps).run P w = .ok (.agg cs.toArray) w := by
  have hp' : tmps[p]?.getD undef = .pointer (some ⟨g, o, none⟩) := by simpa using hp
  simp [results, h, hp', asAddr, run_loadVar_at ho hc]
theorem results_ct {P : Program} {fn : Func} {p u : Tmp} {ty : TypeId} (h : fn.results = #[.cell p ty, .tmp u]) {tmps : Array Value} {w : World} {g o : Nat} {cs : List Value}
    (hp : tmps.getD p undef = .pointer (some ⟨g, o, none⟩)) (ho : aggOk P ty cs.length = true) (hc : At w g o cs) : (results fn tmps).run P w = .ok (.tuple #[.agg cs.toArray, tmps.getD u undef]) w := by
  have hp' : tmps[p]?.getD undef = .pointer (some ⟨g, o, none⟩) := by simpa using hp
  simp [results, h, hp', asAddr, run_loadVar_at ho hc]
/-- The end of a walk whose result lies in memory. -/
theorem back_cell {P : Program} {fn : Func} {R : Ending → World → Prop} {a : Act} {w : World} {p : Tmp} {ty : TypeId} (h : fn.results = #[.cell p ty]) {g o : Nat} (cs : List Value)
    (hp : a.tmps.getD p undef = .pointer (some ⟨g, o, none⟩)) (ho : aggOk P ty cs.length = true) (hd : a.defers = []) (hc : At w g o cs) (hR : R (.returned (.agg cs.toArray)) w) : bodyPost P fn R .ret a w :=
  ⟨hd, _, results_cell h hp ho hc, hR⟩
theorem back_ct {P : Program} {fn : Func} {R : Ending → World → Prop} {a : Act} {w : World} {p u : Tmp} {ty : TypeId} (h : fn.results = #[.cell p ty, .tmp u]) {g o : Nat} (cs : List Value) (x : Value)
    (hp : a.tmps.getD p undef = .pointer (some ⟨g, o, none⟩)) (hx : a.tmps.getD u undef = x) (ho : aggOk P ty cs.length = true) (hd : a.defers = []) (hc : At w g o cs) (hR : R (.returned (.tuple #[.agg cs.toArray, x])) w) : bodyPost P fn R .ret a w :=
  ⟨hd, _, results_ct h hp ho hc, by rw [hx]; exact hR⟩
theorem Val.enc_cells (v : Val) : Value.agg v.cells.toArray = v.enc := rfl
theorem agg_val : aggOk Try.prog 24 4 = true := by kernel_rfl

theorem call_bits (x : Nat) (w : World) : (callFunc 119 #[.float .f64 x]).run Try.prog w = .ok (.value (.int .u64 x)) w := by
  rw [run_callFunc_extern Try.func119 (by kernel_rfl) (by kernel_rfl) (by kernel_rfl) (e := Extern.MathFloatBits.float64bits) (by kernel_rfl)]; rfl
theorem call_frombits (n : Int) (w : World) : (callFunc 78 #[.int .u64 n]).run Try.prog w = .ok (.value (.float .f64 n.toNat)) w := by
  rw [run_callFunc_extern Try.func78 (by kernel_rfl) (by kernel_rfl) (by kernel_rfl) (e := Extern.MathFloatBits.float64frombits) (by kernel_rfl)]; rfl
end Go.Proofs.Ytlcdjaclahhdnaa
