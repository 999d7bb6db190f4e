/- Rows of 64 bytes: laid, read, written; the call of hll.Right. -/
import Derived.Test.YtlcdjaclahhdnaaDoorRead
import Derived.Deep.MidRow
import Derived.Deep.WholeRow
namespace Go.Proofs.YtlcdjaclahhdnaaDoor
open Go.RowKit
set_option linter.unusedSimpArgs false
set_option linter.unusedVariables false

theorem size30 : (Tryd.prog.info? 30).map (·.size) = some 64 := by kernel_rfl
theorem size32 : (Tryd.prog.info? 32).map (·.size) = some 64 := by kernel_rfl
theorem agg32 : aggOk Tryd.prog 32 64 = true := by kernel_rfl

/-- Registers, as a value. -/
def regs (l : List Nat) : Value := .agg (bv l).toArray
/-- A block of one's own that holds 64 bytes. -/
structure RowB (w : World) (g : Nat) (l : List Nat) : Prop where
  len : l.length = 64
  cells : w.rangeAt g 0 (bv l)
  free : ∀ j, w.frozen? ⟨g, j, none⟩ = false
  lt : g < w.heap.size
section
variable {w w' : World} {g : Nat} {l : List Nat}
theorem RowB.keep (h : RowB w g l) (hs : w.heap.size ≤ w'.heap.size) (h1 : ∀ o, w'.cell? ⟨g, o, none⟩ = w.cell? ⟨g, o, none⟩) (h2 : ∀ o, w'.frozen? ⟨g, o, none⟩ = w.frozen? ⟨g, o, none⟩) : RowB w' g l :=
  ⟨h.len, fun j v hv => (h1 _).trans (h.cells j v hv), fun j => (h2 j).trans (h.free j), Nat.lt_of_lt_of_le h.lt hs⟩
theorem RowB.ext (he : Ext w w') (h : RowB w g l) : RowB w' g l := by
  obtain ⟨c, f, _⟩ := he.at_ g h.lt
  exact h.keep he.size c f
theorem RowB.but {r : Nat} (he : But r w w') (hn : g ≠ r) (h : RowB w g l) : RowB w' g l := by
  obtain ⟨c, f, _⟩ := he.at_ g ⟨h.lt, hn⟩
  exact h.keep he.size c f
theorem RowB.alloc (o : Obj) (h : RowB w g l) : RowB (w.alloc o) g l := h.ext ((Ext.refl _).alloc o)
theorem RowB.drew (h : RowB w g l) : RowB w.drew g l := h.ext (Ext.refl _).drew
theorem RowB.other {a : Addr} {u : Value} (hn : a.block ≠ g) (h : RowB w g l) : RowB (w.setCell a u) g l :=
  h.but (But.set_ (.inr rfl) u (But.refl a.block w)) (Ne.symm hn)
theorem RowB.new (hg : g = w.heap.size) (t : TypeId) (A : Array Value) (hA : A = (bv l).toArray) (hl : l.length = 64) : RowB (w.alloc (.cells A t)) g l := by
  subst hg; subst hA
  have hb := heap_alloc_new w (.cells (bv l).toArray t)
  refine ⟨hl, fun j v hv => ?_, fun j => frozen_of_row _ _ _ _ t hb, by simp⟩
  rw [cell_of_row _ _ _ _ t (0, 0) hb, Nat.zero_add]
  simpa using hv
theorem RowB.cell (h : RowB w g l) (j : Nat) (hj : j < 64) : w.cell? ⟨g, j, none⟩ = some (.int .u8 ((l[j]'(by rw [h.len]; exact hj) : Nat) : Int)) := by
  have := h.cells j (.int .u8 ((l[j]'(by rw [h.len]; exact hj) : Nat) : Int)) (by simp [bv, h.len, hj])
  rwa [Nat.zero_add] at this
theorem RowB.at_ (h : RowB w g l) : At w g 0 (bv l) := .of_get fun j v hv => h.cells j v hv
theorem RowB.set (h : RowB w g l) (j m : Nat) (hj : j < 64) : RowB (w.setCell ⟨g, j, none⟩ (.int .u8 (m : Int))) g (l.set j m) := by
  have hk : But g w (w.setCell ⟨g, j, none⟩ (.int .u8 (m : Int))) := But.set_ (p := ⟨g, j, none⟩) (.inr rfl) _ (But.refl g w)
  refine ⟨by simp [h.len], fun i v hv => ?_, fun i => ?_, Nat.lt_of_lt_of_le h.lt hk.size⟩
  · have hi : i < 64 := by
      have := (List.getElem?_eq_some_iff.1 hv).1
      simpa [bv, h.len] using this
    have c0 := h.cell j hj
    have ci := h.cell i hi
    have h0 : (0 : Nat) + i = i := Nat.zero_add i
    rw [h0]
    by_cases hij : i = j
    · subst hij
      have e : v = .int .u8 (m : Int) := by simp [bv, h.len, hi] at hv; exact hv.symm
      subst e
      go_simp
    · have e : v = .int .u8 ((l[i]'(by rw [h.len]; exact hi) : Nat) : Int) := by simp [bv, h.len, hi, List.getElem?_set, Ne.symm hij] at hv; exact hv.symm
      subst e
      go_simp
  · have := h.free i
    simp [this]
end

section
variable {w : World} {ops : Array Oper} {rest : List Oper} {o : Oper} {a : Act} {Q : Exit → Act → World → Prop} {g : Nat} {l : List Nat}
theorem wpList_load30 (hgd : o.guard = none) (x : Operand) (ho : o.op = .load 30 x) (hx : a.eval x = .pointer (some ⟨g, 0, none⟩)) (hr : RowB w g l)
    (h : wpList Tryd.prog ops Q rest (a.put o.dst (.agg (bv l).toArray)) w) : wpList Tryd.prog ops Q (o :: rest) a w :=
  wpList_load_mid hgd _ x ho g 0 hx (bv l) _ hr.cells Tryd.underlying30 rfl (by rw [size30, bv_length, hr.len]) h
theorem wpList_load32 (hgd : o.guard = none) (x : Operand) (ho : o.op = .load 32 x) (hx : a.eval x = .pointer (some ⟨g, 0, none⟩)) (hr : RowB w g l)
    (h : wpList Tryd.prog ops Q rest (a.put o.dst (.agg (bv l).toArray)) w) : wpList Tryd.prog ops Q (o :: rest) a w :=
  wpList_load_mid hgd _ x ho g 0 hx (bv l) _ hr.cells Tryd.underlying32 rfl (by rw [size32, bv_length, hr.len]) h
theorem wpList_store32 {l' : List Nat} (hgd : o.guard = none) (x y : Operand) (ho : o.op = .store 32 x y) (hx : a.eval x = .pointer (some ⟨g, 0, none⟩)) (hy : a.eval y = .agg (bv l').toArray) (hl' : l'.length = 64) (hr : RowB w g l)
    (h : ∀ w', RowB w' g l' → But g w w' → wpList Tryd.prog ops Q rest (a.put o.dst undef) w') : wpList Tryd.prog ops Q (o :: rest) a w := by
  have hlen : (bv l').length = 64 := by rw [bv_length, hl']
  have hth : w.there g 0 (bv l').length := fun j hj => by
    rw [Nat.zero_add]
    exact ⟨by rw [hr.cell j (by omega)]; rfl, hr.free j⟩
  have hk : ∀ (vs : List Value) (o : Nat) (w : World), But g w (w.setCells g o vs) := by
    intro vs
    induction vs with
    | nil => intro o w; exact But.refl g w
    | cons v vs ih => intro o w; exact (But.set_ (p := ⟨g, o, none⟩) (.inr rfl) v (But.refl g w)).trans (ih _ _)
  refine wpList_store_mid hgd _ x y ho g 0 (bv l').toArray hx hy (by simpa using hth) (by rw [size32]; simp [hlen]) (by simpa using all_oneCell_toArray (bv_one l')) ?_
  refine h _ ⟨hl', ?_, ?_, Nat.lt_of_lt_of_le hr.lt (hk _ _ _).size⟩ (hk _ _ _)
  · exact World.rangeAt_setCells_same w g 0 (bv l') hth
  · intro j
    rw [World.frozen?_setCells]; exact hr.free j
end

theorem index30 (A : Array Value) (i m : Nat) (hi : i < 64) (h : A[i]? = some (.int .u8 (m : Int))) (w : World) :
    (Instr.index 30 (.agg A) (.int .i64 (i : Int))).run Tryd.prog w = .ok (.int .u8 (m : Int)) w := by
  have h1 : (0 : Int) ≤ (i : Int) ∧ (i : Int) < 64 := by omega
  have h2 : (Tryd.prog.info? 5).map (·.size) = some 1 := by kernel_rfl
  obtain ⟨f, hf1, hf2⟩ := Option.map_eq_some_iff.1 h2
  simp [Instr.index, run_underlying Tryd.underlying30, run_underlying Tryd.underlying5, asIntOf, h1, part, isAgg, sizeOf, typeInfo, hf1, hf2, h]
  intro h3; omega

def rightR (l : List Nat) : Bool := l.all fun m => decide (m ≤ 59)
set_option maxRecDepth 100000 in
set_option maxHeartbeats 1000000 in
theorem hright_of (l : List Nat) (w : World) (hl : l.length = 64) (hb : ∀ b ∈ l, b < 256) :
    Calls Tryd.prog 9 #[.agg (bv l).toArray] w fun e w' => e = .returned (.bool (rightR l)) ∧ Ext w w' := by
  have hrow := RowB.new (w := w) rfl 32 _ rfl hl
  have HR := Lib.hid hrow; clear hrow
  go_enter Tryd.func9, Tryd.ntmps9
  go_wp2_with (refine wpList_load30 rfl _ rfl rfl HR.out ?_)
  go_loopw [7] (fun a wr => ∃ i : Nat, a = .int .i64 (i : Int) ∧ i ≤ 64 ∧ (∀ j (hj : j < i) (hl : j < l.length), l[j] ≤ 59) ∧ Ext w wr) (fun a _ => 64 - (intOf a).toNat)
  case atStart => exact ⟨0, rfl, by omega, fun j hj => absurd hj (by omega), by repeat (first | (with_reducible exact Ext.refl _) | (with_reducible refine Ext.set_ ?_ _ ?_; focus (first | (simp; done) | (simp; omega) | (simp at *; omega))) | (with_reducible refine Ext.alloc ?_ _) | (with_reducible refine Ext.drew ?_) | (with_reducible refine Ext.drewN ?_ _) | (with_reducible refine Ext.trans ?_ (by assumption)))⟩
  case round =>
    rename_i hrel
    obtain ⟨i, rfl, hi, hall, hE⟩ := hrel
    have HALL := Lib.hid hall; clear hall
    by_cases hlt : i < 64
    · have hlt' : (i : Int) < 64 := by omega
      have hix : i < l.length := by omega
      have hw : wrap64 ((i : Int) + 1) = (i : Int) + 1 := by unfold wrap64; omega
      have hcell : (bv l).toArray[i]? = some (.int .u8 ((l[i] : Nat) : Int)) := by simp [bv, hix]
      have hby := hb l[i] (List.getElem_mem hix)
      obtain ⟨m, hm⟩ : ∃ m, m = l[i] := ⟨_, rfl⟩
      rw [← hm] at hcell hby
      have HM := Lib.hid hm; clear hm
      have hidx := index30 _ i m hlt hcell
      generalize (bv l).toArray = A at *
      by_cases h59 : m ≤ 59
      · have h59' : ¬ ((59 : Int) < (m : Int)) := by omega
        go_wp2
        refine ⟨⟨i + 1, by simp, by omega, fun j hj hl => ?_, hE⟩, by simp [intOf]; omega⟩
        rcases Nat.lt_succ_iff_lt_or_eq.1 hj with h | rfl
        · exact HALL.out j h hl
        · rw [← HM.out]; exact h59
      · have h59' : (59 : Int) < (m : Int) := by omega
        have hR : rightR l = false := by
          unfold rightR
          rw [List.all_eq_false]
          exact ⟨l[i], List.getElem_mem hix, by rw [← HM.out]; simpa using h59⟩
        go_wp2
        go_ret
        exact ⟨by rw [hR]; rfl, hE⟩
    · have hlt' : ¬ ((i : Int) < 64) := by omega
      have hR : rightR l = true := by
        unfold rightR
        rw [List.all_eq_true]
        intro x hx
        obtain ⟨j, hj, rfl⟩ := List.getElem_of_mem hx
        simpa using HALL.out j (by omega) hj
      go_wp2
      go_ret
      exact ⟨rfl, hE⟩
end Go.Proofs.YtlcdjaclahhdnaaDoor
