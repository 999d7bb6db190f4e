/- Two sketches compared. -/
import Derived.Test.YtlcdjaclahhdnaaDoorHll4
import Derived.Stop.BytesEq
import Derived.Laws.StructEq
namespace Go.Proofs.YtlcdjaclahhdnaaDoor
open Go.RowKit
set_option linter.unusedSimpArgs false
set_option linter.unusedVariables false

theorem bv_cell {l : List Nat} (h : ∀ x ∈ l, x < 256) : bv l = (l.map UInt8.ofNat).map Extern.Stop.cell := by
  unfold bv
  rw [List.map_map]
  refine List.map_congr_left fun x hx => ?_
  have := h x hx
  simp [Extern.Stop.cell, Nat.mod_eq_of_lt this]
theorem ofNat_beq {l m : List Nat} (hl : ∀ x ∈ l, x < 256) (hm : ∀ x ∈ m, x < 256) : (l.map UInt8.ofNat == m.map UInt8.ofNat) = decide (l = m) := by
  have h1 : ∀ (l : List Nat), (∀ x ∈ l, x < 256) → (l.map UInt8.ofNat).map UInt8.toNat = l := fun l h => by
    rw [List.map_map]
    conv => rhs; rw [← List.map_id l]
    refine List.map_congr_left fun x hx => ?_
    have := h x hx
    simp [Nat.mod_eq_of_lt this]
  rw [Bool.eq_iff_iff]
  simp only [beq_iff_eq, decide_eq_true_eq]
  exact ⟨fun h => by rw [← h1 l hl, ← h1 m hm, h], fun h => by rw [h]⟩
theorem size5 : ∀ w, (sizeOf 5).run Tryd.prog w = .ok 1 w := fun w => by
  have h2 : (Tryd.prog.info? 5).map (·.size) = some 1 := by kernel_rfl
  obtain ⟨f, hf1, hf2⟩ := Option.map_eq_some_iff.1 h2
  simp [sizeOf, typeInfo, hf1, hf2]
theorem part30 (k : List Nat) (hk : k.length = 64) (w : World) : (part 30 (bv k).toArray 0).run Tryd.prog w = .ok (.agg (bv k).toArray) w := by
  obtain ⟨i, hi1, hi2⟩ := Option.map_eq_some_iff.1 size30
  have ht : (bv k).take 64 = bv k := List.take_of_length_le (by rw [bv_length, hk]; omega)
  simp [part, isAgg, run_underlying Tryd.underlying30, sizeOf, typeInfo, hi1, hi2, ht]
theorem st32 : Tryd.prog.stoodInHeld 32 = false := by kernel_rfl
section
variable {l m : List Nat} (hl : l.length = 64) (hm : m.length = 64) (hlb : ∀ x ∈ l, x < 256) (hmb : ∀ x ∈ m, x < 256) (w : World)
include hl hm hlb hmb
theorem eqIn30 (d : Nat) : (Op.equalIn (d + 2) 30 (.agg (bv l).toArray) (.agg (bv m).toArray)).run Tryd.prog w = .ok (decide (l = m)) w := by
  rw [bv_cell hlb, bv_cell hmb, run_equalIn_bytes w d 30 5 64 Tryd.underlying30 Tryd.underlying5 size5 _ _ (by simp [hl]) (by simp [hm]), ofNat_beq hlb hmb]
theorem eqIn32 : (Op.equalIn 10000 32 (.agg (bv l).toArray) (.agg (bv m).toArray)).run Tryd.prog w = .ok (decide (l = m)) w := by
  have hf : (Tryd.prog.fieldsOf 32).toList.map (fun f => (f.name, f.type, f.offset)) = [("Regs", 30, 0)] := by kernel_rfl
  rw [run_equalIn_struct w 9999 32 _ _ (by kernel_rfl) st32]
  generalize (Tryd.prog.fieldsOf 32).toList = fs at hf
  obtain ⟨f, rfl⟩ : ∃ f, fs = [f] := by
    rcases fs with _ | ⟨f, _ | ⟨g, fs⟩⟩
    · simp at hf
    · exact ⟨f, rfl⟩
    · simp at hf
  simp only [List.map_cons, List.map_nil, List.cons.injEq, Prod.mk.injEq, and_true] at hf
  obtain ⟨h1, h2, h3⟩ := hf
  have hne : f.name ≠ "_" := by rw [h1]; decide
  rw [Op.eqFields, if_pos hne, h2, h3]
  simp only [Sem.run_bind, part30 l hl, part30 m hm, Result.andThen_ok]
  rw [eqIn30 hl hm hlb hmb w 9997]
  cases decide (l = m) <;> simp [Op.eqFields]
theorem eql32 : (binOp .eql 32 (.agg (bv l).toArray) (.agg (bv m).toArray)).run Tryd.prog w = .ok (.bool (decide (l = m))) w := by
  rw [run_eql_struct, eqIn32 hl hm hlb hmb]; rfl
theorem neq32 : (binOp .neq 32 (.agg (bv l).toArray) (.agg (bv m).toArray)).run Tryd.prog w = .ok (.bool (!decide (l = m))) w := by
  rw [run_neq_struct, eqIn32 hl hm hlb hmb]; rfl
theorem neq30 : (binOp .neq 30 (.agg (bv l).toArray) (.agg (bv m).toArray)).run Tryd.prog w = .ok (.bool (!decide (l = m))) w := by
  rw [run_neq_struct, eqIn30 hl hm hlb hmb w 9998]; rfl
end
end Go.Proofs.YtlcdjaclahhdnaaDoor
