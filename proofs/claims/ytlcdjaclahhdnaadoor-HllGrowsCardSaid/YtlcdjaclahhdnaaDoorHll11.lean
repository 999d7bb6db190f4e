/- The plain law of sketches: a register is the greatest rank of those values that fall on it. -/
import Derived.Test.YtlcdjaclahhdnaaDoorHll10
namespace Go.Proofs.YtlcdjaclahhdnaaDoor
open Go.RowKit
set_option linter.unusedSimpArgs false
set_option linter.unusedVariables false

theorem zeros64_getD (j : Nat) : zeros64.getD j 0 = 0 := by
  rw [← zeros64_eq, List.getD_eq_getElem?_getD, List.getElem?_replicate]
  split <;> rfl
theorem addR_getD (r : List Nat) (v : Val) (hr : r.length = 64) (j : Nat) : (addR r v).getD j 0 = if atV v = j then max (r.getD j 0) (rankV v) else r.getD j 0 := by
  have hlt := atV_lt v
  unfold addR raise
  simp only [List.getD_eq_getElem?_getD, List.getElem?_set]
  by_cases h : atV v = j
  · subst h
    rw [if_pos rfl, if_pos rfl, if_pos (by omega)]; rfl
  · rw [if_neg h, if_neg h]
theorem fold_le (l : List Val) : ∀ r : List Nat, r.length = 64 → ∀ j m, ((l.foldl addR r).getD j 0 ≤ m ↔ r.getD j 0 ≤ m ∧ ∀ v ∈ l, atV v = j → rankV v ≤ m) := by
  induction l with
  | nil => intro r hr j m; simp
  | cons v l ih =>
    intro r hr j m
    rw [List.foldl_cons, ih _ ((addR_length r v).trans hr), addR_getD r v hr]
    simp only [List.mem_cons, forall_eq_or_imp]
    split
    · rename_i h
      constructor
      · rintro ⟨h1, h2⟩; exact ⟨by omega, fun _ => by omega, h2⟩
      · rintro ⟨h1, h2, h3⟩; exact ⟨by have := h2 h; omega, h3⟩
    · rename_i h
      constructor
      · rintro ⟨h1, h2⟩; exact ⟨h1, fun e => absurd e h, h2⟩
      · rintro ⟨h1, h2, h3⟩; exact ⟨h1, h3⟩
theorem sketchOf_le (l : List Val) (j m : Nat) : (sketchOf l).getD j 0 ≤ m ↔ ∀ v ∈ l, atV v = j → rankV v ≤ m := by
  unfold sketchOf
  rw [fold_le l _ zeros64_len, zeros64_getD]
  exact ⟨fun h => h.2, fun h => ⟨Nat.zero_le _, h⟩⟩
theorem row_eq {a b : List Nat} (ha : a.length = 64) (hb : b.length = 64) (h : ∀ j, a.getD j 0 = b.getD j 0) : a = b := by
  apply List.ext_getElem (ha.trans hb.symm)
  intro j h1 h2
  have := h j
  simpa [List.getD_eq_getElem?_getD, h1, h2] using this
theorem row_eq_le {a b : List Nat} (ha : a.length = 64) (hb : b.length = 64) (h : ∀ j m, a.getD j 0 ≤ m ↔ b.getD j 0 ≤ m) : a = b :=
  row_eq ha hb fun j => Nat.le_antisymm ((h j _).2 (Nat.le_refl _)) ((h j _).1 (Nat.le_refl _))
theorem mergeR_getD {a b : List Nat} (ha : a.length = 64) (hb : b.length = 64) (j : Nat) : (mergeR a b).getD j 0 = max (a.getD j 0) (b.getD j 0) := by
  unfold mergeR
  simp only [List.getD_eq_getElem?_getD, List.getElem?_zipWith]
  by_cases h : j < 64
  · simp [ha, hb, h]
  · rw [List.getElem?_eq_none (by omega), List.getElem?_eq_none (by omega)]; rfl
theorem merge_sketch (a b : List Val) : mergeR (sketchOf a) (sketchOf b) = sketchOf (a ++ b) := by
  refine row_eq_le (mergeR_length (sketchOf_len a) (sketchOf_len b)) (sketchOf_len _) fun j m => ?_
  rw [mergeR_getD (sketchOf_len a) (sketchOf_len b), sketchOf_le, Nat.max_le, sketchOf_le, sketchOf_le]
  constructor
  · rintro ⟨h1, h2⟩ v hv
    rcases List.mem_append.1 hv with h | h
    · exact h1 v h
    · exact h2 v h
  · exact fun h => ⟨fun v hv => h v (List.mem_append_left _ hv), fun v hv => h v (List.mem_append_right _ hv)⟩
theorem merge_comm {a b : List Nat} : mergeR a b = mergeR b a := by
  unfold mergeR
  rw [List.zipWith_comm]
  congr 1; funext x y; exact Nat.max_comm _ _
theorem merge_self (a : List Nat) : mergeR a a = a := by
  unfold mergeR
  induction a with
  | nil => rfl
  | cons x a ih => rw [List.zipWith_cons_cons, ih, Nat.max_self]
theorem sketch_right (l : List Val) : rightR (sketchOf l) = true := by
  unfold rightR
  rw [List.all_eq_true]
  intro x hx
  obtain ⟨j, hj, rfl⟩ := List.getElem_of_mem hx
  have h := (sketchOf_le l j 59).2 (fun v _ _ => rankV_le v)
  simpa [List.getD_eq_getElem?_getD, hj] using h
theorem hashV_plain {v : Val} (hv : v.Ok) : hashV v.plain = hashV v := by
  unfold hashV
  have : putV v.plain = putV v := by unfold putV; rw [(Val.plain_flat hv).plain]
  rw [this]
theorem sketch_again (a lv : List Val) (ok : ∀ v ∈ a, v.Ok) (h : ∀ v ∈ lv, v ∈ a) : sketchOf (lv ++ (a.map Val.plain).reverse) = sketchOf a := by
  refine row_eq_le (sketchOf_len _) (sketchOf_len _) fun j m => ?_
  rw [sketchOf_le, sketchOf_le]
  constructor
  · intro hh v hv
    have := hh v.plain (List.mem_append_right _ (List.mem_reverse.2 (List.mem_map_of_mem hv)))
    have e := hashV_plain (ok v hv)
    have e1 : atV v.plain = atV v := by unfold atV; rw [e]
    have e2 : rankV v.plain = rankV v := by unfold rankV; rw [e]
    rwa [e1, e2] at this
  · intro hh v hv
    rcases List.mem_append.1 hv with h1 | h1
    · exact hh v (h v h1)
    · obtain ⟨u, hu, rfl⟩ := List.mem_map.1 (List.mem_reverse.1 h1)
      have e := hashV_plain (ok u hu)
      have e1 : atV u.plain = atV u := by unfold atV; rw [e]
      have e2 : rankV u.plain = rankV u := by unfold rankV; rw [e]
      rw [e1, e2]; exact hh u hu
end Go.Proofs.YtlcdjaclahhdnaaDoor
