/- The call of hll.Merge. -/
import Derived.Test.YtlcdjaclahhdnaaDoorHll
namespace Go.Proofs.YtlcdjaclahhdnaaDoor
open Go.RowKit
set_option linter.unusedSimpArgs false
set_option linter.unusedVariables false

def mergeR (a b : List Nat) : List Nat := List.zipWith max a b
theorem mergeR_length {a b : List Nat} (ha : a.length = 64) (hb : b.length = 64) : (mergeR a b).length = 64 := by simp [mergeR, ha, hb]
/-- The first i registers merged. -/
def mergeTo (a b : List Nat) (i : Nat) : List Nat := (mergeR a b).take i ++ a.drop i
theorem mergeTo_length {a b : List Nat} {i : Nat} (ha : a.length = 64) (hb : b.length = 64) (hi : i ≤ 64) : (mergeTo a b i).length = 64 := by
  simp [mergeTo, mergeR_length ha hb, ha]; omega
theorem mergeTo_set {a b : List Nat} {i : Nat} (ha : a.length = 64) (hb : b.length = 64) (hi : i < 64) :
    (mergeTo a b i).set i (max (a[i]'(by omega)) (b[i]'(by omega))) = mergeTo a b (i + 1) := by
  have hm := mergeR_length ha hb
  apply List.ext_getElem
  · simp [mergeTo_length ha hb (Nat.le_of_lt hi), mergeTo_length ha hb hi]
  · intro j h1 h2
    rw [mergeTo_length ha hb hi] at h2
    rw [List.getElem_set]
    simp only [mergeTo, List.getElem_append, List.length_take, hm, List.getElem_take, List.getElem_drop]
    by_cases hij : i = j
    · subst hij
      rw [if_pos rfl, dif_pos (by omega)]
      simp [mergeR]
    · rw [if_neg hij]
      by_cases hlt : j < i
      · rw [dif_pos (by omega), dif_pos (by omega)]
      · rw [dif_neg (by omega), dif_neg (by omega)]
        congr 1; omega
theorem mergeTo_get {a b : List Nat} {i : Nat} (ha : a.length = 64) (hb : b.length = 64) (hi : i < 64) : (mergeTo a b i)[i]'(by rw [mergeTo_length ha hb (Nat.le_of_lt hi)]; exact hi) = a[i]'(by omega) := by
  have hm := mergeR_length ha hb
  simp only [mergeTo, List.getElem_append, List.length_take, hm, List.getElem_drop]
  rw [dif_neg (by omega)]
  congr 1; omega

set_option maxRecDepth 100000 in
set_option maxHeartbeats 2000000 in
theorem merge_of (a b : List Nat) (w : World) (ha : a.length = 64) (hb : b.length = 64) (hab : ∀ x ∈ a, x < 256) (hbb : ∀ x ∈ b, x < 256) :
    Calls Tryd.prog 8 #[.agg (bv a).toArray, .agg (bv b).toArray] w fun e w' => e = .returned (.agg (bv (mergeR a b)).toArray) ∧ Ext w w' := by
  have h0 := Lib.hid (RowB.new (w := w) rfl 32 _ rfl ha)
  have h1 := Lib.hid (RowB.new (w := w.alloc (.cells (bv a).toArray 32)) (g := w.heap.size + 1) (by simp) 32 _ rfl hb)
  go_enter Tryd.func8, Tryd.ntmps8
  go_wp2_with (refine wpList_load30 rfl _ rfl rfl (h1.out.alloc _) ?_)
  go_loopw [9] (fun x wr => ∃ i : Nat, x = .int .i64 (i : Int) ∧ i ≤ 64 ∧ RowB wr w.heap.size (mergeTo a b i) ∧ (∃ z, RowB wr (w.heap.size + 1 + 1) z) ∧ Ext w wr) (fun x _ => 64 - (intOf x).toNat)
  case atStart => exact ⟨0, rfl, by omega, by simpa [mergeTo] using (h0.out.alloc _).alloc _, ⟨List.replicate 64 0, RowB.new (by simp) _ _ rfl (by decide)⟩, by repeat (first | (with_reducible exact Ext.refl _) | (with_reducible refine Ext.set_ ?_ _ ?_; focus (first | (simp; done) | (simp; omega) | (simp at *; omega))) | (with_reducible refine Ext.alloc ?_ _) | (with_reducible refine Ext.drew ?_) | (with_reducible refine Ext.drewN ?_ _) | (with_reducible refine Ext.trans ?_ (by assumption)))⟩
  case round =>
    rename_i hrel
    obtain ⟨i, rfl, hi, hrow, ⟨z, hz⟩, hE⟩ := hrel
    by_cases hlt : i < 64
    · have hlt' : (i : Int) < 64 := by omega
      have hw : wrap64 ((i : Int) + 1) = (i : Int) + 1 := by unfold wrap64; omega
      have hcell := hrow.cell i hlt
      have hfr := hrow.free i
      have hg := hrow.lt
      rw [mergeTo_get ha hb hlt] at hcell
      have hset := Lib.hid (fun (x : Nat) => hrow.set i x hlt)
      have hms := Lib.hid (mergeTo_set ha hb hlt)
      have hca := hab a[i] (List.getElem_mem _)
      have hcb := hbb b[i] (List.getElem_mem _)
      have hidx := index30 (bv b).toArray i b[i] hlt (by simp [bv, hb, hlt])
      generalize a[i] = p at *
      generalize b[i] = q at *
      have HZ := Lib.hid hz; have HROW := Lib.hid hrow
      generalize (bv b).toArray = A at *
      clear hrow hz
      go_wp2
      have e : (if p < q then (q : Int) else (p : Int)) = ((max p q : Nat) : Int) := by split <;> omega
      rw [e]
      refine ⟨⟨i + 1, by simp, by omega, ?_, ⟨z, HZ.out.other (by simp; omega)⟩, by repeat (first | (with_reducible exact Ext.refl _) | (with_reducible refine Ext.set_ ?_ _ ?_; focus (first | (simp; done) | (simp; omega) | (simp at *; omega))) | (with_reducible refine Ext.alloc ?_ _) | (with_reducible refine Ext.drew ?_) | (with_reducible refine Ext.drewN ?_ _) | (with_reducible refine Ext.trans ?_ (by assumption)))⟩, by simp [intOf]; omega⟩
      rw [← hms.out]; exact hset.out _
    · have hlt' : ¬ ((i : Int) < 64) := by omega
      obtain rfl : i = 64 := by omega
      have hm : mergeTo a b 64 = mergeR a b := by
        unfold mergeTo
        rw [List.take_of_length_le (by rw [mergeR_length ha hb]; omega), List.drop_of_length_le (by omega), List.append_nil]
      rw [hm] at hrow
      have HZ := Lib.hid hz; have HROW := Lib.hid hrow
      have hml := mergeR_length ha hb
      clear hrow hz
      go_wp2_with (first
        | (refine wpList_load32 rfl _ rfl rfl HROW.out ?_)
        | (refine wpList_store32 rfl _ _ rfl rfl rfl hml HZ.out ?_; intro w' hr' hb'))
      have hr := hr'.at_
      refine back_cell rfl (bv (mergeR a b)) rfl (by rw [bv_length, hml]; exact agg32) rfl hr ⟨rfl, ?_⟩
      exact But.to_ext hE hb' (by omega)
end Go.Proofs.YtlcdjaclahhdnaaDoor
