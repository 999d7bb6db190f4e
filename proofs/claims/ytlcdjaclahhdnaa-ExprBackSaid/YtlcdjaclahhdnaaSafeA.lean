/- AccessSafe in plain data: where a condition may not be true in a stretch, it is true of no row there, and refused of none. The example of layer 26, as plain data. The call of access.Scan, tuples of 1, the row at 0. Printed by wip/tools/gen_scan.py. The call of tabularylaw26.works. Printed by wip/tools/gen_w26.py. The calls of tabularyref22.Bulk and tabularyref05.Bulk: what a small number tells. The calls of tabularyref05.Bulk, tabularylaw22.Great. The call of the law AccessSafe: true, whatever the rows, the relation and the condition. Printed by wip/tools/gen_safe.py. -/
import Derived.Test.YtlcdjaclahhdnaaPassA
import Derived.Test.YtlcdjaclahhdnaaLaw4
import Derived.Test.YtlcdjaclahhdnaaWorks4
import Derived.Test.YtlcdjaclahhdnaaW22
import Derived.Test.YtlcdjaclahhdnaaEx3
import Derived.Test.YtlcdjaclahhdnaaVals
import Derived.Test.YtlcdjaclahhdnaaEv
namespace Go.Proofs.Ytlcdjaclahhdnaa
open Go.RowKit
set_option linter.unusedSimpArgs false
set_option linter.unusedVariables false

theorem cmp_ord : Ord3 Val.cmp :=
  ⟨fun a => vcmp_ord.refl a.plain, fun a b => vcmp_ord.anti a.plain b.plain, fun a b c h k => vcmp_ord.le a.plain b.plain c.plain h k⟩
/-- What a range knows of the values that it has taken. -/
structure RInv (g : Rng) (ws : List Val) : Prop where
  nulls : g.nulls = ((ws.filter fun w => w.kind == 0).length : Int)
  none : g.kind = 0 → ∀ w ∈ ws, w.kind = 0
  some : 0 < g.kind → ∀ w ∈ ws, w.kind = 0 ∨ (w.kind = g.kind ∧ g.low.cmp w ≤ 0 ∧ w.cmp g.high ≤ 0)
  le : 0 < g.kind → g.low.cmp g.high ≤ 0
theorem RInv.zero : RInv Rng.zero [] := ⟨rfl, by simp, by simp, fun h => by simp [Rng.zero] at h⟩
theorem RInv.widen {g : Rng} {ws : List Val} (h : RInv g ws) (v : Val) : RInv (g.widen v) (ws ++ [v]) := by
  unfold Rng.widen
  by_cases h0 : v.kind = 0
  · rw [if_pos h0]
    refine ⟨?_, fun hk w hw => ?_, fun hk w hw => ?_, h.le⟩
    · rw [h.nulls]; simp [h0]
    · rcases List.mem_append.1 hw with hw | hw
      · exact h.none hk w hw
      · simp only [List.mem_singleton] at hw; subst hw; exact h0
    · rcases List.mem_append.1 hw with hw | hw
      · exact h.some hk w hw
      · simp only [List.mem_singleton] at hw; subst hw; exact .inl h0
  · rw [if_neg h0]
    have hn : ((ws ++ [v]).filter fun w => w.kind == 0).length = (ws.filter fun w => w.kind == 0).length := by simp [h0]
    by_cases h1 : g.kind = 0
    · rw [if_pos h1]
      refine ⟨by rw [hn]; exact h.nulls, fun hk => absurd hk h0, fun hk w hw => ?_, fun _ => by rw [cmp_ord.refl]; omega⟩
      rcases List.mem_append.1 hw with hw | hw
      · exact .inl (h.none h1 w hw)
      · simp only [List.mem_singleton] at hw; subst hw
        have := cmp_ord.refl w
        exact .inr ⟨rfl, by show w.cmp w ≤ 0; omega, by show w.cmp w ≤ 0; omega⟩
    · rw [if_neg h1]
      by_cases h2 : g.kind ≠ v.kind
      · rw [if_pos h2]
        exact ⟨by rw [hn]; exact h.nulls, fun hk => by simp at hk, fun hk => by simp at hk, fun hk => by simp at hk⟩
      · rw [if_neg h2]
        have h2' : g.kind = v.kind := Decidable.not_not.1 h2
        have ha := cmp_ord.anti v g.low
        have hb := cmp_ord.anti v g.high
        by_cases h3 : v.cmp g.low < 0
        · rw [if_pos h3]
          refine ⟨by rw [hn]; exact h.nulls, fun hk => absurd hk h1, fun hk w hw => ?_, fun hk => cmp_ord.le v g.low g.high (by omega) (h.le hk)⟩
          rcases List.mem_append.1 hw with hw | hw
          · rcases h.some hk w hw with h5 | ⟨h5, h6, h7⟩
            · exact .inl h5
            · exact .inr ⟨h5, cmp_ord.le v g.low w (by omega) h6, h7⟩
          · simp only [List.mem_singleton] at hw; subst hw
            exact .inr ⟨h2'.symm, by rw [cmp_ord.refl]; omega, cmp_ord.le w g.low g.high (by omega) (h.le hk)⟩
        · rw [if_neg h3]
          by_cases h4 : 0 < v.cmp g.high
          · rw [if_pos h4]
            refine ⟨by rw [hn]; exact h.nulls, fun hk => absurd hk h1, fun hk w hw => ?_, fun hk => cmp_ord.le g.low g.high v (h.le hk) (by omega)⟩
            rcases List.mem_append.1 hw with hw | hw
            · rcases h.some hk w hw with h5 | ⟨h5, h6, h7⟩
              · exact .inl h5
              · exact .inr ⟨h5, h6, cmp_ord.le w g.high v h7 (by omega)⟩
            · simp only [List.mem_singleton] at hw; subst hw
              exact .inr ⟨h2'.symm, cmp_ord.le g.low g.high w (h.le hk) (by omega), by show w.cmp w ≤ 0; rw [cmp_ord.refl]; omega⟩
          · rw [if_neg h4]
            refine ⟨by rw [hn]; exact h.nulls, fun hk => absurd hk h1, fun hk w hw => ?_, h.le⟩
            rcases List.mem_append.1 hw with hw | hw
            · exact h.some hk w hw
            · simp only [List.mem_singleton] at hw; subst hw
              exact .inr ⟨h2'.symm, by omega, by omega⟩
theorem rinv_fold (i : Nat) : ∀ (l : List (List Val)) (g : Rng) (ws : List Val), RInv g ws → RInv (l.foldl (fun g r => g.widen (atV r i)) g) (ws ++ l.map (fun r => atV r i))
  | [], g, ws, h => by simpa using h
  | r :: l, g, ws, h => by
    have := rinv_fold i l _ _ (h.widen (atV r i))
    simpa using this
theorem rinv (cr : List (List Val)) (i : Nat) : RInv (rgAt cr i) (cr.map fun r => atV r i) := by
  have := rinv_fold i cr _ _ RInv.zero
  simpa [rgAt] using this
/-- The value that an expression reads in a row. -/
def luk (r : List Val) (i : Nat) : Val := match r[i]? with | some v => if v.right = true then v else Val.null | none => Val.null
theorem luk_right (r : List Val) (i : Nat) : (luk r i).right = true := by
  unfold luk
  split
  · split
    · assumption
    · exact fine_null
  · exact fine_null
theorem null_plain : Val.null.plain = Val.null := by unfold Val.plain; rw [if_pos fine_null]; rfl
theorem luk_plain (r : List Val) (i : Nat) : (luk r i).plain = atV r i := by
  unfold luk atV
  cases r[i]? with
  | none => exact null_plain
  | some v =>
    dsimp only
    by_cases h : v.right = true
    · rw [if_pos h]
    · rw [if_neg h, null_plain]
      unfold Val.plain; rw [if_neg h]
theorem kind_plain {v : Val} (h : v.right = true) : v.plain.kind = v.kind := by
  unfold Val.plain; rw [if_pos h]; split <;> rfl
theorem luk_kind (r : List Val) (i : Nat) : (atV r i).kind = (luk r i).kind := by rw [← luk_plain, kind_plain (luk_right r i)]
theorem luk_ok {r : List Val} (h : ∀ v ∈ r, v.Ok) (i : Nat) : (luk r i).Ok := by
  unfold luk
  cases hr : r[i]? with
  | none => exact Val.null_ok
  | some v =>
    dsimp only
    split
    · exact h v (List.mem_of_getElem? hr)
    · exact Val.null_ok
theorem luk_cmp {r : List Val} (h : ∀ v ∈ r, v.Ok) (i : Nat) (v : Val) : (luk r i).cmp v = (atV r i).cmp v := by
  rw [cmp_vcmp, cmp_vcmp, ← luk_plain, (Val.plain_flat (luk_ok h i)).plain]
theorem cmp_luk {r : List Val} (h : ∀ v ∈ r, v.Ok) (i : Nat) (v : Val) : v.cmp (luk r i) = v.cmp (atV r i) := by
  rw [cmp_vcmp, cmp_vcmp, ← luk_plain, (Val.plain_flat (luk_ok h i)).plain]
theorem right_kind {v : Val} (h : v.right = true) : 0 ≤ v.kind := by
  unfold Val.right at h
  by_cases h0 : v.kind = 0
  · omega
  · rw [if_neg h0] at h
    by_cases h1 : v.kind = 1
    · omega
    · rw [if_neg h1] at h
      by_cases h2 : v.kind = 2
      · omega
      · rw [if_neg h2] at h
        by_cases h3 : v.kind = 3
        · omega
        · rw [if_neg h3] at h
          by_cases h4 : v.kind = 4
          · omega
          · rw [if_neg h4] at h; cases h
def NotTrue (q : Val × Int) : Prop := q.2 = 0 ∧ ¬ (q.1.kind = 1 ∧ q.1.int = 1)
theorem truth_not {b : Bool} (h : b = false) : NotTrue (Val.truth b, 0) := ⟨rfl, by subst h; simp [Val.truth]⟩
theorem null_not : NotTrue (Val.null, 0) := ⟨rfl, by simp [Val.null]⟩
/-- What follows where a comparison may not be true. -/
theorem cmpd_facts {k : Int} {cr : List (List Val)} {r : List Val} {i : Nat} {v : Val} {t : Bool} (hr : r ∈ cr) (hv : v.right = true) (hc : cmpd k (rgAt cr i) v t = false) (h1 : ¬ (luk r i).kind = 0) (h2 : ¬ v.kind = 0) :
    (luk r i).kind = v.kind ∧ (rgAt cr i).low.cmp (atV r i) ≤ 0 ∧ (atV r i).cmp (rgAt cr i).high ≤ 0 ∧
      (if k = 7 then (decide ((rgAt cr i).low.cmp v < 1) && decide (-1 < (rgAt cr i).high.cmp v))
        else if k = 8 then (if t = true then decide (0 < (rgAt cr i).high.cmp v) else decide ((rgAt cr i).low.cmp v < 0))
        else (if t = true then decide (-1 < (rgAt cr i).high.cmp v) else decide ((rgAt cr i).low.cmp v < 1))) = false := by
  have hI := rinv cr i
  have hm : atV r i ∈ cr.map fun r => atV r i := List.mem_map.2 ⟨r, hr, rfl⟩
  have hk := luk_kind r i
  unfold cmpd at hc
  rw [if_neg h2] at hc
  by_cases h3 : (rgAt cr i).kind = 0
  · have := hI.none h3 _ hm; omega
  · rw [if_neg h3] at hc
    by_cases h4 : (rgAt cr i).kind ≠ v.kind
    · rw [if_pos h4] at hc; cases hc
    · rw [if_neg h4] at hc
      have h4' : (rgAt cr i).kind = v.kind := Decidable.not_not.1 h4
      have := right_kind hv
      rcases hI.some (by omega) _ hm with h5 | ⟨h5, h6, h7⟩
      · omega
      · exact ⟨by omega, h6, h7, hc⟩
theorem test_low {k : Int} {cr : List (List Val)} {r : List Val} {i : Nat} {v : Val} (h7 : k = 7 ∨ k = 8 ∨ k = 9) (hr : r ∈ cr) (ok : ∀ v ∈ r, v.Ok) (hv : v.right = true) (hc : cmpd k (rgAt cr i) v false = false) : NotTrue (Val.test k (luk r i) v) := by
  unfold Val.test
  rw [if_neg (by omega), if_pos ⟨luk_right r i, hv⟩]
  by_cases h0 : (luk r i).kind = 0 ∨ v.kind = 0
  · rw [if_pos h0]; exact null_not
  · rw [if_neg h0]
    obtain ⟨f1, f2, f3, f4⟩ := cmpd_facts hr hv hc (by omega) (by omega)
    rw [if_pos f1]
    refine truth_not ?_
    rw [luk_cmp ok]
    generalize atV r i = w at *
    generalize (rgAt cr i).low = lo at *
    generalize (rgAt cr i).high = hi at *
    have a1 := cmp_ord.anti w v; have a2 := cmp_ord.anti lo v; have a3 := cmp_ord.anti hi v
    have t1 := cmp_ord.le lo w v f2
    have t2 := cmp_ord.le v lo w
    have t3 := cmp_ord.le w hi v f3
    have t4 := fun h => cmp_ord.le v w hi h f3
    rcases h7 with rfl | rfl | rfl
    · simp only [if_true, Bool.and_eq_false_iff, decide_eq_false_iff_not] at f4 ⊢
      by_cases h : w.cmp v = 0
      · have := t1 (by omega)
        have := t4 (by omega)
        omega
      · simpa using h
    · simp at f4 ⊢
      by_cases h : w.cmp v < 0
      · have := t1 (by omega)
        have := t2 (by omega) f2
        omega
      · omega
    · simp at f4 ⊢
      by_cases h : w.cmp v ≤ 0
      · have := t1 h
        omega
      · omega
theorem test_high {k : Int} {cr : List (List Val)} {r : List Val} {i : Nat} {v : Val} (h7 : k = 7 ∨ k = 8 ∨ k = 9) (hr : r ∈ cr) (ok : ∀ v ∈ r, v.Ok) (hv : v.right = true) (hc : cmpd k (rgAt cr i) v true = false) : NotTrue (Val.test k v (luk r i)) := by
  unfold Val.test
  rw [if_neg (by omega), if_pos ⟨hv, luk_right r i⟩]
  by_cases h0 : v.kind = 0 ∨ (luk r i).kind = 0
  · rw [if_pos h0]; exact null_not
  · rw [if_neg h0]
    obtain ⟨f1, f2, f3, f4⟩ := cmpd_facts hr hv hc (by omega) (by omega)
    rw [if_pos f1.symm]
    refine truth_not ?_
    rw [cmp_luk ok]
    generalize atV r i = w at *
    generalize (rgAt cr i).low = lo at *
    generalize (rgAt cr i).high = hi at *
    have a1 := cmp_ord.anti w v; have a2 := cmp_ord.anti lo v; have a3 := cmp_ord.anti hi v
    have t1 := cmp_ord.le lo w v f2
    have t3 := cmp_ord.le w hi v f3
    have t4 := fun h => cmp_ord.le v w hi h f3
    rcases h7 with rfl | rfl | rfl
    · simp only [if_true, Bool.and_eq_false_iff, decide_eq_false_iff_not] at f4 ⊢
      by_cases h : v.cmp w = 0
      · have := t1 (by omega)
        have := t4 (by omega)
        omega
      · simpa using h
    · simp at f4 ⊢
      have := t3 f4
      omega
    · simp at f4 ⊢
      by_cases h : v.cmp w ≤ 0
      · have := t4 h
        omega
      · omega
theorem col_eval {cr : List (List Val)} {r : List Val} {a : Ex} {g : Rng} {rel : Nat} (h : colE (colsR cr 40) (rel : Int) a = some g) (hw : a.wf = true) (hrel : rel < 12) : a.eval (tup 12 rel r) = (luk r a.col.toNat, 0) ∧ g = rgAt cr a.col.toNat := by
  cases a with
  | mk k q c v l =>
    unfold colE at h
    split at h
    · rename_i hk
      split at h
      · rename_i hq
        obtain rfl : k = 1 := hk
        obtain rfl : q = (rel : Int) := hq
        obtain ⟨hkl, -⟩ := wf_kids hw
        have hl : l = [] := by
          have : kidsOf 1 = 0 := by decide
          exact List.eq_nil_of_length_eq_zero (by omega)
        subst hl
        refine ⟨?_, ?_⟩
        · simp only [Ex.eval, Exs.eval]
          have e1 : evalHead (tup 12 rel r) 1 (rel : Int) c v [] = (lookup (tup 12 rel r) (rel : Int) c, 0) := by simp [evalHead]
          rw [e1]
          have e2 : (tup 12 rel r)[rel]? = some r := by
            unfold tup
            rw [List.getElem?_set_self (by simpa using hrel)]
          show (lookup (tup 12 rel r) (rel : Int) c, (0 : Int)) = (luk r c.toNat, 0)
          unfold lookup luk
          rw [Int.toNat_natCast, e2]
          rfl
        · have h9 : (colsR cr 40)[c.toNat]? = some g := h
          unfold colsR at h9
          rw [List.getElem?_map] at h9
          obtain ⟨j, h10, h11⟩ := Option.map_eq_some_iff.1 h9
          obtain ⟨h12, h13⟩ := List.getElem?_eq_some_iff.1 h10
          rw [List.getElem_range] at h13
          subst h13
          exact h11.symm
      · cases h
    · cases h
theorem const_eval {b : Ex} {T : List (List Val)} (hk : b.kind = 2) (hw : b.wf = true) : b.eval T = (b.const, 0) ∧ b.const.right = true := by
  cases b with
  | mk k q c v l =>
    obtain rfl : k = 2 := hk
    obtain ⟨hkl, -⟩ := wf_kids hw
    have hl : l = [] := by
      have : kidsOf 2 = 0 := by decide
      exact List.eq_nil_of_length_eq_zero (by omega)
    subst hl
    refine ⟨by simp [Ex.eval, Exs.eval, evalHead, Ex.const], ?_⟩
    simp only [Ex.wf, Bool.and_eq_true, decide_eq_true_eq] at hw
    obtain ⟨⟨_, hf⟩, _⟩ := hw
    unfold fieldsOk at hf
    split at hf
    · cases hf
    · simp only [Bool.and_eq_true] at hf
      exact hf.1
theorem evalHead_test {T : List (List Val)} {k q c : Int} {v x y : Val} (h7 : k = 7 ∨ k = 8 ∨ k = 9) : evalHead T k q c v [(x, 0), (y, 0)] = Val.test k x y := by
  unfold evalHead
  rcases h7 with rfl | rfl | rfl <;> simp
theorem may_safe (cr : List (List Val)) (hok : ∀ r ∈ cr, ∀ v ∈ r, v.Ok) (rel : Nat) (hrel : rel < 12) (e : Ex) (hm : e.may (cr.length : Int) (colsR cr 40) (rel : Int) = false) (r : List Val) (hr : r ∈ cr) : holds (tup 12 rel r) [e] = (false, 0) := by
  have hn : NotTrue (e.eval (tup 12 rel r)) ∧ 0 ≤ e.count 1 400 := by
    cases e with
    | mk k q c v l =>
      unfold Ex.may at hm
      by_cases hf : 0 ≤ (Ex.mk k q c v l).count 1 400
      · refine ⟨?_, hf⟩
        rw [if_neg (by simpa using hf)] at hm
        obtain ⟨hk, hl⟩ := wf_kids (Ex.count_wf _ 1 400 hf)
        by_cases h7 : k = 7 ∨ k = 8 ∨ k = 9
        · have h2 : l.length = 2 := by
            have : kidsOf k = 2 := by rcases h7 with rfl | rfl | rfl <;> decide
            omega
          obtain ⟨a, b, rfl⟩ := list_two h2
          simp only [if_pos h7] at hm
          simp only [Ex.eval, Exs.eval]
          have ha := hl a (by simp); have hb := hl b (by simp)
          by_cases hbk : b.kind = 2
          · rw [if_pos hbk] at hm
            cases hca : colE (colsR cr 40) (rel : Int) a with
            | some g =>
              rw [hca] at hm
              obtain ⟨e1, rfl⟩ := col_eval (r := r) hca ha hrel
              obtain ⟨e2, hbr⟩ := const_eval (T := tup 12 rel r) hbk hb
              rw [e1, e2, evalHead_test h7]
              exact test_low h7 hr (hok r hr) hbr hm
            | none =>
              rw [hca] at hm
              by_cases hak : a.kind = 2
              · simp only [if_pos hak] at hm
                cases hcb : colE (colsR cr 40) (rel : Int) b with
                | some g =>
                  unfold colE at hcb
                  rw [if_neg (by omega)] at hcb
                  cases hcb
                | none => rw [hcb] at hm; cases hm
              · simp only [if_neg hak] at hm; cases hm
          · rw [if_neg hbk] at hm
            by_cases hak : a.kind = 2
            · simp only [if_pos hak] at hm
              cases hcb : colE (colsR cr 40) (rel : Int) b with
              | some g =>
                rw [hcb] at hm
                obtain ⟨e1, rfl⟩ := col_eval (r := r) hcb hb hrel
                obtain ⟨e2, har⟩ := const_eval (T := tup 12 rel r) hak ha
                rw [e1, e2, evalHead_test h7]
                exact test_high h7 hr (hok r hr) har hm
              | none => rw [hcb] at hm; cases hm
            · simp only [if_neg hak] at hm; cases hm
        · simp only [if_neg h7] at hm
          by_cases h13 : k = 13
          · subst h13
            have h1 : l.length = 1 := by
              have : kidsOf 13 = 1 := by decide
              omega
            obtain ⟨a, rfl⟩ := list_one h1
            simp only [if_true] at hm
            cases hca : colE (colsR cr 40) (rel : Int) a with
            | none => rw [hca] at hm; cases hm
            | some g =>
              rw [hca] at hm
              obtain ⟨e1, rfl⟩ := col_eval (r := r) hca (hl a (by simp)) hrel
              have hI := rinv cr a.col.toNat
              have hk0 : ¬ (luk r a.col.toNat).kind = 0 := fun h0 => by
                have h5 := luk_kind r a.col.toNat
                have h6 : atV r a.col.toNat ∈ (cr.map fun r => atV r a.col.toNat).filter fun w => w.kind == 0 := List.mem_filter.2 ⟨List.mem_map.2 ⟨r, hr, rfl⟩, by simp; omega⟩
                have h7 := List.length_pos_of_mem h6
                have h8 := hI.nulls
                simp only [decide_eq_false_iff_not] at hm
                omega
              simp only [Ex.eval, Exs.eval, e1]
              have e2 : evalHead (tup 12 rel r) 13 q c v [(luk r a.col.toNat, 0)] = (Val.truth ((luk r a.col.toNat).kind == 0), 0) := by simp [evalHead]
              rw [e2]
              exact truth_not (by simpa using hk0)
          · simp only [if_neg h13] at hm
            by_cases h12 : k = 12
            · subst h12
              have h1 : l.length = 1 := by
                have : kidsOf 12 = 1 := by decide
                omega
              obtain ⟨x, rfl⟩ := list_one h1
              simp only [if_true] at hm
              split at hm
              · rename_i rx cx vx a hx
                simp only [List.cons.injEq, and_true] at hx
                subst hx
                have hax : a.wf = true := (wf_kids (hl (Ex.mk 13 rx cx vx [a]) (by simp))).2 a (by simp)
                cases hca : colE (colsR cr 40) (rel : Int) a with
                | none => rw [hca] at hm; cases hm
                | some g =>
                  rw [hca] at hm
                  obtain ⟨e1, rfl⟩ := col_eval (r := r) hca hax hrel
                  have hI := rinv cr a.col.toNat
                  have hk0 : (luk r a.col.toNat).kind = 0 := by
                    rw [← luk_kind]
                    have h8 := hI.nulls
                    simp only [decide_eq_false_iff_not] at hm
                    have h9 : ((cr.map fun r => atV r a.col.toNat).filter fun w => w.kind == 0).length = (cr.map fun r => atV r a.col.toNat).length := by
                      have := List.length_filter_le (fun w : Val => w.kind == 0) (cr.map fun r => atV r a.col.toNat)
                      rw [List.length_map] at this ⊢
                      omega
                    have h10 := List.length_filter_eq_length_iff.1 h9 (atV r a.col.toNat) (List.mem_map.2 ⟨r, hr, rfl⟩)
                    simpa using h10
                  simp only [Ex.eval, Exs.eval, e1]
                  have e2 : evalHead (tup 12 rel r) 13 rx cx vx [(luk r a.col.toNat, 0)] = (Val.truth true, 0) := by simp [evalHead, hk0]
                  rw [e2]
                  have e3 : evalHead (tup 12 rel r) 12 q c v [(Val.truth true, 0)] = (Val.truth false, 0) := by
                    have ht : (Val.truth true).truthy = true := by unfold Val.truthy; rw [fine_truth]; rfl
                    have hk1 : (Val.truth true).kind = 1 := rfl
                    have hi1 : (Val.truth true).int = 1 := rfl
                    simp [evalHead, Val.both, Val.both2, ht, hk1, hi1]
                  rw [e3]
                  exact truth_not rfl
              · cases hm
            · simp only [if_neg h12] at hm; cases hm
      · rw [if_pos (by simpa using hf)] at hm; cases hm
  obtain ⟨⟨h1, h2⟩, h3⟩ := hn
  unfold holds
  have hE : e.Eval (tup 12 rel r) = ((e.eval (tup 12 rel r)).1, 0) := by
    unfold Ex.Eval
    rw [if_pos h3, if_pos h1]
  rw [hE]
  simp only [ne_eq, not_true_eq_false, if_false]
  rw [if_pos (by omega)]
end Go.Proofs.Ytlcdjaclahhdnaa
namespace Go.Proofs.Ytlcdjaclahhdnaa
open Go.RowKit
set_option linter.unusedSimpArgs false
set_option linter.unusedVariables false

theorem cmp_number (a b : Int) : (Val.number a).cmp (Val.number b) = icmp a b := by
  unfold Val.cmp
  rw [plain_number, plain_number]
  simp [Val.number]
theorem eval_number (n : Int) : w22e.Eval [[Val.number n]] = (Val.truth (decide (n < 5)), 0) := by
  have e : w22e.eval [[Val.number n]] = (Val.truth (decide (n < 5)), 0) := by
    have h2 := fine_number 5
    have h3 := fine_number n
    have hl : lookup [[Val.number n]] 0 0 = Val.number n := by simp [lookup, h3]
    have ht : Val.test 8 (Val.number n) (Val.number 5) = (Val.truth (decide (n < 5)), 0) := by
      have hc := cmp_number n 5
      unfold Val.test
      rw [h2, h3, hc]
      unfold icmp
      by_cases h : n < 5
      · simp [Val.number, h]
      · by_cases h6 : 5 < n <;> simp [Val.number, h, h6]
    simp [w22e, exCol, exLit, Ex.eval, Exs.eval, evalHead, hl, ht]
  unfold Ex.Eval
  rw [w22e_count, e]
  rfl
def row26 (n : Nat) : List Val := [Val.number ((n : Int) + 1)]
def rows26 : List (List Val) := (List.range 32).map row26
theorem holds_number (n : Int) : holds (tup 1 0 [Val.number n]) [w22e] = (decide (n < 5), 0) := by
  have h : tup 1 0 [Val.number n] = [[Val.number n]] := rfl
  rw [h]
  unfold holds
  rw [eval_number]
  by_cases h5 : n < 5
  · simp [h5, Val.truth, holds]
  · simp [h5, Val.truth]
theorem at_number (n : Nat) : atV (row26 n) 0 = Val.number ((n : Int) + 1) := by
  unfold atV row26
  simp [plain_number]
theorem widen_number {a b n : Int} (h : b < n) (hab : a ≤ b) : (Rng.mk 2 0 (Val.number a) (Val.number b)).widen (Val.number n) = Rng.mk 2 0 (Val.number a) (Val.number n) := by
  unfold Rng.widen
  rw [cmp_number, cmp_number]
  have h1 : ¬ icmp n a < 0 := by unfold icmp; split; omega; split <;> omega
  have h2 : 0 < icmp n b := by unfold icmp; rw [if_neg (by omega), if_pos h]; decide
  simp [Val.number, h1, h2]
theorem fold_number (a : Nat) : ∀ (m b : Nat), a ≤ b → ((List.range' (b + 1) m).map row26).foldl (fun g r => g.widen (atV r 0)) (Rng.mk 2 0 (Val.number ((a : Int) + 1)) (Val.number ((b : Int) + 1))) = Rng.mk 2 0 (Val.number ((a : Int) + 1)) (Val.number (((b + m : Nat) : Int) + 1))
  | 0, b, _ => by simp
  | m + 1, b, h => by
    rw [List.range'_succ, List.map_cons, List.foldl_cons, at_number, widen_number (by omega) (by omega)]
    have h2 := fold_number a m (b + 1) (by omega)
    rw [h2]
    rw [show b + 1 + m = b + (m + 1) by omega]
theorem rg_number (a m : Nat) : rgAt ((List.range' a (m + 1)).map row26) 0 = Rng.mk 2 0 (Val.number ((a : Int) + 1)) (Val.number (((a + m : Nat) : Int) + 1)) := by
  unfold rgAt
  rw [List.range'_succ, List.map_cons, List.foldl_cons, at_number]
  have h0 : Rng.zero.widen (Val.number ((a : Int) + 1)) = Rng.mk 2 0 (Val.number ((a : Int) + 1)) (Val.number ((a : Int) + 1)) := by simp [Rng.widen, Rng.zero, Val.number]
  rw [h0]
  exact fold_number a m a (Nat.le_refl _)
theorem chunk0 : chunkR rows26 0 = (List.range' 0 (15 + 1)).map row26 := rfl
theorem chunk1 : chunkR rows26 1 = (List.range' 16 (15 + 1)).map row26 := rfl
theorem may_number (rows : List (List Val)) (a b : Int) (h : rgAt rows 0 = Rng.mk 2 0 (Val.number a) (Val.number b)) (zr : Int) : w22e.may zr (colsR rows 40) 0 = decide (a < 5) := by
  have hc : colE (colsR rows 40) 0 (exCol 0 0) = some (Rng.mk 2 0 (Val.number a) (Val.number b)) := by
    unfold colE exCol
    simp [Ex.kind, Ex.rel, Ex.col, colsR, h]
  have hk : (exLit (Val.number 5)).kind = 2 := rfl
  have hv : (exLit (Val.number 5)).const = Val.number 5 := rfl
  have hcnt : ¬ ¬ 0 ≤ w22e.count 1 400 := by rw [w22e_count]; omega
  have h2 : (icmp a 5 < 0) ↔ a < 5 := by unfold icmp; split; omega; split <;> omega
  have hcm : cmpd 8 (Rng.mk 2 0 (Val.number a) (Val.number b)) (Val.number 5) false = decide (a < 5) := by
    unfold cmpd
    rw [cmp_number]
    simp [Val.number, h2]
  unfold Ex.may
  rw [if_neg hcnt]
  have hl : w22e = .mk 8 0 0 Val.null [exCol 0 0, exLit (Val.number 5)] := rfl
  rw [hl]
  dsimp only
  rw [if_pos (by decide : (8 : Int) = 7 ∨ (8 : Int) = 8 ∨ (8 : Int) = 9)]
  rw [if_pos hk, hc, hv]
  exact hcm
theorem passes0 : passes (chunkR rows26 0) 0 [w22e] = false := by
  show (!(w22e.may _ _ _)) = false
  rw [may_number _ 1 16 (by rw [chunk0, rg_number]; rfl)]
  rfl
theorem passes1 : passes (chunkR rows26 1) 0 [w22e] = true := by
  show (!(w22e.may _ _ _)) = true
  rw [may_number _ 17 32 (by rw [chunk1, rg_number]; rfl)]
  rfl
theorem passed26 : passed rows26 0 [w22e] = 16 := by
  unfold passed
  have h : (List.range ((rows26.length + 15) / 16)) = [0, 1] := rfl
  rw [h]
  simp only [sumK, passK, passes0, passes1]
  rfl
theorem scanU_number : ∀ (m a : Nat), scanU 1 0 [w22e] (List.map row26 (List.range' a m)) = ((List.filter (fun n : Nat => decide (((n : Int) + 1) < 5)) (List.range' a m)).map row26, 0)
  | 0, a => by simp [scanU]
  | m + 1, a => by
    rw [List.range'_succ, List.map_cons]
    have hh := holds_number ((a : Int) + 1)
    have ih := scanU_number m (a + 1)
    unfold scanU
    have hr : holds (tup 1 0 (row26 a)) [w22e] = (decide (((a : Int) + 1) < 5), 0) := hh
    rw [hr, ih]
    by_cases h5 : ((a : Int) + 1) < 5 <;> simp [h5]
theorem scan26 : scanAll rows26 1 0 [w22e] = ([row26 0, row26 1, row26 2, row26 3], 0) := by
  unfold scanAll
  have h : (List.range ((rows26.length + 15) / 16)) = [0, 1] := rfl
  rw [h]
  have hu : unp rows26 ((0 : Nat) : Int) [w22e] [0, 1] = (List.range' 0 16).map row26 := by
    unfold unp
    have p0 : passes (chunkR rows26 0) ((0 : Nat) : Int) [w22e] = false := passes0
    have p1 : passes (chunkR rows26 1) ((0 : Nat) : Int) [w22e] = true := passes1
    simp only [List.flatMap_cons, List.flatMap_nil, p0, p1]
    rw [chunk0]
    simp
  rw [hu, scanU_number]
  rfl
end Go.Proofs.Ytlcdjaclahhdnaa
namespace Go.Proofs.Ytlcdjaclahhdnaa
open Go.RowKit
set_option linter.unusedSimpArgs false
set_option linter.unusedVariables false
attribute [local irreducible] wpQuiet wpList Code.wp
attribute [local go_sem] Oper.semAt_some

theorem mkA (w : World) : (Instr.makeSlice 50 (.int .i64 1) (.int .i64 1)).run Try.prog w = .ok (.slice (some ⟨w.heap.size, 0, none⟩) 1 1) (w.alloc (.cells #[.slice none 0 0] 59)) := by kernel_rfl
/-- What stays as it is through a scan. -/
structure ScFA (w WL W : World) (X : Value) : Prop where
  n : BoxAt W (w.heap.size) [.int .i64 1]
  r : BoxAt W (w.heap.size + 1) [.int .i64 0]
  x : BoxAt W (w.heap.size + 1 + 1) [X]
  o : BoxAt W (w.heap.size + 1 + 1 + 1) [.slice none 0 0]
  e : BoxAt W (w.heap.size + 1 + 1 + 1 + 1) [.int .i64 0]
  size : WL.heap.size ≤ W.heap.size
  ext : Ext w W
theorem ScFA.grow {w WL W W' : World} {X : Value} (h : ScFA w WL W X) (he : Ext W W') : ScFA w WL W' X := ⟨h.n.ext he, h.r.ext he, h.x.ext he, h.o.ext he, h.e.ext he, Nat.le_trans h.size he.size, h.ext.trans he⟩
theorem ScFA.keep {w WL W W' : World} {X : Value} (h : ScFA w WL W X) (he : KeepC W W') (hE : Ext w W') : ScFA w WL W' X := ⟨he.box h.n, he.box h.r, he.box h.x, he.box h.o, he.box h.e, Nat.le_trans h.size he.size, hE⟩
theorem ScFA.buts {M : Nat → Prop} {w WL W W' : World} {X : Value} (h : ScFA w WL W X) (hb : ButS M W W') (hm : ∀ k, M k → w.heap.size + 4 < k) : ScFA w WL W' X :=
  ⟨hb.box (fun hM => by have := hm _ hM; omega) h.n, hb.box (fun hM => by have := hm _ hM; omega) h.r, hb.box (fun hM => by have := hm _ hM; omega) h.x, hb.box (fun hM => by have := hm _ hM; omega) h.o, hb.box (fun hM => by have := hm _ hM; omega) h.e, Nat.le_trans h.size hb.size, hb.to_ext h.ext (fun k hM => by have := hm k hM; omega)⟩
/-- The round's own promise: what is no cells, and the iterator's two boxes, lie as they lay. -/
structure RKA (w WL W W' : World) : Prop where
  kf : KeepsFrom WL.heap.size W W'
  kb : KB (w.heap.size + 1 + 1 + 1 + 1 + 1 + 1) (w.heap.size + 1 + 1 + 1 + 1 + 1 + 1 + 1) W W'
theorem RKA.refl (w WL W : World) : RKA w WL W W := ⟨KeepsFrom.refl _ _, KB.refl _ _ _⟩
theorem RKA.grow {w WL W W' W'' : World} (h : RKA w WL W W') (he : Ext W' W'') (hs : w.heap.size + 7 < W'.heap.size) : RKA w WL W W'' := ⟨h.kf.trans (keep_ext _ he), h.kb.trans (KB.of_ext he (by omega) (by omega))⟩
theorem RKA.turn {M : Nat → Prop} {w WL W W' W'' : World} (h : RKA w WL W W') (hb : ButS M W' W'') (hs : w.heap.size + 7 < W'.heap.size) (hc : ∀ k, M k → ∀ o, W'.heap[k]? = some o → o.isCells = true) (hm : ∀ k, M k → k ≠ w.heap.size + 1 + 1 + 1 + 1 + 1 + 1 ∧ k ≠ w.heap.size + 1 + 1 + 1 + 1 + 1 + 1 + 1) : RKA w WL W W'' :=
  ⟨h.kf.trans (keepOthers_buts _ hb hc), h.kb.trans ⟨hb.block _ (by omega) (fun hM => (hm _ hM).1 rfl), hb.block _ (by omega) (fun hM => (hm _ hM).2 rfl)⟩⟩

set_option maxRecDepth 100000 in
set_option maxHeartbeats 8000000 in
theorem scanA_of (rows : List (List Val)) (rv : Value) (l : List Ex) (x : Value) (w : World) (hrows : RowsIn w rv rows) (hrl : rows.length ≤ 1000000) (hx : ExsIn w x l) (hrr : ∀ r ∈ rows, r.length ≤ 1000000) :
    Calls Try.prog 49 #[rv, .int .i64 1, .int .i64 0, x] w fun ev w' => ∃ v, ev = .returned (.tuple #[v, .int .i64 (scanAll rows 1 0 l).2]) ∧ (if (scanAll rows 1 0 l).2 = 0 then OwnT w' w.heap.size v 1 0 (scanAll rows 1 0 l).1 else v = .slice none 0 0) ∧ Ext w w' := by
  obtain ⟨RA, rc, rfl, hrc, hrn, hra⟩ := hrows.val
  obtain ⟨-, XA, xc, rfl, -⟩ := (⟨hx.1, hx.2⟩ : l.length ≤ 9223372036854775807 ∧ _)
  have HRW : Hid (∀ u, Ext w u → RowsIn u (.slice RA rows.length rc) rows) := Lib.hid fun u h => hrows.ext h
  have HXW : Hid (∀ u, Ext w u → ExsIn u (.slice XA l.length xc) l) := Lib.hid fun u h => hx.ext h
  have HS : Hid (rows.length ≠ 0 → ∃ g o, RA = some ⟨g, o, none⟩) := Lib.hid fun h => by
    obtain ⟨g, o, h1, -⟩ := hra (fun e => by subst e; exact h rfl)
    exact ⟨g, o, h1⟩
  clear hrows hra hrn hx
  refine (callsIn_wide (n := 3)).1 ?_
  refine callsIn_of_wp_marks Try.func49 rfl trivial ?_ rfl
  simp only [Try.ntmps49, List.size_toArray, List.length_cons, List.length_nil, Nat.reduceAdd, Nat.reduceSub, Array.replicate_succ, Array.replicate_zero, List.push_toArray, List.append_toArray, List.nil_append, List.cons_append]
  refine wpIn_wide.2 ?_
  go_wp2_with (go_at_call 100; refine (chunk_of _ _ _ _).mono ?_; rintro e w2 ⟨rfl, rfl⟩)
  have hb0 : BoxAt ((((((((w.alloc (.cells #[.int .i64 1] 3)).alloc (.cells #[.int .i64 0] 3)).alloc (.cells #[.slice XA l.length xc] 25)).alloc (.cells #[.slice none 0 0] 91)).alloc (.cells #[.int .i64 0] 35)).alloc (.cells #[.slice none 0 0] 91)).alloc (.cells #[.slice RA rows.length rc] 50)).alloc (.cells #[.int .i64 16] 3)) (w.heap.size) [.int .i64 1] := ((((((((BoxAt.new rfl rfl).ext ((Ext.refl _).alloc _)).ext ((Ext.refl _).alloc _)).ext ((Ext.refl _).alloc _)).ext ((Ext.refl _).alloc _)).ext ((Ext.refl _).alloc _)).ext ((Ext.refl _).alloc _)).ext ((Ext.refl _).alloc _))
  have hb1 : BoxAt ((((((((w.alloc (.cells #[.int .i64 1] 3)).alloc (.cells #[.int .i64 0] 3)).alloc (.cells #[.slice XA l.length xc] 25)).alloc (.cells #[.slice none 0 0] 91)).alloc (.cells #[.int .i64 0] 35)).alloc (.cells #[.slice none 0 0] 91)).alloc (.cells #[.slice RA rows.length rc] 50)).alloc (.cells #[.int .i64 16] 3)) (w.heap.size + 1) [.int .i64 0] := (((((((BoxAt.new (by simp) rfl).ext ((Ext.refl _).alloc _)).ext ((Ext.refl _).alloc _)).ext ((Ext.refl _).alloc _)).ext ((Ext.refl _).alloc _)).ext ((Ext.refl _).alloc _)).ext ((Ext.refl _).alloc _))
  have hb2 : BoxAt ((((((((w.alloc (.cells #[.int .i64 1] 3)).alloc (.cells #[.int .i64 0] 3)).alloc (.cells #[.slice XA l.length xc] 25)).alloc (.cells #[.slice none 0 0] 91)).alloc (.cells #[.int .i64 0] 35)).alloc (.cells #[.slice none 0 0] 91)).alloc (.cells #[.slice RA rows.length rc] 50)).alloc (.cells #[.int .i64 16] 3)) (w.heap.size + 1 + 1) [.slice XA l.length xc] := ((((((BoxAt.new (by simp) rfl).ext ((Ext.refl _).alloc _)).ext ((Ext.refl _).alloc _)).ext ((Ext.refl _).alloc _)).ext ((Ext.refl _).alloc _)).ext ((Ext.refl _).alloc _))
  have hb3 : BoxAt ((((((((w.alloc (.cells #[.int .i64 1] 3)).alloc (.cells #[.int .i64 0] 3)).alloc (.cells #[.slice XA l.length xc] 25)).alloc (.cells #[.slice none 0 0] 91)).alloc (.cells #[.int .i64 0] 35)).alloc (.cells #[.slice none 0 0] 91)).alloc (.cells #[.slice RA rows.length rc] 50)).alloc (.cells #[.int .i64 16] 3)) (w.heap.size + 1 + 1 + 1) [.slice none 0 0] := (((((BoxAt.new (by simp) rfl).ext ((Ext.refl _).alloc _)).ext ((Ext.refl _).alloc _)).ext ((Ext.refl _).alloc _)).ext ((Ext.refl _).alloc _))
  have hb4 : BoxAt ((((((((w.alloc (.cells #[.int .i64 1] 3)).alloc (.cells #[.int .i64 0] 3)).alloc (.cells #[.slice XA l.length xc] 25)).alloc (.cells #[.slice none 0 0] 91)).alloc (.cells #[.int .i64 0] 35)).alloc (.cells #[.slice none 0 0] 91)).alloc (.cells #[.slice RA rows.length rc] 50)).alloc (.cells #[.int .i64 16] 3)) (w.heap.size + 1 + 1 + 1 + 1) [.int .i64 0] := ((((BoxAt.new (by simp) rfl).ext ((Ext.refl _).alloc _)).ext ((Ext.refl _).alloc _)).ext ((Ext.refl _).alloc _))
  have hb5 : BoxAt ((((((((w.alloc (.cells #[.int .i64 1] 3)).alloc (.cells #[.int .i64 0] 3)).alloc (.cells #[.slice XA l.length xc] 25)).alloc (.cells #[.slice none 0 0] 91)).alloc (.cells #[.int .i64 0] 35)).alloc (.cells #[.slice none 0 0] 91)).alloc (.cells #[.slice RA rows.length rc] 50)).alloc (.cells #[.int .i64 16] 3)) (w.heap.size + 1 + 1 + 1 + 1 + 1) [.slice none 0 0] := (((BoxAt.new (by simp) rfl).ext ((Ext.refl _).alloc _)).ext ((Ext.refl _).alloc _))
  have hb6 : BoxAt ((((((((w.alloc (.cells #[.int .i64 1] 3)).alloc (.cells #[.int .i64 0] 3)).alloc (.cells #[.slice XA l.length xc] 25)).alloc (.cells #[.slice none 0 0] 91)).alloc (.cells #[.int .i64 0] 35)).alloc (.cells #[.slice none 0 0] 91)).alloc (.cells #[.slice RA rows.length rc] 50)).alloc (.cells #[.int .i64 16] 3)) (w.heap.size + 1 + 1 + 1 + 1 + 1 + 1) [.slice RA rows.length rc] := ((BoxAt.new (by simp) rfl).ext ((Ext.refl _).alloc _))
  have hb7 : BoxAt ((((((((w.alloc (.cells #[.int .i64 1] 3)).alloc (.cells #[.int .i64 0] 3)).alloc (.cells #[.slice XA l.length xc] 25)).alloc (.cells #[.slice none 0 0] 91)).alloc (.cells #[.int .i64 0] 35)).alloc (.cells #[.slice none 0 0] 91)).alloc (.cells #[.slice RA rows.length rc] 50)).alloc (.cells #[.int .i64 16] 3)) (w.heap.size + 1 + 1 + 1 + 1 + 1 + 1 + 1) [.int .i64 16] := (BoxAt.new (by simp) rfl)
  have hb8 : Ext w ((((((((w.alloc (.cells #[.int .i64 1] 3)).alloc (.cells #[.int .i64 0] 3)).alloc (.cells #[.slice XA l.length xc] 25)).alloc (.cells #[.slice none 0 0] 91)).alloc (.cells #[.int .i64 0] 35)).alloc (.cells #[.slice none 0 0] 91)).alloc (.cells #[.slice RA rows.length rc] 50)).alloc (.cells #[.int .i64 16] 3)) := (((((((((Ext.refl _).alloc _).alloc _).alloc _).alloc _).alloc _).alloc _).alloc _).alloc _)
  refine name_worldA (fun u => BoxAt u (w.heap.size) [.int .i64 1] ∧ BoxAt u (w.heap.size + 1) [.int .i64 0] ∧ BoxAt u (w.heap.size + 1 + 1) [.slice XA l.length xc] ∧ BoxAt u (w.heap.size + 1 + 1 + 1) [.slice none 0 0] ∧ BoxAt u (w.heap.size + 1 + 1 + 1 + 1) [.int .i64 0] ∧ BoxAt u (w.heap.size + 1 + 1 + 1 + 1 + 1) [.slice none 0 0] ∧ BoxAt u (w.heap.size + 1 + 1 + 1 + 1 + 1 + 1) [.slice RA rows.length rc] ∧ BoxAt u (w.heap.size + 1 + 1 + 1 + 1 + 1 + 1 + 1) [.int .i64 16] ∧ Ext w u) ⟨hb0, hb1, hb2, hb3, hb4, hb5, hb6, hb7, hb8⟩ ?_
  clear hb0 hb1 hb2 hb3 hb4 hb5 hb6 hb7 hb8
  rintro WL ⟨hb0, hb1, hb2, hb3, hb4, hb5, hb6, hb7, hb8⟩
  have HSZ : Hid (w.heap.size + 7 < WL.heap.size) := Lib.hid hb7.lt
  obtain ⟨g, o, hA, hstop⟩ := chunk_stops RA rows.length rc (w.heap.size + 1 + 1 + 1 + 1 + 1 + 1) (w.heap.size + 1 + 1 + 1 + 1 + 1 + 1 + 1) WL HS.out hrl hrc (by have := HSZ.out; omega) HSZ.out hb6.cells.1 hb7.cells.1
  refine (wpIn_wide (n := 3)).1 ?_
  refine wpIn_rangeFunc_ownG (F := Fence.wide) (n := 3) (w := WL) (w0 := WL) rfl (by decide) (gf := 142) (lb := #[.pointer (some ⟨w.heap.size + 1 + 1 + 1 + 1 + 1 + 1, 0, none⟩), .pointer (some ⟨w.heap.size + 1 + 1 + 1 + 1 + 1 + 1 + 1, 0, none⟩)]) rfl trivial (enters_of Try.func142 (by kernel_rfl) rfl)
    (hstop 2 (by decide)) (fun h k => h.trans k) (fun W l o o' hl ho hc _ => ⟨World.putObj_heap_other (by have := HSZ.out; omega), World.putObj_heap_other (by have := HSZ.out; omega)⟩) (Below.refl _ _) (fun _ => rfl)
    (fun pre W => (∃ v, BoxAt W (w.heap.size + 1 + 1 + 1 + 1 + 1) [v] ∧ OwnT W WL.heap.size v 1 0 (scanU 1 0 l (unp rows 0 l pre)).1) ∧ (scanU 1 0 l (unp rows 0 l pre)).2 = 0 ∧ ScFA w WL W (.slice XA l.length xc))
    (fun c pre W => c = .ret ∧ BoxAt W (w.heap.size + 1 + 1 + 1) [.slice none 0 0] ∧ (scanU 1 0 l (unp rows 0 l pre)).2 ≠ 0 ∧ BoxAt W (w.heap.size + 1 + 1 + 1 + 1) [.int .i64 (scanU 1 0 l (unp rows 0 l pre)).2] ∧ Ext w W)
    ?own ?ownx ⟨⟨_, hb5, OwnT.nil _ _ _ _⟩, rfl, ⟨hb0, hb1, hb2, hb3, hb4, Nat.le_refl _, hb8⟩⟩
    (fun x => { tmps := #[.slice RA rows.length rc, .int .i64 1, .int .i64 0, .slice XA l.length xc, undef, .pointer (some ⟨w.heap.size, 0, none⟩), .pointer (some ⟨w.heap.size + 1, 0, none⟩), .pointer (some ⟨w.heap.size + 1 + 1, 0, none⟩), .pointer (some ⟨w.heap.size + 1 + 1 + 1, 0, none⟩), .pointer (some ⟨w.heap.size + 1 + 1 + 1 + 1, 0, none⟩), .pointer (some ⟨w.heap.size + 1 + 1 + 1 + 1 + 1, 0, none⟩), chunkV g o rows.length x, undef, undef, undef, undef, undef, .int .i64 1, .bool false, .bool false, .int .i64 0, .bool false, .bool false, .bool false, .int .i64 0, .int .i64 1, .bool false, .bool false, .slice RA rows.length rc, .func (.func 142) #[] #[.pointer (some ⟨w.heap.size + 1 + 1 + 1 + 1 + 1 + 1, 0, none⟩), .pointer (some ⟨w.heap.size + 1 + 1 + 1 + 1 + 1 + 1 + 1, 0, none⟩)], chunkV g o rows.length x, undef, undef, undef, undef, undef, undef, undef, undef, undef, undef, undef, undef, undef, undef, undef, undef, undef, undef, undef, undef, undef, undef, undef, undef, undef, undef, undef, undef, undef, undef, undef, undef, undef, undef], defers := [] }) ?assign ?body ?done ?stop
  case own =>
    intro s A B row ⟨⟨v, h1, h2⟩, h3, h4⟩ hg hr
    have hk : KeepC A B := KeepC.of_turn hg fun r e => (hr r e).2
    exact ⟨⟨v, hk.box h1, h2.keep hk⟩, h3, h4.keep hk (ownFrom_below (w₀ := w) (Nat.le_refl _) (by have := HSZ.out; omega) () A B row h4.ext hg hr)⟩
  case ownx =>
    intro c s A B row ⟨h1, h2, h3, h4, h5⟩ hg hr
    have hk : KeepC A B := KeepC.of_turn hg fun r e => (hr r e).2
    exact ⟨h1, hk.box h2, h3, hk.box h4, ownFrom_below (w₀ := w) (Nat.le_refl _) (by have := HSZ.out; omega) () A B row h5 hg hr⟩
  case assign =>
    intro l x W K hK
    gi_wp2
    exact hK
  case body =>
    rintro ll pre x W ⟨⟨v, ho, ht⟩, he0, hF⟩ hlt
    have hcl : (chunkR rows x).length ≤ 16 := by rw [chunkR_length]; omega
    have HUN := Lib.hid (unp_snoc rows 0 l pre x)
    have hCK : chunkV g o rows.length x = .slice (some ⟨g, o + x * 16, none⟩) (chunkR rows x).length (chunkR rows x).length := by unfold chunkV; rw [chunkR_length]
    have HCR : Hid (∀ u, Ext w u → RowsIn u (.slice (some ⟨g, o + x * 16, none⟩) (chunkR rows x).length (chunkR rows x).length) (chunkR rows x)) := Lib.hid fun u h => by
      have h9 := RowsIn.chunk' hA (HRW.out u h) x
      rwa [hCK] at h9
    have HPS : Hid (∀ u, Ext W u → Calls Try.prog 107 #[.slice (some ⟨g, o + x * 16, none⟩) (chunkR rows x).length (chunkR rows x).length, .int .i64 0, .slice XA l.length xc] u fun ev w' => ev = .returned (.bool (passes (chunkR rows x) 0 l)) ∧ Ext u w') := Lib.hid fun u h => passes_of (chunkR rows x) _ 0 l _ u (HCR.out u (hF.ext.trans h)) (by omega) (HXW.out u (hF.ext.trans h))
    rw [hCK]
    have HRR : Hid (∀ r ∈ chunkR rows x, r.length ≤ 1000000) := Lib.hid fun r hr => hrr r (List.mem_of_mem_drop (List.mem_of_mem_take hr))
    have HRL := Lib.hid (scanU_le 1 0 l (unp rows 0 l pre))
    have HUL := Lib.hid (unp_le rows 0 l pre)
    generalize passes (chunkR rows x) 0 l = pb at *
    generalize hcr : chunkR rows x = cr at *
    have HO := Lib.hid ho; have HT := Lib.hid ht; have HF := Lib.hid hF
    have c1 := hF.r.cells.1; have c2 := hF.x.cells.1
    have hsz : w.heap.size + 7 < W.heap.size := Nat.lt_of_lt_of_le HSZ.out hF.size
    have hlt' : pre.length ≤ 100000 := by omega
    clear ho ht hF hCK hcr
    generalize unp rows 0 l pre = U at *
    cases pb
    · gi_wp2_with (refine ⟨trivial, ?_⟩; gi_at_call 107; refine (calls_in (HPS.out _ (Ext.refl _))).mono ?_; rintro ev w5 ⟨rfl, he5⟩)
      have hrk0 := (RKA.refl w WL W).grow he5 hsz
      gi_loopw [37] (fun y wr => ∃ j : Nat, y = .int .i64 (j : Int) ∧ j ≤ cr.length ∧ (∃ v', BoxAt wr (w.heap.size + 1 + 1 + 1 + 1 + 1) [v'] ∧ OwnT wr WL.heap.size v' 1 0 (scanU 1 0 l (U ++ cr.take j)).1) ∧ (scanU 1 0 l (U ++ cr.take j)).2 = 0 ∧ ScFA w WL wr (.slice XA l.length xc) ∧ RKA w WL W wr) (fun y _ => cr.length - (intOf y).toNat)
      case atStart => exact ⟨0, rfl, by omega, ⟨v, HO.out.ext he5, by simpa using HT.out.ext he5⟩, by simpa using he0, HF.out.grow he5, hrk0⟩
      case round =>
        obtain ⟨j, rfl, hj, ⟨v', ho', ht'⟩, he0', hF', hRK⟩ := hrel
        clear he5 hrk0 HO HT HF c1 c2 HPS hsz
        have HO := Lib.hid ho'; have HT := Lib.hid ht'; have HF := Lib.hid hF'; have HRK := Lib.hid hRK; have HE0 := Lib.hid he0'
        have d0 := hF'.n.cells.1; have d1 := hF'.r.cells.1; have d2 := hF'.x.cells.1
        have hsz : w.heap.size + 7 < wr.heap.size := Nat.lt_of_lt_of_le HSZ.out hF'.size
        by_cases hjlt : j < cr.length
        · have hw : wrap64 ((j : Int) + 1) = (j : Int) + 1 := by unfold wrap64; omega
          obtain ⟨g2, o2, B, mm, cb, hA2, -, hmr, hc, hv⟩ := (HCR.out wr hF'.ext).at_ j hjlt
          cases hA2
          have HV := Lib.hid hv
          have hml : cr[j].length ≤ 1000000 := HRR.out cr[j] (List.getElem_mem hjlt)
          have HTK : Hid (U ++ cr.take (j + 1) = (U ++ cr.take j) ++ [cr[j]]) := Lib.hid (by rw [List.take_succ_eq_append_getElem hjlt, List.append_assoc])
          have HDR : Hid (U ++ cr = (U ++ cr.take j) ++ ([cr[j]] ++ cr.drop (j + 1))) := Lib.hid (by
            rw [List.append_assoc, ← List.append_assoc (cr.take j), ← List.take_succ_eq_append_getElem hjlt, List.take_append_drop])
          clear ho' ht' hF' hRK he0' hv hmr
          have hmk := mkA wr
          gi_wp2
          clear hmk
          have HGT : Hid (((wr.alloc (.cells #[.slice none 0 0] 59)).drew.alloc (.cells #[] 24)).ownsRow WL.heap.size 59 1 (.slice (some ⟨wr.heap.size, 0, none⟩) 1 1) 1 [.slice none 0 0]) := Lib.hid (owns_ext (show (wr.alloc (.cells #[.slice none 0 0] 59)).ownsRow WL.heap.size 59 1 (.slice (some ⟨wr.heap.size, 0, none⟩) 1 1) 1 [.slice none 0 0] from ⟨rfl, .inr ⟨wr.heap.size, 1, #[.slice none 0 0], rfl, HF.out.size, heap_alloc_new _ _, by decide, by decide, rfl, rfl⟩⟩) ((Ext.refl _).drew.alloc _))
          have HE0v : Hid (((wr.alloc (.cells #[.slice none 0 0] 59)).drew.alloc (.cells #[] 24)).ownsRow WL.heap.size 24 4 (.slice (some ⟨wr.heap.size + 1, 0, none⟩) 0 0) 0 []) := Lib.hid ⟨rfl, .inr ⟨wr.heap.size + 1, 0, #[], rfl, by have := HF.out.size; omega, by have h := heap_alloc_new (wr.alloc (.cells #[.slice none 0 0] 59)).drew (.cells #[] 24); simpa using h, by decide, by decide, rfl, rfl⟩⟩
          have HXB : Hid (Ext wr ((wr.alloc (.cells #[.slice none 0 0] 59)).drew.alloc (.cells #[] 24))) := Lib.hid (((Ext.refl wr).alloc _).drew.alloc _)
          refine region_held_in (L := _) (fun u => BoxAt u (w.heap.size + 1) [.int .i64 0]) (not_lets fun a u h => h) rfl (by kernel_rfl) ?_
          have HS0 : Hid (BoxAt (wr.alloc (.cells #[.slice none 0 0] 59)).drew (w.heap.size + 1) [.int .i64 0]) := Lib.hid (HF.out.r.ext ((Ext.refl wr).alloc _).drew)
          refine held_run (i := 0) (.slice (some ⟨wr.heap.size, 0, none⟩) 1 1) rfl (by kernel_rfl) (by kernel_rfl) (by kernel_rfl) (fun _ _ _ h => h) rfl (fun u _ => by go_simp) HS0.out ?_
          simp only [Act.put, List.setIfInBounds_toArray, List.set_cons_zero, List.set_cons_succ]
          refine held_cell (i := 1) (v := (.int .i64 0)) (.tmp 6) rfl rfl (by kernel_rfl) (by kernel_rfl) (by kernel_rfl) (fun _ _ _ h => h) rfl Try.underlying3 rfl rfl (fun u h => h.cells.1) HS0.out ?_
          simp only [Act.put, List.setIfInBounds_toArray, List.set_cons_zero, List.set_cons_succ]
          refine held_run (i := 3) (.slice B mm cb) rfl (by kernel_rfl) (by kernel_rfl) (by kernel_rfl) (fun _ _ _ h => h) rfl (fun u _ => by go_simp) HS0.out ?_
          simp only [Act.put, List.setIfInBounds_toArray, List.set_cons_zero, List.set_cons_succ]
          refine held_do (i := 2) rfl (by kernel_rfl) rfl fun K hK => ?_
          unfold Oper.wp execOp
          go_simp
          refine hK _ _ (HS0.out.ext ((Ext.refl _).alloc _)) ?_
          try simp only [Act.put, List.setIfInBounds_toArray, List.set_cons_zero, List.set_cons_succ]
          clear hK K
          refine held_do (i := 4) rfl (by kernel_rfl) rfl fun K hK => ?_
          refine wp_vals (base := WL.heap.size) (row := cr[j]) (.tmp 45) (.tmp 46) rfl rfl HE0v.out rfl (HV.out.ext HXB.out) hml (Nat.le_trans HF.out.size HXB.out.size) ?_
          intro A9 c9 w6 ho6 hb6
          have HS6 : Hid (BoxAt w6 (w.heap.size + 1) [.int .i64 0]) := Lib.hid (hb6.box (fun h => absurd (show some (wr.heap.size + 1) = some (w.heap.size + 1) from h) (by simp; omega)) (HF.out.r.ext HXB.out))
          have hg6 := owns_buts HGT.out hb6 (fun g h1 h2 => absurd ((show some (wr.heap.size + 1) = some g from h2).trans (show some wr.heap.size = some g from h1).symm) (by simp))
          have hx6 : Ext wr w6 := hb6.to_ext HXB.out (fun k h => by have h' : some (wr.heap.size + 1) = some k := h; simp only [Option.some.injEq] at h'; omega)
          have hcg := (owns_cells hg6).get 0 _ rfl
          have hfg : w6.frozen? ⟨wr.heap.size, 0, none⟩ = false := by
            rcases hg6.2 with ⟨h, _⟩ | ⟨g', c', cur, h, _, hh, _⟩
            · cases h
            · simp only [Value.slice.injEq, Option.some.injEq, Addr.mk.injEq, and_true] at h
              obtain ⟨rfl, -⟩ := h
              exact frozen_of_row _ _ _ _ _ hh
          rw [Nat.zero_add] at hcg
          have HC6 := Lib.hid hcg; have HF6 := Lib.hid hfg; have HX6 := Lib.hid hx6; have HG6 := Lib.hid hg6; have HO6 := Lib.hid ho6
          refine hK _ _ HS6.out ?_
          try simp only [Act.put, List.setIfInBounds_toArray, List.set_cons_zero, List.set_cons_succ]
          clear hK K
          clear hb6 hg6 hx6 hcg hfg ho6
          refine held_idxS (i := 5) 0 (.tmp 43) (.tmp 44) rfl rfl (by kernel_rfl) (by kernel_rfl) (by kernel_rfl) (fun _ _ _ h => h) rfl Try.underlying50 size_slice59 rfl rfl (by decide) HS6.out ?_
          simp only [Act.put, List.setIfInBounds_toArray, List.set_cons_zero, List.set_cons_succ]
          refine held_do (i := 6) rfl (by kernel_rfl) rfl fun K hK => ?_
          refine wp_store1 (g := wr.heap.size) (f := 0) (u := .slice A9 cr[j].length c9) rfl rfl HC6.out HF6.out size_slice59 (.tmp 48) (.tmp 47) rfl rfl rfl ?_
          have hb7 : But wr.heap.size w6 (w6.setCell ⟨wr.heap.size, 0, none⟩ (.slice A9 cr[j].length c9)) := But.set_ (p := ⟨wr.heap.size, 0, none⟩) (.inr rfl) _ (But.refl _ _)
          refine hK _ _ (But.box hb7 (by omega) HS6.out) ?_
          try simp only [Act.put, List.setIfInBounds_toArray, List.set_cons_zero, List.set_cons_succ]
          clear hK K
          refine wpAnyH_done (by kernel_rfl) ?_ _
          have HT7 : Hid (TupAt (w6.setCell ⟨wr.heap.size, 0, none⟩ (.slice A9 cr[j].length c9)) WL.heap.size (.slice (some ⟨wr.heap.size, 0, none⟩) 1 1) 1 0 cr[j]) := Lib.hid ⟨.slice A9 cr[j].length c9, owns_setAt (i := 0) _ HG6.out (by decide), owns_buts HO6.out (ButS.of_but (M := fun k => k = wr.heap.size) hb7 rfl) (fun g h1 h2 => owns_apart HO6.out HG6.out (by decide) g h1 (by rw [h2]; rfl)), HV.out.ok, by omega⟩
          have HX7 : Hid (Ext wr (w6.setCell ⟨wr.heap.size, 0, none⟩ (.slice A9 cr[j].length c9))) := Lib.hid (But.to_ext HX6.out hb7 (Nat.le_refl _))
          generalize hw7 : (w6.setCell ⟨wr.heap.size, 0, none⟩ (.slice A9 cr[j].length c9)) = w7 at *
          clear hw7 hb7 HC6 HF6 HX6 HG6 HO6 HS6 HXB HE0v HGT HS0 HV hc
          have HHO : Hid (Calls Try.prog 30 #[.slice XA l.length xc, .slice (some ⟨wr.heap.size, 0, none⟩) 1 1] w7 fun ev w' => ev = .returned (.tuple #[.bool (holds (tup 1 0 cr[j]) l).1, .int .i64 (holds (tup 1 0 cr[j]) l).2]) ∧ Ext w7 w') := Lib.hid (holds_of l _ w7 _ (tup 1 0 cr[j]) (HXW.out w7 (HF.out.ext.trans HX7.out)) (HT7.out.rows (by decide) (by decide)))
          have HSC : Hid (scanU 1 0 l ((U ++ cr.take j) ++ [cr[j]]) = if (holds (tup 1 0 cr[j]) l).2 ≠ 0 then ([], (holds (tup 1 0 cr[j]) l).2) else ((scanU 1 0 l (U ++ cr.take j)).1 ++ (if (holds (tup 1 0 cr[j]) l).1 = true then [cr[j]] else []), 0)) := Lib.hid (by
            rw [scanU_app _ _ _ _ _ HE0.out, scanU_one]
            by_cases h1 : (holds (tup 1 0 cr[j]) l).2 ≠ 0
            · simp only [if_pos h1]; rw [if_neg h1]
            · simp only [if_neg h1, if_true])
          generalize holds (tup 1 0 cr[j]) l = q at *
          generalize hrow : cr[j] = row at *
          clear hrow
          obtain ⟨b, e⟩ := q
          dsimp only at HHO HSC
          clear d0 d1 d2
          have d2 := (HF.out.grow HX7.out).x.cells.1
          by_cases hq2 : e = 0
          · subst hq2
            cases b
            · gi_wp2_with (refine ⟨trivial, ?_⟩; gi_at_call 30; refine (calls_in HHO.out).mono ?_; rintro ev w8 ⟨rfl, he8⟩; have HF8 := Lib.hid (HF.out.grow (HX7.out.trans he8)); have c3 := HF8.out.o.cells.1; have f3 := HF8.out.o.free 0; have c4 := HF8.out.e.cells.1; have f4 := HF8.out.e.free 0)
              go_roundw
              case rel =>
                refine ⟨j + 1, by simp, by omega, ⟨v', HO.out.ext (HX7.out.trans he8), ?_⟩, ?_, HF.out.grow (HX7.out.trans he8), HRK.out.grow (HX7.out.trans he8) hsz⟩
                · rw [HTK.out, HSC.out]; simpa using HT.out.ext (HX7.out.trans he8)
                · rw [HTK.out, HSC.out]; simp
              case measure => simp [intOf]; omega
            · obtain ⟨ss, hs1, hs2, hs3⟩ := HT.out
              have HL := Lib.hid hs1; have HS2 := Lib.hid hs2; have HS3 := Lib.hid hs3
              have hkl : (scanU 1 0 l (U ++ cr.take j)).1.length ≤ 10000000 := by
                have h1 := scanU_le 1 0 l (U ++ cr.take j)
                have h2 : (U ++ cr.take j).length ≤ U.length + 16 := by rw [List.length_append, List.length_take]; omega
                have := HUL.out
                omega
              clear hs1 hs2 hs3
              generalize hacc : (scanU 1 0 l (U ++ cr.take j)).1 = acc at *
              clear hacc
              gi_wp2_with (first
                | (refine ⟨trivial, ?_⟩; gi_at_call 30; refine (calls_in HHO.out).mono ?_; rintro ev w8 ⟨rfl, he8⟩; have HE8 := Lib.hid (HX7.out.trans he8); have HF8 := Lib.hid (HF.out.grow (HX7.out.trans he8)); have HO8 := Lib.hid (HO.out.ext (HX7.out.trans he8)); have HT8 := Lib.hid (HT7.out.ext he8); have c5 := HO8.out.cells.1; clear he8)
                | (gi_at_builtin; refine list_in (not_lets fun a u h => h) _ (by kernel_rfl) _ _ ?_; refine wpList_one (base := WL.heap.size) (n := acc.length) (v := v') (.tmp 59) (.tmp 61) rfl rfl Try.underlying91 info_rows (by decide) (by decide) rfl (owns_ext HS2.out (HE8.out.alloc (.cells #[.slice (some ⟨wr.heap.size, 0, none⟩) 1 1] 50))) [.slice (some ⟨wr.heap.size, 0, none⟩) 1 1] rfl (Rng.one9 rfl) rfl (heap_alloc_new _ _) (by omega) (Nat.le_trans HF8.out.size (by simp)) ?_; intro g9 c9 w9 ho9 hb9;
                   have HTA := Lib.hid (OwnT.snoc (n := 1) (rel := 0) HL.out (owns_ext HS2.out (HE8.out.alloc (.cells #[.slice (some ⟨wr.heap.size, 0, none⟩) 1 1] 50))) (fun i s r h1 h2 => (HS3.out i s r h1 h2).ext (HE8.out.alloc _)) (HT8.out.ext ((Ext.refl _).alloc _)) ho9 hb9);
                   have hlt9 : ∀ k, Value.ownBlock v' = some k → w.heap.size + 7 < k := fun k h => Nat.lt_of_lt_of_le HSZ.out (owns_lt HS2.out h).2;
                   have HBA := Lib.hid (hb9.box (fun h => by have := hlt9 _ h; omega) (HO8.out.ext ((Ext.refl w8).alloc (.cells #[.slice (some ⟨wr.heap.size, 0, none⟩) 1 1] 50))));
                   have HFA := Lib.hid ((HF8.out.grow ((Ext.refl w8).alloc (.cells #[.slice (some ⟨wr.heap.size, 0, none⟩) 1 1] 50))).buts hb9 (fun k h => by have := hlt9 k h; omega));
                   have HRA := Lib.hid ((HRK.out.grow (HE8.out.alloc (.cells #[.slice (some ⟨wr.heap.size, 0, none⟩) 1 1] 50)) hsz).turn hb9 (Nat.lt_of_lt_of_le HSZ.out (Nat.le_trans HF8.out.size (by simp))) (fun k h o ho => owns_isCells (owns_ext HS2.out (HE8.out.alloc (.cells #[.slice (some ⟨wr.heap.size, 0, none⟩) 1 1] 50))) h ho) (fun k h => by have := hlt9 k h; omega));
                   have c5 := HBA.out.cells.1; have f5 := HBA.out.free 0; clear ho9 hb9 hlt9; go_wp2_with fail;
                   have hq8 := HBA.out.setAt9 (i := 0) (.slice (some ⟨g9, 0, none⟩) (acc.length + 1) c9) (by simp);
                   have hb8 : But (w.heap.size + 1 + 1 + 1 + 1 + 1) w9 (w9.setCell ⟨w.heap.size + 1 + 1 + 1 + 1 + 1, 0, none⟩ (.slice (some ⟨g9, 0, none⟩) (acc.length + 1) c9)) := But.set_ (p := ⟨w.heap.size + 1 + 1 + 1 + 1 + 1, 0, none⟩) (.inr rfl) _ (But.refl _ _);
                   simp only [List.set_cons_zero] at hq8))
              go_roundw
              case rel =>
                refine ⟨j + 1, by simp, by omega, ⟨_, hq8, ?_⟩, ?_, HFA.out.buts (M := fun k => k = w.heap.size + 1 + 1 + 1 + 1 + 1) (ButS.of_but hb8 rfl) (fun k h => by omega), ?_⟩
                · rw [HTK.out, HSC.out]
                  exact HTA.out.buts (M := fun k => k = w.heap.size + 1 + 1 + 1 + 1 + 1) (ButS.of_but hb8 rfl) (fun k h => by have := HSZ.out; omega)
                · rw [HTK.out, HSC.out]; simp
                · exact HRA.out.turn (M := fun k => k = w.heap.size + 1 + 1 + 1 + 1 + 1) (ButS.of_but hb8 rfl) (Nat.lt_of_lt_of_le HSZ.out HFA.out.size) (fun k h o ho => by
                    subst h
                    obtain ⟨o', h1, h2⟩ := cell_block HBA.out.cells.1
                    rw [h1] at ho; cases ho; exact h2) (fun k h => by omega)
              case measure => simp [intOf]; omega
          · have z2 : (e != 0) = true := by simpa using hq2
            gi_wp2_with (refine ⟨trivial, ?_⟩; gi_at_call 30; refine (calls_in HHO.out).mono ?_; rintro ev w8 ⟨rfl, he8⟩; have HF8 := Lib.hid (HF.out.grow (HX7.out.trans he8)); have c3 := HF8.out.o.cells.1; have f3 := HF8.out.o.free 0; have c4 := HF8.out.e.cells.1; have f4 := HF8.out.e.free 0)
            have HM8 : ButS (fun k => k = w.heap.size + 1 + 1 + 1 ∨ k = w.heap.size + 1 + 1 + 1 + 1) w8 ((w8.setCell ⟨w.heap.size + 1 + 1 + 1, 0, none⟩ (.slice none 0 0)).setCell ⟨w.heap.size + 1 + 1 + 1 + 1, 0, none⟩ (.int .i64 e)) := ButS.set_ (p := ⟨w.heap.size + 1 + 1 + 1 + 1, 0, none⟩) (w := w8) (M := fun k => k = w.heap.size + 1 + 1 + 1 ∨ k = w.heap.size + 1 + 1 + 1 + 1) (.inr (.inr rfl)) _ (ButS.set_ (p := ⟨w.heap.size + 1 + 1 + 1, 0, none⟩) (w := w8) (w' := w8) (M := fun k => k = w.heap.size + 1 + 1 + 1 ∨ k = w.heap.size + 1 + 1 + 1 + 1) (.inr (.inl rfl)) _ (ButS.refl _ _))
            have hB3 := HF8.out.o.setAt9 (i := 0) (.slice none 0 0) (by simp)
            have hM1 : But (w.heap.size + 1 + 1 + 1) w8 (w8.setCell ⟨w.heap.size + 1 + 1 + 1, 0, none⟩ (.slice none 0 0)) := But.set_ (p := ⟨w.heap.size + 1 + 1 + 1, 0, none⟩) (.inr rfl) _ (But.refl _ _)
            have hB4 := (But.box hM1 (by omega) HF8.out.e).setAt9 (i := 0) (.int .i64 e) (by simp)
            have hM2 : But (w.heap.size + 1 + 1 + 1 + 1) (w8.setCell ⟨w.heap.size + 1 + 1 + 1, 0, none⟩ (.slice none 0 0)) ((w8.setCell ⟨w.heap.size + 1 + 1 + 1, 0, none⟩ (.slice none 0 0)).setCell ⟨w.heap.size + 1 + 1 + 1 + 1, 0, none⟩ (.int .i64 e)) := But.set_ (p := ⟨w.heap.size + 1 + 1 + 1 + 1, 0, none⟩) (.inr rfl) _ (But.refl _ _)
            have hB3' := But.box hM2 (by omega) hB3
            have hR8 := (HRK.out.grow (HX7.out.trans he8) hsz).turn HM8 (Nat.lt_of_lt_of_le HSZ.out HF8.out.size) (fun k h o ho => by
              rcases h with rfl | rfl
              · obtain ⟨o', h1, h2⟩ := cell_block HF8.out.o.cells.1
                rw [h1] at ho; cases ho; exact h2
              · obtain ⟨o', h1, h2⟩ := cell_block HF8.out.e.cells.1
                rw [h1] at ho; cases ho; exact h2) (fun k h => by omega)
            have hsu : scanU 1 0 l (unp rows 0 l (pre ++ [x])) = ([], e) := by
              rw [HUN.out]
              simp only [Bool.false_eq_true, if_false]
              rw [HDR.out, ← List.append_assoc, scanU_stop _ _ _ _ _ (by rw [HSC.out, if_pos hq2]; exact hq2), HSC.out, if_pos hq2]
            refine ⟨hR8.kf, rfl, ?_, ?_, ?_, HM8.to_ext HF8.out.ext (fun k h => by omega)⟩
            · exact hB3'
            · rw [hsu]; exact hq2
            · rw [hsu]; exact hB4
        · have hjlt' : ¬ ((j : Int) < (cr.length : Int)) := by omega
          obtain rfl : j = cr.length := by omega
          rw [List.take_length] at HT HE0
          clear ho' ht' hF' hRK he0'
          gi_wp2
          exact ⟨HRK.out.kf, HRK.out.kb, ⟨v', HO.out, by rw [HUN.out]; simpa using HT.out⟩, by rw [HUN.out]; simpa using HE0.out, HF.out⟩
    · gi_wp2_with (refine ⟨trivial, ?_⟩; gi_at_call 107; refine (calls_in (HPS.out _ (Ext.refl _))).mono ?_; rintro ev w5 ⟨rfl, he5⟩)
      have hrk := (RKA.refl w WL W).grow he5 hsz
      refine ⟨hrk.kf, hrk.kb, ⟨v, HO.out.ext he5, ?_⟩, ?_, HF.out.grow he5⟩
      · rw [HUN.out]; simpa using HT.out.ext he5
      · rw [HUN.out]; simpa using he0
  case done =>
    rintro D ys W hD rfl ⟨⟨v, ho, ht⟩, he0, hF⟩ hK
    obtain ⟨A0, c0, rfl⟩ := ht.shape
    have hs0 : scanU 1 0 l (unp rows 0 l (List.range ((rows.length + 15) / 16))) = scanAll rows 1 0 l := rfl
    rw [hs0] at he0 ht ho
    have hc5 := ho.cells.1
    have hc3 := hF.o.cells.1; have hf3 := hF.o.free 0
    have hc4 := hF.e.cells.1; have hf4 := hF.e.free 0
    have HK := Lib.hid hK
    have HT := Lib.hid ht; have HF := Lib.hid hF
    clear hK ht ho hF hs0
    go_wp2_with fail
    have HB3 := Lib.hid (HF.out.o.setAt9 (i := 0) (.slice A0 (scanAll rows 1 0 l).1.length c0) (by simp))
    have hM1 : But (w.heap.size + 1 + 1 + 1) W (W.setCell ⟨w.heap.size + 1 + 1 + 1, 0, none⟩ (.slice A0 (scanAll rows 1 0 l).1.length c0)) := But.set_ (p := ⟨w.heap.size + 1 + 1 + 1, 0, none⟩) (.inr rfl) _ (But.refl _ _)
    have HB4 := Lib.hid ((But.box hM1 (by omega) HF.out.e).setAt9 (i := 0) (.int .i64 0) (by simp))
    have hM2 : But (w.heap.size + 1 + 1 + 1 + 1) (W.setCell ⟨w.heap.size + 1 + 1 + 1, 0, none⟩ (.slice A0 (scanAll rows 1 0 l).1.length c0)) ((W.setCell ⟨w.heap.size + 1 + 1 + 1, 0, none⟩ (.slice A0 (scanAll rows 1 0 l).1.length c0)).setCell ⟨w.heap.size + 1 + 1 + 1 + 1, 0, none⟩ (.int .i64 0)) := But.set_ (p := ⟨w.heap.size + 1 + 1 + 1 + 1, 0, none⟩) (.inr rfl) _ (But.refl _ _)
    have HB3' := Lib.hid (But.box hM2 (by omega) HB3.out)
    simp only [List.set_cons_zero] at HB3 HB4 HB3'
    have hM : ButS (fun k => k = w.heap.size + 1 + 1 + 1 ∨ k = w.heap.size + 1 + 1 + 1 + 1) W ((W.setCell ⟨w.heap.size + 1 + 1 + 1, 0, none⟩ (.slice A0 (scanAll rows 1 0 l).1.length c0)).setCell ⟨w.heap.size + 1 + 1 + 1 + 1, 0, none⟩ (.int .i64 0)) := (ButS.of_but (M := fun k => k = w.heap.size + 1 + 1 + 1 ∨ k = w.heap.size + 1 + 1 + 1 + 1) hM1 (.inl rfl)).trans (ButS.of_but hM2 (.inr rfl))
    have hK2 := (hM.block D (Array.getElem?_eq_some_iff.1 HK.out).1 (by have := HSZ.out; omega)).trans HK.out
    have hkt := keep_turn _ (o' := .deferred none) hK2 rfl
    refine ⟨by simp, .inl ⟨_, _, rfl, run_takeDeferred hK2, ?_⟩⟩
    refine ⟨_, results_cc rfl Try.underlying91 rfl Try.underlying35 rfl rfl rfl (hkt.box HB3'.out).cells.1 (hkt.box HB4.out).cells.1, _, rfl, ?_, ?_⟩
    · exact ((HT.out.buts hM (fun k h => by have := HSZ.out; omega)).keep hkt).down (show w.heap.size ≤ WL.heap.size by have := HSZ.out; omega)
    · exact (show Below w.heap.size w _ from hM.to_ext HF.out.ext (fun k h => by omega)).trans (belowK_b (w := w) (Nat.le_refl _) _ D _ _ (by have := HSZ.out; omega) hK2 rfl rfl)
  case stop =>
    rintro D c pre W hD hsp ⟨rfl, h2, h3, h4, h5⟩ hK
    obtain ⟨q, hq⟩ := hsp
    have hu : unp rows 0 l (List.range ((rows.length + 15) / 16)) = unp rows 0 l pre ++ unp rows 0 l q := by rw [← hq]; simp [unp]
    have hall : scanAll rows 1 0 l = ([], (scanU 1 0 l (unp rows 0 l pre)).2) := by
      show scanU 1 0 l (unp rows 0 l (List.range ((rows.length + 15) / 16))) = _
      rw [hu]; exact scanU_stop _ _ _ _ _ h3
    have HA := Lib.hid hall; have H2 := Lib.hid h2; have H3 := Lib.hid h3; have H4 := Lib.hid h4
    have hne : ¬ (scanAll rows 1 0 l).2 = 0 := by rw [hall]; exact h3
    clear hall h2 h3 h4 hu hq
    gi_wp2
    have hkt := keep_turn _ (o' := .deferred none) hK rfl
    refine ⟨by simp, .inl ⟨_, _, rfl, run_takeDeferred hK, ?_⟩⟩
    refine ⟨_, results_cc rfl Try.underlying91 rfl Try.underlying35 rfl rfl rfl (hkt.box H2.out).cells.1 (hkt.box H4.out).cells.1, _, by rw [HA.out], ?_, ?_⟩
    · rfl
    · exact (show Below w.heap.size w _ from h5).trans (belowK_b (w := w) (Nat.le_refl _) _ D _ _ (by have := HSZ.out; omega) hK rfl rfl)
end Go.Proofs.Ytlcdjaclahhdnaa
namespace Go.Proofs.Ytlcdjaclahhdnaa
open Go.RowKit
set_option linter.unusedSimpArgs false
set_option linter.unusedVariables false
attribute [local irreducible] wpQuiet wpList Code.wp

/-- A row of the call's own that holds rows of values of the call's own. -/
def OwnRows (w : World) (base : Nat) (v : Value) (rows : List (List Val)) : Prop :=
  ∃ ss : List Value, ss.length = rows.length ∧ w.ownsRow base 59 1 v rows.length ss ∧ ∀ (i : Nat) (s : Value) (r : List Val), ss[i]? = some s → rows[i]? = some r → w.ownsRow base 24 4 s r.length (vc r) ∧ (∀ v ∈ r, v.Ok) ∧ r.length ≤ 1000000
theorem OwnRows.nil (w : World) (base : Nat) : OwnRows w base (.slice none 0 0) [] := ⟨[], rfl, owns_nil _ _ _ _, by simp⟩
theorem OwnRows.ext {w w' : World} {base : Nat} {v : Value} {rows : List (List Val)} (h : OwnRows w base v rows) (he : Ext w w') : OwnRows w' base v rows := by
  obtain ⟨ss, h1, h2, h3⟩ := h
  exact ⟨ss, h1, owns_ext h2 he, fun i s r hs hr => ⟨owns_ext (h3 i s r hs hr).1 he, (h3 i s r hs hr).2⟩⟩
theorem OwnRows.snoc {w w' : World} {base : Nat} {v v' : Value} {rows : List (List Val)} {ss : List Value} {s : Value} {r : List Val} (h1 : ss.length = rows.length) (h2 : w.ownsRow base 59 1 v rows.length ss)
    (h3 : ∀ (i : Nat) (s : Value) (r : List Val), ss[i]? = some s → rows[i]? = some r → w.ownsRow base 24 4 s r.length (vc r) ∧ (∀ v ∈ r, v.Ok) ∧ r.length ≤ 1000000) (hr : w.ownsRow base 24 4 s r.length (vc r) ∧ (∀ v ∈ r, v.Ok) ∧ r.length ≤ 1000000)
    (ho : w'.ownsRow base 59 1 v' (rows.length + 1) (ss ++ [s])) (hb : ButS (fun k => v.ownBlock = some k) w w') : OwnRows w' base v' (rows ++ [r]) := by
  refine ⟨ss ++ [s], by simp [h1], by rw [List.length_append]; exact ho, fun i u q hu hq => ?_⟩
  rw [List.getElem?_append] at hq hu
  rw [h1] at hu
  split at hq
  · rename_i hi
    rw [if_pos hi] at hu
    exact ⟨owns_buts (h3 i u q hu hq).1 hb (owns_apart (h3 i u q hu hq).1 h2 (by decide)), (h3 i u q hu hq).2⟩
  · rename_i hi
    rw [if_neg hi] at hu
    rcases Nat.eq_zero_or_pos (i - rows.length) with h0 | h0
    · rw [h0] at hq hu
      simp only [List.getElem?_cons_zero, Option.some.injEq] at hq hu
      subst hq hu
      exact ⟨owns_buts hr.1 hb (owns_apart hr.1 h2 (by decide)), hr.2⟩
    · rw [List.getElem?_eq_none (by simp; omega)] at hq; cases hq
theorem OwnRows.rows {w : World} {base : Nat} {v : Value} {rows : List (List Val)} (h : OwnRows w base v rows) (hl : rows.length ≤ 1000000) : RowsIn w v rows := by
  obtain ⟨ss, h1, h2, h3⟩ := h
  obtain ⟨A, c, rfl, h4, h5, h6, h7⟩ := owns_form h2
  have hcc : A = none → c = 0 := fun hA => by
    subst hA
    rcases h2.2 with ⟨h8, _⟩ | ⟨g, cap, cur, h8, _⟩
    · simp only [Value.slice.injEq] at h8; exact h8.2.2
    · cases h8
  refine ⟨⟨A, c, rfl, h4, hcc, fun hne => ?_⟩, by omega, fun r hm => ?_⟩
  · cases A with
    | none => exact absurd (List.eq_nil_of_length_eq_zero (h6 rfl)) hne
    | some ad =>
      obtain ⟨hs, _, _, hcell⟩ := h7 ad rfl
      obtain ⟨g, o, s⟩ := ad
      obtain rfl : s = none := hs
      refine ⟨g, o, rfl, fun i hi => ?_⟩
      have hi' : i < ss.length := by omega
      exact ⟨ss[i], hcell i _ (List.getElem?_eq_getElem hi'), vals_own (h3 i _ _ (List.getElem?_eq_getElem hi') (List.getElem?_eq_getElem hi)).1 (h3 i _ _ (List.getElem?_eq_getElem hi') (List.getElem?_eq_getElem hi)).2.1⟩
  · obtain ⟨i, hi, rfl⟩ := List.getElem_of_mem hm
    have hi' : i < ss.length := by omega
    have := (h3 i _ _ (List.getElem?_eq_getElem hi') (List.getElem?_eq_getElem hi)).2.2
    omega
theorem info_row9 : (Try.prog.info? 59).map (fun i => (i.zero.map (·.cells.size), i.size, i.bytes)) = some (some 1, 1, 24) := by kernel_rfl

set_option maxRecDepth 100000 in
set_option maxHeartbeats 8000000 in
theorem works26 (w : World) : Calls Try.prog 43 #[] w fun e w' => e = .returned (.bool true) ∧ Ext w w' := by
  have HNU : Hid (∀ (n : Int) u, Calls Try.prog 53 #[.int .i64 n] u fun e w' => e = .returned (.agg #[.int .i64 2, .int .i64 (n), .float .f64 0, .string ⟨#[]⟩]) ∧ Ext u w') := Lib.hid fun n u => number_of n u
  go_enter Try.func43, Try.ntmps43
  go_wp2_with fail
  go_loopw [1, 6] (fun x y wr => ∃ i : Nat, y = .int .i64 (i : Int) ∧ i ≤ 32 ∧ OwnRows wr w.heap.size x (rows26.take i) ∧ Ext w wr) (fun _ y _ => 32 - (intOf y).toNat)
  case atStart => exact ⟨0, rfl, by omega, OwnRows.nil _ _, Ext.refl _⟩
  case round =>
    rename_i hrel
    obtain ⟨i, rfl, hi, ho, hE⟩ := hrel
    have HE := Lib.hid hE
    by_cases hlt : i < 32
    · have hlt' : (i : Int) < 32 := by omega
      have hw : wrap64 ((i : Int) + 1) = (i : Int) + 1 := by unfold wrap64; omega
      have hlen : (rows26.take i).length = i := by rw [List.length_take]; have : rows26.length = 32 := rfl; omega
      have HTK : Hid (rows26.take (i + 1) = rows26.take i ++ [row26 i]) := Lib.hid (by
        have h32 : i < rows26.length := hlt
        rw [List.take_succ_eq_append_getElem h32]
        congr 2
        simp [rows26])
      have HL := Lib.hid hlen
      obtain ⟨ss, hs1, hs2, hs3⟩ := ho
      rw [hlen] at hs2
      have HS1 := Lib.hid hs1; have HS2 := Lib.hid hs2; have HS3 := Lib.hid hs3
      clear hs1 hs2 hs3 hE hlen
      go_wp2_with (first
        | (go_at_call 53; refine (HNU.out _ _).mono ?_; rintro e w2 ⟨rfl, he2⟩; have HE2 := Lib.hid he2; clear he2)
        | (refine wpList_one (base := w.heap.size) (n := i) (.tmp 9) (.tmp 14) rfl rfl Try.underlying50 info_row9 (by decide) (by decide) rfl (owns_ext HS2.out ((HE2.out.alloc (.cells #[.int .i64 2, .int .i64 ((i : Int) + 1), .float .f64 0, .string ⟨#[]⟩] 24)).alloc (.cells #[.slice (some ⟨w2.heap.size, 0, none⟩) 1 1] 59))) [.slice (some ⟨w2.heap.size, 0, none⟩) 1 1] rfl (Rng.one9 rfl) rfl (by have h := heap_alloc_new (w2.alloc (.cells #[.int .i64 2, .int .i64 ((i : Int) + 1), .float .f64 0, .string ⟨#[]⟩] 24)) (.cells #[.slice (some ⟨w2.heap.size, 0, none⟩) 1 1] 59); simpa using h) (by omega) (by have := HE.out.size; have := HE2.out.size; simp; omega) ?_; intro g9 c9 w9 ho9 hb9))
      have hx : Ext wr ((w2.alloc (.cells #[.int .i64 2, .int .i64 ((i : Int) + 1), .float .f64 0, .string ⟨#[]⟩] 24)).alloc (.cells #[.slice (some ⟨w2.heap.size, 0, none⟩) 1 1] 59)) := (HE2.out.alloc _).alloc _
      refine ⟨⟨i + 1, by simp, by omega, ?_, hb9.to_ext (HE.out.trans hx) (fun k h => (owns_lt HS2.out h).2)⟩, by simp [intOf] <;> omega⟩
      rw [HTK.out]
      refine OwnRows.snoc (s := .slice (some ⟨w2.heap.size, 0, none⟩) 1 1) HS1.out (by rw [HL.out]; exact owns_ext HS2.out hx) (fun i s r h1 h2 => ⟨owns_ext (HS3.out i s r h1 h2).1 hx, (HS3.out i s r h1 h2).2⟩) ⟨?_, ?_, by simp [row26]⟩ (by rw [HL.out]; exact ho9) hb9
      · exact owns_ext (show (w2.alloc (.cells #[.int .i64 2, .int .i64 ((i : Int) + 1), .float .f64 0, .string ⟨#[]⟩] 24)).ownsRow w.heap.size 24 4 (.slice (some ⟨w2.heap.size, 0, none⟩) 1 1) 1 (vc (row26 i)) from ⟨rfl, .inr ⟨w2.heap.size, 1, #[.int .i64 2, .int .i64 ((i : Int) + 1), .float .f64 0, .string ⟨#[]⟩], rfl, by have := HE.out.size; have := HE2.out.size; omega, heap_alloc_new _ _, by decide, by decide, rfl, rfl⟩⟩) ((Ext.refl _).alloc _)
      · intro v hv
        simp only [row26, List.mem_singleton] at hv
        subst hv
        exact number_ok (by omega)
    · have hlt' : ¬ ((i : Int) < 32) := by omega
      obtain rfl : i = 32 := by omega
      have HOR : Hid (OwnRows wr w.heap.size u1 rows26) := Lib.hid (by have h : rows26.take 32 = rows26 := rfl; rw [h] at ho; exact ho)
      clear ho hE
      obtain ⟨A0, c0, hA0⟩ : ∃ A c, u1 = .slice A 32 c := by obtain ⟨ss, h1, h2, h3⟩ := HOR.out; exact owns_shape h2
      subst hA0
      go_upto_region 8 with (go_at_call 53; refine (HNU.out _ _).mono ?_; rintro e w2 ⟨rfl, he2⟩)
      have hin : ExsIn ((w2.alloc (.cells #[.int .i64 1, .int .i64 0, .int .i64 0, .int .i64 0, .int .i64 0, .float .f64 0, .string ⟨#[]⟩, .slice none 0 0, .int .i64 2, .int .i64 0, .int .i64 0, .int .i64 2, .int .i64 5, .float .f64 0, .string ⟨#[]⟩, .slice none 0 0] 27)).alloc (.cells #[.int .i64 8, .int .i64 0, .int .i64 0, .int .i64 0, .int .i64 0, .float .f64 0, .string ⟨#[]⟩, .slice (some ⟨w2.heap.size, 0, none⟩) 2 2] 27)) (.slice (some ⟨w2.heap.size + 1, 0, none⟩) 1 1) [w22e] := by
        have h := ExsIn.new (w := w2.alloc (.cells #[.int .i64 1, .int .i64 0, .int .i64 0, .int .i64 0, .int .i64 0, .float .f64 0, .string ⟨#[]⟩, .slice none 0 0, .int .i64 2, .int .i64 0, .int .i64 0, .int .i64 2, .int .i64 5, .float .f64 0, .string ⟨#[]⟩, .slice none 0 0] 27)) (l := [w22e]) (ss := [.slice (some ⟨w2.heap.size, 0, none⟩) 2 2]) (n := 1) (cap := 1) (A := #[.int .i64 8, .int .i64 0, .int .i64 0, .int .i64 0, .int .i64 0, .float .f64 0, .string ⟨#[]⟩, .slice (some ⟨w2.heap.size, 0, none⟩) 2 2]) rfl rfl (by decide) (by decide) rfl (fun i hi hj => by
          match i, hi with
          | 0, _ => exact w22e_in)
        simpa using h
      have hee : Ext wr ((w2.alloc (.cells #[.int .i64 1, .int .i64 0, .int .i64 0, .int .i64 0, .int .i64 0, .float .f64 0, .string ⟨#[]⟩, .slice none 0 0, .int .i64 2, .int .i64 0, .int .i64 0, .int .i64 2, .int .i64 5, .float .f64 0, .string ⟨#[]⟩, .slice none 0 0] 27)).alloc (.cells #[.int .i64 8, .int .i64 0, .int .i64 0, .int .i64 0, .int .i64 0, .float .f64 0, .string ⟨#[]⟩, .slice (some ⟨w2.heap.size, 0, none⟩) 2 2] 27)) := (he2.alloc _).alloc _
      refine name_worldA (fun u => ExsIn u (.slice (some ⟨w2.heap.size + 1, 0, none⟩) 1 1) [w22e] ∧ RowsIn u (.slice A0 32 c0) rows26 ∧ Ext w u) ⟨hin, (HOR.out.ext hee).rows (by decide), HE.out.trans hee⟩ ?_
      generalize w2.heap.size = gx
      clear hin hee he2 HOR HE hlt hlt' hi
      rintro U ⟨hx, hr, hE⟩
      have HX : Hid (∀ u, Ext U u → ExsIn u (.slice (some ⟨gx + 1, 0, none⟩) 1 1) [w22e]) := Lib.hid fun u h => hx.ext h
      have HR : Hid (∀ u, Ext U u → RowsIn u (.slice A0 32 c0) rows26) := Lib.hid fun u h => hr.ext h
      have HE := Lib.hid hE
      have hlens : ∀ r ∈ rows26, r.length ≤ 1000000 := by
        intro r hr
        obtain ⟨j, -, rfl⟩ := List.mem_map.1 hr
        simp [row26]
      have HSC : Hid (Calls Try.prog 49 #[.slice A0 32 c0, .int .i64 1, .int .i64 0, .slice (some ⟨gx + 1, 0, none⟩) 1 1] U fun ev w' => ∃ v, ev = .returned (.tuple #[v, .int .i64 0]) ∧ OwnT w' U.heap.size v 1 0 [row26 0, row26 1, row26 2, row26 3] ∧ Ext U w') := Lib.hid (by
        have h := scanA_of rows26 _ [w22e] _ U hr (by decide) hx hlens
        rw [scan26] at h
        refine h.mono fun ev w' ⟨v, h1, h2, h3⟩ => ⟨v, h1, ?_, h3⟩
        rw [if_pos rfl] at h2
        exact h2)
      have HPD : Hid (∀ u, Ext U u → Calls Try.prog 99 #[.slice A0 32 c0, .int .i64 0, .slice (some ⟨gx + 1, 0, none⟩) 1 1] u fun ev w' => ev = .returned (.int .i64 16) ∧ Ext u w') := Lib.hid fun u h => by
        have h9 := passed_of rows26 _ 0 [w22e] _ u (HR.out u h) (by decide) (HX.out u h)
        rw [passed26] at h9
        exact h9
      have HZS : Hid (∀ u, Ext U u → Calls Try.prog 44 #[.slice A0 32 c0, .int .i64 1] u fun ev w' => ∃ A c, ev = .returned (.slice A 2 c) ∧ Ext u w') := Lib.hid fun u h => (zones_of rows26 _ 1 1 u (HR.out u h) (by decide) (by decide)).mono fun ev w' ⟨v, h1, h2, h3⟩ => by
        obtain ⟨A, c, rfl⟩ := h2.shape
        exact ⟨A, c, h1, h3⟩
      clear hx hr hE hlens HNU
      go_upto_region 9 with (go_at_call 49; refine HSC.out.mono ?_; rintro ev w8 ⟨v, rfl, ht, he8⟩)
      obtain ⟨ss, h1, h2, h3⟩ := ht
      obtain ⟨s0, s1, s2, s3, rfl⟩ : ∃ a b c d, ss = [a, b, c, d] := by
        match ss, h1 with
        | [a, b, c, d], _ => exact ⟨a, b, c, d, rfl⟩
      obtain ⟨q, hq1, hq2, -, -⟩ := h3 3 s3 (row26 3) rfl rfl
      obtain ⟨gv, cv, rfl⟩ : ∃ g c, v = .slice (some ⟨g, 0, none⟩) 4 c := by
        rcases h2.2 with ⟨_, h0⟩ | ⟨g, c, cur, rfl, _⟩
        · simp at h0
        · exact ⟨g, c, rfl⟩
      obtain ⟨gs, cs, rfl⟩ : ∃ g c, s3 = .slice (some ⟨g, 0, none⟩) 1 c := by
        rcases hq1.2 with ⟨_, h0⟩ | ⟨g, c, cur, rfl, _⟩
        · simp at h0
        · exact ⟨g, c, rfl⟩
      obtain ⟨gq, cq, rfl⟩ : ∃ g c, q = .slice (some ⟨g, 0, none⟩) 1 c := by
        rcases hq2.2 with ⟨_, h0⟩ | ⟨g, c, cur, rfl, _⟩
        · simp [row26] at h0
        · exact ⟨g, c, rfl⟩
      have hc1 : w8.cell? ⟨gv, 3, none⟩ = some (.slice (some ⟨gs, 0, none⟩) 1 cs) := by have := (owns_cells h2).get 3 _ rfl; simpa using this
      have hc2 : w8.cell? ⟨gs, 0, none⟩ = some (.slice (some ⟨gq, 0, none⟩) 1 cq) := by have := (owns_cells hq1).get 0 _ rfl; simpa using this
      have hc3 : w8.cell? ⟨gq, 1, none⟩ = some (.int .i64 4) := by have := (owns_cells hq2).get 1 _ rfl; simpa [Val.number] using this
      have HC : Hid (∀ u, Ext w8 u → u.cell? ⟨gv, 3, none⟩ = some (.slice (some ⟨gs, 0, none⟩) 1 cs) ∧ u.cell? ⟨gs, 0, none⟩ = some (.slice (some ⟨gq, 0, none⟩) 1 cq) ∧ u.cell? ⟨gq, 1, none⟩ = some (.int .i64 4)) := Lib.hid fun u h => ⟨(h.cell (cell_lt hc1)).trans hc1, (h.cell (cell_lt hc2)).trans hc2, (h.cell (cell_lt hc3)).trans hc3⟩
      have HE8 := Lib.hid he8
      clear h1 h2 h3 hq1 hq2 hc1 hc2 hc3 he8 HSC
      go_wp2_with (first
        | (go_at_call 99; refine (HPD.out _ HE8.out).mono ?_; rintro ev w9 ⟨rfl, he9⟩; have HE9 := Lib.hid (HE8.out.trans he9); obtain ⟨k1, k2, k3⟩ := HC.out _ he9; clear he9)
        | (go_at_call 44; refine (HZS.out _ HE9.out).mono ?_; rintro ev w10 ⟨A, c, rfl, he10⟩))
      go_ret
      exact ⟨rfl, HE.out.trans (HE9.out.trans he10)⟩
end Go.Proofs.Ytlcdjaclahhdnaa
namespace Go.Proofs.Ytlcdjaclahhdnaa
open Go.RowKit
set_option linter.unusedSimpArgs false
set_option linter.unusedVariables false

mutual
/-- All lists of parts have so many at most. -/
def Ex.small (m : Nat) : Ex → Prop
  | .mk _ _ _ _ l => l.length ≤ m ∧ Exs.small m l
termination_by structural e => e
def Exs.small (m : Nat) : List Ex → Prop
  | [] => True
  | e :: l => e.small m ∧ Exs.small m l
termination_by structural l => l
end
theorem Exs.small_iff (m : Nat) (l : List Ex) : Exs.small m l ↔ ∀ e ∈ l, e.small m := by
  induction l with
  | nil => simp [Exs.small]
  | cons e l ih => simp [Exs.small, ih]
theorem Ex.small_iff (m : Nat) (e : Ex) : e.small m ↔ e.kids.length ≤ m ∧ ∀ x ∈ e.kids, x.small m := by
  cases e with
  | mk k r c v l => simp only [Ex.small, Ex.kids, Exs.small_iff]
theorem Ex.small_mono {m n : Nat} (h : m ≤ n) : ∀ e : Ex, e.small m → e.small n := by
  intro e
  induction e using Ex.ind with
  | h k r c v l ih =>
    simp only [Ex.small, Exs.small_iff]
    exact fun ⟨h1, h2⟩ => ⟨by omega, fun e he => ih e he (h2 e he)⟩
/-- What Bulk's number tells. -/
def BulkR (most : Nat) (l : List Ex) (ev : Ending) : Prop :=
  ∃ n : Nat, ev = .returned (.int .i64 (n : Int)) ∧ n ≤ 2 * most + 1 ∧ (n ≤ most → l.length ≤ most ∧ ∀ e ∈ l, e.small most)
theorem BulkR.get {most : Nat} {l : List Ex} {ev : Ending} (h : BulkR most l ev) : ∃ n : Nat, ev = .returned (.int .i64 (n : Int)) ∧ n ≤ 2 * most + 1 ∧ Hid (n ≤ most → l.length ≤ most ∧ ∀ e ∈ l, e.small most) := by
  obtain ⟨n, h1, h2, h3⟩ := h; exact ⟨n, h1, h2, Lib.hid h3⟩

set_option maxRecDepth 100000 in
set_option maxHeartbeats 4000000 in
theorem bulk_of_kids : ∀ (e : Ex) (s : Value) (most : Nat) (w : World), ExsIn w s e.kids → most ≤ 2000 →
    Calls Try.prog 54 #[s, .int .i64 (most : Int)] w fun ev w' => BulkR most e.kids ev ∧ w = w' := by
  intro e
  induction e using Ex.ind with
  | h k r c v l ih =>
    intro s most w hin hm
    show Calls Try.prog 54 #[s, .int .i64 (most : Int)] w fun ev w' => BulkR most l ev ∧ w = w'
    change ExsIn w s l at hin
    obtain ⟨hlm, A, cap, rfl, hkr⟩ := (⟨hin.1, hin.2⟩ : l.length ≤ 9223372036854775807 ∧ _)
    have HIN := Lib.hid hin; have IH := Lib.hid ih
    clear hin ih hkr
    by_cases hbig : most < l.length
    · have hb1 : (most : Int) < (l.length : Int) := by omega
      go_enter Try.func54, Try.ntmps54
      go_wp2_with fail
      go_ret
      exact ⟨⟨most + 1, rfl, by omega, fun h => by omega⟩, rfl⟩
    · have hb1 : ¬ (most : Int) < (l.length : Int) := by omega
      go_enter Try.func54, Try.ntmps54
      go_wp2_with fail
      go_loop [5, 6] (fun x y => ∃ (i n : Nat), x = .int .i64 (n : Int) ∧ y = .int .i64 (i : Int) ∧ i ≤ l.length ∧ n ≤ 2 * most + 1 ∧ (n ≤ most → ∀ e ∈ l.take i, e.small most)) (fun _ y => l.length - (intOf y).toNat)
      case atStart => exact ⟨0, l.length, rfl, rfl, by omega, by omega, fun _ e he => by simp at he⟩
      case round =>
        obtain ⟨i, n, rfl, rfl, hi, hn, hsm⟩ := hrel
        have HSM := Lib.hid hsm; clear hsm
        by_cases hlt : i < l.length
        · have hlt' : (i : Int) < (l.length : Int) := by omega
          obtain ⟨g, o, s', rfl, _, hat, hin2, hg⟩ := HIN.out.get i hlt
          obtain ⟨_, A', cap', rfl, _⟩ := (Ex.In.mk_inv hin2).2.2.2.2
          have hcall := Lib.hid (fun (z : Int) (h0 : 0 ≤ z) (h1 : z ≤ 2000) => (by have h := IH.out l[i] (List.getElem_mem hlt) (.slice A' l[i].kids.length cap') z.toNat w (Ex.In.mk_inv hin2).2.2.2.2 (by omega); rw [Int.toNat_of_nonneg h0] at h; exact h : Calls Try.prog 54 #[.slice A' l[i].kids.length cap', .int .i64 z] w fun ev w' => BulkR z.toNat l[i].kids ev ∧ w = w'))
          have HT : Hid (∀ q : Nat, (q ≤ most → l[i].small most) → (q ≤ most → n ≤ most) → (q ≤ most → ∀ e ∈ l.take (i + 1), e.small most)) := Lib.hid fun q h1 h2 h3 e he => by
            rw [List.take_succ_eq_append_getElem hlt, List.mem_append] at he
            rcases he with he | he
            · exact HSM.out (h2 h3) e he
            · simp only [List.mem_singleton] at he; subst he; exact h1 h3
          have HSI := Lib.hid (Ex.small_iff most l[i])
          have HAT6 := Lib.hid (hat.get 6 _ rfl)
          have HAT7 := Lib.hid (hat.get 7 _ rfl)
          have htx := (Ex.In.mk_inv hin2).2.2.2.1.text
          clear hat hin2
          generalize l[i] = e at *
          by_cases hnm : n ≤ most
          · have hnm' : (n : Int) ≤ (most : Int) := by omega
            have hI : (i : Int) ≤ 9223372036854775806 := by omega
            have hN : (n : Int) ≤ 2000 := by omega
            by_cases htl : e.const.text.size ≤ most
            · have htl' : ¬ (most : Int) < (e.const.text.size : Int) := by omega
              have hT : (e.const.text.size : Int) ≤ 2000 := by omega
              by_cases hn2 : n + e.const.text.size ≤ most
              · have hn2' : (n : Int) + (e.const.text.size : Int) ≤ (most : Int) := by omega
                go_wp2_with (first
                | (refine wpList_wish rfl fun K hK => wp_idxS (i := i) Try.underlying25 size_ex (.tmp 26) _ rfl rfl rfl hlt (hK _ _ ?_))
                | (refine wpList_wish rfl fun K hK => wp_idxS (i := i) Try.underlying25 size_ex (.tmp 38) _ rfl rfl rfl hlt (hK _ _ ?_))
                | (refine wpList_wish rfl fun K hK => wp_idxS (i := i) Try.underlying25 size_ex (.tmp 50) _ rfl rfl rfl hlt (hK _ _ ?_))
                | (refine wpList_wish rfl fun K hK => wp_cell Try.underlying9 rfl (.tmp 30) rfl rfl HAT6.out (hK _ _ ?_))
                | (refine wpList_wish rfl fun K hK => wp_cell Try.underlying9 rfl (.tmp 42) rfl rfl HAT6.out (hK _ _ ?_))
                | (refine wpList_wish rfl fun K hK => wp_cell Try.underlying25 rfl (.tmp 53) rfl rfl HAT7.out (hK _ _ ?_))
                | (go_at_call 54; refine (hcall.out _ (by omega) (by omega)).mono ?_; rintro ev w2 ⟨hh, rfl⟩; obtain ⟨q, rfl, hq1, hq2⟩ := hh.get; have hQ : (q : Int) ≤ 4001 := by omega))
                refine ⟨⟨i + 1, n + e.const.text.size + q, by simp; try omega, by simp, by omega, by omega, HT.out _ (fun h => HSI.out.2 ⟨?_, ?_⟩) (fun _ => hnm)⟩, by simp [intOf] <;> omega⟩
                · have := (hq2.out (by omega)).1; omega
                · intro x hx; exact Ex.small_mono (by omega) x ((hq2.out (by omega)).2 x hx)
              · have hn2' : ¬ (n : Int) + (e.const.text.size : Int) ≤ (most : Int) := by omega
                go_wp2_with (first
                | (refine wpList_wish rfl fun K hK => wp_idxS (i := i) Try.underlying25 size_ex (.tmp 26) _ rfl rfl rfl hlt (hK _ _ ?_))
                | (refine wpList_wish rfl fun K hK => wp_idxS (i := i) Try.underlying25 size_ex (.tmp 38) _ rfl rfl rfl hlt (hK _ _ ?_))
                | (refine wpList_wish rfl fun K hK => wp_idxS (i := i) Try.underlying25 size_ex (.tmp 50) _ rfl rfl rfl hlt (hK _ _ ?_))
                | (refine wpList_wish rfl fun K hK => wp_cell Try.underlying9 rfl (.tmp 30) rfl rfl HAT6.out (hK _ _ ?_))
                | (refine wpList_wish rfl fun K hK => wp_cell Try.underlying9 rfl (.tmp 42) rfl rfl HAT6.out (hK _ _ ?_))
                | (refine wpList_wish rfl fun K hK => wp_cell Try.underlying25 rfl (.tmp 53) rfl rfl HAT7.out (hK _ _ ?_)))
                refine ⟨⟨i + 1, n + e.const.text.size, by simp, by simp, by omega, by omega, fun h => absurd h hn2⟩, by simp [intOf] <;> omega⟩
            · have htl' : (most : Int) < (e.const.text.size : Int) := by omega
              go_wp2_with (first
                | (refine wpList_wish rfl fun K hK => wp_idxS (i := i) Try.underlying25 size_ex (.tmp 26) _ rfl rfl rfl hlt (hK _ _ ?_))
                | (refine wpList_wish rfl fun K hK => wp_idxS (i := i) Try.underlying25 size_ex (.tmp 38) _ rfl rfl rfl hlt (hK _ _ ?_))
                | (refine wpList_wish rfl fun K hK => wp_idxS (i := i) Try.underlying25 size_ex (.tmp 50) _ rfl rfl rfl hlt (hK _ _ ?_))
                | (refine wpList_wish rfl fun K hK => wp_cell Try.underlying9 rfl (.tmp 30) rfl rfl HAT6.out (hK _ _ ?_))
                | (refine wpList_wish rfl fun K hK => wp_cell Try.underlying9 rfl (.tmp 42) rfl rfl HAT6.out (hK _ _ ?_))
                | (refine wpList_wish rfl fun K hK => wp_cell Try.underlying25 rfl (.tmp 53) rfl rfl HAT7.out (hK _ _ ?_)))
              go_ret
              exact ⟨⟨most + 1, rfl, by omega, fun h => by omega⟩, rfl⟩
          · have hnm' : ¬ ((n : Int) ≤ (most : Int)) := by omega
            go_wp2_with fail
            go_ret
            exact ⟨⟨n, rfl, by omega, fun h => absurd h hnm⟩, rfl⟩
        · have hlt' : ¬ ((i : Int) < (l.length : Int)) := by omega
          obtain rfl : i = l.length := by omega
          go_wp2_with fail
          go_ret
          exact ⟨⟨n, rfl, by omega, fun h => ⟨by omega, by have := HSM.out h; rwa [List.take_length] at this⟩⟩, rfl⟩

theorem bulk22_of (l : List Ex) (s : Value) (most : Nat) (w : World) (h : ExsIn w s l) (hm : most ≤ 2000) :
    Calls Try.prog 54 #[s, .int .i64 (most : Int)] w fun ev w' => BulkR most l ev ∧ w = w' :=
  bulk_of_kids (.mk 0 0 0 Val.null l) s most w h hm
end Go.Proofs.Ytlcdjaclahhdnaa
namespace Go.Proofs.Ytlcdjaclahhdnaa
open Go.RowKit
set_option linter.unusedSimpArgs false
set_option linter.unusedVariables false

/-- What Bulk's number tells of rows. -/
def BulkV (most : Nat) (rows : List (List Val)) (ev : Ending) : Prop :=
  ∃ n : Nat, ev = .returned (.int .i64 (n : Int)) ∧ n ≤ 2 * most + 1 ∧ (n ≤ most → rows.length ≤ most ∧ ∀ r ∈ rows, r.length ≤ most)
theorem BulkV.get {most : Nat} {l : List (List Val)} {ev : Ending} (h : BulkV most l ev) : ∃ n : Nat, ev = .returned (.int .i64 (n : Int)) ∧ n ≤ 2 * most + 1 ∧ Hid (n ≤ most → l.length ≤ most ∧ ∀ r ∈ l, r.length ≤ most) := by
  obtain ⟨n, h1, h2, h3⟩ := h; exact ⟨n, h1, h2, Lib.hid h3⟩

set_option maxRecDepth 100000 in
set_option maxHeartbeats 4000000 in
theorem bulk05_of (rows : List (List Val)) (s : Value) (most : Nat) (w : World) (hin : RowsIn w s rows) (hm : most ≤ 2000) :
    Calls Try.prog 55 #[s, .int .i64 (most : Int)] w fun ev w' => BulkV most rows ev ∧ w = w' := by
  obtain ⟨A, cap, rfl, _⟩ := hin.val
  have hlm := hin.lens.1
  have HIN := Lib.hid hin
  clear hin
  by_cases hbig : most < rows.length
  · have hb1 : (most : Int) < (rows.length : Int) := by omega
    go_enter Try.func55, Try.ntmps55
    go_wp2_with fail
    go_ret
    exact ⟨⟨most + 1, rfl, by omega, fun h => by omega⟩, rfl⟩
  · have hb1 : ¬ (most : Int) < (rows.length : Int) := by omega
    go_enter Try.func55, Try.ntmps55
    go_wp2_with fail
    go_loop [5, 6] (fun x y => ∃ (i n : Nat), x = .int .i64 (n : Int) ∧ y = .int .i64 (i : Int) ∧ i ≤ rows.length ∧ n ≤ 2 * most + 1 ∧ (∀ r ∈ rows.take i, r.length ≤ most)) (fun _ y => rows.length - (intOf y).toNat)
    case atStart => exact ⟨0, rows.length, rfl, rfl, by omega, by omega, fun e he => by simp at he⟩
    case round =>
      obtain ⟨i, n, rfl, rfl, hi, hn, hsm⟩ := hrel
      have HSM := Lib.hid hsm; clear hsm
      by_cases hlt : i < rows.length
      · have hlt' : (i : Int) < (rows.length : Int) := by omega
        have hI : (i : Int) ≤ 9223372036854775806 := by omega
        obtain ⟨g, o, B, m, cb, rfl, _, hmr, hc, hv⟩ := HIN.out.at_ i hlt
        have hml := HIN.out.lens.2 rows[i] (List.getElem_mem hlt)
        have HT : Hid (m ≤ most → ∀ r ∈ rows.take (i + 1), r.length ≤ most) := Lib.hid fun h1 r he => by
          rw [List.take_succ_eq_append_getElem hlt, List.mem_append] at he
          rcases he with he | he
          · exact HSM.out r he
          · simp only [List.mem_singleton] at he; subst he; omega
        have HC : Hid (w.cell? ⟨g, o + i * 1, none⟩ = some (.slice B m cb)) := Lib.hid (by rw [Nat.mul_one]; exact hc)
        have HV := Lib.hid hv
        rw [← hmr] at hml
        have HMR := Lib.hid hmr
        clear hc hv hmr
        generalize rows[i] = row at *
        by_cases hmb : most < m
        · have hmb' : (most : Int) < (m : Int) := by omega
          go_wp2_with (first
            | (refine wpList_wish rfl fun K hK => wp_idxS (i := i) Try.underlying50 size_slice59 (.tmp 22) _ rfl rfl rfl hlt (hK _ _ ?_))
            | (refine wpList_wish rfl fun K hK => wp_cell Try.underlying59 rfl (.tmp 24) rfl rfl HC.out (hK _ _ ?_)))
          go_ret
          exact ⟨⟨most + 1, rfl, by omega, fun h => by omega⟩, rfl⟩
        · have hmb' : ¬ (most : Int) < (m : Int) := by omega
          go_wp2_with (first
            | (refine wpList_wish rfl fun K hK => wp_idxS (i := i) Try.underlying50 size_slice59 (.tmp 22) _ rfl rfl rfl hlt (hK _ _ ?_))
            | (refine wpList_wish rfl fun K hK => wp_cell Try.underlying59 rfl (.tmp 24) rfl rfl HC.out (hK _ _ ?_)))
          go_loop [5, 7] (fun x y => ∃ (k n : Nat), x = .int .i64 (n : Int) ∧ y = .int .i64 (k : Int) ∧ k ≤ m ∧ n ≤ 2 * most + 1) (fun _ y => m - (intOf y).toNat)
          case atStart => exact ⟨0, n, rfl, rfl, by omega, by omega⟩
          case round =>
            obtain ⟨k, n2, rfl, rfl, hk, hn2⟩ := hrel
            by_cases hkl : k < m
            · have hkl' : (k : Int) < (m : Int) := by omega
              have hK9 : (k : Int) ≤ 9223372036854775806 := by omega
              by_cases hnm : most < n2
              · have hnm' : (most : Int) < (n2 : Int) := by omega
                go_wp2_with (first
                  | (refine wpList_wish rfl fun K hK => wp_idxS (i := i) Try.underlying50 size_slice59 (.tmp 32) _ rfl rfl rfl hlt (hK _ _ ?_))
                  | (refine wpList_wish rfl fun K hK => wp_cell Try.underlying59 rfl (.tmp 34) rfl rfl HC.out (hK _ _ ?_)))
                go_ret
                exact ⟨⟨most + 1, rfl, by omega, fun h => by omega⟩, rfl⟩
              · have hnm' : ¬ (most : Int) < (n2 : Int) := by omega
                obtain ⟨g2, o2, rfl, _, hat, hok, hg2⟩ := HV.out.at_ k (by rw [← HMR.out]; exact hkl)
                have HT3 := Lib.hid (hat.get 3 _ rfl)
                clear hat hok
                generalize row[k].text = t at *
                by_cases htl : most < t.size
                · have htl' : (most : Int) < (t.size : Int) := by omega
                  go_wp2_with (first
                    | (refine wpList_wish rfl fun K hK => wp_idxS (i := i) Try.underlying50 size_slice59 (.tmp 32) _ rfl rfl rfl hlt (hK _ _ ?_))
                    | (refine wpList_wish rfl fun K hK => wp_cell Try.underlying59 rfl (.tmp 34) rfl rfl HC.out (hK _ _ ?_))
                    | (refine wpList_wish rfl fun K hK => wp_idxS (i := i) Try.underlying50 size_slice59 (.tmp 44) _ rfl rfl rfl hlt (hK _ _ ?_))
                    | (refine wpList_wish rfl fun K hK => wp_cell Try.underlying59 rfl (.tmp 46) rfl rfl HC.out (hK _ _ ?_))
                    | (refine wpList_wish rfl fun K hK => wp_idxS (i := k) Try.underlying59 sizeVal (.tmp 47) _ rfl rfl rfl hkl (hK _ _ ?_))
                    | (refine wpList_wish rfl fun K hK => wp_cell Try.underlying9 rfl (.tmp 50) rfl rfl HT3.out (hK _ _ ?_)))
                  go_ret
                  exact ⟨⟨most + 1, rfl, by omega, fun h => by omega⟩, rfl⟩
                · have htl' : ¬ (most : Int) < (t.size : Int) := by omega
                  have hT : (t.size : Int) ≤ 2000 := by omega
                  have hN : (n2 : Int) ≤ 2000 := by omega
                  go_wp2_with (first
                    | (refine wpList_wish rfl fun K hK => wp_idxS (i := i) Try.underlying50 size_slice59 (.tmp 32) _ rfl rfl rfl hlt (hK _ _ ?_))
                    | (refine wpList_wish rfl fun K hK => wp_cell Try.underlying59 rfl (.tmp 34) rfl rfl HC.out (hK _ _ ?_))
                    | (refine wpList_wish rfl fun K hK => wp_idxS (i := i) Try.underlying50 size_slice59 (.tmp 44) _ rfl rfl rfl hlt (hK _ _ ?_))
                    | (refine wpList_wish rfl fun K hK => wp_cell Try.underlying59 rfl (.tmp 46) rfl rfl HC.out (hK _ _ ?_))
                    | (refine wpList_wish rfl fun K hK => wp_idxS (i := k) Try.underlying59 sizeVal (.tmp 47) _ rfl rfl rfl hkl (hK _ _ ?_))
                    | (refine wpList_wish rfl fun K hK => wp_cell Try.underlying9 rfl (.tmp 50) rfl rfl HT3.out (hK _ _ ?_))
                    | (refine wpList_wish rfl fun K hK => wp_idxS (i := i) Try.underlying50 size_slice59 (.tmp 60) _ rfl rfl rfl hlt (hK _ _ ?_))
                    | (refine wpList_wish rfl fun K hK => wp_cell Try.underlying59 rfl (.tmp 62) rfl rfl HC.out (hK _ _ ?_))
                    | (refine wpList_wish rfl fun K hK => wp_idxS (i := k) Try.underlying59 sizeVal (.tmp 63) _ rfl rfl rfl hkl (hK _ _ ?_))
                    | (refine wpList_wish rfl fun K hK => wp_cell Try.underlying9 rfl (.tmp 66) rfl rfl HT3.out (hK _ _ ?_)))
                  exact ⟨⟨_, .int .i64 ((n2 + 1 + t.size : Nat) : Int), .int .i64 ((k + 1 : Nat) : Int), ⟨k + 1, n2 + 1 + t.size, rfl, rfl, by omega, by omega⟩, rfl, by simp, by simp⟩, by simp [intOf] <;> omega⟩
            · have hkl' : ¬ ((k : Int) < (m : Int)) := by omega
              go_wp2_with (first
                | (refine wpList_wish rfl fun K hK => wp_idxS (i := i) Try.underlying50 size_slice59 (.tmp 32) _ rfl rfl rfl hlt (hK _ _ ?_))
                | (refine wpList_wish rfl fun K hK => wp_cell Try.underlying59 rfl (.tmp 34) rfl rfl HC.out (hK _ _ ?_)))
              refine ⟨⟨i + 1, n2, by simp, by simp, by omega, by omega, HT.out (by omega)⟩, by simp [intOf] <;> omega⟩
      · have hlt' : ¬ ((i : Int) < (rows.length : Int)) := by omega
        obtain rfl : i = rows.length := by omega
        go_wp2_with fail
        go_ret
        exact ⟨⟨n, rfl, by omega, fun h => ⟨by omega, by have := HSM.out; rwa [List.take_length] at this⟩⟩, rfl⟩

/-- Whether expressions, or rows, are too great: what 'no' tells. -/
def GreatR (l : List Ex) (rows : List (List Val)) (ev : Ending) : Prop :=
  ∃ b : Bool, ev = .returned (.bool b) ∧ (b = false → (l.length ≤ 500 ∧ ∀ e ∈ l, e.small 500) ∧ rows.length ≤ 500 ∧ ∀ r ∈ rows, r.length ≤ 500)
theorem GreatR.get {l : List Ex} {rows : List (List Val)} {ev : Ending} (h : GreatR l rows ev) : ∃ b : Bool, ev = .returned (.bool b) ∧ Hid (b = false → (l.length ≤ 500 ∧ ∀ e ∈ l, e.small 500) ∧ rows.length ≤ 500 ∧ ∀ r ∈ rows, r.length ≤ 500) := by
  obtain ⟨b, h1, h2⟩ := h; exact ⟨b, h1, Lib.hid h2⟩
set_option maxHeartbeats 1000000 in
theorem great_of (l : List Ex) (s : Value) (rows : List (List Val)) (rv : Value) (w : World) (h : ExsIn w s l) (hr : RowsIn w rv rows) :
    Calls Try.prog 14 #[s, rv] w fun ev w' => GreatR l rows ev ∧ w = w' := by
  have H := Lib.hid h; have HR := Lib.hid hr
  obtain ⟨_, A, cap, rfl, _⟩ := (⟨h.1, h.2⟩ : l.length ≤ 9223372036854775807 ∧ _)
  obtain ⟨RA, rc, rfl, _⟩ := hr.val
  clear h hr
  have HB := Lib.hid (fun w h => bulk22_of l (.slice A l.length cap) 500 w h (by omega))
  have HB5 := Lib.hid (fun w h => bulk05_of rows (.slice RA rows.length rc) 500 w h (by omega))
  go_enter Try.func14, Try.ntmps14
  go_wp2_with (go_at_call 54; refine (HB.out _ H.out).mono ?_; rintro ev w2 ⟨hh, rfl⟩; obtain ⟨n, rfl, hn1, hn2⟩ := hh.get; by_cases hn3 : n ≤ 500)
  · have hn4 : ¬ (500 : Int) < (n : Int) := by omega
    go_wp2_with (go_at_call 55; refine (HB5.out _ HR.out).mono ?_; rintro ev w2 ⟨hh, rfl⟩; obtain ⟨m, rfl, hm1, hm2⟩ := hh.get; by_cases hm3 : m ≤ 500)
    · have hm4 : ¬ (500 : Int) < (m : Int) := by omega
      go_wp2_with fail
      go_ret
      exact ⟨⟨_, rfl, fun _ => ⟨hn2.out hn3, hm2.out hm3⟩⟩, rfl⟩
    · have hm4 : (500 : Int) < (m : Int) := by omega
      go_wp2_with fail
      go_ret
      exact ⟨⟨_, rfl, fun h => by simp at h; omega⟩, rfl⟩
  · have hn4 : (500 : Int) < (n : Int) := by omega
    go_wp2_with fail
    go_ret
    exact ⟨⟨_, rfl, fun h => by simp at h⟩, rfl⟩
end Go.Proofs.Ytlcdjaclahhdnaa
namespace Go.Proofs.Ytlcdjaclahhdnaa
open Go.RowKit
set_option linter.unusedSimpArgs false
set_option linter.unusedVariables false
attribute [local irreducible] wpQuiet wpList Code.wp

/-- What 'no' tells. -/
def Great26 (rows : List (List Val)) (ev : Ending) : Prop := ∃ b : Bool, ev = .returned (.bool b) ∧ (b = false → rows.length ≤ 1200 ∧ ∀ r ∈ rows, r.length ≤ 1200)
theorem Great26.get {rows : List (List Val)} {ev : Ending} (h : Great26 rows ev) : ∃ b : Bool, ev = .returned (.bool b) ∧ Hid (b = false → rows.length ≤ 1200 ∧ ∀ r ∈ rows, r.length ≤ 1200) := by
  obtain ⟨b, h1, h2⟩ := h; exact ⟨b, h1, Lib.hid h2⟩
set_option maxHeartbeats 1000000 in
theorem great26_of (l : List Ex) (s : Value) (rows : List (List Val)) (rv : Value) (w : World) (h : ExsIn w s l) (hr : RowsIn w rv rows) :
    Calls Try.prog 42 #[rv, s] w fun ev w' => Great26 rows ev ∧ w = w' := by
  have H := Lib.hid h; have HR := Lib.hid hr
  obtain ⟨_, A, cap, rfl, _⟩ := (⟨h.1, h.2⟩ : l.length ≤ 9223372036854775807 ∧ _)
  obtain ⟨RA, rc, rfl, _⟩ := hr.val
  clear h hr
  have HB := Lib.hid (fun w h => bulk22_of l (.slice A l.length cap) 300 w h (by omega))
  have HB5 := Lib.hid (fun w h => bulk05_of rows (.slice RA rows.length rc) 1200 w h (by omega))
  go_enter Try.func42, Try.ntmps42
  go_wp2_with (go_at_call 55; refine (HB5.out _ HR.out).mono ?_; rintro ev w2 ⟨hh, rfl⟩; obtain ⟨m, rfl, hm1, hm2⟩ := hh.get; by_cases hm3 : m ≤ 1200)
  · have hm4 : ¬ (1200 : Int) < (m : Int) := by omega
    go_wp2_with (go_at_call 54; refine (HB.out _ H.out).mono ?_; rintro ev w2 ⟨hh, rfl⟩; obtain ⟨n, rfl, hn1, hn2⟩ := hh.get)
    go_ret
    exact ⟨⟨_, rfl, fun _ => hm2.out hm3⟩, rfl⟩
  · have hm4 : (1200 : Int) < (m : Int) := by omega
    go_wp2_with fail
    go_ret
    exact ⟨⟨_, rfl, fun h => by simp at h⟩, rfl⟩
theorem mk12 (w : World) : (Instr.makeSlice 50 (.int .i64 12) (.int .i64 12)).run Try.prog w = .ok (.slice (some ⟨w.heap.size, 0, none⟩) 12 12) (w.alloc (.cells #[.slice none 0 0, .slice none 0 0, .slice none 0 0, .slice none 0 0, .slice none 0 0, .slice none 0 0, .slice none 0 0, .slice none 0 0, .slice none 0 0, .slice none 0 0, .slice none 0 0, .slice none 0 0] 59)) := by kernel_rfl
theorem wpList_store1 {P : Program} {w : World} {ops : Array Oper} {rest : List Oper} {o : Oper} {a : Act} {Q : Exit → Act → World → Prop} {t : TypeId} {g f : Nat} {u v : Value} (x y : Operand) (ho : o.op = .store t x y) (hgd : o.guard = none) (hu : u.cells = #[u]) (h1 : u.oneCell' = true) (hc : w.cell? ⟨g, f, none⟩ = some v) (hf : w.frozen? ⟨g, f, none⟩ = false) (hk : (P.info? t).map (·.size) = some 1)
    (hx : a.eval x = .pointer (some ⟨g, f, none⟩)) (hy : a.eval y = u) (h : wpList P ops Q rest (a.put o.dst undef) (w.setCell ⟨g, f, none⟩ u)) : wpList P ops Q (o :: rest) a w :=
  wpList_plain hgd fun K hK => wp_store1 hu h1 hc hf hk x y ho hx hy (hK _ _ h)
/-- A tuple whose row lies anywhere. -/
theorem tup_rows {W : World} {base n rel : Nat} {s q : Value} {row : List Val} (h1 : W.ownsRow base 59 1 s n ((List.replicate n (.slice none 0 0)).set rel q)) (hv : ValsIn W q row) (h4 : row.length ≤ 9223372036854775807) (hn : n ≤ 12) (hr : rel < n) : RowsIn W s (tup n rel row) := by
  have hl : (tup n rel row).length = n := by simp [tup]
  obtain ⟨A, c, rfl, h5, h6, h7, h8⟩ := owns_form h1
  rcases h1.2 with ⟨_, h9⟩ | ⟨g, cap, cur, h9, _, _, h11, _⟩
  · omega
  · simp only [Value.slice.injEq] at h9
    obtain ⟨rfl, _, rfl⟩ := h9
    obtain ⟨-, -, -, h10⟩ := h8 _ rfl
    refine ⟨⟨some ⟨g, 0, none⟩, c, by rw [hl], by rw [hl]; exact h5, (fun h => by cases h), fun _ => ⟨g, 0, rfl, fun i hi => ?_⟩⟩, by rw [hl]; omega, fun r hr' => ?_⟩
    · rw [hl] at hi
      by_cases hir : rel = i
      · subst hir
        refine ⟨q, h10 rel q (by rw [List.getElem?_set_self (by simpa using hi)]), ?_⟩
        have e1 : (tup n rel row)[rel]'(by rw [hl]; exact hi) = row := by simp [tup]
        rw [e1]; exact hv
      · refine ⟨.slice none 0 0, h10 i _ (by rw [List.getElem?_set_ne hir, List.getElem?_replicate, if_pos hi]), ?_⟩
        have e1 : (tup n rel row)[i]'(by rw [hl]; exact hi) = [] := by simp [tup, List.getElem_set_ne hir]
        rw [e1]
        exact ⟨⟨none, 0, rfl, Nat.le_refl _, fun _ => rfl, fun h => absurd rfl h⟩, by simp⟩
    · rcases List.mem_or_eq_of_mem_set hr' with h | h
      · rw [List.eq_of_mem_replicate h]; simp
      · rw [h]; exact h4
theorem safe_holds {W ws : World} {base R : Nat} {e : Ex} {x y q : Value} {row : List Val} (hR : R < 12) (hx : ExsIn ws x [e]) (hg : W.ownsRow base 59 1 y 12 ((List.replicate 12 (.slice none 0 0)).set R q)) (he : Ext W ws) (hv : ValsIn W q row) (hl : row.length ≤ 9223372036854775807) (hh : holds (tup 12 R row) [e] = (false, 0)) :
    Calls Try.prog 30 #[x, y] ws fun ev w' => ev = .returned (.tuple #[.bool false, .int .i64 0]) ∧ Ext ws w' := by
  have h := holds_of [e] x ws y (tup 12 R row) hx (tup_rows (owns_ext hg he) (hv.ext he) hl (by decide) hR)
  rw [hh] at h
  exact h
theorem zzip_length : ∀ (zs : List Zn) (ss : List Value), ss.length = zs.length → (zzip zs ss).length = zs.length * 2
  | [], [], _ => rfl
  | [], _ :: _, h => by simp at h
  | _ :: _, [], h => by simp at h
  | z :: zs, s :: ss, h => by
    have := zzip_length zs ss (by simpa using h)
    simp only [zzip, List.length_cons, this]; omega
theorem zzip_get : ∀ (zs : List Zn) (ss : List Value) (i : Nat) (z : Zn) (s : Value), zs[i]? = some z → ss[i]? = some s → (zzip zs ss)[i * 2]? = some (.int .i64 (z.rows : Int)) ∧ (zzip zs ss)[i * 2 + 1]? = some s
  | [], _, i, z, s, h, _ => by simp at h
  | _ :: _, [], i, z, s, _, h => by simp at h
  | a :: zs, b :: ss, 0, z, s, h, k => by
    simp only [List.getElem?_cons_zero, Option.some.injEq] at h k
    subst h k
    exact ⟨rfl, rfl⟩
  | a :: zs, b :: ss, i + 1, z, s, h, k => by
    have := zzip_get zs ss i z s (by simpa using h) (by simpa using k)
    rw [show (i + 1) * 2 = i * 2 + 2 by omega]
    exact this
/-- The i-th zone that lies in a row of the call's own. -/
theorem OwnZ.at_ {w : World} {base : Nat} {v : Value} {zs : List Zn} (h : OwnZ 84 149 w base v zs) (i : Nat) (z : Zn) (hz : zs[i]? = some z) (ok : ∀ g ∈ z.cols, g.Ok) (hl : z.cols.length ≤ 1000000) :
    ∃ g c s, v = .slice (some ⟨g, 0, none⟩) zs.length c ∧ At w g (0 + i * 2) [.int .i64 (z.rows : Int), s] ∧ RngsIn w s z.cols ∧ g < w.heap.size := by
  obtain ⟨ss, h1, h2, h3⟩ := h
  have hi := (List.getElem?_eq_some_iff.1 hz).1
  obtain ⟨s, hs⟩ : ∃ s, ss[i]? = some s := ⟨_, List.getElem?_eq_getElem (by omega)⟩
  rcases h2.2 with ⟨_, h0⟩ | ⟨g, c, cur, rfl, _, hh, _⟩
  · omega
  · have hc := owns_cells h2
    obtain ⟨k1, k2⟩ := zzip_get zs ss i z s hz hs
    have e1 := hc.get _ _ k1
    have e2 := hc.get _ _ k2
    exact ⟨g, c, s, rfl, ⟨e1, by rw [show 0 + i * 2 + 1 = 0 + (i * 2 + 1) by omega]; exact e2, trivial⟩, RngsIn.of_own (h3 i z s hz hs) ok hl, (Array.getElem?_eq_some_iff.1 hh).1⟩
theorem mem_chunk {rows : List (List Val)} {i k : Nat} (h1 : i * 16 ≤ k) (h2 : k < (i + 1) * 16) (h3 : k < rows.length) : rows[k] ∈ chunkR rows i := by
  have h4 : (chunkR rows i)[k - i * 16]? = some rows[k] := by
    unfold chunkR
    rw [List.getElem?_take, if_pos (by omega), List.getElem?_drop, show i * 16 + (k - i * 16) = k by omega, List.getElem?_eq_getElem h3]
  exact List.mem_of_getElem? h4

set_option maxRecDepth 100000 in
set_option maxHeartbeats 20000000 in
theorem safe_walk (rows : List (List Val)) (rv : Value) (rel : Int) (e : Ex) (se : Value) (w : World) (hrows : RowsIn w rv rows) (hine : Ex.In w e se) :
    Calls Try.prog 11 #[rv, .int .i64 rel, .agg (e.cells se).toArray] w fun ev w' => ev = .returned (.bool true) ∧ Ext w w' := by
  obtain ⟨RA, rc, rfl, -⟩ := hrows.val
  obtain ⟨-, EA, ecap, rfl, -⟩ := hine.mk_inv.2.2.2.2
  have HR : Hid (∀ u, Ext w u → RowsIn u (.slice RA rows.length rc) rows) := Lib.hid fun u h => hrows.ext h
  have HI : Hid (∀ u, Ext w u → Ex.In u e (.slice EA e.kids.length ecap)) := Lib.hid fun u h => Ex.In.ext h _ _ hine
  have HOKR := Lib.hid (rows_ok hrows)
  have HX1 : Hid (∀ u, Ext w u → ExsIn (u.alloc (.cells (e.cells (.slice EA e.kids.length ecap)).toArray 27)) (.slice (some ⟨u.heap.size, 0, none⟩) 1 1) [e]) := Lib.hid fun u h => ExsIn.new (l := [e]) (ss := [.slice EA e.kids.length ecap]) (n := 1) (cap := 1) rfl rfl (by decide) (by decide) (by simp [exsCells]) (fun i hi hj => by
    match i, hi with
    | 0, _ => exact Ex.In.ext h _ _ hine)
  have HB0 := Lib.hid (BoxAt.new (w := w) (vs := e.cells (.slice EA e.kids.length ecap)) (t := 27) rfl rfl)
  have HE0 := Lib.hid ((Ext.refl w).alloc (.cells (e.cells (.slice EA e.kids.length ecap)).toArray 27))
  clear hrows hine
  unfold Ex.cells exCells at HX1 HB0 HE0 ⊢
  have hG : ∀ u b, ({ tmps := #[], defers := [] } : Act) = { tmps := #[], defers := [] } ∨ (u : World) = u ∧ (b : Bool) = b := fun _ _ => .inl rfl
  clear hG
  go_enter Try.func11, Try.ntmps11
  go_upto_region 3 with (go_at_call 43; refine (works26 _).mono ?_; rintro ev w2 ⟨rfl, he2⟩)
  refine name_worldA (fun u => Ext w u ∧ BoxAt u w.heap.size [.int .i64 e.kind, .int .i64 e.rel, .int .i64 e.col, .int .i64 e.const.kind, .int .i64 e.const.int, .float .f64 e.const.flt, .string e.const.text, (.slice EA e.kids.length ecap)]) ⟨HE0.out.trans he2, HB0.out.ext he2⟩ ?_
  clear HB0 HE0 he2 w2
  rintro U ⟨hE, hb⟩
  have HE := Lib.hid hE; have HB := Lib.hid hb
  clear hE hb
  go_upto_region 5 with (first
    | (refine wpList_ldA (.tmp 5) (vs := [.int .i64 e.kind, .int .i64 e.rel, .int .i64 e.col, .int .i64 e.const.kind, .int .i64 e.const.int, .float .f64 e.const.flt, .string e.const.text, (.slice EA e.kids.length ecap)]) rfl rfl agg_ex rfl (HB.out.cells) ?_)
    | (go_at_call 42; refine (great26_of [e] _ rows _ _ (HX1.out _ HE.out) (HR.out _ (HE.out.alloc _))).mono ?_; rintro ev w2 ⟨hh, rfl⟩; obtain ⟨b1, rfl, hb1⟩ := hh.get; (by_cases hr0 : rel < 0); (have hr0' : decide (rel < 0) = true := by simpa using hr0); rotate_left; (have hr0' : decide (rel < 0) = false := by simpa using hr0); (by_cases hr1 : 11 < rel); (have hr1' : decide (11 < rel) = true := by simpa using hr1); rotate_left; (have hr1' : decide (11 < rel) = false := by simpa using hr1); (all_goals cases b1)))
  all_goals first
    | (go_ret; exact ⟨rfl, HE.out.alloc _⟩)
    | skip
  have HL := Lib.hid (hb1.out (by simp))
  obtain ⟨R, hR⟩ : ∃ R : Nat, rel = (R : Int) := ⟨rel.toNat, by omega⟩
  have hR12 : R < 12 := by omega
  clear hb1 hr0' hr1'
  subst hR
  clear hr0 hr1
  have hrl := HL.out.1
  refine name_worldA (fun u => Ext w u ∧ BoxAt u w.heap.size [.int .i64 e.kind, .int .i64 e.rel, .int .i64 e.col, .int .i64 e.const.kind, .int .i64 e.const.int, .float .f64 e.const.flt, .string e.const.text, (.slice EA e.kids.length ecap)]) ⟨HE.out.alloc _, HB.out.ext ((Ext.refl _).alloc _)⟩ ?_
  clear HE HB
  rintro U2 ⟨hE, hb⟩
  have HE := Lib.hid hE; have HB := Lib.hid hb
  clear hE hb
  go_upto_block 0 with (go_at_call 44; refine (zones_of rows _ 40 40 _ (HR.out _ HE.out) (by omega) (by decide)).mono ?_; rintro ev w2 ⟨v, rfl, hz, he2⟩; have HZ := Lib.hid hz; have HE2 := Lib.hid he2; clear he2; obtain ⟨A9, c9, hv9⟩ := hz.shape; (have hlen9 : (zonesOf rows 40).length = (rows.length + 15) / 16 := by simp [zonesOf]); rw [hlen9] at hv9; subst hv9; clear hz)
  have hC : (rows.length + 15) / 16 ≤ 100 := by omega
  have HBX := Lib.hid (HB.out.ext HE2.out)
  have HEW := Lib.hid (HE.out.trans HE2.out)
  have HZA : Hid (∀ i, i < (rows.length + 15) / 16 → ∃ g s, A9 = some ⟨g, 0, none⟩ ∧ (∀ u, Ext w2 u → At u g (0 + i * 2) [.int .i64 ((chunkR rows i).length : Int), s]) ∧ ∀ u, Ext w2 u → RngsIn u s (colsR (chunkR rows i) 40)) := Lib.hid fun i hi => by
    have hzi : (zonesOf rows 40)[i]? = some (znOf rows 40 i) := by unfold zonesOf; rw [List.getElem?_map, List.getElem?_range hi]; rfl
    obtain ⟨g, c, s, h1, h2, h3, h4⟩ := HZ.out.at_ i (znOf rows 40 i) hzi (colsR_ok (fun r hr => HOKR.out r (List.mem_of_mem_drop (List.mem_of_mem_take hr))) 40) (by show (colsR (chunkR rows i) 40).length ≤ _; rw [colsR_length]; decide)
    simp only [Value.slice.injEq] at h1
    obtain ⟨rfl, -, -⟩ := h1
    exact ⟨g, s, rfl, fun u h => h2.ext h h4, fun u h => h3.ext h⟩
  clear HE HB HZ HE2
  go_wp2_with fail
  go_loopw [30] (fun y wr => ∃ i : Nat, y = .int .i64 (i : Int) ∧ i ≤ (rows.length + 15) / 16 ∧ Ext w2 wr) (fun y _ => (rows.length + 15) / 16 - (intOf y).toNat)
  case atStart => exact ⟨0, rfl, by omega, Ext.refl _⟩
  case round =>
    rename_i hrel
    rename World => wo
    obtain ⟨i, rfl, hi, hEo⟩ := hrel
    have HEO := Lib.hid hEo
    by_cases hlt : i < (rows.length + 15) / 16
    · have hlt' : (i : Int) < (((rows.length + 15) / 16 : Nat) : Int) := by omega
      have hw : wrap64 ((i : Int) + 1) = (i : Int) + 1 := by unfold wrap64; omega
      obtain ⟨g, s, rfl, hat, hrg⟩ := HZA.out i hlt
      have HAT := Lib.hid (hat wo hEo)
      obtain ⟨⟨SA, sc, rfl, -⟩, -, -⟩ := hrg wo hEo
      rw [colsR_length] at *
      have HMA : Hid (∀ u, Ext w2 u → Calls Try.prog 47 #[.agg #[.int .i64 ((chunkR rows i).length : Int), .slice SA 40 sc], .int .i64 (R : Int), .agg #[.int .i64 e.kind, .int .i64 e.rel, .int .i64 e.col, .int .i64 e.const.kind, .int .i64 e.const.int, .float .f64 e.const.flt, .string e.const.text, (.slice EA e.kids.length ecap)]] u fun ev w' => ev = .returned (.bool (e.may ((chunkR rows i).length : Int) (colsR (chunkR rows i) 40) (R : Int))) ∧ Ext u w') := Lib.hid fun u h => may_of _ _ _ _ e _ u (hrg u h) (HI.out u (HEW.out.trans h))
      have HSAFE : Hid (e.may ((chunkR rows i).length : Int) (colsR (chunkR rows i) 40) (R : Int) = false → ∀ k (hk : k < rows.length), i * 16 ≤ k → k < (i + 1) * 16 → holds (tup 12 R rows[k]) [e] = (false, 0)) := Lib.hid fun h k hk h1 h2 => may_safe (chunkR rows i) (fun r hr => HOKR.out r (List.mem_of_mem_drop (List.mem_of_mem_take hr))) R hR12 e h rows[k] (mem_chunk h1 h2 hk)
      have HBW := Lib.hid (HBX.out.ext hEo)
      clear hat hrg hEo
      generalize (chunkR rows i).length = cl at *
      generalize e.may (cl : Int) (colsR (chunkR rows i) 40) (R : Int) = mb at *
      have HZB := Lib.hid (BoxAt.new (w := wo) (vs := [.int .i64 0, .slice none 0 0]) (t := 84) rfl rfl)
      have h16 : wrap64 ((i : Int) * 16) = (i : Int) * 16 := by unfold wrap64; omega
      have h17 : wrap64 (((i : Int) + 1) * 16) = ((i : Int) + 1) * 16 := by unfold wrap64; omega
      cases mb
      · have HSF := Lib.hid (HSAFE.out rfl)
        clear HSAFE
        go_upto_block 2 with (first
          | (refine wpList_ixS (.tmp 28) _ (i := i) rfl rfl Try.underlying76 size_zone rfl rfl hlt ?_)
          | (refine wpList_ldA (.tmp 33) (vs := [.int .i64 (cl : Int), .slice SA 40 sc]) rfl rfl agg_zone rfl (HAT.out) ?_)
          | (refine wpList_storeA (vs' := [.int .i64 (cl : Int), .slice SA 40 sc]) (Rng.one9 rfl) (HZB.out) size_zone rfl rfl (.tmp 8) _ rfl rfl rfl ?_; intro w4 hq1 hq2; have HZ4 := Lib.hid hq1; have HE4 := Lib.hid (But.to_ext ((Ext.refl wo).alloc (.cells #[.int .i64 0, .slice none 0 0] 84)) hq2 (Nat.le_refl _)); clear hq1 hq2)
          | (refine wpList_ldA (.tmp 8) (vs := [.int .i64 (cl : Int), .slice SA 40 sc]) rfl rfl agg_zone rfl (HZ4.out.cells) ?_)
          | (refine wpList_ldA (.tmp 5) (vs := [.int .i64 e.kind, .int .i64 e.rel, .int .i64 e.col, .int .i64 e.const.kind, .int .i64 e.const.int, .float .f64 e.const.flt, .string e.const.text, (.slice EA e.kids.length ecap)]) rfl rfl agg_ex rfl ((HBW.out.ext HE4.out).cells) ?_)
          | (go_at_call 47; refine (HMA.out _ (HEO.out.trans HE4.out)).mono ?_; rintro ev w5 ⟨rfl, he5⟩; have HE5 := Lib.hid (HE4.out.trans he5); clear he5))
        have HEX := Lib.hid (HEW.out.trans (HEO.out.trans HE5.out))
        have HB5 := Lib.hid (HBW.out.ext HE5.out)
        clear HZB HMA HZ4 HE4 HAT HBW
        go_wp2_with fail
        go_loopw [9] (fun y wr => ∃ k : Nat, y = .int .i64 (k : Int) ∧ i * 16 ≤ k ∧ k ≤ (i + 1) * 16 ∧ Ext w5 wr) (fun y _ => (i + 1) * 16 - (intOf y).toNat)
        case atStart => exact ⟨i * 16, by simp, by omega, by omega, Ext.refl _⟩
        case round =>
          rename_i hrel
          obtain ⟨k, rfl, hk1, hk2, hEk⟩ := hrel
          have HEK := Lib.hid hEk
          by_cases hkN : k < rows.length
          · have hkN' : (k : Int) < (rows.length : Int) := by omega
            by_cases hk3 : k < (i + 1) * 16
            · have hk3' : (k : Int) < ((i : Int) + 1) * 16 := by omega
              have hk9 : (k : Int) + 1 < 2000 := by omega
              obtain ⟨g2, o2, B, mm, cb, rfl, -, hmr, hc, hv⟩ := (HR.out wr (HEX.out.trans hEk)).at_ k hkN
              have HC : Hid (∀ u, Ext wr u → u.cell? ⟨g2, o2 + k, none⟩ = some (.slice B mm cb)) := Lib.hid fun u h => (h.cell (cell_lt hc)).trans hc
              have HV := Lib.hid hv
              have HLR : Hid (rows[k].length ≤ 9223372036854775807) := Lib.hid (by have := HL.out.2 rows[k] (List.getElem_mem hkN); omega)
              have HHL := Lib.hid (HSF.out k hkN hk1 hk3)
              have hmk := mk12 wr
              have hcA : (wr.alloc (.cells #[.slice none 0 0, .slice none 0 0, .slice none 0 0, .slice none 0 0, .slice none 0 0, .slice none 0 0, .slice none 0 0, .slice none 0 0, .slice none 0 0, .slice none 0 0, .slice none 0 0, .slice none 0 0] 59)).cell? ⟨g2, o2 + k, none⟩ = some (.slice B mm cb) := HC.out _ ((Ext.refl _).alloc _)
              clear hc hv hmr hEk
              generalize rows[k] = row at *
              go_upto_region 14 with (first
                | (refine wpList_ixS (.tmp 57) _ (i := k) rfl rfl Try.underlying50 size_slice59 rfl rfl hkN ?_)
                | (refine wpList_ixS (.tmp 55) _ (i := R) rfl rfl Try.underlying50 size_slice59 rfl rfl hR12 ?_))
              refine name_worldA (fun u => u.ownsRow w.heap.size 59 1 (.slice (some ⟨wr.heap.size, 0, none⟩) 12 12) 12 ((List.replicate 12 (.slice none 0 0)).set R (.slice B mm cb)) ∧ Ext wr u) ⟨⟨by simp, .inr ⟨wr.heap.size, 12, _, rfl, (HEX.out.trans HEK.out).size, heap_alloc_new _ _, by decide, by decide, by simp, by simp [List.take_of_length_le]⟩⟩, (Ext.refl wr).alloc _⟩ ?_
              clear hmk hcA HC
              rintro ws ⟨hgs, hxs⟩
              have HXS := Lib.hid hxs
              have HHO := Lib.hid (safe_holds hR12 (HX1.out ws (HEX.out.trans (HEK.out.trans HXS.out))) hgs ((Ext.refl ws).alloc _) (HV.out.ext HXS.out) HLR.out HHL.out)
              clear hgs hxs HV HLR HHL
              have HK := Lib.hid (And.intro hk1 hk3)
              have HI9 := Lib.hid hlt
              clear hk1 hk2 hk3 hk3' hkN hkN' hi hlt hlt' hw h16 h17 hC hlen9 hrl
              go_wp2_with (first
                | (refine wpList_ldA (.tmp 5) (vs := [.int .i64 e.kind, .int .i64 e.rel, .int .i64 e.col, .int .i64 e.const.kind, .int .i64 e.const.int, .float .f64 e.const.flt, .string e.const.text, (.slice EA e.kids.length ecap)]) rfl rfl agg_ex rfl ((HB5.out.ext (HEK.out.trans HXS.out)).cells) ?_)
                | (go_at_call 30; refine HHO.out.mono ?_; rintro ev w9 ⟨rfl, he9⟩))
              have hk1 := HK.out.1
              have hk3 := HK.out.2
              exact ⟨⟨k + 1, by simp, by omega, by omega, HEK.out.trans ((HXS.out.alloc _).trans he9)⟩, by simp [intOf] <;> omega⟩
            · have hk3' : ¬ (k : Int) < ((i : Int) + 1) * 16 := by omega
              go_wp2_with fail
              exact ⟨⟨i + 1, by simp, by omega, HEO.out.trans (HE5.out.trans hEk)⟩, by simp [intOf] <;> omega⟩
          · have hkN' : ¬ (k : Int) < (rows.length : Int) := by omega
            go_wp2_with fail
            exact ⟨⟨i + 1, by simp, by omega, HEO.out.trans (HE5.out.trans hEk)⟩, by simp [intOf] <;> omega⟩
      · clear HSAFE
        go_wp2_with (first
          | (refine wpList_ixS (.tmp 28) _ (i := i) rfl rfl Try.underlying76 size_zone rfl rfl hlt ?_)
          | (refine wpList_ldA (.tmp 33) (vs := [.int .i64 (cl : Int), .slice SA 40 sc]) rfl rfl agg_zone rfl (HAT.out) ?_)
          | (refine wpList_storeA (vs' := [.int .i64 (cl : Int), .slice SA 40 sc]) (Rng.one9 rfl) (HZB.out) size_zone rfl rfl (.tmp 8) _ rfl rfl rfl ?_; intro w4 hq1 hq2; have HZ4 := Lib.hid hq1; have HE4 := Lib.hid (But.to_ext ((Ext.refl wo).alloc (.cells #[.int .i64 0, .slice none 0 0] 84)) hq2 (Nat.le_refl _)); clear hq1 hq2)
          | (refine wpList_ldA (.tmp 8) (vs := [.int .i64 (cl : Int), .slice SA 40 sc]) rfl rfl agg_zone rfl (HZ4.out.cells) ?_)
          | (refine wpList_ldA (.tmp 5) (vs := [.int .i64 e.kind, .int .i64 e.rel, .int .i64 e.col, .int .i64 e.const.kind, .int .i64 e.const.int, .float .f64 e.const.flt, .string e.const.text, (.slice EA e.kids.length ecap)]) rfl rfl agg_ex rfl ((HBW.out.ext HE4.out).cells) ?_)
          | (go_at_call 47; refine (HMA.out _ (HEO.out.trans HE4.out)).mono ?_; rintro ev w5 ⟨rfl, he5⟩; have HE5 := Lib.hid (HE4.out.trans he5); clear he5))
        exact ⟨⟨i + 1, by simp, by omega, HEO.out.trans HE5.out⟩, by simp [intOf] <;> omega⟩
    · have hlt' : ¬ (i : Int) < (((rows.length + 15) / 16 : Nat) : Int) := by omega
      go_wp2_with fail
      go_ret
      exact ⟨rfl, HEW.out.trans HEO.out⟩
end Go.Proofs.Ytlcdjaclahhdnaa
