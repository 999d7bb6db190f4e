/- AccessSafe in plain data: where a condition may not be true in a stretch, it is true of no row there, and refused of none. -/
import Derived.Test.YtlcdjaclahhdnaaPassA
import Derived.Test.YtlcdjaclahhdnaaLaw4
import Derived.Test.YtlcdjaclahhdnaaWorks4
namespace Go.Proofs.Ytlcdjaclahhdnaa
open Go.RowKit
set_option linter.unusedSimpArgs false
set_option linter.unusedVariables false

theorem cmp_ord : Ord3 Val.cmp :=
  ⟨fun a => vcmp_ord.refl a.plain, fun a b => vcmp_ord.anti a.plain b.plain, fun a b c h k => vcmp_ord.le a.plain b.plain c.plain h k⟩
/-- What a range knows of the values that it has taken. -/
structure RInv (g : Rng) (ws : List Val) : Prop where
  nulls : g.nulls = ((ws.filter fun w => w.kind == 0).length : Int)
  none : g.kind = 0 → ∀ w ∈ ws, w.kind = 0
  some : 0 < g.kind → ∀ w ∈ ws, w.kind = 0 ∨ (w.kind = g.kind ∧ g.low.cmp w ≤ 0 ∧ w.cmp g.high ≤ 0)
  le : 0 < g.kind → g.low.cmp g.high ≤ 0
theorem RInv.zero : RInv Rng.zero [] := ⟨rfl, by simp, by simp, fun h => by simp [Rng.zero] at h⟩
theorem RInv.widen {g : Rng} {ws : List Val} (h : RInv g ws) (v : Val) : RInv (g.widen v) (ws ++ [v]) := by
  unfold Rng.widen
  by_cases h0 : v.kind = 0
  · rw [if_pos h0]
    refine ⟨?_, fun hk w hw => ?_, fun hk w hw => ?_, h.le⟩
    · rw [h.nulls]; simp [h0]
    · rcases List.mem_append.1 hw with hw | hw
      · exact h.none hk w hw
      · simp only [List.mem_singleton] at hw; subst hw; exact h0
    · rcases List.mem_append.1 hw with hw | hw
      · exact h.some hk w hw
      · simp only [List.mem_singleton] at hw; subst hw; exact .inl h0
  · rw [if_neg h0]
    have hn : ((ws ++ [v]).filter fun w => w.kind == 0).length = (ws.filter fun w => w.kind == 0).length := by simp [h0]
    by_cases h1 : g.kind = 0
    · rw [if_pos h1]
      refine ⟨by rw [hn]; exact h.nulls, fun hk => absurd hk h0, fun hk w hw => ?_, fun _ => by rw [cmp_ord.refl]; omega⟩
      rcases List.mem_append.1 hw with hw | hw
      · exact .inl (h.none h1 w hw)
      · simp only [List.mem_singleton] at hw; subst hw
        have := cmp_ord.refl w
        exact .inr ⟨rfl, by show w.cmp w ≤ 0; omega, by show w.cmp w ≤ 0; omega⟩
    · rw [if_neg h1]
      by_cases h2 : g.kind ≠ v.kind
      · rw [if_pos h2]
        exact ⟨by rw [hn]; exact h.nulls, fun hk => by simp at hk, fun hk => by simp at hk, fun hk => by simp at hk⟩
      · rw [if_neg h2]
        have h2' : g.kind = v.kind := Decidable.not_not.1 h2
        have ha := cmp_ord.anti v g.low
        have hb := cmp_ord.anti v g.high
        by_cases h3 : v.cmp g.low < 0
        · rw [if_pos h3]
          refine ⟨by rw [hn]; exact h.nulls, fun hk => absurd hk h1, fun hk w hw => ?_, fun hk => cmp_ord.le v g.low g.high (by omega) (h.le hk)⟩
          rcases List.mem_append.1 hw with hw | hw
          · rcases h.some hk w hw with h5 | ⟨h5, h6, h7⟩
            · exact .inl h5
            · exact .inr ⟨h5, cmp_ord.le v g.low w (by omega) h6, h7⟩
          · simp only [List.mem_singleton] at hw; subst hw
            exact .inr ⟨h2'.symm, by rw [cmp_ord.refl]; omega, cmp_ord.le w g.low g.high (by omega) (h.le hk)⟩
        · rw [if_neg h3]
          by_cases h4 : 0 < v.cmp g.high
          · rw [if_pos h4]
            refine ⟨by rw [hn]; exact h.nulls, fun hk => absurd hk h1, fun hk w hw => ?_, fun hk => cmp_ord.le g.low g.high v (h.le hk) (by omega)⟩
            rcases List.mem_append.1 hw with hw | hw
            · rcases h.some hk w hw with h5 | ⟨h5, h6, h7⟩
              · exact .inl h5
              · exact .inr ⟨h5, h6, cmp_ord.le w g.high v h7 (by omega)⟩
            · simp only [List.mem_singleton] at hw; subst hw
              exact .inr ⟨h2'.symm, cmp_ord.le g.low g.high w (h.le hk) (by omega), by show w.cmp w ≤ 0; rw [cmp_ord.refl]; omega⟩
          · rw [if_neg h4]
            refine ⟨by rw [hn]; exact h.nulls, fun hk => absurd hk h1, fun hk w hw => ?_, h.le⟩
            rcases List.mem_append.1 hw with hw | hw
            · exact h.some hk w hw
            · simp only [List.mem_singleton] at hw; subst hw
              exact .inr ⟨h2'.symm, by omega, by omega⟩
theorem rinv_fold (i : Nat) : ∀ (l : List (List Val)) (g : Rng) (ws : List Val), RInv g ws → RInv (l.foldl (fun g r => g.widen (atV r i)) g) (ws ++ l.map (fun r => atV r i))
  | [], g, ws, h => by simpa using h
  | r :: l, g, ws, h => by
    have := rinv_fold i l _ _ (h.widen (atV r i))
    simpa using this
theorem rinv (cr : List (List Val)) (i : Nat) : RInv (rgAt cr i) (cr.map fun r => atV r i) := by
  have := rinv_fold i cr _ _ RInv.zero
  simpa [rgAt] using this
/-- The value that an expression reads in a row. -/
def luk (r : List Val) (i : Nat) : Val := match r[i]? with | some v => if v.right = true then v else Val.null | none => Val.null
theorem luk_right (r : List Val) (i : Nat) : (luk r i).right = true := by
  unfold luk
  split
  · split
    · assumption
    · exact fine_null
  · exact fine_null
theorem null_plain : Val.null.plain = Val.null := by unfold Val.plain; rw [if_pos fine_null]; rfl
theorem luk_plain (r : List Val) (i : Nat) : (luk r i).plain = atV r i := by
  unfold luk atV
  cases r[i]? with
  | none => exact null_plain
  | some v =>
    dsimp only
    by_cases h : v.right = true
    · rw [if_pos h]
    · rw [if_neg h, null_plain]
      unfold Val.plain; rw [if_neg h]
theorem kind_plain {v : Val} (h : v.right = true) : v.plain.kind = v.kind := by
  unfold Val.plain; rw [if_pos h]; split <;> rfl
theorem luk_kind (r : List Val) (i : Nat) : (atV r i).kind = (luk r i).kind := by rw [← luk_plain, kind_plain (luk_right r i)]
theorem luk_ok {r : List Val} (h : ∀ v ∈ r, v.Ok) (i : Nat) : (luk r i).Ok := by
  unfold luk
  cases hr : r[i]? with
  | none => exact Val.null_ok
  | some v =>
    dsimp only
    split
    · exact h v (List.mem_of_getElem? hr)
    · exact Val.null_ok
theorem luk_cmp {r : List Val} (h : ∀ v ∈ r, v.Ok) (i : Nat) (v : Val) : (luk r i).cmp v = (atV r i).cmp v := by
  rw [cmp_vcmp, cmp_vcmp, ← luk_plain, (Val.plain_flat (luk_ok h i)).plain]
theorem cmp_luk {r : List Val} (h : ∀ v ∈ r, v.Ok) (i : Nat) (v : Val) : v.cmp (luk r i) = v.cmp (atV r i) := by
  rw [cmp_vcmp, cmp_vcmp, ← luk_plain, (Val.plain_flat (luk_ok h i)).plain]
theorem right_kind {v : Val} (h : v.right = true) : 0 ≤ v.kind := by
  unfold Val.right at h
  by_cases h0 : v.kind = 0
  · omega
  · rw [if_neg h0] at h
    by_cases h1 : v.kind = 1
    · omega
    · rw [if_neg h1] at h
      by_cases h2 : v.kind = 2
      · omega
      · rw [if_neg h2] at h
        by_cases h3 : v.kind = 3
        · omega
        · rw [if_neg h3] at h
          by_cases h4 : v.kind = 4
          · omega
          · rw [if_neg h4] at h; cases h
def NotTrue (q : Val × Int) : Prop := q.2 = 0 ∧ ¬ (q.1.kind = 1 ∧ q.1.int = 1)
theorem truth_not {b : Bool} (h : b = false) : NotTrue (Val.truth b, 0) := ⟨rfl, by subst h; simp [Val.truth]⟩
theorem null_not : NotTrue (Val.null, 0) := ⟨rfl, by simp [Val.null]⟩
/-- What follows where a comparison may not be true. -/
theorem cmpd_facts {k : Int} {cr : List (List Val)} {r : List Val} {i : Nat} {v : Val} {t : Bool} (hr : r ∈ cr) (hv : v.right = true) (hc : cmpd k (rgAt cr i) v t = false) (h1 : ¬ (luk r i).kind = 0) (h2 : ¬ v.kind = 0) :
    (luk r i).kind = v.kind ∧ (rgAt cr i).low.cmp (atV r i) ≤ 0 ∧ (atV r i).cmp (rgAt cr i).high ≤ 0 ∧
      (if k = 7 then (decide ((rgAt cr i).low.cmp v < 1) && decide (-1 < (rgAt cr i).high.cmp v))
        else if k = 8 then (if t = true then decide (0 < (rgAt cr i).high.cmp v) else decide ((rgAt cr i).low.cmp v < 0))
        else (if t = true then decide (-1 < (rgAt cr i).high.cmp v) else decide ((rgAt cr i).low.cmp v < 1))) = false := by
  have hI := rinv cr i
  have hm : atV r i ∈ cr.map fun r => atV r i := List.mem_map.2 ⟨r, hr, rfl⟩
  have hk := luk_kind r i
  unfold cmpd at hc
  rw [if_neg h2] at hc
  by_cases h3 : (rgAt cr i).kind = 0
  · have := hI.none h3 _ hm; omega
  · rw [if_neg h3] at hc
    by_cases h4 : (rgAt cr i).kind ≠ v.kind
    · rw [if_pos h4] at hc; cases hc
    · rw [if_neg h4] at hc
      have h4' : (rgAt cr i).kind = v.kind := Decidable.not_not.1 h4
      have := right_kind hv
      rcases hI.some (by omega) _ hm with h5 | ⟨h5, h6, h7⟩
      · omega
      · exact ⟨by omega, h6, h7, hc⟩
theorem test_low {k : Int} {cr : List (List Val)} {r : List Val} {i : Nat} {v : Val} (h7 : k = 7 ∨ k = 8 ∨ k = 9) (hr : r ∈ cr) (ok : ∀ v ∈ r, v.Ok) (hv : v.right = true) (hc : cmpd k (rgAt cr i) v false = false) : NotTrue (Val.test k (luk r i) v) := by
  unfold Val.test
  rw [if_neg (by omega), if_pos ⟨luk_right r i, hv⟩]
  by_cases h0 : (luk r i).kind = 0 ∨ v.kind = 0
  · rw [if_pos h0]; exact null_not
  · rw [if_neg h0]
    obtain ⟨f1, f2, f3, f4⟩ := cmpd_facts hr hv hc (by omega) (by omega)
    rw [if_pos f1]
    refine truth_not ?_
    rw [luk_cmp ok]
    generalize atV r i = w at *
    generalize (rgAt cr i).low = lo at *
    generalize (rgAt cr i).high = hi at *
    have a1 := cmp_ord.anti w v; have a2 := cmp_ord.anti lo v; have a3 := cmp_ord.anti hi v
    have t1 := cmp_ord.le lo w v f2
    have t2 := cmp_ord.le v lo w
    have t3 := cmp_ord.le w hi v f3
    have t4 := fun h => cmp_ord.le v w hi h f3
    rcases h7 with rfl | rfl | rfl
    · simp only [if_true, Bool.and_eq_false_iff, decide_eq_false_iff_not] at f4 ⊢
      by_cases h : w.cmp v = 0
      · have := t1 (by omega)
        have := t4 (by omega)
        omega
      · simpa using h
    · simp at f4 ⊢
      by_cases h : w.cmp v < 0
      · have := t1 (by omega)
        have := t2 (by omega) f2
        omega
      · omega
    · simp at f4 ⊢
      by_cases h : w.cmp v ≤ 0
      · have := t1 h
        omega
      · omega
theorem test_high {k : Int} {cr : List (List Val)} {r : List Val} {i : Nat} {v : Val} (h7 : k = 7 ∨ k = 8 ∨ k = 9) (hr : r ∈ cr) (ok : ∀ v ∈ r, v.Ok) (hv : v.right = true) (hc : cmpd k (rgAt cr i) v true = false) : NotTrue (Val.test k v (luk r i)) := by
  unfold Val.test
  rw [if_neg (by omega), if_pos ⟨hv, luk_right r i⟩]
  by_cases h0 : v.kind = 0 ∨ (luk r i).kind = 0
  · rw [if_pos h0]; exact null_not
  · rw [if_neg h0]
    obtain ⟨f1, f2, f3, f4⟩ := cmpd_facts hr hv hc (by omega) (by omega)
    rw [if_pos f1.symm]
    refine truth_not ?_
    rw [cmp_luk ok]
    generalize atV r i = w at *
    generalize (rgAt cr i).low = lo at *
    generalize (rgAt cr i).high = hi at *
    have a1 := cmp_ord.anti w v; have a2 := cmp_ord.anti lo v; have a3 := cmp_ord.anti hi v
    have t1 := cmp_ord.le lo w v f2
    have t3 := cmp_ord.le w hi v f3
    have t4 := fun h => cmp_ord.le v w hi h f3
    rcases h7 with rfl | rfl | rfl
    · simp only [if_true, Bool.and_eq_false_iff, decide_eq_false_iff_not] at f4 ⊢
      by_cases h : v.cmp w = 0
      · have := t1 (by omega)
        have := t4 (by omega)
        omega
      · simpa using h
    · simp at f4 ⊢
      have := t3 f4
      omega
    · simp at f4 ⊢
      by_cases h : v.cmp w ≤ 0
      · have := t4 h
        omega
      · omega
theorem col_eval {cr : List (List Val)} {r : List Val} {a : Ex} {g : Rng} {rel : Nat} (h : colE (colsR cr 40) (rel : Int) a = some g) (hw : a.wf = true) (hrel : rel < 12) : a.eval (tup 12 rel r) = (luk r a.col.toNat, 0) ∧ g = rgAt cr a.col.toNat := by
  cases a with
  | mk k q c v l =>
    unfold colE at h
    split at h
    · rename_i hk
      split at h
      · rename_i hq
        obtain rfl : k = 1 := hk
        obtain rfl : q = (rel : Int) := hq
        obtain ⟨hkl, -⟩ := wf_kids hw
        have hl : l = [] := by
          have : kidsOf 1 = 0 := by decide
          exact List.eq_nil_of_length_eq_zero (by omega)
        subst hl
        refine ⟨?_, ?_⟩
        · simp only [Ex.eval, Exs.eval]
          have e1 : evalHead (tup 12 rel r) 1 (rel : Int) c v [] = (lookup (tup 12 rel r) (rel : Int) c, 0) := by simp [evalHead]
          rw [e1]
          have e2 : (tup 12 rel r)[rel]? = some r := by
            unfold tup
            rw [List.getElem?_set_self (by simpa using hrel)]
          show (lookup (tup 12 rel r) (rel : Int) c, (0 : Int)) = (luk r c.toNat, 0)
          unfold lookup luk
          rw [Int.toNat_natCast, e2]
          rfl
        · have h9 : (colsR cr 40)[c.toNat]? = some g := h
          unfold colsR at h9
          rw [List.getElem?_map] at h9
          obtain ⟨j, h10, h11⟩ := Option.map_eq_some_iff.1 h9
          obtain ⟨h12, h13⟩ := List.getElem?_eq_some_iff.1 h10
          rw [List.getElem_range] at h13
          subst h13
          exact h11.symm
      · cases h
    · cases h
theorem const_eval {b : Ex} {T : List (List Val)} (hk : b.kind = 2) (hw : b.wf = true) : b.eval T = (b.const, 0) ∧ b.const.right = true := by
  cases b with
  | mk k q c v l =>
    obtain rfl : k = 2 := hk
    obtain ⟨hkl, -⟩ := wf_kids hw
    have hl : l = [] := by
      have : kidsOf 2 = 0 := by decide
      exact List.eq_nil_of_length_eq_zero (by omega)
    subst hl
    refine ⟨by simp [Ex.eval, Exs.eval, evalHead, Ex.const], ?_⟩
    simp only [Ex.wf, Bool.and_eq_true, decide_eq_true_eq] at hw
    obtain ⟨⟨_, hf⟩, _⟩ := hw
    unfold fieldsOk at hf
    split at hf
    · cases hf
    · simp only [Bool.and_eq_true] at hf
      exact hf.1
theorem evalHead_test {T : List (List Val)} {k q c : Int} {v x y : Val} (h7 : k = 7 ∨ k = 8 ∨ k = 9) : evalHead T k q c v [(x, 0), (y, 0)] = Val.test k x y := by
  unfold evalHead
  rcases h7 with rfl | rfl | rfl <;> simp
theorem may_safe (cr : List (List Val)) (hok : ∀ r ∈ cr, ∀ v ∈ r, v.Ok) (rel : Nat) (hrel : rel < 12) (e : Ex) (hm : e.may (cr.length : Int) (colsR cr 40) (rel : Int) = false) (r : List Val) (hr : r ∈ cr) : holds (tup 12 rel r) [e] = (false, 0) := by
  have hn : NotTrue (e.eval (tup 12 rel r)) ∧ 0 ≤ e.count 1 400 := by
    cases e with
    | mk k q c v l =>
      unfold Ex.may at hm
      by_cases hf : 0 ≤ (Ex.mk k q c v l).count 1 400
      · refine ⟨?_, hf⟩
        rw [if_neg (by simpa using hf)] at hm
        obtain ⟨hk, hl⟩ := wf_kids (Ex.count_wf _ 1 400 hf)
        by_cases h7 : k = 7 ∨ k = 8 ∨ k = 9
        · have h2 : l.length = 2 := by
            have : kidsOf k = 2 := by rcases h7 with rfl | rfl | rfl <;> decide
            omega
          obtain ⟨a, b, rfl⟩ := list_two h2
          simp only [if_pos h7] at hm
          simp only [Ex.eval, Exs.eval]
          have ha := hl a (by simp); have hb := hl b (by simp)
          by_cases hbk : b.kind = 2
          · rw [if_pos hbk] at hm
            cases hca : colE (colsR cr 40) (rel : Int) a with
            | some g =>
              rw [hca] at hm
              obtain ⟨e1, rfl⟩ := col_eval (r := r) hca ha hrel
              obtain ⟨e2, hbr⟩ := const_eval (T := tup 12 rel r) hbk hb
              rw [e1, e2, evalHead_test h7]
              exact test_low h7 hr (hok r hr) hbr hm
            | none =>
              rw [hca] at hm
              by_cases hak : a.kind = 2
              · simp only [if_pos hak] at hm
                cases hcb : colE (colsR cr 40) (rel : Int) b with
                | some g =>
                  unfold colE at hcb
                  rw [if_neg (by omega)] at hcb
                  cases hcb
                | none => rw [hcb] at hm; cases hm
              · simp only [if_neg hak] at hm; cases hm
          · rw [if_neg hbk] at hm
            by_cases hak : a.kind = 2
            · simp only [if_pos hak] at hm
              cases hcb : colE (colsR cr 40) (rel : Int) b with
              | some g =>
                rw [hcb] at hm
                obtain ⟨e1, rfl⟩ := col_eval (r := r) hcb hb hrel
                obtain ⟨e2, har⟩ := const_eval (T := tup 12 rel r) hak ha
                rw [e1, e2, evalHead_test h7]
                exact test_high h7 hr (hok r hr) har hm
              | none => rw [hcb] at hm; cases hm
            · simp only [if_neg hak] at hm; cases hm
        · simp only [if_neg h7] at hm
          by_cases h13 : k = 13
          · subst h13
            have h1 : l.length = 1 := by
              have : kidsOf 13 = 1 := by decide
              omega
            obtain ⟨a, rfl⟩ := list_one h1
            simp only [if_true] at hm
            cases hca : colE (colsR cr 40) (rel : Int) a with
            | none => rw [hca] at hm; cases hm
            | some g =>
              rw [hca] at hm
              obtain ⟨e1, rfl⟩ := col_eval (r := r) hca (hl a (by simp)) hrel
              have hI := rinv cr a.col.toNat
              have hk0 : ¬ (luk r a.col.toNat).kind = 0 := fun h0 => by
                have h5 := luk_kind r a.col.toNat
                have h6 : atV r a.col.toNat ∈ (cr.map fun r => atV r a.col.toNat).filter fun w => w.kind == 0 := List.mem_filter.2 ⟨List.mem_map.2 ⟨r, hr, rfl⟩, by simp; omega⟩
                have h7 := List.length_pos_of_mem h6
                have h8 := hI.nulls
                simp only [decide_eq_false_iff_not] at hm
                omega
              simp only [Ex.eval, Exs.eval, e1]
              have e2 : evalHead (tup 12 rel r) 13 q c v [(luk r a.col.toNat, 0)] = (Val.truth ((luk r a.col.toNat).kind == 0), 0) := by simp [evalHead]
              rw [e2]
              exact truth_not (by simpa using hk0)
          · simp only [if_neg h13] at hm
            by_cases h12 : k = 12
            · subst h12
              have h1 : l.length = 1 := by
                have : kidsOf 12 = 1 := by decide
                omega
              obtain ⟨x, rfl⟩ := list_one h1
              simp only [if_true] at hm
              split at hm
              · rename_i rx cx vx a hx
                simp only [List.cons.injEq, and_true] at hx
                subst hx
                have hax : a.wf = true := (wf_kids (hl (Ex.mk 13 rx cx vx [a]) (by simp))).2 a (by simp)
                cases hca : colE (colsR cr 40) (rel : Int) a with
                | none => rw [hca] at hm; cases hm
                | some g =>
                  rw [hca] at hm
                  obtain ⟨e1, rfl⟩ := col_eval (r := r) hca hax hrel
                  have hI := rinv cr a.col.toNat
                  have hk0 : (luk r a.col.toNat).kind = 0 := by
                    rw [← luk_kind]
                    have h8 := hI.nulls
                    simp only [decide_eq_false_iff_not] at hm
                    have h9 : ((cr.map fun r => atV r a.col.toNat).filter fun w => w.kind == 0).length = (cr.map fun r => atV r a.col.toNat).length := by
                      have := List.length_filter_le (fun w : Val => w.kind == 0) (cr.map fun r => atV r a.col.toNat)
                      rw [List.length_map] at this ⊢
                      omega
                    have h10 := List.length_filter_eq_length_iff.1 h9 (atV r a.col.toNat) (List.mem_map.2 ⟨r, hr, rfl⟩)
                    simpa using h10
                  simp only [Ex.eval, Exs.eval, e1]
                  have e2 : evalHead (tup 12 rel r) 13 rx cx vx [(luk r a.col.toNat, 0)] = (Val.truth true, 0) := by simp [evalHead, hk0]
                  rw [e2]
                  have e3 : evalHead (tup 12 rel r) 12 q c v [(Val.truth true, 0)] = (Val.truth false, 0) := by
                    have ht : (Val.truth true).truthy = true := by unfold Val.truthy; rw [fine_truth]; rfl
                    have hk1 : (Val.truth true).kind = 1 := rfl
                    have hi1 : (Val.truth true).int = 1 := rfl
                    simp [evalHead, Val.both, Val.both2, ht, hk1, hi1]
                  rw [e3]
                  exact truth_not rfl
              · cases hm
            · simp only [if_neg h12] at hm; cases hm
      · rw [if_pos (by simpa using hf)] at hm; cases hm
  obtain ⟨⟨h1, h2⟩, h3⟩ := hn
  unfold holds
  have hE : e.Eval (tup 12 rel r) = ((e.eval (tup 12 rel r)).1, 0) := by
    unfold Ex.Eval
    rw [if_pos h3, if_pos h1]
  rw [hE]
  simp only [ne_eq, not_true_eq_false, if_false]
  rw [if_pos (by omega)]
end Go.Proofs.Ytlcdjaclahhdnaa
