/- An expression that has a type has a value of it: plain. -/
import Derived.Test.YtlcdjaclahhdnaaTy6
import Derived.Test.YtlcdjaclahhdnaaFit2
import Derived.Test.YtlcdjaclahhdnaaWorks4
namespace Go.Proofs.Ytlcdjaclahhdnaa
open Go.RowKit
set_option linter.unusedSimpArgs false
set_option linter.unusedVariables false

/-- A value of a type. -/
def OfType (q : Val × Int) (t : Int) : Prop := q.2 = 0 ∧ q.1.right = true ∧ (q.1.kind = 0 ∨ q.1.kind = t)
theorem ofType_null (t : Int) : OfType (Val.null, 0) t := ⟨rfl, fine_null, .inl rfl⟩
theorem ofType_truth (b : Bool) : OfType (Val.truth b, 0) 1 := ⟨rfl, fine_truth b, .inr rfl⟩
theorem calc2_sound {op a b : Int} {x y : Val} (hx : x.right = true) (hy : y.right = true) (kx : x.kind = 0 ∨ x.kind = a) (ky : y.kind = 0 ∨ y.kind = b)
    (ha : numericK a = true) (hb : numericK b = true) (hab : a = 0 ∨ b = 0 ∨ a = b) : OfType (Val.calc2 op x y) (max a b) := by
  simp only [numericK, Bool.or_eq_true, beq_iff_eq] at ha hb
  have nx : x.numeric = true := by unfold Val.numeric; rw [hx]; simp; omega
  have ny : y.numeric = true := by unfold Val.numeric; rw [hy]; simp; omega
  unfold Val.calc2
  rw [if_pos ⟨nx, ny⟩]
  split
  · exact ofType_null _
  · rename_i hn
    have e : x.kind = y.kind := by omega
    rw [if_pos e]
    split
    · exact ⟨rfl, fine_number _, .inr (show (2 : Int) = _ by omega)⟩
    · exact ⟨rfl, fine_float _, .inr (show (3 : Int) = _ by omega)⟩
theorem calc_sound {op a b : Int} {x y : Val} (hop : 3 ≤ op ∧ op ≤ 5) (hx : x.right = true) (hy : y.right = true) (kx : x.kind = 0 ∨ x.kind = a) (ky : y.kind = 0 ∨ y.kind = b)
    (ha : numericK a = true) (hb : numericK b = true) (hab : a = 0 ∨ b = 0 ∨ a = b) : OfType (Val.calc op x y) (max a b) := by
  unfold Val.calc
  rw [if_neg (by omega), if_neg (by omega)]
  exact calc2_sound hx hy kx ky ha hb hab
theorem neg_sound {a : Int} {x y : Val} (hx : x.right = true) (kx : x.kind = 0 ∨ x.kind = a) (ha : numericK a = true) : OfType (Val.calc 6 x y) (max a a) := by
  unfold Val.calc
  rw [if_neg (by omega), if_pos rfl]
  exact calc2_sound hx hx kx kx ha ha (.inr (.inr rfl))
theorem test_sound {op a b : Int} {x y : Val} (hop : 7 ≤ op ∧ op ≤ 9) (hx : x.right = true) (hy : y.right = true) (kx : x.kind = 0 ∨ x.kind = a) (ky : y.kind = 0 ∨ y.kind = b)
    (hab : a = 0 ∨ b = 0 ∨ a = b) : OfType (Val.test op x y) 1 := by
  unfold Val.test
  rw [if_neg (by omega), if_pos ⟨hx, hy⟩]
  split
  · exact ofType_null _
  · rename_i hn
    rw [if_pos (by omega)]
    exact ofType_truth _
theorem both2_sound {op : Int} {x y : Val} (hx : x.truthy = true) (hy : y.truthy = true) : OfType (Val.both2 op x y) 1 := by
  unfold Val.both2
  rw [if_pos ⟨hx, hy⟩]
  repeat (first | exact ofType_null _ | exact ofType_truth _ | split)
theorem truthy_sound {a : Int} {x : Val} (hx : x.right = true) (kx : x.kind = 0 ∨ x.kind = a) (ha : truthK a = true) : x.truthy = true := by
  simp only [truthK, Bool.or_eq_true, beq_iff_eq] at ha
  unfold Val.truthy; rw [hx]; simp; omega
theorem both_sound {op a b : Int} {x y : Val} (hop : op = 10 ∨ op = 11) (hx : x.right = true) (hy : y.right = true) (kx : x.kind = 0 ∨ x.kind = a) (ky : y.kind = 0 ∨ y.kind = b)
    (ha : truthK a = true) (hb : truthK b = true) : OfType (Val.both op x y) 1 := by
  unfold Val.both
  rw [if_neg (by omega), if_neg (by omega)]
  exact both2_sound (truthy_sound hx kx ha) (truthy_sound hy ky hb)
theorem not_sound {a : Int} {x y : Val} (hx : x.right = true) (kx : x.kind = 0 ∨ x.kind = a) (ha : truthK a = true) : OfType (Val.both 12 x y) 1 := by
  unfold Val.both
  rw [if_neg (by omega), if_pos rfl]
  exact both2_sound (truthy_sound hx kx ha) (truthy_sound hx kx ha)
theorem oneR_ok {may : Int → Bool} {a b : Int} (h : (oneR may a b).2 = 0) : oneR may a b = (max a b, 0) ∧ may a = true ∧ may b = true ∧ (a = 0 ∨ b = 0 ∨ a = b) := by
  unfold oneR at h ⊢
  split
  · rename_i hc; exact ⟨rfl, hc⟩
  · rename_i hc; rw [if_neg hc] at h; simp at h
theorem boolR_ok {q : Int × Int} (h : (boolR q).2 = 0) : q.2 = 0 ∧ boolR q = (1, 0) := by
  unfold boolR at h ⊢
  by_cases hq : q.2 = 0
  · rw [if_pos hq]; exact ⟨hq, rfl⟩
  · rw [if_neg hq] at h; exact absurd h hq
theorem fits_get {cols : List Int} {r : List Val} (h : fits cols r = true) : r.length = cols.length ∧ (∀ v ∈ r, v.right = true) ∧ ∀ (i : Nat) (h1 : i < r.length) (h2 : i < cols.length), r[i].kind = 0 ∨ r[i].kind = cols[i] := by
  unfold fits rowRight allRight at h
  simp only [Bool.and_eq_true, decide_eq_true_eq, List.all_eq_true] at h
  exact ⟨h.1, h.2.1.2, kindsOk_get h.2.2⟩
theorem lookup_sound {tabs : List (List Int)} {rows : List (List Val)} (hfit : fitR tabs rows = true) {r c : Int} (h : (colK tabs r c).2 = 0) : OfType (lookup rows r c, 0) (colK tabs r c).1 := by
  unfold fitR at hfit
  simp only [Bool.and_eq_true, decide_eq_true_eq] at hfit
  obtain ⟨hl, hg⟩ := hfit
  unfold colK at h ⊢
  by_cases h1 : r.toNat < tabs.length
  · rw [List.getElem?_eq_getElem h1] at h ⊢
    dsimp only at h ⊢
    by_cases h2 : c.toNat < tabs[r.toNat].length
    · rw [List.getElem?_eq_getElem h2] at h ⊢
      dsimp only at h ⊢
      have h3 : r.toNat < rows.length := by omega
      obtain ⟨e1, e2, e3⟩ := fits_get (fitGo_get hg r.toNat h1 h3)
      have h4 : c.toNat < rows[r.toNat].length := by omega
      unfold lookup
      rw [List.getElem?_eq_getElem h3]
      dsimp only
      rw [List.getElem?_eq_getElem h4]
      dsimp only
      have hr := e2 _ (List.getElem_mem h4)
      rw [if_pos hr]
      exact ⟨rfl, hr, e3 c.toNat h4 h2⟩
    · rw [List.getElem?_eq_none (Nat.not_lt.1 h2)] at h; simp at h
  · rw [List.getElem?_eq_none (Nat.not_lt.1 h1)] at h; simp at h
/-- Over rows that fit the tables. -/
theorem eval_sound {tabs : List (List Int)} {rows : List (List Val)} (hfit : fitR tabs rows = true) : ∀ e : Ex, e.wf = true → e.refs tabs = true → (e.typed tabs).2 = 0 → OfType (e.eval rows) (e.typed tabs).1 := by
  intro e
  induction e using Ex.ind with
  | h k r c v l ih =>
    intro hwf href hty
    simp only [Ex.wf, Bool.and_eq_true, decide_eq_true_eq] at hwf
    obtain ⟨⟨hk, hf⟩, hl⟩ := hwf
    rw [Exs.wf_iff] at hl
    simp only [Ex.refs, Bool.and_eq_true] at href
    obtain ⟨hr0, hr1⟩ := href
    rw [Exs.refs_iff] at hr1
    simp only [Ex.typed, Exs.typed_map] at hty ⊢
    by_cases hz : firstErr (l.map (Ex.typed tabs)) = 0
    · rw [if_pos hz] at hty ⊢
      rw [firstErr_zero] at hz
      have kid : ∀ x ∈ l, OfType (x.eval rows) (x.typed tabs).1 := fun x hx => ih x hx (hl x hx) (hr1 x hx) (hz _ (List.mem_map.2 ⟨x, hx, rfl⟩))
      simp only [Ex.eval, Exs.eval_map]
      have hkk : (k = 1 ∨ k = 2) ∧ l = [] ∨ (k = 6 ∨ k = 12 ∨ k = 13) ∧ (∃ a, l = [a]) ∨ (k = 3 ∨ k = 4 ∨ k = 5 ∨ k = 7 ∨ k = 8 ∨ k = 9 ∨ k = 10 ∨ k = 11) ∧ (∃ a b, l = [a, b]) := by
        unfold kidsOf at hk
        split at hk
        · rename_i h; exact .inl ⟨h, List.eq_nil_of_length_eq_zero (by omega)⟩
        · split at hk
          · rename_i h
            refine .inr (.inl ⟨h, ?_⟩)
            match l, (show l.length = 1 by omega) with
            | [a], _ => exact ⟨a, rfl⟩
          · split at hk
            · rename_i h
              refine .inr (.inr ⟨h, ?_⟩)
              match l, (show l.length = 2 by omega) with
              | [a, b], _ => exact ⟨a, b, rfl⟩
            · omega
      clear ih hl hr1 hk hz
      rcases hkk with ⟨hk, rfl⟩ | ⟨hk, a, rfl⟩ | ⟨hk, a, b, rfl⟩
      · rcases hk with rfl | rfl
        · have e1 : evalHead rows 1 r c v (([] : List Ex).map (Ex.eval rows)) = (lookup rows r c, 0) := by simp [evalHead]
          have e2 : typedHead tabs 1 r c v ((([] : List Ex).map (Ex.typed tabs)).map Prod.fst) = colK tabs r c := by simp [typedHead]
          rw [e1, e2]
          rw [e2] at hty
          exact lookup_sound hfit hty
        · have e1 : evalHead rows 2 r c v (([] : List Ex).map (Ex.eval rows)) = (v, 0) := by simp [evalHead]
          have e2 : typedHead tabs 2 r c v ((([] : List Ex).map (Ex.typed tabs)).map Prod.fst) = (v.kind, 0) := by simp [typedHead]
          rw [e1, e2]
          refine ⟨rfl, ?_, .inr rfl⟩
          unfold fieldsOk at hf
          split at hf
          · cases hf
          · simp only [Bool.and_eq_true] at hf; exact hf.1
      · obtain ⟨za, ra, ka⟩ := kid a (by simp)
        simp only [List.map_cons, List.map_nil] at hty ⊢
        generalize a.eval rows = x at *
        generalize a.typed tabs = t at *
        rcases hk with rfl | rfl | rfl
        · have e1 : evalHead rows 6 r c v [x] = Val.calc 6 x.1 Val.null := by simp [evalHead, za]
          have e2 : typedHead tabs 6 r c v [t.1] = oneR numericK t.1 t.1 := by simp [typedHead]
          rw [e2] at hty ⊢
          obtain ⟨e3, h1, _, _⟩ := oneR_ok hty
          rw [e1, e3]
          exact neg_sound ra ka h1
        · have e1 : evalHead rows 12 r c v [x] = Val.both 12 x.1 Val.null := by simp [evalHead, za]
          have e2 : typedHead tabs 12 r c v [t.1] = boolR (oneR truthK t.1 t.1) := by simp [typedHead]
          rw [e2] at hty ⊢
          obtain ⟨h0, e3⟩ := boolR_ok hty
          obtain ⟨_, h1, _, _⟩ := oneR_ok h0
          rw [e1, e3]
          exact not_sound ra ka h1
        · have e1 : evalHead rows 13 r c v [x] = (Val.truth (x.1.kind == 0), 0) := by simp [evalHead, za]
          have e2 : typedHead tabs 13 r c v [t.1] = (1, 0) := by simp [typedHead]
          rw [e1, e2]
          exact ofType_truth _
      · obtain ⟨za, ra, ka⟩ := kid a (by simp)
        obtain ⟨zb, rb, kb⟩ := kid b (by simp)
        simp only [List.map_cons, List.map_nil] at hty ⊢
        generalize a.eval rows = x at *
        generalize a.typed tabs = t at *
        generalize b.eval rows = y at *
        generalize b.typed tabs = u at *
        rcases hk with hk | hk | hk | hk | hk | hk | hk | hk <;> subst hk
        all_goals first
          | (have e1 : ∀ k, (k = 3 ∨ k = 4 ∨ k = 5) → evalHead rows k r c v [x, y] = Val.calc k x.1 y.1 := (by rintro k (rfl | rfl | rfl) <;> simp [evalHead, za, zb])
             have e2 : ∀ k, (k = 3 ∨ k = 4 ∨ k = 5) → typedHead tabs k r c v [t.1, u.1] = oneR numericK t.1 u.1 := (by rintro k (rfl | rfl | rfl) <;> simp [typedHead])
             rw [e2 _ (by decide)] at hty ⊢
             obtain ⟨e3, h1, h2, h3⟩ := oneR_ok hty
             rw [e1 _ (by decide), e3]
             exact calc_sound (by decide) ra rb ka kb h1 h2 h3)
          | (have e1 : ∀ k, (k = 7 ∨ k = 8 ∨ k = 9) → evalHead rows k r c v [x, y] = Val.test k x.1 y.1 := (by rintro k (rfl | rfl | rfl) <;> simp [evalHead, za, zb])
             have e2 : ∀ k, (k = 7 ∨ k = 8 ∨ k = 9) → typedHead tabs k r c v [t.1, u.1] = boolR (oneR anyK t.1 u.1) := (by rintro k (rfl | rfl | rfl) <;> simp [typedHead])
             rw [e2 _ (by decide)] at hty ⊢
             obtain ⟨h0, e3⟩ := boolR_ok hty
             obtain ⟨_, _, _, h3⟩ := oneR_ok h0
             rw [e1 _ (by decide), e3]
             exact test_sound (by decide) ra rb ka kb h3)
          | (have e1 : ∀ k, (k = 10 ∨ k = 11) → evalHead rows k r c v [x, y] = Val.both k x.1 y.1 := (by rintro k (rfl | rfl) <;> simp [evalHead, za, zb])
             have e2 : ∀ k, (k = 10 ∨ k = 11) → typedHead tabs k r c v [t.1, u.1] = boolR (oneR truthK t.1 u.1) := (by rintro k (rfl | rfl) <;> simp [typedHead])
             rw [e2 _ (by decide)] at hty ⊢
             obtain ⟨h0, e3⟩ := boolR_ok hty
             obtain ⟨_, h1, h2, _⟩ := oneR_ok h0
             rw [e1 _ (by decide), e3]
             exact both_sound (by decide) ra rb ka kb h1 h2)
    · rw [if_neg hz] at hty; exact absurd hty hz
/-- The law, plain. -/
theorem type_sound {tabs : List (List Int)} {rows : List (List Val)} (hfit : fitR tabs rows = true) (e : Ex) (h : (e.type tabs).2 = 0) : OfType (e.Eval rows) (e.type tabs).1 := by
  unfold Ex.type at h ⊢
  by_cases h1 : 0 ≤ e.count 1 400
  · rw [if_pos h1] at h ⊢
    by_cases h2 : e.refs tabs = true
    · rw [if_pos h2] at h ⊢
      by_cases h3 : (e.typed tabs).2 = 0
      · rw [if_pos h3]
        have hs := eval_sound hfit e (Ex.count_wf e 1 400 h1) h2 h3
        unfold Ex.Eval
        rw [if_pos h1, if_pos hs.1]
        exact ⟨rfl, hs.2⟩
      · rw [if_neg h3] at h; exact absurd h h3
    · rw [if_neg h2] at h; simp at h
  · rw [if_neg h1] at h; simp at h
theorem type_zero (tabs : List (List Int)) (e : Ex) (h : (e.type tabs).2 ≠ 0) : (e.type tabs).1 = 0 := by
  unfold Ex.type at h ⊢
  split
  · split
    · split
      · rename_i h1 h2 h3; rw [if_pos h1, if_pos h2, if_pos h3] at h; exact absurd rfl h
      · rfl
    · rfl
  · rfl
end Go.Proofs.Ytlcdjaclahhdnaa
