/- A value hangs on the rows of the relations that are named alone; And and Holds: plain. -/
import Derived.Test.YtlcdjaclahhdnaaRl
import Derived.Test.YtlcdjaclahhdnaaHolds
import Derived.Test.YtlcdjaclahhdnaaLaw4
namespace Go.Proofs.Ytlcdjaclahhdnaa
open Go.RowKit
set_option linter.unusedSimpArgs false
set_option linter.unusedVariables false

theorem Exs.rels_bit {l : List Ex} {i : Nat} {e : Ex} (he : e ∈ l) (h : e.rels.testBit i = true) : (Exs.rels l).testBit i = true := by
  induction l with
  | nil => simp at he
  | cons x l ih =>
    simp only [Exs.rels, Nat.testBit_or, Bool.or_eq_true]
    rcases List.mem_cons.1 he with rfl | he
    · exact .inl h
    · exact .inr (ih he)
theorem lookup_congr {rows mixed : List (List Val)} {r : Int} (h : rows[r.toNat]? = mixed[r.toNat]?) (c : Int) : lookup rows r c = lookup mixed r c := by
  unfold lookup; rw [h]
theorem evalHead_congr {rows mixed : List (List Val)} {k r c : Int} {v : Val} {rs : List (Val × Int)} (h : k = 1 → lookup rows r c = lookup mixed r c) : evalHead rows k r c v rs = evalHead mixed k r c v rs := by
  unfold evalHead
  by_cases hk : k = 1
  · rw [h hk]
  · simp only [if_neg hk]
/-- A value hangs on the rows of the relations that are named alone. -/
theorem blind_eval {rows mixed : List (List Val)} : ∀ e : Ex, e.wf = true → (∀ i, i < 32 → e.rels.testBit i = true → rows[i]? = mixed[i]?) → e.eval rows = e.eval mixed := by
  intro e
  induction e using Ex.ind with
  | h k r c v l ih =>
    intro hwf hb
    simp only [Ex.wf, Bool.and_eq_true, decide_eq_true_eq] at hwf
    obtain ⟨⟨hk, hf⟩, hl⟩ := hwf
    rw [Exs.wf_iff] at hl
    simp only [Ex.eval, Exs.eval_map]
    have e1 : l.map (Ex.eval rows) = l.map (Ex.eval mixed) := List.map_congr_left fun x hx => ih x hx (hl x hx) fun i hi hbit => hb i hi (by
      simp only [Ex.rels, Nat.testBit_or, Bool.or_eq_true]; exact .inr (Exs.rels_bit hx hbit))
    rw [e1]
    refine evalHead_congr fun h1 => lookup_congr ?_ c
    subst h1
    have hR : 0 ≤ r ∧ r ≤ 31 := by
      unfold fieldsOk at hf
      split at hf
      · cases hf
      · rename_i h
        simp only [inRel, Bool.and_eq_false_iff, decide_eq_false_iff_not] at h
        omega
    refine hb r.toNat (by omega) ?_
    simp only [Ex.rels, Nat.testBit_or, Bool.or_eq_true]
    left
    unfold headRel
    rw [if_pos ⟨rfl, hR⟩]
    exact Nat.testBit_two_pow_self
theorem blind_Eval {rows mixed : List (List Val)} (e : Ex) (hb : ∀ i, i < 32 → e.rels.testBit i = true → rows[i]? = mixed[i]?) : e.Eval rows = e.Eval mixed := by
  unfold Ex.Eval
  by_cases hf : 0 ≤ e.count 1 400
  · rw [if_pos hf, if_pos hf, blind_eval e (Ex.count_wf e 1 400 hf) hb]
  · rw [if_neg hf, if_neg hf]
/-- The rows that are not named, taken from elsewhere. -/
def mixRow (m : Nat) (rows other : List (List Val)) (i : Nat) : List Val := if m.testBit i = true then rows.getD i [] else other.getD i []
def mixed (m : Nat) (rows other : List (List Val)) : List (List Val) := (List.range (min rows.length 32)).map (mixRow m rows other)
theorem mixed_get (m : Nat) (rows other : List (List Val)) {i : Nat} (hi : i < 32) (hb : m.testBit i = true) : rows[i]? = (mixed m rows other)[i]? := by
  unfold mixed
  rw [List.getElem?_map]
  by_cases h : i < rows.length
  · rw [List.getElem?_eq_getElem h, List.getElem?_eq_getElem (by simp; omega)]
    simp [mixRow, hb, h]
  · rw [List.getElem?_eq_none (by omega), List.getElem?_eq_none (by simp; omega)]
    rfl
theorem bit_u32 (m i : Nat) (hm : m < 4294967296) (hi : i < 32) : bits .and .u32 ((m : Int) / 2 ^ i) 1 = if m.testBit i = true then 1 else 0 := by
  have e1 : ((m : Int) / 2 ^ i) = ((m / 2 ^ i : Nat) : Int) := by simp
  rw [e1]
  have h1 : m / 2 ^ i < 2 ^ 32 := Nat.lt_of_le_of_lt (Nat.div_le_self _ _) (by omega)
  have h2 : (BitVec.ofInt 32 ((m / 2 ^ i : Nat) : Int)).toNat = m / 2 ^ i := by
    rw [BitVec.ofInt_natCast, BitVec.toNat_ofNat]; exact Nat.mod_eq_of_lt h1
  have h3 : (BitVec.ofInt 32 1).toNat = 1 := by decide
  show IntKind.u32.wrap ((BitVec.ofInt 32 ((m / 2 ^ i : Nat) : Int) &&& BitVec.ofInt 32 1).toNat : Int) = _
  rw [BitVec.toNat_and, h2, h3, wrap_u32, Nat.and_one_is_mod, Nat.testBit_eq_decide_div_mod_eq]
  have := Nat.mod_two_eq_zero_or_one (m / 2 ^ i)
  rcases this with h | h <;> rw [h] <;> simp

theorem Eval_zero {rows : List (List Val)} {e : Ex} (h : (e.Eval rows).2 = 0) : 0 ≤ e.count 1 400 ∧ (e.eval rows).2 = 0 ∧ e.Eval rows = e.eval rows := by
  unfold Ex.Eval at h ⊢
  by_cases h1 : 0 ≤ e.count 1 400
  · rw [if_pos h1] at h ⊢
    by_cases h2 : (e.eval rows).2 = 0
    · rw [if_pos h2] at h ⊢
      exact ⟨h1, h2, Prod.ext rfl h2.symm⟩
    · rw [if_neg h2] at h; exact absurd h h2
  · rw [if_neg h1] at h; simp at h
/-- Two that hold together are And of both. -/
theorem and_law {rows : List (List Val)} {e f : Ex} (hg : (e.Eval rows).2 = 0) (hi : (f.Eval rows).2 = 0) (hj : ((Ex.mk 10 0 0 Val.null [e, f]).Eval rows).2 = 0) :
    holds rows [e, f] = (decide (((Ex.mk 10 0 0 Val.null [e, f]).Eval rows).1.kind = 1) && decide (((Ex.mk 10 0 0 Val.null [e, f]).Eval rows).1.int = 1), 0) := by
  obtain ⟨_, h1, h2⟩ := Eval_zero hg
  obtain ⟨_, h3, h4⟩ := Eval_zero hi
  obtain ⟨_, h5, h6⟩ := Eval_zero hj
  have hq : (Ex.mk 10 0 0 Val.null [e, f]).Eval rows = Val.both 10 (e.eval rows).1 (f.eval rows).1 := by
    rw [h6]
    simp only [Ex.eval, Exs.eval]
    simp [evalHead, h1, h3]
  clear h6 h5
  generalize (Ex.mk 10 0 0 Val.null [e, f]).Eval rows = q at *
  subst hq
  simp only [holds]
  rw [h2, h4]
  simp only [h1, h3, ne_eq, not_true_eq_false, if_false]
  generalize (e.eval rows).1 = a at *
  generalize (f.eval rows).1 = c at *
  unfold Val.both Val.both2 at hj ⊢
  rw [if_neg (show ¬((10 : Int) < 10 ∨ (12 : Int) < 10) by decide), if_neg (show ¬((10 : Int) = 12) by decide)] at hj ⊢
  by_cases ht : a.truthy = true ∧ c.truthy = true
  · rw [if_pos ht]
    have tr : ∀ u : Val, u.truthy = true → u.kind = 0 ∨ (u.kind = 1 ∧ (u.int = 0 ∨ u.int = 1)) := fun u hu => by
      unfold Val.truthy at hu
      simp only [Bool.and_eq_true, Bool.or_eq_true, decide_eq_true_eq] at hu
      obtain ⟨hr, hk⟩ := hu
      rcases hk with hk | hk
      · exact .inl hk
      · right
        refine ⟨hk, ?_⟩
        rw [Val.right_iff] at hr
        cases hr <;> simp_all
    rcases tr a ht.1 with h | ⟨h, h' | h'⟩ <;> rcases tr c ht.2 with g | ⟨g, g' | g'⟩ <;> simp [isn, h, g, *, Val.truth, Val.null]
  · rw [if_neg ht] at hj; simp at hj
theorem same_refl (a : Val) : a.same a = true := by
  unfold Val.same; rw [cmp_vcmp, vcmp_ord.refl]; rfl
end Go.Proofs.Ytlcdjaclahhdnaa
