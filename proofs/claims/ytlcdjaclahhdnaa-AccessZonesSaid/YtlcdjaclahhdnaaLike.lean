/- Values that differ in a NaN's bits alone: plain. -/
import Derived.Test.YtlcdjaclahhdnaaEv
import Derived.Test.YtlcdjaclahhdnaaLaw4
namespace Go.Proofs.Ytlcdjaclahhdnaa
open Go.RowKit
set_option linter.unusedSimpArgs false
set_option linter.unusedVariables false

/-- Alike, a NaN like any other. -/
def Val.like (a b : Val) : Prop := a.kind = b.kind ∧ a.int = b.int ∧ a.text = b.text ∧ (a.flt = b.flt ∨ (isNaN a.flt = true ∧ isNaN b.flt = true))
theorem Val.like.refl (a : Val) : a.like a := ⟨rfl, rfl, rfl, .inl rfl⟩
theorem nan_ne {x : Nat} (h : isNaN x = true) : ¬ x = 0 ∧ ¬ isZ x = true := by
  unfold isNaN at h; unfold isZ
  simp only [decide_eq_true_eq] at *
  omega
theorem like_right {a b : Val} (h : a.like b) : a.right = b.right := by
  obtain ⟨h1, h2, h3, h4⟩ := h
  unfold Val.right
  rw [h1, h2, h3]
  rcases h4 with h4 | ⟨h4, h5⟩
  · rw [h4]
  · have e1 := (nan_ne h4).1; have e2 := (nan_ne h5).1
    simp only [e1, e2, decide_false]
theorem plainF_like {x y : Nat} (h : x = y ∨ (isNaN x = true ∧ isNaN y = true)) : plainF x = plainF y := by
  rcases h with rfl | ⟨h1, h2⟩
  · rfl
  · unfold plainF; rw [if_pos h1, if_pos h2]
theorem like_plain {a b : Val} (h : a.like b) (hr : a.right = true) : a.plain = b.plain := by
  have hb : b.right = true := (like_right h).symm.trans hr
  obtain ⟨k, n, x, t⟩ := a
  obtain ⟨k', n', x', t'⟩ := b
  obtain ⟨h1, h2, h3, h4⟩ := h
  dsimp only at h1 h2 h3 h4
  subst h1 h2 h3
  unfold Val.plain
  rw [if_pos hr, if_pos hb]
  dsimp only
  by_cases hk : k = 3
  · rw [if_pos hk, if_pos hk, plainF_like h4]
  · rw [if_neg hk, if_neg hk]
    rcases h4 with h4 | ⟨h4, h5⟩
    · rw [h4]
    · exfalso
      unfold Val.right at hr
      have := (nan_ne h4).1
      simp only [this, hk, decide_false, Bool.and_false, Bool.false_and, if_false] at hr
      repeat (first | (split at hr) | simp_all)
theorem like_numeric {a b : Val} (h : a.like b) : a.numeric = b.numeric := by
  have h1 := like_right h
  unfold Val.numeric
  rw [h1, h.1]
theorem floatBits_nan {op : BinOp} (hop : op = .add ∨ op = .sub ∨ op = .mul) {x y : Nat} (h : isNaN x = true ∨ isNaN y = true) : floatBits op .f64 x y = none := by
  have e : ∀ z, isNaN z = true → Ieee.Format.read Ieee.double z = .nan (z / 9223372036854775808 % 2 == 1) (z % 9223372036854775808 - 9218868437227405312) := fun z hz => read_nan (by unfold isNaN at hz; unfold rung; simpa using hz)
  unfold floatBits
  rcases hop with rfl | rfl | rfl
  · show ((Ieee.double.read x).sum (Ieee.double.read y)).map _ = none
    rcases h with h | h
    · rw [e x h]; rfl
    · rw [e y h]; cases Ieee.double.read x <;> rfl
  · show ((Ieee.double.read x).sum (Ieee.double.read y).opposite).map _ = none
    rcases h with h | h
    · rw [e x h]; rfl
    · rw [e y h]; cases Ieee.double.read x <;> rfl
  · show ((Ieee.double.read x).product (Ieee.double.read y)).map _ = none
    rcases h with h | h
    · rw [e x h]; rfl
    · rw [e y h]; cases Ieee.double.read x <;> rfl
theorem neg_nan {x : Nat} (h : isNaN x = true) : isNaN (Op.negFloat .f64 x) = true := by
  unfold isNaN at *
  simp only [decide_eq_true_eq] at *
  have e : Op.negFloat .f64 x % 9223372036854775808 = x % 9223372036854775808 := by
    show (x ^^^ 2 ^ 63) % 2 ^ 63 = x % 2 ^ 63
    rw [Nat.xor_mod_two_pow, Nat.mod_self, Nat.xor_zero]
  rw [e]; exact h
theorem broken_like {op : Int} {x y x' y' : Nat} (h1 : x = x' ∨ (isNaN x = true ∧ isNaN x' = true)) (h2 : y = y' ∨ (isNaN y = true ∧ isNaN y' = true)) : broken op x y = broken op x' y' := by
  have key : ∀ {x y : Nat}, isNaN x = true ∨ (isNaN y = true ∧ (op = 3 ∨ op = 4 ∨ op = 5)) → broken op x y = 9221120237041090561 := by
    intro x y h
    unfold broken brokenBits
    have hx : isNaN x = true ∨ isNaN y = true := h.imp id (·.1)
    by_cases o3 : op = 3
    · rw [if_pos o3, floatBits_nan (.inl rfl) hx]
    · by_cases o4 : op = 4
      · rw [if_neg o3, if_pos o4, floatBits_nan (.inr (.inl rfl)) hx]
      · by_cases o5 : op = 5
        · rw [if_neg o3, if_neg o4, if_pos o5, floatBits_nan (.inr (.inr rfl)) hx]
        · rw [if_neg o3, if_neg o4, if_neg o5]
          have hx : isNaN x = true := by
            rcases h with h | ⟨-, h⟩
            · exact h
            · rcases h with h | h | h
              · exact absurd h o3
              · exact absurd h o4
              · exact absurd h o5
          show plainF _ = _
          unfold plainF
          rw [if_pos (neg_nan hx)]
  by_cases hn : isNaN x = true
  · have hx' : isNaN x' = true := by rcases h1 with rfl | ⟨_, h⟩; exact hn; exact h
    rw [key (.inl hn), key (.inl hx')]
  · have e1 : x = x' := by rcases h1 with h | ⟨h, _⟩; exact h; exact absurd h hn
    subst e1
    by_cases hop : op = 3 ∨ op = 4 ∨ op = 5
    · by_cases hm : isNaN y = true
      · have hy' : isNaN y' = true := by rcases h2 with rfl | ⟨_, h⟩; exact hm; exact h
        rw [key (.inr ⟨hm, hop⟩), key (.inr ⟨hy', hop⟩)]
      · have e2 : y = y' := by rcases h2 with h | ⟨h, _⟩; exact h; exact absurd h hm
        rw [e2]
    · unfold broken brokenBits
      rw [if_neg (fun h => hop (.inl h)), if_neg (fun h => hop (.inr (.inl h))), if_neg (fun h => hop (.inr (.inr h))), if_neg (fun h => hop (.inl h)), if_neg (fun h => hop (.inr (.inl h))), if_neg (fun h => hop (.inr (.inr h)))]
theorem like_calc2 {op : Int} {a b a' b' : Val} (h1 : a.like a') (h2 : b.like b') : Val.calc2 op a b = Val.calc2 op a' b' := by
  unfold Val.calc2
  rw [like_numeric h1, like_numeric h2, h1.1, h2.1, h1.2.1, h2.2.1, broken_like h1.2.2.2 h2.2.2.2]
theorem like_calc {op : Int} {a b a' b' : Val} (h1 : a.like a') (h2 : b.like b') : Val.calc op a b = Val.calc op a' b' := by
  unfold Val.calc
  rw [like_calc2 h1 h1, like_calc2 h1 h2]
theorem like_test {op : Int} {a b a' b' : Val} (h1 : a.like a') (h2 : b.like b') : Val.test op a b = Val.test op a' b' := by
  unfold Val.test
  rw [← like_right h1, ← like_right h2, ← h1.1, ← h2.1]
  by_cases hr : a.right = true ∧ b.right = true
  · have e : a.cmp b = a'.cmp b' := by rw [cmp_vcmp, cmp_vcmp, like_plain h1 hr.1, like_plain h2 hr.2]
    rw [e]
  · rw [if_neg hr, if_neg hr]
theorem like_both {op : Int} {a b a' b' : Val} (h1 : a.like a') (h2 : b.like b') : Val.both op a b = Val.both op a' b' := by
  have t1 : a.truthy = a'.truthy := by unfold Val.truthy; rw [like_right h1, h1.1]
  have t2 : b.truthy = b'.truthy := by unfold Val.truthy; rw [like_right h2, h2.1]
  have n1 : ∀ z, isn a b z = isn a' b' z := fun z => by unfold isn; rw [h1.1, h1.2.1, h2.1, h2.2.1]
  have n2 : ∀ z, isn a a z = isn a' a' z := fun z => by unfold isn; rw [h1.1, h1.2.1]
  unfold Val.both Val.both2
  rw [t1, t2, h1.1, h2.1, h1.2.1]
  simp only [n1, n2]
end Go.Proofs.Ytlcdjaclahhdnaa
