/- Plain facts on the words of binary64: how two stand to each other is how their keys do. No program in sight. -/
import GoSem.Core.Float
namespace Go.Proofs.Ytlcdjaclahhdnaa
open Ieee

/-- The key of a word: its rung, turned where the sign is set. -/
def fkey (x : Nat) : Int := if x < 9223372036854775808 then (x : Int) else 9223372036854775808 - (x : Int)
/-- Is a word a NaN? -/
def isNaN (x : Nat) : Bool := decide (9218868437227405312 < x % 9223372036854775808)
/-- What lies at a rung, in units of the least place. -/
def mval (r : Nat) : Nat := if r < 4503599627370496 then r else (4503599627370496 + r % 4503599627370496) * 2 ^ (r / 4503599627370496 - 1)

theorem d_binade : Format.binade double = 4503599627370496 := rfl
theorem d_inf : Format.infRung double = 9218868437227405312 := rfl
theorem d_sign : Format.signWeight double = 9223372036854775808 := rfl
theorem d_least : Format.leastPlace double = -1074 := rfl

theorem mval_step (r : Nat) : mval r < mval (r + 1) := by
  unfold mval
  by_cases h1 : r + 1 < 4503599627370496
  · rw [if_pos (by omega), if_pos h1]; omega
  · rw [if_neg h1]
    by_cases h2 : r < 4503599627370496
    · rw [if_pos h2]
      have : r = 4503599627370495 := by omega
      subst this
      decide
    · rw [if_neg h2]
      by_cases h3 : (r + 1) % 4503599627370496 = 0
      · have hd : (r + 1) / 4503599627370496 = r / 4503599627370496 + 1 := by omega
        have hm : r % 4503599627370496 = 4503599627370495 := by omega
        rw [h3, hd, hm]
        obtain ⟨e, he⟩ : ∃ e, r / 4503599627370496 = e + 1 := ⟨r / 4503599627370496 - 1, by omega⟩
        rw [he]
        have hp : 0 < 2 ^ e := Nat.two_pow_pos e
        simp only [Nat.add_sub_cancel, Nat.pow_succ]
        have e1 : (4503599627370496 + 0) * (2 ^ e * 2) = 9007199254740992 * 2 ^ e := by
          rw [Nat.mul_comm (2 ^ e) 2, ← Nat.mul_assoc]
        rw [e1]
        exact (Nat.mul_lt_mul_right hp).2 (by decide)
      · have hd : (r + 1) / 4503599627370496 = r / 4503599627370496 := by omega
        have hm : (r + 1) % 4503599627370496 = r % 4503599627370496 + 1 := by omega
        rw [hd, hm]
        exact (Nat.mul_lt_mul_right (Nat.two_pow_pos _)).2 (by omega)
theorem mval_lt {r s : Nat} (h : r < s) : mval r < mval s := by
  obtain ⟨k, rfl⟩ : ∃ k, s = r + 1 + k := ⟨s - r - 1, by omega⟩
  clear h
  induction k with
  | zero => exact mval_step r
  | succ k ih => exact Nat.lt_trans ih (mval_step _)
theorem mval_inj {r s : Nat} : mval r < mval s ↔ r < s := by
  constructor
  · intro h
    rcases Nat.lt_trichotomy r s with h1 | h1 | h1
    · exact h1
    · subst h1; exact absurd h (Nat.lt_irrefl _)
    · exact absurd (Nat.lt_trans h (mval_lt h1)) (Nat.lt_irrefl _)
  · exact mval_lt
theorem mval_zero : mval 0 = 0 := rfl

/-- The sign of a word, and its rung. -/
def sgn (x : Nat) : Bool := decide (9223372036854775808 ≤ x)
def rung (x : Nat) : Nat := x % 9223372036854775808
theorem fkey_eq {x : Nat} (hx : x < 18446744073709551616) : fkey x = if sgn x = true then -(rung x : Int) else (rung x : Int) := by
  unfold fkey sgn rung
  by_cases h : x < 9223372036854775808
  · rw [if_pos h, if_neg (by simp; omega)]; omega
  · rw [if_neg h, if_pos (by simp; omega)]; omega

def toSigned (s : Bool) (n : Nat) : Int := if s = true then -(n : Int) else (n : Int)
theorem toSigned_mul (s : Bool) (n k : Nat) : toSigned s n * (k : Int) = toSigned s (n * k) := by
  unfold toSigned; split <;> simp [Int.neg_mul]
theorem signed_eq (s : Bool) (m k : Nat) : signed s m k = toSigned s (m * 2 ^ k) := by
  unfold signed toSigned
  rw [Nat.shiftLeft_eq]

theorem cmp_lt {a b : Int} (h : a < b) : compare a b = .lt := by simp only [compare, compareOfLessAndEq, if_pos h]
theorem cmp_gt {a b : Int} (h : b < a) : compare a b = .gt := by simp only [compare, compareOfLessAndEq]; rw [if_neg (by omega), if_neg (by omega)]
theorem cmp_eq {a b : Int} (h : a = b) : compare a b = .eq := by subst h; simp [compare, compareOfLessAndEq]
theorem cmp_mul {a b : Int} {k : Nat} (hk : 0 < k) : compare (a * (k : Int)) (b * (k : Int)) = compare a b := by
  have hk' : (0 : Int) < (k : Int) := by omega
  simp only [compare, compareOfLessAndEq]
  have e1 : (a * (k : Int) < b * (k : Int)) ↔ a < b := Int.mul_lt_mul_right hk'
  have e2 : (a * (k : Int) = b * (k : Int)) ↔ a = b := Int.mul_eq_mul_right_iff (by omega)
  simp only [e1, e2]
theorem cmp_signed (s t : Bool) (m n : Nat) (r q : Nat) (hm : m = mval r) (hn : n = mval q) :
    compare (toSigned s m) (toSigned t n) = compare (toSigned s r) (toSigned t q) := by
  subst hm hn
  have h1 := @mval_inj r q
  have h2 := @mval_inj q r
  have h3 := @mval_inj 0 r
  have h4 := @mval_inj 0 q
  rw [mval_zero] at h3 h4
  simp only [compare, compareOfLessAndEq, toSigned]
  generalize mval r = M at *
  generalize mval q = Q at *
  cases s <;> cases t <;> simp only [if_true, if_false, Bool.false_eq_true]
  · have a1 : ((M : Int) < Q) ↔ ((r : Int) < q) := by omega
    have a2 : ((M : Int) = Q) ↔ ((r : Int) = q) := by omega
    simp only [a1, a2]
  · have a1 : ((M : Int) < -(Q : Int)) ↔ ((r : Int) < -(q : Int)) := by omega
    have a2 : ((M : Int) = -(Q : Int)) ↔ ((r : Int) = -(q : Int)) := by omega
    simp only [a1, a2]
  · have a1 : (-(M : Int) < (Q : Int)) ↔ (-(r : Int) < (q : Int)) := by omega
    have a2 : (-(M : Int) = (Q : Int)) ↔ (-(r : Int) = (q : Int)) := by omega
    simp only [a1, a2]
  · have a1 : (-(M : Int) < -(Q : Int)) ↔ (-(r : Int) < -(q : Int)) := by omega
    have a2 : (-(M : Int) = -(Q : Int)) ↔ (-(r : Int) = -(q : Int)) := by omega
    simp only [a1, a2]

/-- A number's magnitude and place, from its rung. -/
def magOf (r : Nat) : Nat := if r < 4503599627370496 then r else 4503599627370496 + r % 4503599627370496
def upOf (r : Nat) : Nat := if r < 4503599627370496 then 0 else r / 4503599627370496 - 1
theorem magOf_up (r : Nat) : magOf r * 2 ^ upOf r = mval r := by
  unfold magOf upOf mval; split <;> simp
theorem read_number {x : Nat} (hx : x < 18446744073709551616) (h : rung x < 9218868437227405312) :
    double.read x = .number (sgn x) (magOf (rung x)) (-1074 + (upOf (rung x) : Nat)) := by
  have hs : (x / 9223372036854775808 % 2 == 1) = sgn x := by
    unfold sgn
    rw [Bool.eq_iff_iff]; simp; omega
  unfold Format.read
  simp only [d_binade, d_inf, d_sign, d_least, hs]
  unfold rung magOf upOf at *
  split
  · rfl
  · first | rfl | rw [if_pos h]
theorem read_inf {x : Nat} (hx : x < 18446744073709551616) (h : rung x = 9218868437227405312) : double.read x = .infinity (sgn x) := by
  have hs : (x / 9223372036854775808 % 2 == 1) = sgn x := by
    unfold sgn
    rw [Bool.eq_iff_iff]; simp; omega
  unfold Format.read
  simp only [d_binade, d_inf, d_sign, d_least, hs]
  unfold rung at h
  rw [if_neg (by omega), if_neg (by omega), if_pos h]
theorem read_nan {x : Nat} (h : 9218868437227405312 < rung x) : double.read x = .nan (x / 9223372036854775808 % 2 == 1) (x % 9223372036854775808 - 9218868437227405312) := by
  unfold rung at h
  unfold Format.read
  dsimp only
  rw [if_neg (show ¬ x % double.signWeight < double.binade from by rw [d_sign, d_binade]; omega),
    if_neg (show ¬ x % double.signWeight < double.infRung from by rw [d_sign, d_inf]; omega),
    if_neg (show ¬ x % double.signWeight = double.infRung from by rw [d_sign, d_inf]; omega)]
  rfl

theorem order_num (s t : Bool) (r q : Nat) :
    Datum.order (.number s (magOf r) (-1074 + (upOf r : Nat))) (.number t (magOf q) (-1074 + (upOf q : Nat))) = some (compare (toSigned s r) (toSigned t q)) := by
  unfold Datum.order
  dsimp only
  congr 1
  rw [signed_eq, signed_eq]
  obtain ⟨c, hc⟩ : ∃ c : Nat, c = min (upOf r) (upOf q) := ⟨_, rfl⟩
  have hb : min ((-1074 : Int) + (upOf r : Nat)) (-1074 + (upOf q : Nat)) = -1074 + (c : Nat) := by omega
  rw [hb]
  have e1 : ((-1074 : Int) + (upOf r : Nat) - (-1074 + (c : Nat))).toNat = upOf r - c := by omega
  have e2 : ((-1074 : Int) + (upOf q : Nat) - (-1074 + (c : Nat))).toNat = upOf q - c := by omega
  rw [e1, e2]
  rw [← cmp_mul (k := 2 ^ c) (Nat.two_pow_pos c), toSigned_mul, toSigned_mul]
  refine cmp_signed s t _ _ r q ?_ ?_
  · rw [Nat.mul_assoc, ← Nat.pow_add, show upOf r - c + c = upOf r from by omega, magOf_up]
  · rw [Nat.mul_assoc, ← Nat.pow_add, show upOf q - c + c = upOf q from by omega, magOf_up]

/-- How two words stand to each other, where neither is a NaN. -/
theorem order_key {x y : Nat} (hx : x < 18446744073709551616) (hy : y < 18446744073709551616) (nx : isNaN x = false) (ny : isNaN y = false) :
    FloatKind.f64.format.order x y = some (compare (fkey x) (fkey y)) := by
  have nx' : rung x ≤ 9218868437227405312 := by unfold isNaN at nx; unfold rung; simpa using nx
  have ny' : rung y ≤ 9218868437227405312 := by unfold isNaN at ny; unfold rung; simpa using ny
  rw [fkey_eq hx, fkey_eq hy]
  show Datum.order (double.read x) (double.read y) = _
  rcases Nat.lt_or_eq_of_le nx' with h1 | h1 <;> rcases Nat.lt_or_eq_of_le ny' with h2 | h2
  · rw [read_number hx h1, read_number hy h2, order_num]; rfl
  · rw [read_number hx h1, read_inf hy h2, h2]
    cases sgn y
    · rw [cmp_lt (by cases sgn x <;> simp <;> omega)]; rfl
    · rw [cmp_gt (by cases sgn x <;> simp <;> omega)]; rfl
  · rw [read_inf hx h1, read_number hy h2, h1]
    cases sgn x
    · rw [cmp_gt (by cases sgn y <;> simp <;> omega)]; rfl
    · rw [cmp_lt (by cases sgn y <;> simp <;> omega)]; rfl
  · rw [read_inf hx h1, read_inf hy h2, h1, h2]
    unfold Datum.order
    cases sgn y <;> cases sgn x <;> simp [compare, compareOfLessAndEq]
theorem order_nan {x y : Nat} (h : isNaN x = true ∨ isNaN y = true) : FloatKind.f64.format.order x y = none := by
  show Datum.order (double.read x) (double.read y) = _
  rcases h with h | h
  · have e := read_nan (x := x) (by unfold isNaN at h; unfold rung; simpa using h)
    rw [e]; unfold Datum.order; rfl
  · have e := read_nan (x := y) (by unfold isNaN at h; unfold rung; simpa using h)
    rw [e]; unfold Datum.order; cases double.read x <;> rfl
theorem isNaN_order {x : Nat} (hx : x < 18446744073709551616) : (FloatKind.f64.format.order x x != some .eq) = isNaN x := by
  cases h : isNaN x
  · rw [order_key hx hx h h]
    simp [compare, compareOfLessAndEq]
  · rw [order_nan (.inl h)]; rfl
theorem order_zero {x : Nat} (hx : x < 18446744073709551616) : (FloatKind.f64.format.order x 0 == some .eq) = decide (x = 0 ∨ x = 9223372036854775808) := by
  cases h : isNaN x
  · rw [order_key hx (by decide) h (by decide)]
    have hk : fkey 0 = 0 := rfl
    rw [hk]
    rcases Int.lt_trichotomy (fkey x) 0 with h1 | h1 | h1
    · rw [cmp_lt h1]
      unfold fkey at h1
      have : ¬(x = 0 ∨ x = 9223372036854775808) := by split at h1 <;> omega
      simp [this]
    · rw [cmp_eq h1]
      unfold fkey at h1
      have : x = 0 ∨ x = 9223372036854775808 := by split at h1 <;> omega
      simp [this]
    · rw [cmp_gt h1]
      unfold fkey at h1
      have : ¬(x = 0 ∨ x = 9223372036854775808) := by split at h1 <;> omega
      simp [this]
  · rw [order_nan (.inl h)]
    have : ¬(x = 0 ∨ x = 9223372036854775808) := by
      rintro (rfl | rfl)
      · exact absurd h (by decide)
      · exact absurd h (by decide)
    simp [this]
end Go.Proofs.Ytlcdjaclahhdnaa
