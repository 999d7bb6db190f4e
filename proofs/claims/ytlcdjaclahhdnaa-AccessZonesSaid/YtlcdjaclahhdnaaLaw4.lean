/- Plain facts: the order of values, and the bytes that are put of them. No program in sight. -/
import Derived.Test.YtlcdjaclahhdnaaPutV
import Derived.Test.YtlcdjaclahhdnaaVal4
namespace Go.Proofs.Ytlcdjaclahhdnaa
open Go.RowKit
set_option linter.unusedSimpArgs false
set_option linter.unusedVariables false

/-- A total order, told as -1, 0 or 1. -/
structure Ord3 {α : Type} (f : α → α → Int) : Prop where
  refl : ∀ a, f a a = 0
  anti : ∀ a b, f b a = - f a b
  le : ∀ a b c, f a b ≤ 0 → f b c ≤ 0 → f a c ≤ 0

theorem icmp_ord : Ord3 icmp := by
  constructor
  · intro a; unfold icmp; rw [if_neg (by omega), if_neg (by omega)]
  · intro a b; unfold icmp; repeat' split
    all_goals omega
  · intro a b c; unfold icmp; repeat' split
    all_goals omega
theorem icmp_zero {a b : Int} (h : icmp a b = 0) : a = b := by
  unfold icmp at h; repeat' split at h
  all_goals omega
theorem icmp_le {a b : Int} : icmp a b ≤ 0 ↔ a ≤ b := by
  unfold icmp; repeat' split
  all_goals omega

def fk (x : Nat) : Int := if isNaN x = true then 9223372036854775808 else fkey x
theorem fkey_lt (x : Nat) : fkey x < 9223372036854775808 := by unfold fkey; split <;> omega
theorem fcmp_eq (x y : Nat) : fcmp x y = icmp (fk x) (fk y) := by
  have hx := fkey_lt x
  have hy := fkey_lt y
  unfold fcmp fk
  split
  · split
    · unfold icmp; rw [if_neg (by omega), if_neg (by omega)]
    · unfold icmp; rw [if_neg (by omega), if_pos (by omega)]
  · split
    · unfold icmp; rw [if_pos (by omega)]
    · rfl
theorem fcmp_ord : Ord3 fcmp := by
  have h : fcmp = fun x y => icmp (fk x) (fk y) := by funext x y; exact fcmp_eq x y
  rw [h]
  exact ⟨fun a => icmp_ord.refl _, fun a b => icmp_ord.anti _ _, fun a b c => icmp_ord.le _ _ _⟩
theorem fcmp_zero {x y : Nat} (hx : x < 18446744073709551616) (hy : y < 18446744073709551616) (px : plainF x = x) (py : plainF y = y) (h : fcmp x y = 0) : x = y := by
  rw [fcmp_eq] at h
  have e := icmp_zero h
  unfold fk at e
  unfold plainF at px py
  have h1 := fkey_lt x
  have h2 := fkey_lt y
  cases nx : isNaN x <;> cases ny : isNaN y <;> simp only [nx, ny, if_true, if_false, Bool.false_eq_true] at e px py
  · have zx : x ≠ 9223372036854775808 := by
      rintro rfl
      rw [if_pos (by decide)] at px; omega
    have zy : y ≠ 9223372036854775808 := by
      rintro rfl
      rw [if_pos (by decide)] at py; omega
    unfold fkey at e
    repeat' split at e
    all_goals omega
  · omega
  · omega
  · omega

/-- Texts, by their bytes. -/
def lcmp : List UInt8 → List UInt8 → Int
  | [], [] => 0
  | [], _ :: _ => -1
  | _ :: _, [] => 1
  | a :: x, b :: y => if a < b then -1 else if b < a then 1 else lcmp x y
theorem lcmp_cons (a b : UInt8) (x y : List UInt8) : lcmp (a :: x) (b :: y) = if a < b then -1 else if b < a then 1 else lcmp x y := rfl
theorem u8_eq {a b : UInt8} (h1 : ¬ a < b) (h2 : ¬ b < a) : a = b := by
  rw [UInt8.lt_iff_toNat_lt] at h1 h2
  exact UInt8.toNat_inj.1 (by omega)
theorem lcmp_ord : Ord3 lcmp := by
  constructor
  · intro a
    induction a with
    | nil => rfl
    | cons x l ih => unfold lcmp; rw [if_neg (by simp), if_neg (by simp)]; exact ih
  · intro a
    induction a with
    | nil => intro b; cases b <;> simp [lcmp]
    | cons x l ih =>
      intro b
      cases b with
      | nil => simp [lcmp]
      | cons y m =>
        unfold lcmp
        by_cases h1 : x < y
        · have h2 : ¬ y < x := by rw [UInt8.lt_iff_toNat_lt] at *; omega
          simp [h1, h2]
        · by_cases h2 : y < x
          · simp [h1, h2]
          · simp [h1, h2]; exact ih m
  · intro a
    induction a with
    | nil =>
      intro b c h1 h2
      cases c with
      | nil => simp [lcmp]
      | cons z n => simp [lcmp]
    | cons x l ih =>
      intro b c h1 h2
      cases b with
      | nil => simp [lcmp] at h1
      | cons y m =>
        cases c with
        | nil => simp [lcmp] at h2
        | cons z n =>
          rw [lcmp_cons] at h1 h2 ⊢
          simp only [UInt8.lt_iff_toNat_lt] at h1 h2 ⊢
          by_cases hxy : x.toNat < y.toNat
          · by_cases hyz : y.toNat < z.toNat
            · rw [if_pos (by omega)]; omega
            · rw [if_neg hyz] at h2
              by_cases hzy : z.toNat < y.toNat
              · rw [if_pos hzy] at h2; omega
              · rw [if_pos (by omega)]; omega
          · rw [if_neg hxy] at h1
            by_cases hyx : y.toNat < x.toNat
            · rw [if_pos hyx] at h1; omega
            · rw [if_neg hyx] at h1
              by_cases hyz : y.toNat < z.toNat
              · rw [if_pos (by omega)]; omega
              · rw [if_neg hyz] at h2
                by_cases hzy : z.toNat < y.toNat
                · rw [if_pos hzy] at h2; omega
                · rw [if_neg hzy] at h2
                  rw [if_neg (by omega), if_neg (by omega)]
                  exact ih m n h1 h2
theorem lcmp_zero : ∀ {l m : List UInt8}, lcmp l m = 0 → l = m
  | [], [], _ => rfl
  | [], _ :: _, h => by simp [lcmp] at h
  | _ :: _, [], h => by simp [lcmp] at h
  | a :: x, b :: y, h => by
    unfold lcmp at h
    by_cases h1 : a < b
    · rw [if_pos h1] at h; omega
    · rw [if_neg h1] at h
      by_cases h2 : b < a
      · rw [if_pos h2] at h; omega
      · rw [if_neg h2] at h
        rw [u8_eq h1 h2, lcmp_zero h]
theorem scmp_lists (l m : List UInt8) : (if Op.bytesLess l m = true then (-1 : Int) else if l = m then 0 else 1) = lcmp l m := by
  induction l generalizing m with
  | nil => cases m <;> simp [Op.bytesLess, lcmp]
  | cons a x ih =>
    cases m with
    | nil => simp [Op.bytesLess, lcmp]
    | cons b y =>
      unfold Op.bytesLess lcmp
      by_cases h1 : a < b
      · simp [h1]
      · by_cases h2 : b < a
        · have h3 : ¬ a = b := by rintro rfl; simp at h2
          simp [h1, h2, h3]
        · have e := u8_eq h1 h2
          subst e
          have := ih y
          simpa [h1] using this
theorem scmp_eq (s t : ByteArray) : scmp s t = lcmp s.toList t.toList := scmp_lists _ _
theorem scmp_ord : Ord3 scmp := by
  have h : scmp = fun s t => lcmp s.toList t.toList := by funext s t; exact scmp_eq s t
  rw [h]
  exact ⟨fun a => lcmp_ord.refl _, fun a b => lcmp_ord.anti _ _, fun a b c => lcmp_ord.le _ _ _⟩
theorem bytes_ext {s t : ByteArray} (h : s.toList = t.toList) : s = t := by
  rw [ByteArray.toList_eq, ByteArray.toList_eq] at h
  cases s with
  | mk a => cases t with
    | mk b => cases a with
      | mk l => cases b with
        | mk m => simp only at h; rw [h]
theorem scmp_zero {s t : ByteArray} (h : scmp s t = 0) : s = t := bytes_ext (lcmp_zero (by rw [← scmp_eq]; exact h))

def vcmp (p q : Val) : Int :=
  if p.kind = q.kind then (if p.kind = 3 then fcmp p.flt q.flt else if p.kind = 4 then scmp p.text q.text else icmp p.int q.int) else icmp p.kind q.kind
theorem cmp_vcmp (a b : Val) : a.cmp b = vcmp a.plain b.plain := rfl
theorem vcmp_ord : Ord3 vcmp := by
  constructor
  · intro a; unfold vcmp; rw [if_pos rfl]; split
    · exact fcmp_ord.refl _
    · split
      · exact scmp_ord.refl _
      · exact icmp_ord.refl _
  · intro a b; unfold vcmp
    by_cases h : a.kind = b.kind
    · rw [if_pos h, if_pos h.symm, h]; split
      · exact fcmp_ord.anti _ _
      · split
        · exact scmp_ord.anti _ _
        · exact icmp_ord.anti _ _
    · rw [if_neg h, if_neg (fun e => h e.symm)]; exact icmp_ord.anti _ _
  · intro a b c h1 h2
    unfold vcmp at *
    by_cases hab : a.kind = b.kind
    · rw [if_pos hab] at h1
      by_cases hbc : b.kind = c.kind
      · rw [if_pos hbc] at h2
        rw [if_pos (hab.trans hbc)]
        rw [← hab] at h2
        by_cases h3 : a.kind = 3
        · rw [if_pos h3] at *; exact fcmp_ord.le _ _ _ h1 h2
        · rw [if_neg h3] at *
          by_cases h4 : a.kind = 4
          · rw [if_pos h4] at *; exact scmp_ord.le _ _ _ h1 h2
          · rw [if_neg h4] at *; exact icmp_ord.le _ _ _ h1 h2
      · rw [if_neg hbc] at h2
        rw [if_neg (fun e => hbc (hab.symm.trans e)), hab]; exact h2
    · rw [if_neg hab] at h1
      have h1' := icmp_le.1 h1
      by_cases hbc : b.kind = c.kind
      · rw [if_neg (fun e => hab (e.trans hbc.symm)), ← hbc]; exact h1
      · rw [if_neg hbc] at h2
        have h2' := icmp_le.1 h2
        rw [if_neg (by omega)]; exact icmp_le.2 (by omega)
theorem vcmp_zero {p q : Val} (hp : p.Flat) (hq : q.Flat) (h : vcmp p q = 0) : p = q := by
  unfold vcmp at h
  cases hp <;> cases hq <;> simp at h <;> (try (exfalso; revert h; decide)) <;> (try rfl)
  · rw [icmp_zero h]
  · rw [icmp_zero h]
  · rename_i h1 h2 _ h3 h4
    rw [fcmp_zero h1 h3 h2 h4 h]
  · rw [scmp_zero h]

theorem pu_inj : ∀ {k n m : Nat}, pu k n = pu k m → n = m
  | 0, n, m, h => by simpa [pu] using h
  | k + 1, n, m, h => by
    unfold pu at h
    split at h <;> split at h
    · simpa using h
    · simp at h; omega
    · simp at h; omega
    · simp only [List.cons.injEq] at h
      have := pu_inj h.2
      omega
theorem zig_inj {a b : Int} (h : zig a = zig b) : a = b := by
  unfold zig at h; split at h <;> split at h <;> omega
theorem fixed_inj : ∀ {k n m : Nat}, n < 256 ^ k → m < 256 ^ k → fixed k n = fixed k m → n = m
  | 0, n, m, hn, hm, _ => by simp at hn hm; omega
  | k + 1, n, m, hn, hm, h => by
    have hmod : ∀ (j n : Nat), j ≤ k → fixed j (n % 256 ^ k) = fixed j n := by
      intro j n hj
      induction j with
      | zero => rfl
      | succ j ih =>
        unfold fixed
        rw [ih (by omega)]
        congr 1
        rw [show (256 : Nat) ^ k = 256 ^ j * 256 ^ (k - j) from by rw [← Nat.pow_add]; congr 1; omega]
        rw [Nat.mod_mul_right_div_self]
        rw [show (256 : Nat) ^ (k - j) = 256 * 256 ^ (k - j - 1) from by rw [← Nat.pow_succ']; congr 1; omega]
        rw [Nat.mod_mul_right_mod]
    simp only [fixed, List.cons.injEq] at h
    have h2 : n % 256 ^ k = m % 256 ^ k := by
      refine fixed_inj (k := k) (Nat.mod_lt _ (Nat.pow_pos (by decide))) (Nat.mod_lt _ (Nat.pow_pos (by decide))) ?_
      rw [hmod k n (Nat.le_refl _), hmod k m (Nat.le_refl _)]; exact h.2
    have hn' : n / 256 ^ k < 256 := by rw [Nat.div_lt_iff_lt_mul (Nat.pow_pos (by decide))]; rw [Nat.pow_succ] at hn; omega
    have hm' : m / 256 ^ k < 256 := by rw [Nat.div_lt_iff_lt_mul (Nat.pow_pos (by decide))]; rw [Nat.pow_succ] at hm; omega
    have h1 := h.1
    rw [Nat.mod_eq_of_lt hn', Nat.mod_eq_of_lt hm'] at h1
    rw [← Nat.div_add_mod n (256 ^ k), ← Nat.div_add_mod m (256 ^ k), h1, h2]
theorem textB_inj {s t : ByteArray} (h : textB s = textB t) : s = t := by
  refine bytes_ext ?_
  rw [ByteArray.toList_eq, ByteArray.toList_eq]
  unfold textB at h
  exact List.map_inj_right (fun a b e => UInt8.toNat_inj.1 e) |>.1 h
theorem putText_inj {s t : ByteArray} (hs : s.size ≤ 64) (ht : t.size ≤ 64) (h : putText s = putText t) : s = t := by
  unfold putText putUint at h
  rw [pu_small (by omega), pu_small (by omega)] at h
  simp only [List.singleton_append, List.cons.injEq] at h
  exact textB_inj h.2
theorem putFlat_inj {p q : Val} (hp : p.Flat) (hq : q.Flat) (h : putFlat p = putFlat q) : p = q := by
  unfold putFlat at h
  cases hp <;> cases hq <;> simp at h <;> (try rfl)
  · rename_i n hn m hm
    have : n = m := by omega
    rw [this]
  · rw [zig_inj (pu_inj h)]
  · rename_i x hx px y hy py
    rw [fixed_inj hx hy h]
  · rename_i s hs t ht
    rw [putText_inj hs ht h]
/-- What is the same is put as the same bytes, and what is not is not. -/
theorem cmp_zero_iff {a b : Val} (ha : a.Ok) (hb : b.Ok) : a.cmp b = 0 ↔ putV a = putV b := by
  rw [cmp_vcmp]
  unfold putV
  have h1 := Val.plain_flat ha
  have h2 := Val.plain_flat hb
  constructor
  · intro h; rw [vcmp_zero h1 h2 h]
  · intro h; rw [putFlat_inj h1 h2 h]; exact vcmp_ord.refl _
theorem same_plain {a : Val} (ha : a.Ok) : a.plain.same a = true := by
  unfold Val.same
  rw [cmp_vcmp, (Val.plain_flat ha).plain, vcmp_ord.refl]; rfl

/-- Every one is a byte. -/
theorem pu_byte : ∀ (k n : Nat), n < 2 * 128 ^ k → ∀ b ∈ pu k n, b < 256
  | 0, n, h, b, hb => by simp [pu] at hb; omega
  | k + 1, n, h, b, hb => by
    unfold pu at hb
    split at hb
    · simp at hb; omega
    · simp only [List.mem_cons] at hb
      rcases hb with rfl | hb
      · omega
      · exact pu_byte k (n / 128) (by rw [Nat.pow_succ] at h; omega) b hb
theorem putUint_byte {n : Nat} (h : n < 18446744073709551616) : ∀ b ∈ putUint n, b < 256 := pu_byte 9 n (by omega)
theorem fixed_byte : ∀ (k n : Nat), ∀ b ∈ fixed k n, b < 256
  | 0, n, b, hb => by simp [fixed] at hb
  | k + 1, n, b, hb => by
    simp only [fixed, List.mem_cons] at hb
    rcases hb with rfl | hb
    · exact Nat.mod_lt _ (by decide)
    · exact fixed_byte k n b hb
theorem textB_byte (s : ByteArray) : ∀ b ∈ textB s, b < 256 := by
  intro b hb
  simp [textB] at hb
  obtain ⟨a, _, rfl⟩ := hb
  exact a.toNat_lt
theorem putFlat_byte {p : Val} (hp : p.Flat) : ∀ b ∈ putFlat p, b < 256 := by
  unfold putFlat
  cases hp with
  | null => simp
  | bool n h => simp; omega
  | int n h => 
    intro b hb
    simp at hb
    rcases hb with rfl | hb
    · omega
    · exact putUint_byte (zig_lt h.1 h.2) b hb
  | float x hx h =>
    intro b hb
    simp at hb
    rcases hb with rfl | hb
    · omega
    · exact fixed_byte _ _ b hb
  | text s h =>
    intro b hb
    simp [putText] at hb
    rcases hb with rfl | hb | hb
    · omega
    · exact putUint_byte (by omega) b hb
    · exact textB_byte s b hb
theorem putV_byte {v : Val} (h : v.Ok) : ∀ b ∈ putV v, b < 256 := putFlat_byte (Val.plain_flat h)
theorem putFlat_length {p : Val} (hp : p.Flat) : (putFlat p).length ≤ 100 := by
  unfold putFlat
  cases hp with
  | null => simp
  | bool n h => simp
  | int n h => have := putUint_length (zig n); simp; omega
  | float x hx h => simp [fixed]
  | text s h => have := putUint_length s.size; have := textB_length s; simp [putText]; omega
theorem putV_length {v : Val} (h : v.Ok) : (putV v).length ≤ 100 := putFlat_length (Val.plain_flat h)
end Go.Proofs.Ytlcdjaclahhdnaa
