/- More calls of package codec's reader. The reader's numbers of whatever size, and texts. The reader's bounded numbers, signed numbers and texts. -/
import Derived.Test.YtlcdjaclahhdnaaRead
import Derived.Deep.LoopGhost
import Derived.Laws.BytesArg
namespace Go.Proofs.Ytlcdjaclahhdnaa
open Go.RowKit
set_option linter.unusedSimpArgs false
set_option linter.unusedVariables false

/-- Bytes as a number, the greatest first. -/
def be (l : List Nat) : Nat := l.foldl (fun n c => n * 256 + c) 0
theorem be_snoc (l : List Nat) (c : Nat) : be (l ++ [c]) = be l * 256 + c := by simp [be]
theorem be_lt_aux (l : List Nat) (h : ∀ b ∈ l, b < 256) : ∀ a, l.foldl (fun n c => n * 256 + c) a < (a + 1) * 256 ^ l.length := by
  induction l with
  | nil => intro a; simp
  | cons c l ih =>
    intro a
    rw [List.foldl_cons, List.length_cons, Nat.pow_succ, Nat.mul_comm (256 ^ l.length), ← Nat.mul_assoc]
    refine Nat.lt_of_lt_of_le (ih (fun b hb => h b (by simp [hb])) _) (Nat.mul_le_mul_right _ ?_)
    have := h c (by simp)
    omega
theorem be_lt (l : List Nat) (h : ∀ b ∈ l, b < 256) : be l < 256 ^ l.length := by
  have := be_lt_aux l h 0
  simpa [be] using this
theorem or_byte (a c : Nat) (ha : a * 256 < 18446744073709551616) (hc : c < 256) : bits .or .u64 ((a * 256 : Nat) : Int) (c : Int) = ((a * 256 + c : Nat) : Int) := by
  rw [u64_or_nat _ _ ha (by omega), nat_join 8 _ _ (by omega) (by omega)]

set_option maxHeartbeats 1000000 in
theorem fixed_rd (r B : Nat) (xs rest : List Nat) (w : World) (k : Int) (hk : k = (xs.length : Int)) (h : Rd w r B (xs ++ rest)) (hx : ∀ b ∈ xs, b < 256) (hl : xs.length ≤ 8) :
    Calls Try.prog 125 #[.pointer (some ⟨r, 0, none⟩), .int .i64 k] w fun e w' => e = .returned (.int .u64 ((be xs : Nat) : Int)) ∧ Rd w' r B rest ∧ But r w w' := by
  have hk1 : (0 : Int) ≤ k := by omega
  have hk2 : k ≤ 8 := by omega
  have hk3 : max k 0 = k := by omega
  have hk4 : min k 8 = k := by omega
  have hrd := Lib.hid (ready_of r B (xs ++ rest) w h)
  have htk := Lib.hid (take_of r B xs rest w h)
  rw [← hk] at htk
  have HX := Lib.hid hx; have HL := Lib.hid hl; have HK := Lib.hid hk
  clear h hx hl hk
  go_enter Try.func125, Try.ntmps125
  go_wp2_with (first
    | (go_at_call 62; refine hrd.out.mono ?_; rintro e w' ⟨rfl, rfl⟩)
    | (go_at_call 127; refine htk.out.mono ?_; rintro e w' ⟨p, c, rfl, hc, hat, hr2, hb2⟩; have HAT := Lib.hid hat; clear hat))
  go_loopw [7, 23] (fun a b wr => ∃ i : Nat, b = .int .i64 (i : Int) ∧ a = .int .u64 ((be (xs.take i) : Nat) : Int) ∧ i ≤ xs.length ∧ wr = w') (fun _ b _ => xs.length - (intOf b).toNat)
  case atStart => exact ⟨0, rfl, rfl, Nat.zero_le _, rfl⟩
  case round =>
    rename_i hrel
    obtain ⟨i, rfl, rfl, hi, rfl⟩ := hrel
    by_cases hlt : i < xs.length
    · have hlt' : (i : Int) < (xs.length : Int) := by omega
      have hi8 : i < 8 := by have := HL.out; omega
      have hw : wrap64 ((i : Int) + 1) = (i : Int) + 1 := by unfold wrap64; omega
      have hx0 := HX.out xs[i] (List.getElem_mem hlt)
      have hcell : wr.cell? ⟨B, p + i, none⟩ = some (.int .u8 (xs[i] : Int)) := HAT.out.get i _ (by simp [bv, hlt])
      have hbe : be (xs.take i) * 256 < 18446744073709551616 := by
        have h1 := be_lt (xs.take i) (fun b hb => HX.out b (List.mem_of_mem_take hb))
        have h2 : (xs.take i).length ≤ 7 := by have := HL.out; simp; omega
        have h3 : (256 : Nat) ^ (xs.take i).length ≤ 256 ^ 7 := Nat.pow_le_pow_right (by omega) h2
        omega
      have hor := Lib.hid (or_byte _ _ hbe hx0)
      have hnx : be (xs.take (i + 1)) = be (xs.take i) * 256 + xs[i] := by rw [List.take_succ_eq_append_getElem hlt, be_snoc]
      generalize be (xs.take i) = acc at *
      generalize xs[i] = ch at *
      go_wp2
      refine ⟨⟨i + 1, by simp, ?_, by omega, trivial⟩, by simp [intOf]; omega⟩
      first | (rw [hnx, ← hor.out]; done) | (rw [hnx, ← hor.out]; congr 2; omega) | (simp only [hnx]; rw [← hor.out]; simp; done) | (simp only [hnx]; rw [← hor.out]; simp; omega)
    · have hlt' : ¬ ((i : Int) < (xs.length : Int)) := by omega
      have hi' : i = xs.length := by omega
      subst hi'
      go_wp2
      go_ret
      exact ⟨rfl, hr2, hb2⟩

theorem byte_rd (r B b : Nat) (rest : List Nat) (w : World) (h : Rd w r B (b :: rest)) (hb : b < 256) :
    Calls Try.prog 79 #[.pointer (some ⟨r, 0, none⟩)] w fun e w' => e = .returned (.int .u8 (b : Int)) ∧ Rd w' r B rest ∧ But r w w' := by
  have hfx := Lib.hid (fixed_rd r B [b] rest w 1 rfl h (by simpa using hb) (by simp))
  have he : be [b] = b := by simp [be]
  rw [he] at hfx
  have hm : (b : Int) % 256 = (b : Int) := by omega
  clear h
  go_enter Try.func79, Try.ntmps79
  go_wp2_with (go_at_call 125; refine hfx.out.mono ?_; rintro e w' ⟨rfl, hr2, hb2⟩)
  go_ret
  exact ⟨by simp [IntKind.wrap_u8', hm], hr2, hb2⟩

theorem be_fixed_aux (n : Nat) : ∀ k a, (fixed k n).foldl (fun n c => n * 256 + c) a = a * 256 ^ k + n % 256 ^ k
  | 0, a => by simp [fixed, Nat.mod_one]
  | k + 1, a => by
    rw [fixed, List.foldl_cons, be_fixed_aux n k, Nat.pow_succ, Nat.add_mul, Nat.mul_assoc, Nat.mul_comm 256 (256 ^ k), Nat.mod_mul]
    rw [Nat.mul_comm (n / 256 ^ k % 256)]
    omega
theorem be_fixed (n : Nat) (h : n < 18446744073709551616) : be (fixed 8 n) = n := by
  have := be_fixed_aux n 8 0
  simp only [be, this]
  simp; omega
theorem fixed_length (n : Nat) : ∀ k, (fixed k n).length = k
  | 0 => rfl
  | k + 1 => by simp [fixed, fixed_length n k]
theorem fixed_byte' (n : Nat) : ∀ k, ∀ b ∈ fixed k n, b < 256
  | 0, b, h => by simp [fixed] at h
  | k + 1, b, h => by
    simp only [fixed, List.mem_cons] at h
    rcases h with rfl | h
    · exact Nat.mod_lt _ (by omega)
    · exact fixed_byte' n k b h
theorem float_rd (r B x : Nat) (rest : List Nat) (w : World) (h : Rd w r B (fixed 8 x ++ rest)) (hx : x < 18446744073709551616) (hp : plainF x = x) :
    Calls Try.prog 81 #[.pointer (some ⟨r, 0, none⟩)] w fun e w' => e = .returned (.float .f64 x) ∧ Rd w' r B rest ∧ But r w w' := by
  have hfx := Lib.hid (fixed_rd r B (fixed 8 x) rest w 8 (by rw [fixed_length]; rfl) h (fixed_byte' x 8) (by rw [fixed_length]; omega))
  rw [be_fixed x hx] at hfx
  have hbits := Lib.hid (fun w => bits_of x w hx)
  rw [hp] at hbits
  have h1 := @call_frombits
  clear h
  go_enter Try.func81, Try.ntmps81
  go_wp2_with (first
    | (go_at_call 125; refine hfx.out.mono ?_; rintro e w' ⟨rfl, hr2, hb2⟩; have HR := Lib.hid hr2; clear hr2)
    | (go_at_call 62; refine (ready_of r B rest _ HR.out).mono ?_; rintro e w' ⟨rfl, rfl⟩)
    | (go_at_call 124; refine (hbits.out _).mono ?_; rintro e w' ⟨rfl, rfl⟩))
  go_ret
  exact ⟨rfl, HR.out, hb2⟩

theorem left_of (r B : Nat) (xs : List Nat) (w : World) (h : Rd w r B xs) : Calls Try.prog 20 #[.pointer (some ⟨r, 0, none⟩)] w fun e w' => e = .returned (.int .i64 (xs.length : Int)) ∧ w = w' := by
  have hrd := Lib.hid (ready_of r B xs w h)
  obtain ⟨p, c, h⟩ := h
  have c1 := h.c1
  clear h
  go_enter Try.func20, Try.ntmps20
  go_wp2_with (go_at_call 62; refine hrd.out.mono ?_; rintro e w' ⟨rfl, rfl⟩)
  go_ret
  exact ⟨rfl, rfl⟩
end Go.Proofs.Ytlcdjaclahhdnaa
namespace Go.Proofs.Ytlcdjaclahhdnaa
open Go.RowKit
set_option linter.unusedSimpArgs false
set_option linter.unusedVariables false

theorem u8_low (c : Nat) (h : c < 256) : bits BinOp.and IntKind.u8 (c : Int) 127 = ((c % 128 : Nat) : Int) := by
  have h : ∀ m : Fin 256, bits BinOp.and IntKind.u8 ((m.val : Nat) : Int) 127 = ((m.val % 128 : Nat) : Int) := by decide +kernel
  exact h ⟨c, by assumption⟩

theorem join_at (acc d i : Nat) (ha : acc < 128 ^ i) (hb : acc + d * 128 ^ i < 18446744073709551616) (x : Int) (hx : x = ((d * 128 ^ i : Nat) : Int)) :
    bits BinOp.or IntKind.u64 (acc : Int) x = ((acc + d * 128 ^ i : Nat) : Int) := by
  subst hx
  have e3 : 128 ^ i = 2 ^ (7 * i) := by rw [Nat.pow_mul]
  rw [u64_or_nat _ _ (by omega) (by omega), Nat.or_comm, nat_join (7 * i) _ _ (by rw [e3]; exact Nat.mul_mod_left _ _) (by rw [← e3]; exact ha), Nat.add_comm]
/-- Where the reader of a number stands. -/
def NumAt (r B n : Nat) (rest : List Nat) (w : World) (a b : Value) (wr : World) : Prop :=
  ∃ i k m acc : Nat, b = .int .i64 (i : Int) ∧ a = .int .u64 (acc : Int) ∧ Rd wr r B (pu k m ++ rest) ∧ But r w wr ∧ acc < 128 ^ i ∧ acc + m * 128 ^ i = n ∧ i + k = 9 ∧ m < 2 * 128 ^ k ∧ (0 < i → 0 < m)

set_option maxHeartbeats 4000000 in
set_option maxRecDepth 100000 in
theorem number_rd (r B n : Nat) (rest : List Nat) (w : World) (h : Rd w r B (putUint n ++ rest)) (hn : n < 18446744073709551616) :
    Calls Try.prog 149 #[.pointer (some ⟨r, 0, none⟩)] w fun e w' => e = .returned (.tuple #[.int .u64 (n : Int), .bool true]) ∧ Rd w' r B rest ∧ But r w w' := by
  go_enter Try.func149, Try.ntmps149
  go_wp2
  go_step3
  go_wp2
  go_loopw [2, 5] (fun a b wr => NumAt r B n rest w a b wr) (fun _ b _ => 10 - (intOf b).toNat)
  case atStart => exact ⟨0, 9, n, 0, rfl, rfl, h, But.refl _ _, by simp, by simp, rfl, by simpa using hn, fun h => absurd h (by omega)⟩
  case round =>
    rename_i hrel
    obtain ⟨i, k, m, acc, rfl, rfl, hrd, hbut, hacc, hsum, hik, hm, hpos⟩ := hrel
    clear h
    by_cases hlt : m < 128
    · rw [pu_small hlt] at hrd
      have htk := Lib.hid (take_of r B [m] rest wr hrd)
      simp only [List.length_singleton] at htk
      have hj := join_at acc m i hacc (by omega)
      rw [hsum] at hj
      have key := Lib.hid hj; clear hj
      have hand := u8_low m (by omega)
      rw [Nat.mod_eq_of_lt hlt] at hand
      have g5 : (m : Int) < 128 := by omega
      have HNB : Hid (m * 128 ^ i < 18446744073709551616) := by show _ < _; omega
      have HB := Lib.hid hbut
      clear hbut hacc hsum hrd
      obtain rfl | hi0 : i = 0 ∨ 0 < i := by omega
      · clear hik hm hpos
        go_wp2_with (go_at_call 127; refine htk.out.mono ?_; rintro e w' ⟨p, c, rfl, hc, hat, hr2, hb2⟩; have hcell : w'.cell? ⟨B, p, none⟩ = some (.int .u8 (m : Int)) := by simpa [bv, At] using hat)
        rw [Exit.noGoto_ret]
        go_ret2
        refine ⟨?_, hr2, HB.out.trans hb2⟩
        show Ending.returned (Value.tuple #[Value.int _ _, _]) = _
        rw [key.out]
        have := HNB.out
        first | (simp [u64_wrap]; done) | (simp [u64_wrap]; omega)
      have hm0 : 0 < m := hpos hi0
      have hm1 : ((m : Int) == 0) = false := by simp; omega
      have hm2 : ¬ ((m : Int) = 0) := by omega
      obtain rfl | hi9 : i = 9 ∨ i < 9 := by omega
      · have hk : k = 0 := by omega
        subst hk
        have hm4 : ¬ ((1 : Int) < (m : Int)) := by simp at hm; omega
        clear hik hm hpos
        go_wp2_with (go_at_call 127; refine htk.out.mono ?_; rintro e w' ⟨p, c, rfl, hc, hat, hr2, hb2⟩; have hcell : w'.cell? ⟨B, p, none⟩ = some (.int .u8 (m : Int)) := by simpa [bv, At] using hat)
        rw [Exit.noGoto_ret]
        go_ret2
        refine ⟨?_, hr2, HB.out.trans hb2⟩
        show Ending.returned (Value.tuple #[Value.int _ _, _]) = _
        rw [key.out]
        have := HNB.out
        first | (simp [u64_wrap]; done) | (simp [u64_wrap]; omega)
      obtain rfl | rfl | rfl | rfl | rfl | rfl | rfl | rfl : i = 1 ∨ i = 2 ∨ i = 3 ∨ i = 4 ∨ i = 5 ∨ i = 6 ∨ i = 7 ∨ i = 8 := by omega
      all_goals (
        clear hik hm hpos hi9 hi0
        go_wp2_with (go_at_call 127; refine htk.out.mono ?_; rintro e w' ⟨p, c, rfl, hc, hat, hr2, hb2⟩; have hcell : w'.cell? ⟨B, p, none⟩ = some (.int .u8 (m : Int)) := by simpa [bv, At] using hat)
        rw [Exit.noGoto_ret]
        go_ret2
        refine ⟨?_, hr2, HB.out.trans hb2⟩
        show Ending.returned (Value.tuple #[Value.int _ _, _]) = _
        rw [key.out]
        have := HNB.out
        first | (simp [u64_wrap]; done) | (simp [u64_wrap]; omega))
    · obtain ⟨k, rfl⟩ : ∃ j, k = j + 1 := ⟨k - 1, by cases k with | zero => omega | succ k => rfl⟩
      rw [pu_big hlt] at hrd
      have htk := Lib.hid (take_of r B [m % 128 + 128] (pu k (m / 128) ++ rest) wr hrd)
      simp only [List.length_singleton] at htk
      have hjl : acc + m % 128 * 128 ^ i < 128 ^ (i + 1) := by
        have h1 : m % 128 + 1 ≤ 128 := by omega
        have h2 := Nat.mul_le_mul_right (128 ^ i) h1
        rw [Nat.add_mul] at h2
        rw [Nat.pow_succ, Nat.mul_comm (128 ^ i)]; omega
      have hjs : acc + m % 128 * 128 ^ i + m / 128 * 128 ^ (i + 1) = n := by
        rw [← hsum, Nat.pow_succ, Nat.mul_comm (128 ^ i), ← Nat.mul_assoc, Nat.add_assoc, ← Nat.add_mul]
        congr 2; omega
      have hjm : m / 128 < 2 * 128 ^ k := by rw [Nat.pow_succ] at hm; omega
      have hj := join_at acc (m % 128) i hacc (by omega)
      have key := Lib.hid hj; clear hj
      have HNB : Hid (m % 128 * 128 ^ i < 18446744073709551616) := by show _ < _; omega
      have hand := u8_low (m % 128 + 128) (by omega)
      have hmm : (m % 128 + 128) % 128 = m % 128 := by omega
      rw [hmm] at hand
      obtain ⟨ch, hch⟩ : ∃ ch, ch = m % 128 + 128 := ⟨_, rfl⟩
      obtain ⟨d, hd⟩ : ∃ d, d = m % 128 := ⟨_, rfl⟩
      rw [← hch] at htk hand
      rw [← hd] at hand key HNB hjl hjs
      have g1 : ¬ ((ch : Int) < 128) := by omega
      have g2 : ((ch : Int) == 0) = false := by simp; omega
      have g3 : ¬ ((ch : Int) = 0) := by omega
      have g4 : d < 128 := by omega
      have g6 : (ch : Int) < 256 := by omega
      have hpm : 0 < m / 128 := by omega
      have HB := Lib.hid hbut
      have HJL := Lib.hid hjl; have HJS := Lib.hid hjs; have HJM := Lib.hid hjm; have HPM := Lib.hid hpm; have HIK := Lib.hid hik
      have hi9 : i < 9 := by omega
      clear hbut hacc hsum hrd hm hpos hmm hlt hch hd hjl hjs hjm hpm hik
      obtain rfl | rfl | rfl | rfl | rfl | rfl | rfl | rfl | rfl : i = 0 ∨ i = 1 ∨ i = 2 ∨ i = 3 ∨ i = 4 ∨ i = 5 ∨ i = 6 ∨ i = 7 ∨ i = 8 := by omega
      all_goals (
        clear hi9
        go_wp2_with (go_at_call 127; refine htk.out.mono ?_; rintro e w' ⟨p, c, rfl, hc, hat, hr2, hb2⟩; have hcell : w'.cell? ⟨B, p, none⟩ = some (.int .u8 (ch : Int)) := by simpa [bv, At] using hat)
        have HR := Lib.hid hr2
        have hk0 := HNB.out
        have hik := HIK.out
        refine ⟨⟨_, k, m / 128, _, ?_, congrArg (Value.int .u64) (key.out _ ?_), HR.out, HB.out.trans hb2, HJL.out, HJS.out, by omega, HJM.out, fun _ => HPM.out⟩, ?_⟩
        · first | rfl | (simp; done)
        · first | (simp [u64_wrap]; done) | (simp [u64_wrap]; omega)
        · first | (simp [intOf]; done) | (simp [intOf]; omega))
end Go.Proofs.Ytlcdjaclahhdnaa
namespace Go.Proofs.Ytlcdjaclahhdnaa
open Go.RowKit
set_option linter.unusedSimpArgs false
set_option linter.unusedVariables false

theorem uint_rd (r B n most : Nat) (rest : List Nat) (w : World) (h : Rd w r B (putUint n ++ rest)) (hn : n < 18446744073709551616) (hm : n ≤ most) :
    Calls Try.prog 112 #[.pointer (some ⟨r, 0, none⟩), .int .u64 (most : Int)] w fun e w' => e = .returned (.int .u64 (n : Int)) ∧ Rd w' r B rest ∧ But r w w' := by
  have hrd := Lib.hid (ready_of r B _ w h)
  have hnr := Lib.hid (number_rd r B n rest w h hn)
  have h1 : ¬ ((most : Int) < (n : Int)) := by omega
  clear h
  go_enter Try.func112, Try.ntmps112
  go_wp2_with (first
    | (go_at_call 62; refine hrd.out.mono ?_; rintro e w' ⟨rfl, rfl⟩)
    | (go_at_call 149; refine hnr.out.mono ?_; rintro e w' ⟨rfl, hr2, hb2⟩))
  go_ret
  exact ⟨rfl, hr2, hb2⟩

theorem int_rd (r B : Nat) (n : Int) (rest : List Nat) (w : World) (h : Rd w r B (putUint (zig n) ++ rest)) (h1 : -9223372036854775808 ≤ n) (h2 : n ≤ 9223372036854775807) :
    Calls Try.prog 80 #[.pointer (some ⟨r, 0, none⟩)] w fun e w' => e = .returned (.int .i64 n) ∧ Rd w' r B rest ∧ But r w w' := by
  have hz := zig_lt h1 h2
  have hur := Lib.hid (uint_rd r B (zig n) 18446744073709551615 rest w h hz (by omega))
  have hand : bits BinOp.and IntKind.u64 (zig n : Int) 1 = ((zig n % 2 : Nat) : Int) := by
    rw [← Nat.and_one_is_mod]; exact u64_and_nat (zig n) 1 hz (by omega)
  have hnot := u64_not (zig n / 2) (by omega)
  clear h
  by_cases hn : n < 0
  · have e : zig n = (-2 * n - 1).toNat := by unfold zig; rw [if_pos hn]
    have e1 : zig n % 2 = 1 := by omega
    have e2 : ((zig n / 2 : Nat) : Int) = -n - 1 := by omega
    have e3 : ((zig n : Nat) : Int) / 2 = -n - 1 := by omega
    rw [e2] at hnot
    have hdec : (bits BinOp.and IntKind.u64 (zig n : Int) 1 == 1) = true := by rw [hand, e1]; rfl
    clear hand
    generalize zig n = u at *
    have E := Lib.hid e; clear e e1 e2
    go_enter Try.func80, Try.ntmps80
    go_wp2_with (go_at_call 112; refine hur.out.mono ?_; rintro e w' ⟨rfl, hr2, hb2⟩)
    go_ret
    refine ⟨?_, hr2, hb2⟩
    show Ending.returned (Value.int _ _) = _
    congr 2
    first | omega | (simp [wrap64, IntKind.wrap, IntKind.bits, IntKind.signed]; omega)
  · have e : zig n = (2 * n).toNat := by unfold zig; rw [if_neg hn]
    have e1 : zig n % 2 = 0 := by omega
    have e3 : ((zig n : Nat) : Int) / 2 = n := by omega
    have hdec : (bits BinOp.and IntKind.u64 (zig n : Int) 1 == 1) = false := by rw [hand, e1]; rfl
    clear hand
    generalize zig n = u at *
    have E := Lib.hid e; clear e e1 hnot
    go_enter Try.func80, Try.ntmps80
    go_wp2_with (go_at_call 112; refine hur.out.mono ?_; rintro e w' ⟨rfl, hr2, hb2⟩)
    go_ret
    refine ⟨?_, hr2, hb2⟩
    show Ending.returned (Value.int _ _) = _
    first | rfl | (congr 2; omega)

theorem strOf_text (s : ByteArray) : strOfNums ((textB s).map fun (b : Nat) => (b : Int)) = s := by
  unfold strOfNums textB
  simp [List.map_map, Function.comp_def]
theorem text_run (w : World) (B p c : Nat) (s : ByteArray) (h : At w B p (bv (textB s))) : (convert 28 9 (.slice (some ⟨B, p, none⟩) s.size c)).run Try.prog w = .ok (.string s) w := by
  have hr := run_convert_bytes_arg (P := Try.prog) w 28 5 Try.underlying28 Try.underlying5 B p s.size c ((textB s).map fun (b : Nat) => (b : Int)) (by simp [textB_length]) (fun i hi => by
    have hi' : i < (textB s).length := by rw [textB_length]; exact hi
    exact h.get i (.int .u8 (((textB s).map fun (b : Nat) => (b : Int)).getD i 0)) (by simp [bv, List.getElem?_map, List.getElem?_eq_getElem hi'])) 9 Try.underlying9
  rw [strOf_text] at hr
  exact hr

theorem text_rd (r B : Nat) (s : ByteArray) (rest : List Nat) (w : World) (h : Rd w r B (putText s ++ rest)) (hs : s.size ≤ 64) :
    Calls Try.prog 82 #[.pointer (some ⟨r, 0, none⟩), .int .i64 64] w fun e w' => e = .returned (.string s) ∧ Rd w' r B rest ∧ But r w w' := by
  unfold putText at h
  rw [List.append_assoc] at h
  have hur := Lib.hid (uint_rd r B s.size 64 _ w h (by omega) hs)
  have hsz : (s.size : Int) ≤ 64 := by omega
  clear h hs
  go_enter Try.func82, Try.ntmps82
  go_wp2_with (first
    | (go_at_call 112; refine hur.out.mono ?_; rintro e w' ⟨rfl, hr2, hb2⟩; have HR := Lib.hid hr2; have HB := Lib.hid hb2; clear hr2 hb2)
    | (go_at_call 62; refine (ready_of r B _ _ HR.out).mono ?_; rintro e w' ⟨rfl, rfl⟩)
    | (go_at_call 127; have htk := take_of r B _ rest _ HR.out; rw [textB_length] at htk; refine htk.mono ?_; rintro e w' ⟨p, c, rfl, hc, hat, hr2, hb2⟩; have hcv := text_run _ _ _ c _ hat; clear hat htk))
  go_ret
  exact ⟨rfl, hr2, HB.out.trans hb2⟩
end Go.Proofs.Ytlcdjaclahhdnaa
