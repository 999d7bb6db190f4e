/- The reader's numbers of whatever size, and texts. -/
import Derived.Test.YtlcdjaclahhdnaaRead2
import Derived.Laws.BytesArg
namespace Go.Proofs.Ytlcdjaclahhdnaa
open Go.RowKit
set_option linter.unusedSimpArgs false
set_option linter.unusedVariables false

theorem u8_low (c : Nat) (h : c < 256) : bits BinOp.and IntKind.u8 (c : Int) 127 = ((c % 128 : Nat) : Int) := by
  have h : ∀ m : Fin 256, bits BinOp.and IntKind.u8 ((m.val : Nat) : Int) 127 = ((m.val % 128 : Nat) : Int) := by decide +kernel
  exact h ⟨c, by assumption⟩

theorem join_at (acc d i : Nat) (ha : acc < 128 ^ i) (hb : acc + d * 128 ^ i < 18446744073709551616) (x : Int) (hx : x = ((d * 128 ^ i : Nat) : Int)) :
    bits BinOp.or IntKind.u64 (acc : Int) x = ((acc + d * 128 ^ i : Nat) : Int) := by
  subst hx
  have e3 : 128 ^ i = 2 ^ (7 * i) := by rw [Nat.pow_mul]
  rw [u64_or_nat _ _ (by omega) (by omega), Nat.or_comm, nat_join (7 * i) _ _ (by rw [e3]; exact Nat.mul_mod_left _ _) (by rw [← e3]; exact ha), Nat.add_comm]
/-- Where the reader of a number stands. -/
def NumAt (r B n : Nat) (rest : List Nat) (w : World) (a b : Value) (wr : World) : Prop :=
  ∃ i k m acc : Nat, b = .int .i64 (i : Int) ∧ a = .int .u64 (acc : Int) ∧ Rd wr r B (pu k m ++ rest) ∧ But r w wr ∧ acc < 128 ^ i ∧ acc + m * 128 ^ i = n ∧ i + k = 9 ∧ m < 2 * 128 ^ k ∧ (0 < i → 0 < m)

set_option maxHeartbeats 4000000 in
set_option maxRecDepth 100000 in
theorem number_rd (r B n : Nat) (rest : List Nat) (w : World) (h : Rd w r B (putUint n ++ rest)) (hn : n < 18446744073709551616) :
    Calls Try.prog 149 #[.pointer (some ⟨r, 0, none⟩)] w fun e w' => e = .returned (.tuple #[.int .u64 (n : Int), .bool true]) ∧ Rd w' r B rest ∧ But r w w' := by
  go_enter Try.func149, Try.ntmps149
  go_wp2
  go_step3
  go_wp2
  go_loopw [2, 5] (fun a b wr => NumAt r B n rest w a b wr) (fun _ b _ => 10 - (intOf b).toNat)
  case atStart => exact ⟨0, 9, n, 0, rfl, rfl, h, But.refl _ _, by simp, by simp, rfl, by simpa using hn, fun h => absurd h (by omega)⟩
  case round =>
    rename_i hrel
    obtain ⟨i, k, m, acc, rfl, rfl, hrd, hbut, hacc, hsum, hik, hm, hpos⟩ := hrel
    clear h
    by_cases hlt : m < 128
    · rw [pu_small hlt] at hrd
      have htk := Lib.hid (take_of r B [m] rest wr hrd)
      simp only [List.length_singleton] at htk
      have hj := join_at acc m i hacc (by omega)
      rw [hsum] at hj
      have key := Lib.hid hj; clear hj
      have hand := u8_low m (by omega)
      rw [Nat.mod_eq_of_lt hlt] at hand
      have g5 : (m : Int) < 128 := by omega
      have HNB : Hid (m * 128 ^ i < 18446744073709551616) := by show _ < _; omega
      have HB := Lib.hid hbut
      clear hbut hacc hsum hrd
      obtain rfl | hi0 : i = 0 ∨ 0 < i := by omega
      · clear hik hm hpos
        go_wp2_with (go_at_call 127; refine htk.out.mono ?_; rintro e w' ⟨p, c, rfl, hc, hat, hr2, hb2⟩; have hcell : w'.cell? ⟨B, p, none⟩ = some (.int .u8 (m : Int)) := by simpa [bv, At] using hat)
        rw [Exit.noGoto_ret]
        go_ret2
        refine ⟨?_, hr2, HB.out.trans hb2⟩
        show Ending.returned (Value.tuple #[Value.int _ _, _]) = _
        rw [key.out]
        have := HNB.out
        first | (simp [u64_wrap]; done) | (simp [u64_wrap]; omega)
      have hm0 : 0 < m := hpos hi0
      have hm1 : ((m : Int) == 0) = false := by simp; omega
      have hm2 : ¬ ((m : Int) = 0) := by omega
      obtain rfl | hi9 : i = 9 ∨ i < 9 := by omega
      · have hk : k = 0 := by omega
        subst hk
        have hm4 : ¬ ((1 : Int) < (m : Int)) := by simp at hm; omega
        clear hik hm hpos
        go_wp2_with (go_at_call 127; refine htk.out.mono ?_; rintro e w' ⟨p, c, rfl, hc, hat, hr2, hb2⟩; have hcell : w'.cell? ⟨B, p, none⟩ = some (.int .u8 (m : Int)) := by simpa [bv, At] using hat)
        rw [Exit.noGoto_ret]
        go_ret2
        refine ⟨?_, hr2, HB.out.trans hb2⟩
        show Ending.returned (Value.tuple #[Value.int _ _, _]) = _
        rw [key.out]
        have := HNB.out
        first | (simp [u64_wrap]; done) | (simp [u64_wrap]; omega)
      obtain rfl | rfl | rfl | rfl | rfl | rfl | rfl | rfl : i = 1 ∨ i = 2 ∨ i = 3 ∨ i = 4 ∨ i = 5 ∨ i = 6 ∨ i = 7 ∨ i = 8 := by omega
      all_goals (
        clear hik hm hpos hi9 hi0
        go_wp2_with (go_at_call 127; refine htk.out.mono ?_; rintro e w' ⟨p, c, rfl, hc, hat, hr2, hb2⟩; have hcell : w'.cell? ⟨B, p, none⟩ = some (.int .u8 (m : Int)) := by simpa [bv, At] using hat)
        rw [Exit.noGoto_ret]
        go_ret2
        refine ⟨?_, hr2, HB.out.trans hb2⟩
        show Ending.returned (Value.tuple #[Value.int _ _, _]) = _
        rw [key.out]
        have := HNB.out
        first | (simp [u64_wrap]; done) | (simp [u64_wrap]; omega))
    · obtain ⟨k, rfl⟩ : ∃ j, k = j + 1 := ⟨k - 1, by cases k with | zero => omega | succ k => rfl⟩
      rw [pu_big hlt] at hrd
      have htk := Lib.hid (take_of r B [m % 128 + 128] (pu k (m / 128) ++ rest) wr hrd)
      simp only [List.length_singleton] at htk
      have hjl : acc + m % 128 * 128 ^ i < 128 ^ (i + 1) := by
        have h1 : m % 128 + 1 ≤ 128 := by omega
        have h2 := Nat.mul_le_mul_right (128 ^ i) h1
        rw [Nat.add_mul] at h2
        rw [Nat.pow_succ, Nat.mul_comm (128 ^ i)]; omega
      have hjs : acc + m % 128 * 128 ^ i + m / 128 * 128 ^ (i + 1) = n := by
        rw [← hsum, Nat.pow_succ, Nat.mul_comm (128 ^ i), ← Nat.mul_assoc, Nat.add_assoc, ← Nat.add_mul]
        congr 2; omega
      have hjm : m / 128 < 2 * 128 ^ k := by rw [Nat.pow_succ] at hm; omega
      have hj := join_at acc (m % 128) i hacc (by omega)
      have key := Lib.hid hj; clear hj
      have HNB : Hid (m % 128 * 128 ^ i < 18446744073709551616) := by show _ < _; omega
      have hand := u8_low (m % 128 + 128) (by omega)
      have hmm : (m % 128 + 128) % 128 = m % 128 := by omega
      rw [hmm] at hand
      obtain ⟨ch, hch⟩ : ∃ ch, ch = m % 128 + 128 := ⟨_, rfl⟩
      obtain ⟨d, hd⟩ : ∃ d, d = m % 128 := ⟨_, rfl⟩
      rw [← hch] at htk hand
      rw [← hd] at hand key HNB hjl hjs
      have g1 : ¬ ((ch : Int) < 128) := by omega
      have g2 : ((ch : Int) == 0) = false := by simp; omega
      have g3 : ¬ ((ch : Int) = 0) := by omega
      have g4 : d < 128 := by omega
      have g6 : (ch : Int) < 256 := by omega
      have hpm : 0 < m / 128 := by omega
      have HB := Lib.hid hbut
      have HJL := Lib.hid hjl; have HJS := Lib.hid hjs; have HJM := Lib.hid hjm; have HPM := Lib.hid hpm; have HIK := Lib.hid hik
      have hi9 : i < 9 := by omega
      clear hbut hacc hsum hrd hm hpos hmm hlt hch hd hjl hjs hjm hpm hik
      obtain rfl | rfl | rfl | rfl | rfl | rfl | rfl | rfl | rfl : i = 0 ∨ i = 1 ∨ i = 2 ∨ i = 3 ∨ i = 4 ∨ i = 5 ∨ i = 6 ∨ i = 7 ∨ i = 8 := by omega
      all_goals (
        clear hi9
        go_wp2_with (go_at_call 127; refine htk.out.mono ?_; rintro e w' ⟨p, c, rfl, hc, hat, hr2, hb2⟩; have hcell : w'.cell? ⟨B, p, none⟩ = some (.int .u8 (ch : Int)) := by simpa [bv, At] using hat)
        have HR := Lib.hid hr2
        have hk0 := HNB.out
        have hik := HIK.out
        refine ⟨⟨_, k, m / 128, _, ?_, congrArg (Value.int .u64) (key.out _ ?_), HR.out, HB.out.trans hb2, HJL.out, HJS.out, by omega, HJM.out, fun _ => HPM.out⟩, ?_⟩
        · first | rfl | (simp; done)
        · first | (simp [u64_wrap]; done) | (simp [u64_wrap]; omega)
        · first | (simp [intOf]; done) | (simp [intOf]; omega))
end Go.Proofs.Ytlcdjaclahhdnaa
