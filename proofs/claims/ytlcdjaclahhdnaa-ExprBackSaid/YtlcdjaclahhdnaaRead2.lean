/- More calls of package codec's reader. -/
import Derived.Test.YtlcdjaclahhdnaaRead
import Derived.Deep.LoopGhost
namespace Go.Proofs.Ytlcdjaclahhdnaa
open Go.RowKit
set_option linter.unusedSimpArgs false
set_option linter.unusedVariables false

/-- Bytes as a number, the greatest first. -/
def be (l : List Nat) : Nat := l.foldl (fun n c => n * 256 + c) 0
theorem be_snoc (l : List Nat) (c : Nat) : be (l ++ [c]) = be l * 256 + c := by simp [be]
theorem be_lt_aux (l : List Nat) (h : ∀ b ∈ l, b < 256) : ∀ a, l.foldl (fun n c => n * 256 + c) a < (a + 1) * 256 ^ l.length := by
  induction l with
  | nil => intro a; simp
  | cons c l ih =>
    intro a
    rw [List.foldl_cons, List.length_cons, Nat.pow_succ, Nat.mul_comm (256 ^ l.length), ← Nat.mul_assoc]
    refine Nat.lt_of_lt_of_le (ih (fun b hb => h b (by simp [hb])) _) (Nat.mul_le_mul_right _ ?_)
    have := h c (by simp)
    omega
theorem be_lt (l : List Nat) (h : ∀ b ∈ l, b < 256) : be l < 256 ^ l.length := by
  have := be_lt_aux l h 0
  simpa [be] using this
theorem or_byte (a c : Nat) (ha : a * 256 < 18446744073709551616) (hc : c < 256) : bits .or .u64 ((a * 256 : Nat) : Int) (c : Int) = ((a * 256 + c : Nat) : Int) := by
  rw [u64_or_nat _ _ ha (by omega), nat_join 8 _ _ (by omega) (by omega)]

set_option maxHeartbeats 1000000 in
theorem fixed_rd (r B : Nat) (xs rest : List Nat) (w : World) (k : Int) (hk : k = (xs.length : Int)) (h : Rd w r B (xs ++ rest)) (hx : ∀ b ∈ xs, b < 256) (hl : xs.length ≤ 8) :
    Calls Try.prog 125 #[.pointer (some ⟨r, 0, none⟩), .int .i64 k] w fun e w' => e = .returned (.int .u64 ((be xs : Nat) : Int)) ∧ Rd w' r B rest ∧ But r w w' := by
  have hk1 : (0 : Int) ≤ k := by omega
  have hk2 : k ≤ 8 := by omega
  have hk3 : max k 0 = k := by omega
  have hk4 : min k 8 = k := by omega
  have hrd := Lib.hid (ready_of r B (xs ++ rest) w h)
  have htk := Lib.hid (take_of r B xs rest w h)
  rw [← hk] at htk
  have HX := Lib.hid hx; have HL := Lib.hid hl; have HK := Lib.hid hk
  clear h hx hl hk
  go_enter Try.func125, Try.ntmps125
  go_wp2_with (first
    | (go_at_call 62; refine hrd.out.mono ?_; rintro e w' ⟨rfl, rfl⟩)
    | (go_at_call 127; refine htk.out.mono ?_; rintro e w' ⟨p, c, rfl, hc, hat, hr2, hb2⟩; have HAT := Lib.hid hat; clear hat))
  go_loopw [7, 23] (fun a b wr => ∃ i : Nat, b = .int .i64 (i : Int) ∧ a = .int .u64 ((be (xs.take i) : Nat) : Int) ∧ i ≤ xs.length ∧ wr = w') (fun _ b _ => xs.length - (intOf b).toNat)
  case atStart => exact ⟨0, rfl, rfl, Nat.zero_le _, rfl⟩
  case round =>
    rename_i hrel
    obtain ⟨i, rfl, rfl, hi, rfl⟩ := hrel
    by_cases hlt : i < xs.length
    · have hlt' : (i : Int) < (xs.length : Int) := by omega
      have hi8 : i < 8 := by have := HL.out; omega
      have hw : wrap64 ((i : Int) + 1) = (i : Int) + 1 := by unfold wrap64; omega
      have hx0 := HX.out xs[i] (List.getElem_mem hlt)
      have hcell : wr.cell? ⟨B, p + i, none⟩ = some (.int .u8 (xs[i] : Int)) := HAT.out.get i _ (by simp [bv, hlt])
      have hbe : be (xs.take i) * 256 < 18446744073709551616 := by
        have h1 := be_lt (xs.take i) (fun b hb => HX.out b (List.mem_of_mem_take hb))
        have h2 : (xs.take i).length ≤ 7 := by have := HL.out; simp; omega
        have h3 : (256 : Nat) ^ (xs.take i).length ≤ 256 ^ 7 := Nat.pow_le_pow_right (by omega) h2
        omega
      have hor := Lib.hid (or_byte _ _ hbe hx0)
      have hnx : be (xs.take (i + 1)) = be (xs.take i) * 256 + xs[i] := by rw [List.take_succ_eq_append_getElem hlt, be_snoc]
      generalize be (xs.take i) = acc at *
      generalize xs[i] = ch at *
      go_wp2
      refine ⟨⟨i + 1, by simp, ?_, by omega, trivial⟩, by simp [intOf]; omega⟩
      first | (rw [hnx, ← hor.out]; done) | (rw [hnx, ← hor.out]; congr 2; omega) | (simp only [hnx]; rw [← hor.out]; simp; done) | (simp only [hnx]; rw [← hor.out]; simp; omega)
    · have hlt' : ¬ ((i : Int) < (xs.length : Int)) := by omega
      have hi' : i = xs.length := by omega
      subst hi'
      go_wp2
      go_ret
      exact ⟨rfl, hr2, hb2⟩

theorem byte_rd (r B b : Nat) (rest : List Nat) (w : World) (h : Rd w r B (b :: rest)) (hb : b < 256) :
    Calls Try.prog 79 #[.pointer (some ⟨r, 0, none⟩)] w fun e w' => e = .returned (.int .u8 (b : Int)) ∧ Rd w' r B rest ∧ But r w w' := by
  have hfx := Lib.hid (fixed_rd r B [b] rest w 1 rfl h (by simpa using hb) (by simp))
  have he : be [b] = b := by simp [be]
  rw [he] at hfx
  have hm : (b : Int) % 256 = (b : Int) := by omega
  clear h
  go_enter Try.func79, Try.ntmps79
  go_wp2_with (go_at_call 125; refine hfx.out.mono ?_; rintro e w' ⟨rfl, hr2, hb2⟩)
  go_ret
  exact ⟨by simp [IntKind.wrap_u8', hm], hr2, hb2⟩

theorem be_fixed_aux (n : Nat) : ∀ k a, (fixed k n).foldl (fun n c => n * 256 + c) a = a * 256 ^ k + n % 256 ^ k
  | 0, a => by simp [fixed, Nat.mod_one]
  | k + 1, a => by
    rw [fixed, List.foldl_cons, be_fixed_aux n k, Nat.pow_succ, Nat.add_mul, Nat.mul_assoc, Nat.mul_comm 256 (256 ^ k), Nat.mod_mul]
    rw [Nat.mul_comm (n / 256 ^ k % 256)]
    omega
theorem be_fixed (n : Nat) (h : n < 18446744073709551616) : be (fixed 8 n) = n := by
  have := be_fixed_aux n 8 0
  simp only [be, this]
  simp; omega
theorem fixed_length (n : Nat) : ∀ k, (fixed k n).length = k
  | 0 => rfl
  | k + 1 => by simp [fixed, fixed_length n k]
theorem fixed_byte' (n : Nat) : ∀ k, ∀ b ∈ fixed k n, b < 256
  | 0, b, h => by simp [fixed] at h
  | k + 1, b, h => by
    simp only [fixed, List.mem_cons] at h
    rcases h with rfl | h
    · exact Nat.mod_lt _ (by omega)
    · exact fixed_byte' n k b h
theorem float_rd (r B x : Nat) (rest : List Nat) (w : World) (h : Rd w r B (fixed 8 x ++ rest)) (hx : x < 18446744073709551616) (hp : plainF x = x) :
    Calls Try.prog 81 #[.pointer (some ⟨r, 0, none⟩)] w fun e w' => e = .returned (.float .f64 x) ∧ Rd w' r B rest ∧ But r w w' := by
  have hfx := Lib.hid (fixed_rd r B (fixed 8 x) rest w 8 (by rw [fixed_length]; rfl) h (fixed_byte' x 8) (by rw [fixed_length]; omega))
  rw [be_fixed x hx] at hfx
  have hbits := Lib.hid (fun w => bits_of x w hx)
  rw [hp] at hbits
  have h1 := @call_frombits
  clear h
  go_enter Try.func81, Try.ntmps81
  go_wp2_with (first
    | (go_at_call 125; refine hfx.out.mono ?_; rintro e w' ⟨rfl, hr2, hb2⟩; have HR := Lib.hid hr2; clear hr2)
    | (go_at_call 62; refine (ready_of r B rest _ HR.out).mono ?_; rintro e w' ⟨rfl, rfl⟩)
    | (go_at_call 124; refine (hbits.out _).mono ?_; rintro e w' ⟨rfl, rfl⟩))
  go_ret
  exact ⟨rfl, HR.out, hb2⟩

theorem left_of (r B : Nat) (xs : List Nat) (w : World) (h : Rd w r B xs) : Calls Try.prog 20 #[.pointer (some ⟨r, 0, none⟩)] w fun e w' => e = .returned (.int .i64 (xs.length : Int)) ∧ w = w' := by
  have hrd := Lib.hid (ready_of r B xs w h)
  obtain ⟨p, c, h⟩ := h
  have c1 := h.c1
  clear h
  go_enter Try.func20, Try.ntmps20
  go_wp2_with (go_at_call 62; refine hrd.out.mono ?_; rintro e w' ⟨rfl, rfl⟩)
  go_ret
  exact ⟨rfl, rfl⟩
end Go.Proofs.Ytlcdjaclahhdnaa
