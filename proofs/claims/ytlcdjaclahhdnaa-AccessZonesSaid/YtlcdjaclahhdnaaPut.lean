/- The calls of package codec's writers and of value.Put, and the bytes that they put. -/
import Derived.Test.YtlcdjaclahhdnaaWr
import Derived.Test.YtlcdjaclahhdnaaVal3
import Derived.Laws.BitsAllLaws
import Derived.Lib.AppendStr
namespace Go.Proofs.Ytlcdjaclahhdnaa
open Go.RowKit
set_option linter.unusedSimpArgs false
set_option linter.unusedVariables false

/-- Bytes as cells. -/
def bv (l : List Nat) : List Value := l.map fun (b : Nat) => .int .u8 (b : Int)
theorem bv_length (l : List Nat) : (bv l).length = l.length := by simp [bv]
theorem bv_append (l m : List Nat) : bv (l ++ m) = bv l ++ bv m := by simp [bv]
theorem bv_one (l : List Nat) : ∀ u ∈ bv l, u.oneCell' = true := by
  intro u hu
  simp [bv] at hu
  obtain ⟨b, _, rfl⟩ := hu
  rfl
/-- A slice of the call's own that holds bytes. -/
def OwnB (w : World) (base : Nat) (v : Value) (l : List Nat) : Prop := w.ownsRow base 5 1 v l.length (bv l)
theorem OwnB.ext {w w' : World} {base : Nat} {v : Value} {l : List Nat} (h : OwnB w base v l) (he : Ext w w') : OwnB w' base v l := owns_ext h he
theorem OwnB.alloc {w : World} {base : Nat} {v : Value} {l : List Nat} (h : OwnB w base v l) (o : Obj) : OwnB (w.alloc o) base v l := h.ext ((Ext.refl w).alloc o)
theorem OwnB.set {w : World} {base : Nat} {v : Value} {l : List Nat} {p : Addr} {u : Value} (hn : NotT 5 w p.block) (h : OwnB w base v l) : OwnB (w.setCell p u) base v l := by
  obtain ⟨t, m, hs, ht⟩ := hn; exact owns_set h u hs ht
theorem OwnB.ext_ {w w' : World} {base : Nat} {v : Value} {l : List Nat} (he : Ext w w') (h : OwnB w base v l) : OwnB w' base v l := h.ext he
theorem OwnB.nil (w : World) (base : Nat) : OwnB w base (.slice none 0 0) [] := ⟨by simp [bv], .inl ⟨rfl, rfl⟩⟩
theorem info_u8 : (Try.prog.info? 5).map (fun i => (i.zero, i.size, i.bytes)) = some (some (.int .u8 0), 1, 1) := by kernel_rfl

theorem OwnB.lt {w : World} {base : Nat} {v : Value} {l : List Nat} (h : OwnB w base v l) (k : Nat) (hk : v.ownBlock = some k) : base ≤ k ∧ k < w.heap.size := World.ownsRow.lt h k hk
/-- 'append(b, c)', c a byte. -/
theorem wpList_byte {w : World} {ops : Array Oper} {rest : List Oper} {o : Oper} {a : Act} {Q : Exit → Act → World → Prop} (hgd : o.guard = none) (s x : Operand)
    (ho : o.op = .call { callee := .builtin .append, args := #[s, x], argTypes := #[28, 28] })
    {base : Nat} {v : Value} {l : List Nat} (hs : a.eval s = v) (hown : OwnB w base v l) (c : Int) (m : Nat) {g : Nat} (hx : a.eval x = .slice (some ⟨g, 0, none⟩) 1 1) (hg : g = w.heap.size) (hc : c = (m : Int))
    (hl : l.length ≤ 1000000000000) (hbase : base ≤ w.heap.size)
    (h : ∀ v' w', OwnB w' base v' (l ++ [m]) → Wr 5 base w w' → wpList Try.prog ops Q rest (a.put o.dst v') w') : wpList Try.prog ops Q (o :: rest) a (w.alloc (.cells #[.int .u8 c] 5)) := by
  subst hc; subst hg
  refine wpList_add hgd s x 28 ho Try.underlying28 info_u8 rfl (by omega) hs (hown.alloc _) w.heap.size 0 1 1 (bv [m]) hx rfl ?_ (bv_one _) (by omega) (by omega) (by simp; omega) fun v' w' ho' hw' => ?_
  · simp [At, bv, go_sem]
  · refine h v' w' ?_ (Wr.trans (Wr.of_ext ((Ext.refl w).alloc _)) hw')
    unfold OwnB
    rw [bv_append, List.length_append]
    exact ho'

/-- A number, seven bits a byte. -/
def pu : Nat → Nat → List Nat
  | 0, n => [n]
  | k + 1, n => if n < 128 then [n] else (n % 128 + 128) :: pu k (n / 128)
def putUint (n : Nat) : List Nat := pu 9 n
theorem pu_small {k n : Nat} (h : n < 128) : pu k n = [n] := by cases k <;> simp [pu, h]
theorem pu_big {k n : Nat} (h : ¬ n < 128) : pu (k + 1) n = (n % 128 + 128) :: pu k (n / 128) := by simp [pu, h]
theorem or_128 (m : Nat) : bits BinOp.or IntKind.u8 ((m : Int) % 256) 128 = ((m % 128 + 128 : Nat) : Int) := by
  have h : ∀ m : Fin 256, bits BinOp.or IntKind.u8 ((m.val : Nat) : Int) 128 = ((m.val % 128 + 128 : Nat) : Int) := by decide +kernel
  have := h ⟨m % 256, Nat.mod_lt _ (by decide)⟩
  simp only at this
  rw [show ((m : Int) % 256) = ((m % 256 : Nat) : Int) from by omega, this]
  congr 2; omega

set_option maxHeartbeats 1000000 in
theorem putUint_of (v : Value) (l : List Nat) (n : Nat) (base : Nat) (w : World) (hown : OwnB w base v l) (hbase : base ≤ w.heap.size) (hl : l.length ≤ 1000000000) (hn : n < 18446744073709551616) :
    Calls Try.prog 57 #[v, .int .u64 (n : Int)] w fun e w' => ∃ v', e = .returned v' ∧ OwnB w' base v' (l ++ putUint n) ∧ Wr 5 base w w' := by
  go_enter Try.func57, Try.ntmps57
  go_wp2
  go_loopw [0, 1] (fun b x wr => ∃ (pre : List Nat) (m k : Nat), x = .int .u64 (m : Int) ∧ OwnB wr base b (l ++ pre) ∧ Wr 5 base w wr ∧ pre ++ pu k m = pu 9 n ∧ m < 2 * 128 ^ k ∧ pre.length + k = 9) (fun _ x _ => (intOf x).toNat)
  case atStart => exact ⟨[], n, 9, rfl, by simpa using hown, Wr.refl _ _ _, rfl, by simpa using hn, rfl⟩
  case round =>
    rename_i hrel
    obtain ⟨pre, m, k, rfl, ho, hw, hp, hm, hk⟩ := hrel
    have hsz := hw.size
    by_cases hlt : m < 128
    · have hlt' : ¬ ((128 : Int) ≤ (m : Int)) := by omega
      have hpu := Lib.hid hp; clear hp
      go_wp2_with (at_builtin; refine wpList_byte rfl (.tmp 15) (.tmp 18) rfl rfl ho _ m rfl rfl ?_ (by simp; omega) (by omega) ?_; (focus first | rfl | omega); intro v' w' ho' hw')
      go_ret
      refine ⟨v', rfl, ?_, hw.trans hw'⟩
      have e : l ++ putUint n = l ++ pre ++ [m] := by rw [List.append_assoc]; congr 1; show pu 9 n = _; rw [← hpu.out, pu_small hlt]
      rw [e]; exact ho'
    · have hlt' : (128 : Int) ≤ (m : Int) := by omega
      obtain ⟨k, rfl⟩ : ∃ j, k = j + 1 := ⟨k - 1, by cases k with | zero => omega | succ k => rfl⟩
      have hpu := Lib.hid hp; clear hp
      have HM := Lib.hid hm; clear hm
      go_wp2_with (at_builtin; refine wpList_byte rfl (.tmp 7) (.tmp 11) rfl rfl ho _ (m % 128 + 128) rfl rfl ?_ (by simp; omega) (by omega) ?_; (focus exact or_128 _); intro v' w' ho' hw')
      refine ⟨⟨pre ++ [m % 128 + 128], m / 128, k, by rw [show ((m : Int) / 128) = ((m / 128 : Nat) : Int) from by omega], by rw [← List.append_assoc]; exact ho', hw.trans hw', ?_, ?_, by simp; omega⟩, by simp [intOf]; omega⟩
      · rw [← hpu.out, pu_big hlt]; simp
      · have := HM.out; rw [Nat.pow_succ] at this; omega

/-- A number with a sign, as one without. -/
def zig (n : Int) : Nat := if n < 0 then (-2 * n - 1).toNat else (2 * n).toNat
theorem zig_lt {n : Int} (h1 : -9223372036854775808 ≤ n) (h2 : n ≤ 9223372036854775807) : zig n < 18446744073709551616 := by unfold zig; split <;> omega
theorem u64_not (a : Nat) (ha : a < 18446744073709551616) : bits .xor .u64 IntKind.u64.max (a : Int) = 18446744073709551615 - (a : Int) := by
  show IntKind.u64.wrap ((BitVec.ofInt 64 18446744073709551615 ^^^ BitVec.ofInt 64 (a : Int)).toNat : Int) = _
  have h1 : BitVec.ofInt 64 18446744073709551615 = BitVec.allOnes 64 := by decide
  rw [h1, BitVec.allOnes_xor, BitVec.toNat_not, ofInt_u64 a (by omega)]
  simp [IntKind.wrap, IntKind.bits, IntKind.signed]
  omega
theorem u64_wrap (n : Int) : IntKind.u64.wrap n = n % 18446744073709551616 := rfl
theorem zig_neg {n : Int} (h1 : -9223372036854775808 ≤ n) (h : n < 0) : bits BinOp.xor IntKind.u64 IntKind.u64.max (IntKind.u64.wrap (IntKind.u64.wrap n * 2)) = ((zig n : Nat) : Int) := by
  rw [u64_wrap, u64_wrap]
  obtain ⟨a, ha⟩ : ∃ a : Nat, n % 18446744073709551616 * 2 % 18446744073709551616 = (a : Int) := ⟨(n % 18446744073709551616 * 2 % 18446744073709551616).toNat, by omega⟩
  rw [ha, u64_not a (by omega)]
  unfold zig; rw [if_pos h]; omega
theorem zig_pos {n : Int} (h : 0 ≤ n) : n * 2 = ((zig n : Nat) : Int) := by
  unfold zig; rw [if_neg (by omega)]; omega
set_option maxHeartbeats 400000 in
theorem putInt_of (v : Value) (l : List Nat) (n : Int) (base : Nat) (w : World) (hown : OwnB w base v l) (hbase : base ≤ w.heap.size) (hl : l.length ≤ 1000000000) (h1 : -9223372036854775808 ≤ n) (h2 : n ≤ 9223372036854775807) :
    Calls Try.prog 74 #[v, .int .i64 n] w fun e w' => ∃ v', e = .returned v' ∧ OwnB w' base v' (l ++ putUint (zig n)) ∧ Wr 5 base w w' := by
  have hz := zig_lt h1 h2
  by_cases hn : n < 0
  · have hq := Lib.hid (zig_neg h1 hn)
    go_enter Try.func74, Try.ntmps74
    go_wp2_with fail
    rw [hq.out]
    refine (putUint_of v l _ base _ hown hbase hl hz).mono ?_
    rintro e w' ⟨v', rfl, ho, hw⟩
    go_wp2_with fail
    go_ret
    exact ⟨v', rfl, ho, hw⟩
  · have hn' : 0 ≤ n := by omega
    have hq := Lib.hid (zig_pos hn')
    go_enter Try.func74, Try.ntmps74
    go_wp2_with fail
    rw [hq.out]
    refine (putUint_of v l _ base _ hown hbase hl hz).mono ?_
    rintro e w' ⟨v', rfl, ho, hw⟩
    go_wp2_with fail
    go_ret
    exact ⟨v', rfl, ho, hw⟩

theorem bits_of (x : Nat) (w : World) (hx : x < 18446744073709551616) : Calls Try.prog 124 #[.float .f64 x] w fun e w' => e = .returned (.int .u64 ((plainF x : Nat) : Int)) ∧ w = w' := by
  have h1 := @call_bits
  have h2 := isNaN_order hx
  have h3 := order_zero hx
  cases hn : isNaN x
  · cases hz : isZ x
    · have e : plainF x = x := by simp [plainF, hn, hz]
      rw [e]
      have h3' : (FloatKind.f64.format.order x 0 == some .eq) = false := h3.trans hz
      rw [hn] at h2
      clear h3
      go_enter Try.func124, Try.ntmps124
      go_wp2
      go_ret
      exact ⟨rfl, rfl⟩
    · have e : plainF x = 0 := by simp [plainF, hn, hz]
      rw [e]
      have h3' : (FloatKind.f64.format.order x 0 == some .eq) = true := h3.trans hz
      rw [hn] at h2
      clear h3
      go_enter Try.func124, Try.ntmps124
      go_wp2
      go_ret
      exact ⟨rfl, rfl⟩
  · have e : plainF x = 9221120237041090561 := by simp [plainF, hn]
    rw [e]; rw [hn] at h2
    clear h3
    go_enter Try.func124, Try.ntmps124
    go_wp2
    go_ret
    exact ⟨rfl, rfl⟩

/-- A number in eight bytes, the greatest first. -/
def fixed : Nat → Nat → List Nat
  | 0, _ => []
  | k + 1, n => (n / 256 ^ k % 256) :: fixed k n
theorem shr_byte (n j : Nat) : (n : Int) / 2 ^ (8 * j) % 256 = ((n / 256 ^ j % 256 : Nat) : Int) := by
  rw [show (256 : Nat) ^ j = 2 ^ (8 * j) from by rw [Nat.pow_mul]]
  simp
set_option maxHeartbeats 1000000 in
theorem putFixed_of (v : Value) (l : List Nat) (n : Nat) (base : Nat) (w : World) (hown : OwnB w base v l) (hbase : base ≤ w.heap.size) (hl : l.length ≤ 1000000000) (hn : n < 18446744073709551616) :
    Calls Try.prog 123 #[v, .int .u64 (n : Int), .int .i64 8] w fun e w' => ∃ v', e = .returned v' ∧ OwnB w' base v' (l ++ fixed 8 n) ∧ Wr 5 base w w' := by
  go_enter Try.func123, Try.ntmps123
  go_wp2
  go_loopw [0, 7] (fun b x wr => ∃ (pre : List Nat) (j : Nat), x = .int .i64 ((j : Int) - 1) ∧ OwnB wr base b (l ++ pre) ∧ Wr 5 base w wr ∧ pre ++ fixed j n = fixed 8 n ∧ pre.length + j = 8) (fun _ x _ => (intOf x + 1).toNat)
  case atStart => exact ⟨[], 8, rfl, by simpa using hown, Wr.refl _ _ _, rfl, rfl⟩
  case round =>
    rename_i hrel
    obtain ⟨pre, j, rfl, ho, hw, hp, hj⟩ := hrel
    have hsz := hw.size
    have hpu := Lib.hid hp; clear hp
    cases j with
    | zero =>
      have hlt : ¬ ((0 : Int) ≤ ((0 : Nat) : Int) - 1) := by omega
      go_wp2
      go_ret
      refine ⟨_, rfl, ?_, hw⟩
      rw [← hpu.out]; simpa [fixed] using ho
    | succ j =>
      rw [show (((j + 1 : Nat) : Int) - 1) = (j : Int) from by omega]
      have hlt : (0 : Int) ≤ (j : Int) := by omega
      go_wp2_with (at_builtin; refine wpList_byte rfl (.tmp 16) (.tmp 23) rfl rfl ho _ (n / 256 ^ j % 256) rfl rfl ?_ (by simp; omega) (by omega) ?_; (focus exact shr_byte _ _); intro v' w' ho' hw')
      refine ⟨⟨pre ++ [n / 256 ^ j % 256], j, rfl, by rw [← List.append_assoc]; exact ho', hw.trans hw', ?_, by simp; omega⟩, by simp [intOf]⟩
      rw [← hpu.out]; simp [fixed]
theorem putFloat_of (v : Value) (l : List Nat) (x : Nat) (base : Nat) (w : World) (hown : OwnB w base v l) (hbase : base ≤ w.heap.size) (hl : l.length ≤ 1000000000) (hx : x < 18446744073709551616) :
    Calls Try.prog 75 #[v, .float .f64 x] w fun e w' => ∃ v', e = .returned v' ∧ OwnB w' base v' (l ++ fixed 8 (plainF x)) ∧ Wr 5 base w w' := by
  have hp := plainF_lt hx
  go_enter Try.func75, Try.ntmps75
  go_wp2_with (first | (go_at_call 124; refine (bits_of x _ hx).mono ?_; rintro e w' ⟨rfl, rfl⟩) | (go_at_call 123; refine (putFixed_of v l _ base _ hown hbase hl hp).mono ?_; rintro e w' ⟨v', rfl, ho, hw⟩))
  go_ret
  exact ⟨v', rfl, ho, hw⟩

/-- A text's bytes. -/
def textB (s : ByteArray) : List Nat := s.data.toList.map UInt8.toNat
theorem textB_length (s : ByteArray) : (textB s).length = s.size := by simp [textB]
theorem bv_text (s : ByteArray) : Lib.strCells s = bv (textB s) := by
  simp [Lib.strCells, bv, textB, List.map_map, Function.comp_def]
/-- 'append(b, s...)', s a text. -/
theorem wpList_text {w : World} {ops : Array Oper} {rest : List Oper} {o : Oper} {a : Act} {Q : Exit → Act → World → Prop} (hgd : o.guard = none) (s x : Operand)
    (ho : o.op = .call { callee := .builtin .append, args := #[s, x], argTypes := #[28, 9] })
    {base : Nat} {v : Value} {l : List Nat} (hs : a.eval s = v) (hown : OwnB w base v l) (t : ByteArray) (hx : a.eval x = .string t)
    (hl : l.length ≤ 1000000000000) (ht : t.size ≤ 1000000000000) (hbase : base ≤ w.heap.size)
    (h : ∀ v' w', OwnB w' base v' (l ++ textB t) → Wr 5 base w w' → wpList Try.prog ops Q rest (a.put o.dst v') w') : wpList Try.prog ops Q (o :: rest) a w := by
  obtain ⟨i, hi1, hi2⟩ := Option.map_eq_some_iff.1 info_u8
  simp only [Prod.mk.injEq] at hi2
  refine Lib.wpList_append_own_string (w := w) hgd s x 28 9 ho base 5 i Try.underlying28 Try.underlying9 hi1 hi2.1 hi2.2.1 hi2.2.2 v l.length (bv l) hs hown t hx (by unfold maxLen; omega) (by omega) hbase fun v' w' ho' hg' _ => h v' w' ?_ (Wr.grown hown hg')
  unfold OwnB
  rw [bv_append, List.length_append, textB_length, ← bv_text]
  exact ho'

def putText (s : ByteArray) : List Nat := putUint s.size ++ textB s
theorem pu_length (k n : Nat) : (pu k n).length ≤ k + 1 := by
  induction k generalizing n with
  | zero => simp [pu]
  | succ k ih =>
    unfold pu; split
    · simp
    · have := ih (n / 128); simp; omega
theorem putUint_length (n : Nat) : (putUint n).length ≤ 10 := pu_length 9 n
set_option maxHeartbeats 400000 in
theorem putText_of (v : Value) (l : List Nat) (s : ByteArray) (base : Nat) (w : World) (hown : OwnB w base v l) (hbase : base ≤ w.heap.size) (hl : l.length ≤ 1000000000) (hs : s.size ≤ 64) :
    Calls Try.prog 76 #[v, .string s] w fun e w' => ∃ v', e = .returned v' ∧ OwnB w' base v' (l ++ putText s) ∧ Wr 5 base w w' := by
  have h64 : s.size < 18446744073709551616 := by omega
  have h63 : (s.size : Int) ≤ 64 := by omega
  have hpl := putUint_length s.size
  go_enter Try.func76, Try.ntmps76
  go_wp2_with fail
  refine (putUint_of v l _ base _ hown hbase hl h64).mono ?_
  rintro e w' ⟨v', rfl, ho, hw⟩
  have hsz := hw.size
  go_wp2_with (at_builtin; refine wpList_text rfl (.tmp 9) (.tmp 10) rfl rfl ho s rfl (by simp; omega) (by omega) (by omega) ?_; intro v2 w2 ho2 hw2)
  go_ret
  refine ⟨v2, rfl, ?_, hw.trans hw2⟩
  unfold putText
  rw [← List.append_assoc]; exact ho2

end Go.Proofs.Ytlcdjaclahhdnaa
