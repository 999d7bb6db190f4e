/- The reader's bounded numbers, signed numbers and texts. -/
import Derived.Test.YtlcdjaclahhdnaaRead3
namespace Go.Proofs.Ytlcdjaclahhdnaa
open Go.RowKit
set_option linter.unusedSimpArgs false
set_option linter.unusedVariables false

theorem uint_rd (r B n most : Nat) (rest : List Nat) (w : World) (h : Rd w r B (putUint n ++ rest)) (hn : n < 18446744073709551616) (hm : n ≤ most) :
    Calls Try.prog 112 #[.pointer (some ⟨r, 0, none⟩), .int .u64 (most : Int)] w fun e w' => e = .returned (.int .u64 (n : Int)) ∧ Rd w' r B rest ∧ But r w w' := by
  have hrd := Lib.hid (ready_of r B _ w h)
  have hnr := Lib.hid (number_rd r B n rest w h hn)
  have h1 : ¬ ((most : Int) < (n : Int)) := by omega
  clear h
  go_enter Try.func112, Try.ntmps112
  go_wp2_with (first
    | (go_at_call 62; refine hrd.out.mono ?_; rintro e w' ⟨rfl, rfl⟩)
    | (go_at_call 149; refine hnr.out.mono ?_; rintro e w' ⟨rfl, hr2, hb2⟩))
  go_ret
  exact ⟨rfl, hr2, hb2⟩

theorem int_rd (r B : Nat) (n : Int) (rest : List Nat) (w : World) (h : Rd w r B (putUint (zig n) ++ rest)) (h1 : -9223372036854775808 ≤ n) (h2 : n ≤ 9223372036854775807) :
    Calls Try.prog 80 #[.pointer (some ⟨r, 0, none⟩)] w fun e w' => e = .returned (.int .i64 n) ∧ Rd w' r B rest ∧ But r w w' := by
  have hz := zig_lt h1 h2
  have hur := Lib.hid (uint_rd r B (zig n) 18446744073709551615 rest w h hz (by omega))
  have hand : bits BinOp.and IntKind.u64 (zig n : Int) 1 = ((zig n % 2 : Nat) : Int) := by
    rw [← Nat.and_one_is_mod]; exact u64_and_nat (zig n) 1 hz (by omega)
  have hnot := u64_not (zig n / 2) (by omega)
  clear h
  by_cases hn : n < 0
  · have e : zig n = (-2 * n - 1).toNat := by unfold zig; rw [if_pos hn]
    have e1 : zig n % 2 = 1 := by omega
    have e2 : ((zig n / 2 : Nat) : Int) = -n - 1 := by omega
    have e3 : ((zig n : Nat) : Int) / 2 = -n - 1 := by omega
    rw [e2] at hnot
    have hdec : (bits BinOp.and IntKind.u64 (zig n : Int) 1 == 1) = true := by rw [hand, e1]; rfl
    clear hand
    generalize zig n = u at *
    have E := Lib.hid e; clear e e1 e2
    go_enter Try.func80, Try.ntmps80
    go_wp2_with (go_at_call 112; refine hur.out.mono ?_; rintro e w' ⟨rfl, hr2, hb2⟩)
    go_ret
    refine ⟨?_, hr2, hb2⟩
    show Ending.returned (Value.int _ _) = _
    congr 2
    first | omega | (simp [wrap64, IntKind.wrap, IntKind.bits, IntKind.signed]; omega)
  · have e : zig n = (2 * n).toNat := by unfold zig; rw [if_neg hn]
    have e1 : zig n % 2 = 0 := by omega
    have e3 : ((zig n : Nat) : Int) / 2 = n := by omega
    have hdec : (bits BinOp.and IntKind.u64 (zig n : Int) 1 == 1) = false := by rw [hand, e1]; rfl
    clear hand
    generalize zig n = u at *
    have E := Lib.hid e; clear e e1 hnot
    go_enter Try.func80, Try.ntmps80
    go_wp2_with (go_at_call 112; refine hur.out.mono ?_; rintro e w' ⟨rfl, hr2, hb2⟩)
    go_ret
    refine ⟨?_, hr2, hb2⟩
    show Ending.returned (Value.int _ _) = _
    first | rfl | (congr 2; omega)

theorem strOf_text (s : ByteArray) : strOfNums ((textB s).map fun (b : Nat) => (b : Int)) = s := by
  unfold strOfNums textB
  simp [List.map_map, Function.comp_def]
theorem text_run (w : World) (B p c : Nat) (s : ByteArray) (h : At w B p (bv (textB s))) : (convert 28 9 (.slice (some ⟨B, p, none⟩) s.size c)).run Try.prog w = .ok (.string s) w := by
  have hr := run_convert_bytes_arg (P := Try.prog) w 28 5 Try.underlying28 Try.underlying5 B p s.size c ((textB s).map fun (b : Nat) => (b : Int)) (by simp [textB_length]) (fun i hi => by
    have hi' : i < (textB s).length := by rw [textB_length]; exact hi
    exact h.get i (.int .u8 (((textB s).map fun (b : Nat) => (b : Int)).getD i 0)) (by simp [bv, List.getElem?_map, List.getElem?_eq_getElem hi'])) 9 Try.underlying9
  rw [strOf_text] at hr
  exact hr

theorem text_rd (r B : Nat) (s : ByteArray) (rest : List Nat) (w : World) (h : Rd w r B (putText s ++ rest)) (hs : s.size ≤ 64) :
    Calls Try.prog 82 #[.pointer (some ⟨r, 0, none⟩), .int .i64 64] w fun e w' => e = .returned (.string s) ∧ Rd w' r B rest ∧ But r w w' := by
  unfold putText at h
  rw [List.append_assoc] at h
  have hur := Lib.hid (uint_rd r B s.size 64 _ w h (by omega) hs)
  have hsz : (s.size : Int) ≤ 64 := by omega
  clear h hs
  go_enter Try.func82, Try.ntmps82
  go_wp2_with (first
    | (go_at_call 112; refine hur.out.mono ?_; rintro e w' ⟨rfl, hr2, hb2⟩; have HR := Lib.hid hr2; have HB := Lib.hid hb2; clear hr2 hb2)
    | (go_at_call 62; refine (ready_of r B _ _ HR.out).mono ?_; rintro e w' ⟨rfl, rfl⟩)
    | (go_at_call 127; have htk := take_of r B _ rest _ HR.out; rw [textB_length] at htk; refine htk.mono ?_; rintro e w' ⟨p, c, rfl, hc, hat, hr2, hb2⟩; have hcv := text_run _ _ _ c _ hat; clear hat htk))
  go_ret
  exact ⟨rfl, hr2, HB.out.trans hb2⟩
end Go.Proofs.Ytlcdjaclahhdnaa
