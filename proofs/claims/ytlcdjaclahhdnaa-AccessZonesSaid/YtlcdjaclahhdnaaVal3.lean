/- The calls of value.Cmp and value.Same, and of the small makers of values. -/
import Derived.Test.YtlcdjaclahhdnaaVal2
namespace Go.Proofs.Ytlcdjaclahhdnaa
open Go.RowKit
set_option linter.unusedSimpArgs false
set_option linter.unusedVariables false

theorem right_of (v : Val) (w : World) (hx : v.flt < 18446744073709551616) :
    Calls Try.prog 27 #[.agg #[.int .i64 v.kind, .int .i64 v.int, .float .f64 v.flt, .string v.text]] w fun e w' => e = .returned (.bool v.right) ∧ Ext w w' := right_calls v.kind v.int v.flt v.text w hx
theorem plain_of (v : Val) (w : World) (hx : v.flt < 18446744073709551616) :
    Calls Try.prog 25 #[.agg #[.int .i64 v.kind, .int .i64 v.int, .float .f64 v.flt, .string v.text]] w fun e w' => e = .returned v.plain.enc ∧ Ext w w' := plain_calls v.kind v.int v.flt v.text w hx

theorem Val.plain_flt {v : Val} (hx : v.flt < 18446744073709551616) : v.plain.flt < 18446744073709551616 := by
  unfold Val.plain; split
  · split
    · exact plainF_lt hx
    · exact hx
  · decide

def Val.cmp (a b : Val) : Int :=
  if a.plain.kind = b.plain.kind then
    (if a.plain.kind = 3 then fcmp a.plain.flt b.plain.flt else if a.plain.kind = 4 then scmp a.plain.text b.plain.text else icmp a.plain.int b.plain.int)
  else icmp a.plain.kind b.plain.kind

theorem Val.cmp_bounds (a b : Val) : -1 ≤ a.cmp b ∧ a.cmp b ≤ 1 := by
  have h1 : ∀ x y, -1 ≤ icmp x y ∧ icmp x y ≤ 1 := by intro x y; unfold icmp; split <;> (try split) <;> omega
  unfold Val.cmp
  split
  · split
    · unfold fcmp; split
      · split <;> omega
      · split
        · omega
        · exact h1 _ _
    · split
      · unfold scmp; split <;> (try split) <;> omega
      · exact h1 _ _
  · exact h1 _ _

set_option maxHeartbeats 1000000 in
theorem cmp_core (a b p q : Val) (w : World) (ha : a.flt < 18446744073709551616) (hb : b.flt < 18446744073709551616) (hp : Hid (p = a.plain)) (hq : Hid (q = b.plain)) :
    Calls Try.prog 22 #[.agg #[.int .i64 a.kind, .int .i64 a.int, .float .f64 a.flt, .string a.text], .agg #[.int .i64 b.kind, .int .i64 b.int, .float .f64 b.flt, .string b.text]] w
      fun e w' => e = .returned (.int .i64 (a.cmp b)) ∧ Ext w w' := by
  have hpf : p.flt < 18446744073709551616 := by rw [hp.out]; exact Val.plain_flt ha
  have hqf : q.flt < 18446744073709551616 := by rw [hq.out]; exact Val.plain_flt hb
  have hap : ∀ w, Calls Try.prog 25 #[.agg #[.int .i64 a.kind, .int .i64 a.int, .float .f64 a.flt, .string a.text]] w fun e w' => e = .returned p.enc ∧ Ext w w' := by
    rw [hp.out]; exact fun w => plain_of a w ha
  have hbq : ∀ w, Calls Try.prog 25 #[.agg #[.int .i64 b.kind, .int .i64 b.int, .float .f64 b.flt, .string b.text]] w fun e w' => e = .returned q.enc ∧ Ext w w' := by
    rw [hq.out]; exact fun w => plain_of b w hb
  have HA := Lib.hid hap; have HB := Lib.hid hbq; clear hap hbq
  have hfin : Hid (a.cmp b = if p.kind = q.kind then (if p.kind = 3 then fcmp p.flt q.flt else if p.kind = 4 then scmp p.text q.text else icmp p.int q.int) else icmp p.kind q.kind) := by
    rw [hp.out, hq.out]; rfl
  go_enter Try.func22, Try.ntmps22
  go_wp2_with fail
  go_region_with (go_at_call 25; (first | (with_reducible refine (HA.out _).mono ?_) | (with_reducible refine (HB.out _).mono ?_)); rintro e w' ⟨rfl, hb⟩; obtain ⟨c0, f0, l0⟩ := hb.at_ w.heap.size (by first | omega | (simp; done) | (simp; omega) | (simp at *; omega)); obtain ⟨c1, f1, l1⟩ := hb.at_ (w.heap.size + 1) (by first | omega | (simp; done) | (simp; omega) | (simp at *; omega)))
  all_goals
    go_wp2_with (first | (go_at_call 70; refine (cmp_int _ _ _).mono ?_; rintro e w' ⟨rfl, rfl⟩) | (go_at_call 73; refine (cmp_int64 _ _ _).mono ?_; rintro e w' ⟨rfl, rfl⟩) | (go_at_call 72; refine (cmp_string _ _ _).mono ?_; rintro e w' ⟨rfl, rfl⟩) | (go_at_call 71; refine (floats_calls _ _ _ (by assumption) (by assumption)).mono ?_; rintro e w' ⟨rfl, rfl⟩))
    all_goals
      go_ret
      refine ⟨ret_int ?_, ?_⟩
      · rw [hfin.out]; go_tidy; simp_all
      · repeat (first | (with_reducible exact Ext.refl _) | (with_reducible refine Ext.set_ ?_ _ ?_; focus (first | (simp; done) | (simp; omega) | (simp at *; omega))) | (with_reducible refine Ext.alloc ?_ _) | (with_reducible refine Ext.drew ?_) | (with_reducible refine Ext.drewN ?_ _) | (with_reducible refine Ext.trans ?_ (by assumption)))
end Go.Proofs.Ytlcdjaclahhdnaa
