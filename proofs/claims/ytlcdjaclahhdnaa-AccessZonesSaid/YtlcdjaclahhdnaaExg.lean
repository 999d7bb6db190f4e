/- The calls of tabularyref03.Bits, tabularyref04.Exact (of any two values). Printed by wip/tools/gen_exg.py. -/
import Derived.Test.YtlcdjaclahhdnaaR4
import Derived.Test.YtlcdjaclahhdnaaLike
import Derived.Test.YtlcdjaclahhdnaaQ
namespace Go.Proofs.Ytlcdjaclahhdnaa
open Go.RowKit
set_option linter.unusedSimpArgs false
set_option linter.unusedVariables false
attribute [local irreducible] wpQuiet

def bitsG (x : Nat) : Nat := if isNaN x = true then 9221120237041090561 else if isZ x = true then 0 else x
set_option maxHeartbeats 1000000 in
theorem gbits_of (x : Nat) (w : World) (hx : x < 18446744073709551616) :
    Calls Try.prog 90 #[.float .f64 x] w fun e w' => e = .returned (.int .u64 (bitsG x : Int)) ∧ w = w' := by
  have hn := isNaN_order hx
  have hz := order_zero hx
  have hb := call_bits x
  unfold bitsG isZ
  cases n : isNaN x
  · rw [n] at hn
    by_cases z : x = 0 ∨ x = 9223372036854775808
    · rw [decide_eq_true z] at hz ⊢
      go_enter Try.func90, Try.ntmps90
      go_wp2
      go_ret
      exact ⟨rfl, rfl⟩
    · rw [decide_eq_false z] at hz ⊢
      go_enter Try.func90, Try.ntmps90
      go_wp2
      go_ret
      exact ⟨rfl, rfl⟩
  · rw [n] at hn
    go_enter Try.func90, Try.ntmps90
    go_wp2
    go_ret
    exact ⟨rfl, rfl⟩
set_option maxRecDepth 100000 in
set_option maxHeartbeats 4000000 in
theorem exg0 (k k' n n' : Int) (x y : Nat) (t t' : ByteArray) (hne : ¬ k = k') (w : World) :
    Calls Try.prog 32 #[.agg #[.int .i64 k, .int .i64 n, .float .f64 x, .string t], .agg #[.int .i64 k', .int .i64 n', .float .f64 y, .string t']] w fun e w' => e = .returned (.bool false) ∧ Ext w w' := by
  have z1 : (k == k') = false := by simpa using hne
  have z2 := decide_eq_false hne
  have hb0 : BoxAt ((w.alloc (.cells #[.int .i64 k, .int .i64 n, .float .f64 x, .string t] 24)).alloc (.cells #[.int .i64 k', .int .i64 n', .float .f64 y, .string t'] 24)) w.heap.size [.int .i64 k, .int .i64 n, .float .f64 x, .string t] := (BoxAt.new rfl rfl).ext ((Ext.refl _).alloc _)
  have hb1 : BoxAt ((w.alloc (.cells #[.int .i64 k, .int .i64 n, .float .f64 x, .string t] 24)).alloc (.cells #[.int .i64 k', .int .i64 n', .float .f64 y, .string t'] 24)) (w.heap.size + 1) [.int .i64 k', .int .i64 n', .float .f64 y, .string t'] := BoxAt.new (by simp) rfl
  have HB0 := Lib.hid hb0; have HB1 := Lib.hid hb1
  have HE := Lib.hid (((Ext.refl w).alloc (.cells #[.int .i64 k, .int .i64 n, .float .f64 x, .string t] 24)).alloc (.cells #[.int .i64 k', .int .i64 n', .float .f64 y, .string t'] 24))
  clear hb0 hb1
  go_enter Try.func32, Try.ntmps32
  go_wp2_with fail
  refine wp_region_ext (by kernel_rfl) (by kernel_rfl) ?_; (repeat (first | (refine quiet_cell2 (.tmp 5) rfl rfl Try.underlying3 rfl rfl (fun w' hw => (HB0.out.ext hw).cells.get 0 _ rfl) ?_) | (refine quiet_cell2 (.tmp 7) rfl rfl Try.underlying3 rfl rfl (fun w' hw => (HB1.out.ext hw).cells.get 0 _ rfl) ?_) | (refine wpQuiet_step (fun K hK => ?_); go_simp; first | (refine hK _ ?_; clear hK K) | (refine ⟨_, fun w hw => rfl, hK _ ?_⟩; clear hK K)))); refine wpQuiet_nil ?_
  intro w6 hw6
  go_wp2_with fail
  go_ret
  exact ⟨rfl, HE.out.trans hw6⟩
set_option maxRecDepth 100000 in
set_option maxHeartbeats 4000000 in
theorem exg1 (k n n' : Int) (x y : Nat) (t t' : ByteArray) (hne : ¬ n = n') (w : World) :
    Calls Try.prog 32 #[.agg #[.int .i64 k, .int .i64 n, .float .f64 x, .string t], .agg #[.int .i64 k, .int .i64 n', .float .f64 y, .string t']] w fun e w' => e = .returned (.bool false) ∧ Ext w w' := by
  have z1 : (n == n') = false := by simpa using hne
  have z2 := decide_eq_false hne
  have hb0 : BoxAt ((w.alloc (.cells #[.int .i64 k, .int .i64 n, .float .f64 x, .string t] 24)).alloc (.cells #[.int .i64 k, .int .i64 n', .float .f64 y, .string t'] 24)) w.heap.size [.int .i64 k, .int .i64 n, .float .f64 x, .string t] := (BoxAt.new rfl rfl).ext ((Ext.refl _).alloc _)
  have hb1 : BoxAt ((w.alloc (.cells #[.int .i64 k, .int .i64 n, .float .f64 x, .string t] 24)).alloc (.cells #[.int .i64 k, .int .i64 n', .float .f64 y, .string t'] 24)) (w.heap.size + 1) [.int .i64 k, .int .i64 n', .float .f64 y, .string t'] := BoxAt.new (by simp) rfl
  have HB0 := Lib.hid hb0; have HB1 := Lib.hid hb1
  have HE := Lib.hid (((Ext.refl w).alloc (.cells #[.int .i64 k, .int .i64 n, .float .f64 x, .string t] 24)).alloc (.cells #[.int .i64 k, .int .i64 n', .float .f64 y, .string t'] 24))
  clear hb0 hb1
  go_enter Try.func32, Try.ntmps32
  go_wp2_with fail
  refine wp_region_ext (by kernel_rfl) (by kernel_rfl) ?_; (repeat (first | (refine quiet_cell2 (.tmp 5) rfl rfl Try.underlying3 rfl rfl (fun w' hw => (HB0.out.ext hw).cells.get 0 _ rfl) ?_) | (refine quiet_cell2 (.tmp 7) rfl rfl Try.underlying3 rfl rfl (fun w' hw => (HB1.out.ext hw).cells.get 0 _ rfl) ?_) | (refine quiet_cell2 (.tmp 11) rfl rfl Try.underlying2 rfl rfl (fun w' hw => (HB0.out.ext hw).cells.get 1 _ rfl) ?_) | (refine quiet_cell2 (.tmp 13) rfl rfl Try.underlying2 rfl rfl (fun w' hw => (HB1.out.ext hw).cells.get 1 _ rfl) ?_) | (refine wpQuiet_step (fun K hK => ?_); go_simp; first | (refine hK _ ?_; clear hK K) | (refine ⟨_, fun w hw => rfl, hK _ ?_⟩; clear hK K)))); refine wpQuiet_nil ?_
  intro w6 hw6
  go_wp2_with fail
  go_ret
  exact ⟨rfl, HE.out.trans hw6⟩
set_option maxRecDepth 100000 in
set_option maxHeartbeats 4000000 in
theorem exg2 (k n : Int) (x y : Nat) (t t' : ByteArray) (hne : ¬ t.toList = t'.toList) (w : World) :
    Calls Try.prog 32 #[.agg #[.int .i64 k, .int .i64 n, .float .f64 x, .string t], .agg #[.int .i64 k, .int .i64 n, .float .f64 y, .string t']] w fun e w' => e = .returned (.bool false) ∧ Ext w w' := by
  have z1 : (t.toList == t'.toList) = false := by simpa using hne
  have z2 := decide_eq_false hne
  have hb0 : BoxAt ((w.alloc (.cells #[.int .i64 k, .int .i64 n, .float .f64 x, .string t] 24)).alloc (.cells #[.int .i64 k, .int .i64 n, .float .f64 y, .string t'] 24)) w.heap.size [.int .i64 k, .int .i64 n, .float .f64 x, .string t] := (BoxAt.new rfl rfl).ext ((Ext.refl _).alloc _)
  have hb1 : BoxAt ((w.alloc (.cells #[.int .i64 k, .int .i64 n, .float .f64 x, .string t] 24)).alloc (.cells #[.int .i64 k, .int .i64 n, .float .f64 y, .string t'] 24)) (w.heap.size + 1) [.int .i64 k, .int .i64 n, .float .f64 y, .string t'] := BoxAt.new (by simp) rfl
  have HB0 := Lib.hid hb0; have HB1 := Lib.hid hb1
  have HE := Lib.hid (((Ext.refl w).alloc (.cells #[.int .i64 k, .int .i64 n, .float .f64 x, .string t] 24)).alloc (.cells #[.int .i64 k, .int .i64 n, .float .f64 y, .string t'] 24))
  clear hb0 hb1
  go_enter Try.func32, Try.ntmps32
  go_wp2_with fail
  refine wp_region_ext (by kernel_rfl) (by kernel_rfl) ?_; (repeat (first | (refine quiet_cell2 (.tmp 5) rfl rfl Try.underlying3 rfl rfl (fun w' hw => (HB0.out.ext hw).cells.get 0 _ rfl) ?_) | (refine quiet_cell2 (.tmp 7) rfl rfl Try.underlying3 rfl rfl (fun w' hw => (HB1.out.ext hw).cells.get 0 _ rfl) ?_) | (refine quiet_cell2 (.tmp 11) rfl rfl Try.underlying2 rfl rfl (fun w' hw => (HB0.out.ext hw).cells.get 1 _ rfl) ?_) | (refine quiet_cell2 (.tmp 13) rfl rfl Try.underlying2 rfl rfl (fun w' hw => (HB1.out.ext hw).cells.get 1 _ rfl) ?_) | (refine quiet_cell2 (.tmp 18) rfl rfl Try.underlying9 rfl rfl (fun w' hw => (HB0.out.ext hw).cells.get 3 _ rfl) ?_) | (refine quiet_cell2 (.tmp 20) rfl rfl Try.underlying9 rfl rfl (fun w' hw => (HB1.out.ext hw).cells.get 3 _ rfl) ?_) | (refine wpQuiet_step (fun K hK => ?_); go_simp; first | (refine hK _ ?_; clear hK K) | (refine ⟨_, fun w hw => rfl, hK _ ?_⟩; clear hK K)))); refine wpQuiet_nil ?_
  intro w6 hw6
  go_wp2_with fail
  go_ret
  exact ⟨rfl, HE.out.trans hw6⟩
set_option maxRecDepth 100000 in
set_option maxHeartbeats 4000000 in
theorem exg3 (k n : Int) (x y p q : Nat) (t t' : ByteArray) (ht : t.toList = t'.toList) (hne : ¬ (p : Int) = (q : Int)) (w : World) (H1 : Hid (∀ w, Calls Try.prog 90 #[.float .f64 x] w fun e w' => e = .returned (.int .u64 (p : Int)) ∧ w = w')) (H2 : Hid (∀ w, Calls Try.prog 90 #[.float .f64 y] w fun e w' => e = .returned (.int .u64 (q : Int)) ∧ w = w')) :
    Calls Try.prog 32 #[.agg #[.int .i64 k, .int .i64 n, .float .f64 x, .string t], .agg #[.int .i64 k, .int .i64 n, .float .f64 y, .string t']] w fun e w' => e = .returned (.bool false) ∧ Ext w w' := by
  have z0 : (t.toList == t'.toList) = true := by simpa using ht
  have z1 : ((p : Int) == (q : Int)) = false := by simpa using hne
  have z2 := decide_eq_false hne
  have hb0 : BoxAt ((w.alloc (.cells #[.int .i64 k, .int .i64 n, .float .f64 x, .string t] 24)).alloc (.cells #[.int .i64 k, .int .i64 n, .float .f64 y, .string t'] 24)) w.heap.size [.int .i64 k, .int .i64 n, .float .f64 x, .string t] := (BoxAt.new rfl rfl).ext ((Ext.refl _).alloc _)
  have hb1 : BoxAt ((w.alloc (.cells #[.int .i64 k, .int .i64 n, .float .f64 x, .string t] 24)).alloc (.cells #[.int .i64 k, .int .i64 n, .float .f64 y, .string t'] 24)) (w.heap.size + 1) [.int .i64 k, .int .i64 n, .float .f64 y, .string t'] := BoxAt.new (by simp) rfl
  have HB0 := Lib.hid hb0; have HB1 := Lib.hid hb1
  have HE := Lib.hid (((Ext.refl w).alloc (.cells #[.int .i64 k, .int .i64 n, .float .f64 x, .string t] 24)).alloc (.cells #[.int .i64 k, .int .i64 n, .float .f64 y, .string t'] 24))
  clear hb0 hb1
  go_enter Try.func32, Try.ntmps32
  go_wp2_with fail
  refine wp_region_ext (by kernel_rfl) (by kernel_rfl) ?_; (repeat (first | (refine quiet_cell2 (.tmp 5) rfl rfl Try.underlying3 rfl rfl (fun w' hw => (HB0.out.ext hw).cells.get 0 _ rfl) ?_) | (refine quiet_cell2 (.tmp 7) rfl rfl Try.underlying3 rfl rfl (fun w' hw => (HB1.out.ext hw).cells.get 0 _ rfl) ?_) | (refine quiet_cell2 (.tmp 11) rfl rfl Try.underlying2 rfl rfl (fun w' hw => (HB0.out.ext hw).cells.get 1 _ rfl) ?_) | (refine quiet_cell2 (.tmp 13) rfl rfl Try.underlying2 rfl rfl (fun w' hw => (HB1.out.ext hw).cells.get 1 _ rfl) ?_) | (refine quiet_cell2 (.tmp 18) rfl rfl Try.underlying9 rfl rfl (fun w' hw => (HB0.out.ext hw).cells.get 3 _ rfl) ?_) | (refine quiet_cell2 (.tmp 20) rfl rfl Try.underlying9 rfl rfl (fun w' hw => (HB1.out.ext hw).cells.get 3 _ rfl) ?_) | (refine quiet_cell2 (.tmp 25) rfl rfl Try.underlying22 rfl rfl (fun w' hw => (HB0.out.ext hw).cells.get 2 _ rfl) ?_) | (refine quiet_cell2 (.tmp 28) rfl rfl Try.underlying22 rfl rfl (fun w' hw => (HB1.out.ext hw).cells.get 2 _ rfl) ?_) | (refine wpQuiet_step (fun K hK => ?_); go_simp; first | (refine hK _ ?_; clear hK K) | (refine ⟨_, fun w hw => rfl, hK _ ?_⟩; clear hK K) | (apply Exists.intro; refine ⟨fun w hw => ?_, hK _ ?_⟩; (focus first | (go_at_call 90; with_reducible exact (H1.out _).mono fun _ _ ⟨h1, h2⟩ => ⟨h1, h2 ▸ hw⟩) | (go_at_call 90; with_reducible exact (H2.out _).mono fun _ _ ⟨h1, h2⟩ => ⟨h1, h2 ▸ hw⟩)); clear hK K)))); refine wpQuiet_nil ?_
  intro w6 hw6
  go_wp2_with fail
  go_ret
  exact ⟨rfl, HE.out.trans hw6⟩
set_option maxRecDepth 100000 in
set_option maxHeartbeats 4000000 in
theorem exg4 (k n : Int) (x y q : Nat) (t t' : ByteArray) (ht : t.toList = t'.toList) (z z' : Bool) (w : World) (H1 : Hid (∀ w, Calls Try.prog 90 #[.float .f64 x] w fun e w' => e = .returned (.int .u64 (q : Int)) ∧ w = w')) (H2 : Hid (∀ w, Calls Try.prog 90 #[.float .f64 y] w fun e w' => e = .returned (.int .u64 (q : Int)) ∧ w = w')) (H3 : Hid (∀ w, Calls Try.prog 91 #[.float .f64 x] w fun e w' => e = .returned (.bool z) ∧ w = w')) (H4 : Hid (∀ w, Calls Try.prog 91 #[.float .f64 y] w fun e w' => e = .returned (.bool z') ∧ w = w')) :
    Calls Try.prog 32 #[.agg #[.int .i64 k, .int .i64 n, .float .f64 x, .string t], .agg #[.int .i64 k, .int .i64 n, .float .f64 y, .string t']] w fun e w' => e = .returned (.bool (z == z')) ∧ Ext w w' := by
  have z0 : (t.toList == t'.toList) = true := by simpa using ht
  have hb0 : BoxAt ((w.alloc (.cells #[.int .i64 k, .int .i64 n, .float .f64 x, .string t] 24)).alloc (.cells #[.int .i64 k, .int .i64 n, .float .f64 y, .string t'] 24)) w.heap.size [.int .i64 k, .int .i64 n, .float .f64 x, .string t] := (BoxAt.new rfl rfl).ext ((Ext.refl _).alloc _)
  have hb1 : BoxAt ((w.alloc (.cells #[.int .i64 k, .int .i64 n, .float .f64 x, .string t] 24)).alloc (.cells #[.int .i64 k, .int .i64 n, .float .f64 y, .string t'] 24)) (w.heap.size + 1) [.int .i64 k, .int .i64 n, .float .f64 y, .string t'] := BoxAt.new (by simp) rfl
  have HB0 := Lib.hid hb0; have HB1 := Lib.hid hb1
  have HE := Lib.hid (((Ext.refl w).alloc (.cells #[.int .i64 k, .int .i64 n, .float .f64 x, .string t] 24)).alloc (.cells #[.int .i64 k, .int .i64 n, .float .f64 y, .string t'] 24))
  clear hb0 hb1
  go_enter Try.func32, Try.ntmps32
  go_wp2_with fail
  refine wp_region_ext (by kernel_rfl) (by kernel_rfl) ?_; (repeat (first | (refine quiet_cell2 (.tmp 5) rfl rfl Try.underlying3 rfl rfl (fun w' hw => (HB0.out.ext hw).cells.get 0 _ rfl) ?_) | (refine quiet_cell2 (.tmp 7) rfl rfl Try.underlying3 rfl rfl (fun w' hw => (HB1.out.ext hw).cells.get 0 _ rfl) ?_) | (refine quiet_cell2 (.tmp 11) rfl rfl Try.underlying2 rfl rfl (fun w' hw => (HB0.out.ext hw).cells.get 1 _ rfl) ?_) | (refine quiet_cell2 (.tmp 13) rfl rfl Try.underlying2 rfl rfl (fun w' hw => (HB1.out.ext hw).cells.get 1 _ rfl) ?_) | (refine quiet_cell2 (.tmp 18) rfl rfl Try.underlying9 rfl rfl (fun w' hw => (HB0.out.ext hw).cells.get 3 _ rfl) ?_) | (refine quiet_cell2 (.tmp 20) rfl rfl Try.underlying9 rfl rfl (fun w' hw => (HB1.out.ext hw).cells.get 3 _ rfl) ?_) | (refine quiet_cell2 (.tmp 25) rfl rfl Try.underlying22 rfl rfl (fun w' hw => (HB0.out.ext hw).cells.get 2 _ rfl) ?_) | (refine quiet_cell2 (.tmp 28) rfl rfl Try.underlying22 rfl rfl (fun w' hw => (HB1.out.ext hw).cells.get 2 _ rfl) ?_) | (refine quiet_cell2 (.tmp 34) rfl rfl Try.underlying22 rfl rfl (fun w' hw => (HB0.out.ext hw).cells.get 2 _ rfl) ?_) | (refine quiet_cell2 (.tmp 37) rfl rfl Try.underlying22 rfl rfl (fun w' hw => (HB1.out.ext hw).cells.get 2 _ rfl) ?_) | (refine wpQuiet_step (fun K hK => ?_); go_simp; first | (refine hK _ ?_; clear hK K) | (refine ⟨_, fun w hw => rfl, hK _ ?_⟩; clear hK K) | (apply Exists.intro; refine ⟨fun w hw => ?_, hK _ ?_⟩; (focus first | (go_at_call 90; with_reducible exact (H1.out _).mono fun _ _ ⟨h1, h2⟩ => ⟨h1, h2 ▸ hw⟩) | (go_at_call 90; with_reducible exact (H2.out _).mono fun _ _ ⟨h1, h2⟩ => ⟨h1, h2 ▸ hw⟩) | (go_at_call 91; with_reducible exact (H3.out _).mono fun _ _ ⟨h1, h2⟩ => ⟨h1, h2 ▸ hw⟩) | (go_at_call 91; with_reducible exact (H4.out _).mono fun _ _ ⟨h1, h2⟩ => ⟨h1, h2 ▸ hw⟩)); clear hK K)))); refine wpQuiet_nil ?_
  intro w6 hw6
  go_wp2_with fail
  go_ret
  exact ⟨rfl, HE.out.trans hw6⟩
/-- Alike in all fields, as the document has it. -/
def exactV (a b : Val) : Bool := if a.kind = b.kind ∧ a.int = b.int ∧ a.text.toList = b.text.toList ∧ bitsG a.flt = bitsG b.flt then decide (a.flt = 0) == decide (b.flt = 0) else false
theorem exactV_self (a : Val) : exactV a a = true := by unfold exactV; rw [if_pos ⟨rfl, rfl, rfl, rfl⟩]; simp
theorem exactV_like {a b : Val} (h : a.like b) : exactV a b = true := by
  obtain ⟨h1, h2, h3, h4⟩ := h
  have e1 : bitsG a.flt = bitsG b.flt := by
    rcases h4 with h4 | ⟨h4, h5⟩
    · rw [h4]
    · unfold bitsG; rw [if_pos h4, if_pos h5]
  have e2 : decide (a.flt = 0) = decide (b.flt = 0) := by
    rcases h4 with h4 | ⟨h4, h5⟩
    · rw [h4]
    · rw [decide_eq_false (nan_ne h4).1, decide_eq_false (nan_ne h5).1]
  unfold exactV; rw [if_pos ⟨h1, h2, by rw [h3], e1⟩, e2]; simp
theorem exactg_of (a b : Val) (w : World) (hfa : a.flt < 18446744073709551616) (hfb : b.flt < 18446744073709551616) :
    Calls Try.prog 32 #[.agg #[.int .i64 a.kind, .int .i64 a.int, .float .f64 a.flt, .string a.text], .agg #[.int .i64 b.kind, .int .i64 b.int, .float .f64 b.flt, .string b.text]] w fun e w' => e = .returned (.bool (exactV a b)) ∧ Ext w w' := by
  obtain ⟨k, n, x, t⟩ := a
  obtain ⟨k', n', y, t'⟩ := b
  unfold exactV
  dsimp only at hfa hfb ⊢
  by_cases h1 : k = k'
  · subst h1
    by_cases h2 : n = n'
    · subst h2
      by_cases h3 : t.toList = t'.toList
      · by_cases h4 : bitsG x = bitsG y
        · rw [if_pos ⟨rfl, rfl, h3, h4⟩]
          exact exg4 k n x y (bitsG x) t t' h3 _ _ w (Lib.hid fun w => gbits_of x w hfa) (Lib.hid fun w => h4 ▸ gbits_of y w hfb) (Lib.hid fun w => zero_of x w hfa) (Lib.hid fun w => zero_of y w hfb)
        · rw [if_neg fun h => h4 h.2.2.2]
          exact exg3 k n x y (bitsG x) (bitsG y) t t' h3 (fun h => h4 (by omega)) w (Lib.hid fun w => gbits_of x w hfa) (Lib.hid fun w => gbits_of y w hfb)
      · rw [if_neg fun h => h3 h.2.2.1]
        exact exg2 k n x y t t' h3 w
    · rw [if_neg fun h => h2 h.2.1]
      exact exg1 k n n' x y t t' h2 w
  · rw [if_neg fun h => h1 h.1]
    exact exg0 k k' n n' x y t t' h1 w
end Go.Proofs.Ytlcdjaclahhdnaa
