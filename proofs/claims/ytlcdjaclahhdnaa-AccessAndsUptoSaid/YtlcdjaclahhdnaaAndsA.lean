/- The calls of tabularyref03.Bits, tabularyref04.Exact (of any two values). Printed by wip/tools/gen_exg.py. The calls of tabularyref05.Exact, Lists, tabularyref26.Same: rows, lists of rows, lists of tuples, alike in all fields. Printed by wip/tools/gen_alls.py. AccessAnds, plain: what is passed over tells nothing; rows one behind the other; with one condition more no tuple more. Printed by wip/tools/gen_andsp.py. Appends of whole slices to rows of the call's own; what lies there then: expressions, rows, tuples. Printed by wip/tools/gen_andsm.py. -/
import Derived.Test.YtlcdjaclahhdnaaR4
import Derived.Test.YtlcdjaclahhdnaaLike
import Derived.Test.YtlcdjaclahhdnaaQ
import Derived.Test.YtlcdjaclahhdnaaSafeA
import Derived.Test.YtlcdjaclahhdnaaPassA
import Derived.Test.YtlcdjaclahhdnaaW22
import Derived.Laws.OwnMore
import Derived.Laws.AppendOwn
import Derived.Deep.Slices
namespace Go.Proofs.Ytlcdjaclahhdnaa
open Go.RowKit
set_option linter.unusedSimpArgs false
set_option linter.unusedVariables false
attribute [local irreducible] wpQuiet

def bitsG (x : Nat) : Nat := if isNaN x = true then 9221120237041090561 else if isZ x = true then 0 else x
set_option maxHeartbeats 1000000 in
theorem gbits_of (x : Nat) (w : World) (hx : x < 18446744073709551616) :
    Calls Try.prog 90 #[.float .f64 x] w fun e w' => e = .returned (.int .u64 (bitsG x : Int)) ∧ w = w' := by
  have hn := isNaN_order hx
  have hz := order_zero hx
  have hb := call_bits x
  unfold bitsG isZ
  cases n : isNaN x
  · rw [n] at hn
    by_cases z : x = 0 ∨ x = 9223372036854775808
    · rw [decide_eq_true z] at hz ⊢
      go_enter Try.func90, Try.ntmps90
      go_wp2
      go_ret
      exact ⟨rfl, rfl⟩
    · rw [decide_eq_false z] at hz ⊢
      go_enter Try.func90, Try.ntmps90
      go_wp2
      go_ret
      exact ⟨rfl, rfl⟩
  · rw [n] at hn
    go_enter Try.func90, Try.ntmps90
    go_wp2
    go_ret
    exact ⟨rfl, rfl⟩
set_option maxRecDepth 100000 in
set_option maxHeartbeats 4000000 in
theorem exg0 (k k' n n' : Int) (x y : Nat) (t t' : ByteArray) (hne : ¬ k = k') (w : World) :
    Calls Try.prog 32 #[.agg #[.int .i64 k, .int .i64 n, .float .f64 x, .string t], .agg #[.int .i64 k', .int .i64 n', .float .f64 y, .string t']] w fun e w' => e = .returned (.bool false) ∧ Ext w w' := by
  have z1 : (k == k') = false := by simpa using hne
  have z2 := decide_eq_false hne
  have hb0 : BoxAt ((w.alloc (.cells #[.int .i64 k, .int .i64 n, .float .f64 x, .string t] 24)).alloc (.cells #[.int .i64 k', .int .i64 n', .float .f64 y, .string t'] 24)) w.heap.size [.int .i64 k, .int .i64 n, .float .f64 x, .string t] := (BoxAt.new rfl rfl).ext ((Ext.refl _).alloc _)
  have hb1 : BoxAt ((w.alloc (.cells #[.int .i64 k, .int .i64 n, .float .f64 x, .string t] 24)).alloc (.cells #[.int .i64 k', .int .i64 n', .float .f64 y, .string t'] 24)) (w.heap.size + 1) [.int .i64 k', .int .i64 n', .float .f64 y, .string t'] := BoxAt.new (by simp) rfl
  have HB0 := Lib.hid hb0; have HB1 := Lib.hid hb1
  have HE := Lib.hid (((Ext.refl w).alloc (.cells #[.int .i64 k, .int .i64 n, .float .f64 x, .string t] 24)).alloc (.cells #[.int .i64 k', .int .i64 n', .float .f64 y, .string t'] 24))
  clear hb0 hb1
  go_enter Try.func32, Try.ntmps32
  go_wp2_with fail
  refine wp_region_ext (by kernel_rfl) (by kernel_rfl) ?_; (repeat (first | (refine quiet_cell2 (.tmp 5) rfl rfl Try.underlying3 rfl rfl (fun w' hw => (HB0.out.ext hw).cells.get 0 _ rfl) ?_) | (refine quiet_cell2 (.tmp 7) rfl rfl Try.underlying3 rfl rfl (fun w' hw => (HB1.out.ext hw).cells.get 0 _ rfl) ?_) | (refine wpQuiet_step (fun K hK => ?_); go_simp; first | (refine hK _ ?_; clear hK K) | (refine ⟨_, fun w hw => rfl, hK _ ?_⟩; clear hK K)))); refine wpQuiet_nil ?_
  intro w6 hw6
  go_wp2_with fail
  go_ret
  exact ⟨rfl, HE.out.trans hw6⟩
set_option maxRecDepth 100000 in
set_option maxHeartbeats 4000000 in
theorem exg1 (k n n' : Int) (x y : Nat) (t t' : ByteArray) (hne : ¬ n = n') (w : World) :
    Calls Try.prog 32 #[.agg #[.int .i64 k, .int .i64 n, .float .f64 x, .string t], .agg #[.int .i64 k, .int .i64 n', .float .f64 y, .string t']] w fun e w' => e = .returned (.bool false) ∧ Ext w w' := by
  have z1 : (n == n') = false := by simpa using hne
  have z2 := decide_eq_false hne
  have hb0 : BoxAt ((w.alloc (.cells #[.int .i64 k, .int .i64 n, .float .f64 x, .string t] 24)).alloc (.cells #[.int .i64 k, .int .i64 n', .float .f64 y, .string t'] 24)) w.heap.size [.int .i64 k, .int .i64 n, .float .f64 x, .string t] := (BoxAt.new rfl rfl).ext ((Ext.refl _).alloc _)
  have hb1 : BoxAt ((w.alloc (.cells #[.int .i64 k, .int .i64 n, .float .f64 x, .string t] 24)).alloc (.cells #[.int .i64 k, .int .i64 n', .float .f64 y, .string t'] 24)) (w.heap.size + 1) [.int .i64 k, .int .i64 n', .float .f64 y, .string t'] := BoxAt.new (by simp) rfl
  have HB0 := Lib.hid hb0; have HB1 := Lib.hid hb1
  have HE := Lib.hid (((Ext.refl w).alloc (.cells #[.int .i64 k, .int .i64 n, .float .f64 x, .string t] 24)).alloc (.cells #[.int .i64 k, .int .i64 n', .float .f64 y, .string t'] 24))
  clear hb0 hb1
  go_enter Try.func32, Try.ntmps32
  go_wp2_with fail
  refine wp_region_ext (by kernel_rfl) (by kernel_rfl) ?_; (repeat (first | (refine quiet_cell2 (.tmp 5) rfl rfl Try.underlying3 rfl rfl (fun w' hw => (HB0.out.ext hw).cells.get 0 _ rfl) ?_) | (refine quiet_cell2 (.tmp 7) rfl rfl Try.underlying3 rfl rfl (fun w' hw => (HB1.out.ext hw).cells.get 0 _ rfl) ?_) | (refine quiet_cell2 (.tmp 11) rfl rfl Try.underlying2 rfl rfl (fun w' hw => (HB0.out.ext hw).cells.get 1 _ rfl) ?_) | (refine quiet_cell2 (.tmp 13) rfl rfl Try.underlying2 rfl rfl (fun w' hw => (HB1.out.ext hw).cells.get 1 _ rfl) ?_) | (refine wpQuiet_step (fun K hK => ?_); go_simp; first | (refine hK _ ?_; clear hK K) | (refine ⟨_, fun w hw => rfl, hK _ ?_⟩; clear hK K)))); refine wpQuiet_nil ?_
  intro w6 hw6
  go_wp2_with fail
  go_ret
  exact ⟨rfl, HE.out.trans hw6⟩
set_option maxRecDepth 100000 in
set_option maxHeartbeats 4000000 in
theorem exg2 (k n : Int) (x y : Nat) (t t' : ByteArray) (hne : ¬ t.toList = t'.toList) (w : World) :
    Calls Try.prog 32 #[.agg #[.int .i64 k, .int .i64 n, .float .f64 x, .string t], .agg #[.int .i64 k, .int .i64 n, .float .f64 y, .string t']] w fun e w' => e = .returned (.bool false) ∧ Ext w w' := by
  have z1 : (t.toList == t'.toList) = false := by simpa using hne
  have z2 := decide_eq_false hne
  have hb0 : BoxAt ((w.alloc (.cells #[.int .i64 k, .int .i64 n, .float .f64 x, .string t] 24)).alloc (.cells #[.int .i64 k, .int .i64 n, .float .f64 y, .string t'] 24)) w.heap.size [.int .i64 k, .int .i64 n, .float .f64 x, .string t] := (BoxAt.new rfl rfl).ext ((Ext.refl _).alloc _)
  have hb1 : BoxAt ((w.alloc (.cells #[.int .i64 k, .int .i64 n, .float .f64 x, .string t] 24)).alloc (.cells #[.int .i64 k, .int .i64 n, .float .f64 y, .string t'] 24)) (w.heap.size + 1) [.int .i64 k, .int .i64 n, .float .f64 y, .string t'] := BoxAt.new (by simp) rfl
  have HB0 := Lib.hid hb0; have HB1 := Lib.hid hb1
  have HE := Lib.hid (((Ext.refl w).alloc (.cells #[.int .i64 k, .int .i64 n, .float .f64 x, .string t] 24)).alloc (.cells #[.int .i64 k, .int .i64 n, .float .f64 y, .string t'] 24))
  clear hb0 hb1
  go_enter Try.func32, Try.ntmps32
  go_wp2_with fail
  refine wp_region_ext (by kernel_rfl) (by kernel_rfl) ?_; (repeat (first | (refine quiet_cell2 (.tmp 5) rfl rfl Try.underlying3 rfl rfl (fun w' hw => (HB0.out.ext hw).cells.get 0 _ rfl) ?_) | (refine quiet_cell2 (.tmp 7) rfl rfl Try.underlying3 rfl rfl (fun w' hw => (HB1.out.ext hw).cells.get 0 _ rfl) ?_) | (refine quiet_cell2 (.tmp 11) rfl rfl Try.underlying2 rfl rfl (fun w' hw => (HB0.out.ext hw).cells.get 1 _ rfl) ?_) | (refine quiet_cell2 (.tmp 13) rfl rfl Try.underlying2 rfl rfl (fun w' hw => (HB1.out.ext hw).cells.get 1 _ rfl) ?_) | (refine quiet_cell2 (.tmp 18) rfl rfl Try.underlying9 rfl rfl (fun w' hw => (HB0.out.ext hw).cells.get 3 _ rfl) ?_) | (refine quiet_cell2 (.tmp 20) rfl rfl Try.underlying9 rfl rfl (fun w' hw => (HB1.out.ext hw).cells.get 3 _ rfl) ?_) | (refine wpQuiet_step (fun K hK => ?_); go_simp; first | (refine hK _ ?_; clear hK K) | (refine ⟨_, fun w hw => rfl, hK _ ?_⟩; clear hK K)))); refine wpQuiet_nil ?_
  intro w6 hw6
  go_wp2_with fail
  go_ret
  exact ⟨rfl, HE.out.trans hw6⟩
set_option maxRecDepth 100000 in
set_option maxHeartbeats 4000000 in
theorem exg3 (k n : Int) (x y p q : Nat) (t t' : ByteArray) (ht : t.toList = t'.toList) (hne : ¬ (p : Int) = (q : Int)) (w : World) (H1 : Hid (∀ w, Calls Try.prog 90 #[.float .f64 x] w fun e w' => e = .returned (.int .u64 (p : Int)) ∧ w = w')) (H2 : Hid (∀ w, Calls Try.prog 90 #[.float .f64 y] w fun e w' => e = .returned (.int .u64 (q : Int)) ∧ w = w')) :
    Calls Try.prog 32 #[.agg #[.int .i64 k, .int .i64 n, .float .f64 x, .string t], .agg #[.int .i64 k, .int .i64 n, .float .f64 y, .string t']] w fun e w' => e = .returned (.bool false) ∧ Ext w w' := by
  have z0 : (t.toList == t'.toList) = true := by simpa using ht
  have z1 : ((p : Int) == (q : Int)) = false := by simpa using hne
  have z2 := decide_eq_false hne
  have hb0 : BoxAt ((w.alloc (.cells #[.int .i64 k, .int .i64 n, .float .f64 x, .string t] 24)).alloc (.cells #[.int .i64 k, .int .i64 n, .float .f64 y, .string t'] 24)) w.heap.size [.int .i64 k, .int .i64 n, .float .f64 x, .string t] := (BoxAt.new rfl rfl).ext ((Ext.refl _).alloc _)
  have hb1 : BoxAt ((w.alloc (.cells #[.int .i64 k, .int .i64 n, .float .f64 x, .string t] 24)).alloc (.cells #[.int .i64 k, .int .i64 n, .float .f64 y, .string t'] 24)) (w.heap.size + 1) [.int .i64 k, .int .i64 n, .float .f64 y, .string t'] := BoxAt.new (by simp) rfl
  have HB0 := Lib.hid hb0; have HB1 := Lib.hid hb1
  have HE := Lib.hid (((Ext.refl w).alloc (.cells #[.int .i64 k, .int .i64 n, .float .f64 x, .string t] 24)).alloc (.cells #[.int .i64 k, .int .i64 n, .float .f64 y, .string t'] 24))
  clear hb0 hb1
  go_enter Try.func32, Try.ntmps32
  go_wp2_with fail
  refine wp_region_ext (by kernel_rfl) (by kernel_rfl) ?_; (repeat (first | (refine quiet_cell2 (.tmp 5) rfl rfl Try.underlying3 rfl rfl (fun w' hw => (HB0.out.ext hw).cells.get 0 _ rfl) ?_) | (refine quiet_cell2 (.tmp 7) rfl rfl Try.underlying3 rfl rfl (fun w' hw => (HB1.out.ext hw).cells.get 0 _ rfl) ?_) | (refine quiet_cell2 (.tmp 11) rfl rfl Try.underlying2 rfl rfl (fun w' hw => (HB0.out.ext hw).cells.get 1 _ rfl) ?_) | (refine quiet_cell2 (.tmp 13) rfl rfl Try.underlying2 rfl rfl (fun w' hw => (HB1.out.ext hw).cells.get 1 _ rfl) ?_) | (refine quiet_cell2 (.tmp 18) rfl rfl Try.underlying9 rfl rfl (fun w' hw => (HB0.out.ext hw).cells.get 3 _ rfl) ?_) | (refine quiet_cell2 (.tmp 20) rfl rfl Try.underlying9 rfl rfl (fun w' hw => (HB1.out.ext hw).cells.get 3 _ rfl) ?_) | (refine quiet_cell2 (.tmp 25) rfl rfl Try.underlying22 rfl rfl (fun w' hw => (HB0.out.ext hw).cells.get 2 _ rfl) ?_) | (refine quiet_cell2 (.tmp 28) rfl rfl Try.underlying22 rfl rfl (fun w' hw => (HB1.out.ext hw).cells.get 2 _ rfl) ?_) | (refine wpQuiet_step (fun K hK => ?_); go_simp; first | (refine hK _ ?_; clear hK K) | (refine ⟨_, fun w hw => rfl, hK _ ?_⟩; clear hK K) | (apply Exists.intro; refine ⟨fun w hw => ?_, hK _ ?_⟩; (focus first | (go_at_call 90; with_reducible exact (H1.out _).mono fun _ _ ⟨h1, h2⟩ => ⟨h1, h2 ▸ hw⟩) | (go_at_call 90; with_reducible exact (H2.out _).mono fun _ _ ⟨h1, h2⟩ => ⟨h1, h2 ▸ hw⟩)); clear hK K)))); refine wpQuiet_nil ?_
  intro w6 hw6
  go_wp2_with fail
  go_ret
  exact ⟨rfl, HE.out.trans hw6⟩
set_option maxRecDepth 100000 in
set_option maxHeartbeats 4000000 in
theorem exg4 (k n : Int) (x y q : Nat) (t t' : ByteArray) (ht : t.toList = t'.toList) (z z' : Bool) (w : World) (H1 : Hid (∀ w, Calls Try.prog 90 #[.float .f64 x] w fun e w' => e = .returned (.int .u64 (q : Int)) ∧ w = w')) (H2 : Hid (∀ w, Calls Try.prog 90 #[.float .f64 y] w fun e w' => e = .returned (.int .u64 (q : Int)) ∧ w = w')) (H3 : Hid (∀ w, Calls Try.prog 91 #[.float .f64 x] w fun e w' => e = .returned (.bool z) ∧ w = w')) (H4 : Hid (∀ w, Calls Try.prog 91 #[.float .f64 y] w fun e w' => e = .returned (.bool z') ∧ w = w')) :
    Calls Try.prog 32 #[.agg #[.int .i64 k, .int .i64 n, .float .f64 x, .string t], .agg #[.int .i64 k, .int .i64 n, .float .f64 y, .string t']] w fun e w' => e = .returned (.bool (z == z')) ∧ Ext w w' := by
  have z0 : (t.toList == t'.toList) = true := by simpa using ht
  have hb0 : BoxAt ((w.alloc (.cells #[.int .i64 k, .int .i64 n, .float .f64 x, .string t] 24)).alloc (.cells #[.int .i64 k, .int .i64 n, .float .f64 y, .string t'] 24)) w.heap.size [.int .i64 k, .int .i64 n, .float .f64 x, .string t] := (BoxAt.new rfl rfl).ext ((Ext.refl _).alloc _)
  have hb1 : BoxAt ((w.alloc (.cells #[.int .i64 k, .int .i64 n, .float .f64 x, .string t] 24)).alloc (.cells #[.int .i64 k, .int .i64 n, .float .f64 y, .string t'] 24)) (w.heap.size + 1) [.int .i64 k, .int .i64 n, .float .f64 y, .string t'] := BoxAt.new (by simp) rfl
  have HB0 := Lib.hid hb0; have HB1 := Lib.hid hb1
  have HE := Lib.hid (((Ext.refl w).alloc (.cells #[.int .i64 k, .int .i64 n, .float .f64 x, .string t] 24)).alloc (.cells #[.int .i64 k, .int .i64 n, .float .f64 y, .string t'] 24))
  clear hb0 hb1
  go_enter Try.func32, Try.ntmps32
  go_wp2_with fail
  refine wp_region_ext (by kernel_rfl) (by kernel_rfl) ?_; (repeat (first | (refine quiet_cell2 (.tmp 5) rfl rfl Try.underlying3 rfl rfl (fun w' hw => (HB0.out.ext hw).cells.get 0 _ rfl) ?_) | (refine quiet_cell2 (.tmp 7) rfl rfl Try.underlying3 rfl rfl (fun w' hw => (HB1.out.ext hw).cells.get 0 _ rfl) ?_) | (refine quiet_cell2 (.tmp 11) rfl rfl Try.underlying2 rfl rfl (fun w' hw => (HB0.out.ext hw).cells.get 1 _ rfl) ?_) | (refine quiet_cell2 (.tmp 13) rfl rfl Try.underlying2 rfl rfl (fun w' hw => (HB1.out.ext hw).cells.get 1 _ rfl) ?_) | (refine quiet_cell2 (.tmp 18) rfl rfl Try.underlying9 rfl rfl (fun w' hw => (HB0.out.ext hw).cells.get 3 _ rfl) ?_) | (refine quiet_cell2 (.tmp 20) rfl rfl Try.underlying9 rfl rfl (fun w' hw => (HB1.out.ext hw).cells.get 3 _ rfl) ?_) | (refine quiet_cell2 (.tmp 25) rfl rfl Try.underlying22 rfl rfl (fun w' hw => (HB0.out.ext hw).cells.get 2 _ rfl) ?_) | (refine quiet_cell2 (.tmp 28) rfl rfl Try.underlying22 rfl rfl (fun w' hw => (HB1.out.ext hw).cells.get 2 _ rfl) ?_) | (refine quiet_cell2 (.tmp 34) rfl rfl Try.underlying22 rfl rfl (fun w' hw => (HB0.out.ext hw).cells.get 2 _ rfl) ?_) | (refine quiet_cell2 (.tmp 37) rfl rfl Try.underlying22 rfl rfl (fun w' hw => (HB1.out.ext hw).cells.get 2 _ rfl) ?_) | (refine wpQuiet_step (fun K hK => ?_); go_simp; first | (refine hK _ ?_; clear hK K) | (refine ⟨_, fun w hw => rfl, hK _ ?_⟩; clear hK K) | (apply Exists.intro; refine ⟨fun w hw => ?_, hK _ ?_⟩; (focus first | (go_at_call 90; with_reducible exact (H1.out _).mono fun _ _ ⟨h1, h2⟩ => ⟨h1, h2 ▸ hw⟩) | (go_at_call 90; with_reducible exact (H2.out _).mono fun _ _ ⟨h1, h2⟩ => ⟨h1, h2 ▸ hw⟩) | (go_at_call 91; with_reducible exact (H3.out _).mono fun _ _ ⟨h1, h2⟩ => ⟨h1, h2 ▸ hw⟩) | (go_at_call 91; with_reducible exact (H4.out _).mono fun _ _ ⟨h1, h2⟩ => ⟨h1, h2 ▸ hw⟩)); clear hK K)))); refine wpQuiet_nil ?_
  intro w6 hw6
  go_wp2_with fail
  go_ret
  exact ⟨rfl, HE.out.trans hw6⟩
/-- Alike in all fields, as the document has it. -/
def exactV (a b : Val) : Bool := if a.kind = b.kind ∧ a.int = b.int ∧ a.text.toList = b.text.toList ∧ bitsG a.flt = bitsG b.flt then decide (a.flt = 0) == decide (b.flt = 0) else false
theorem exactV_self (a : Val) : exactV a a = true := by unfold exactV; rw [if_pos ⟨rfl, rfl, rfl, rfl⟩]; simp
theorem exactV_like {a b : Val} (h : a.like b) : exactV a b = true := by
  obtain ⟨h1, h2, h3, h4⟩ := h
  have e1 : bitsG a.flt = bitsG b.flt := by
    rcases h4 with h4 | ⟨h4, h5⟩
    · rw [h4]
    · unfold bitsG; rw [if_pos h4, if_pos h5]
  have e2 : decide (a.flt = 0) = decide (b.flt = 0) := by
    rcases h4 with h4 | ⟨h4, h5⟩
    · rw [h4]
    · rw [decide_eq_false (nan_ne h4).1, decide_eq_false (nan_ne h5).1]
  unfold exactV; rw [if_pos ⟨h1, h2, by rw [h3], e1⟩, e2]; simp
theorem exactg_of (a b : Val) (w : World) (hfa : a.flt < 18446744073709551616) (hfb : b.flt < 18446744073709551616) :
    Calls Try.prog 32 #[.agg #[.int .i64 a.kind, .int .i64 a.int, .float .f64 a.flt, .string a.text], .agg #[.int .i64 b.kind, .int .i64 b.int, .float .f64 b.flt, .string b.text]] w fun e w' => e = .returned (.bool (exactV a b)) ∧ Ext w w' := by
  obtain ⟨k, n, x, t⟩ := a
  obtain ⟨k', n', y, t'⟩ := b
  unfold exactV
  dsimp only at hfa hfb ⊢
  by_cases h1 : k = k'
  · subst h1
    by_cases h2 : n = n'
    · subst h2
      by_cases h3 : t.toList = t'.toList
      · by_cases h4 : bitsG x = bitsG y
        · rw [if_pos ⟨rfl, rfl, h3, h4⟩]
          exact exg4 k n x y (bitsG x) t t' h3 _ _ w (Lib.hid fun w => gbits_of x w hfa) (Lib.hid fun w => h4 ▸ gbits_of y w hfb) (Lib.hid fun w => zero_of x w hfa) (Lib.hid fun w => zero_of y w hfb)
        · rw [if_neg fun h => h4 h.2.2.2]
          exact exg3 k n x y (bitsG x) (bitsG y) t t' h3 (fun h => h4 (by omega)) w (Lib.hid fun w => gbits_of x w hfa) (Lib.hid fun w => gbits_of y w hfb)
      · rw [if_neg fun h => h3 h.2.2.1]
        exact exg2 k n x y t t' h3 w
    · rw [if_neg fun h => h2 h.2.1]
      exact exg1 k n n' x y t t' h2 w
  · rw [if_neg fun h => h1 h.1]
    exact exg0 k k' n n' x y t t' h1 w
end Go.Proofs.Ytlcdjaclahhdnaa
namespace Go.Proofs.Ytlcdjaclahhdnaa
open Go.RowKit
set_option linter.unusedSimpArgs false
set_option linter.unusedVariables false
attribute [local irreducible] wpQuiet

def alls {α : Type} (f : α → α → Bool) : List α → List α → Bool
  | [], [] => true
  | a :: l, b :: m => f a b && alls f l m
  | _, _ => false
theorem alls_self {α : Type} {f : α → α → Bool} (h : ∀ x, f x x = true) : ∀ l : List α, alls f l l = true
  | [] => rfl
  | a :: l => by simp [alls, h a, alls_self h l]
theorem alls_len {α : Type} {f : α → α → Bool} : ∀ {l m : List α}, ¬ l.length = m.length → alls f l m = false
  | [], [], h => absurd rfl h
  | [], _ :: _, _ => rfl
  | _ :: _, [], _ => rfl
  | a :: l, b :: m, h => by
    simp only [alls]
    rw [alls_len (l := l) (m := m) (fun e => h (by simp [e]))]
    simp
theorem alls_drop {α : Type} {f : α → α → Bool} {l m : List α} {i : Nat} (hl : i < l.length) (hm : i < m.length) : alls f (l.drop i) (m.drop i) = (f l[i] m[i] && alls f (l.drop (i + 1)) (m.drop (i + 1))) := by
  rw [List.drop_eq_getElem_cons hl, List.drop_eq_getElem_cons hm, alls]
theorem alls_nil {α : Type} {f : α → α → Bool} {l m : List α} (h : l.length = m.length) : alls f (l.drop l.length) (m.drop l.length) = true := by
  rw [List.drop_length, h, List.drop_length]; rfl
/-- A slice of tuples: each a slice of rows. -/
structure TupsIn (w : World) (x : Value) (ts : List (List (List Val))) : Prop where
  val : ∃ A c, x = .slice A ts.length c ∧ ts.length ≤ c ∧ (ts ≠ [] → ∃ g o, A = some ⟨g, o, none⟩ ∧ ∀ i (hi : i < ts.length), ∃ s, w.cell? ⟨g, o + i, none⟩ = some s ∧ RowsIn w s ts[i])
  len : ts.length ≤ 9223372036854775807
theorem TupsIn.ext {w w' : World} {x : Value} {ts : List (List (List Val))} (he : Ext w w') (h : TupsIn w x ts) : TupsIn w' x ts := by
  obtain ⟨⟨A, c, h1, h2, h4⟩, h5⟩ := h
  refine ⟨⟨A, c, h1, h2, fun hn => ?_⟩, h5⟩
  obtain ⟨g, o, h6, h7⟩ := h4 hn
  refine ⟨g, o, h6, fun i hi => ?_⟩
  obtain ⟨s, h8, h9⟩ := h7 i hi
  exact ⟨s, (he.cell (cell_lt h8)).trans h8, h9.ext he⟩
theorem TupsIn.at_ {w : World} {A : Option Addr} {n c : Nat} {ts : List (List (List Val))} (h : TupsIn w (.slice A n c) ts) (i : Nat) (hi : i < ts.length) :
    ∃ g o B m cb, A = some ⟨g, o, none⟩ ∧ n = ts.length ∧ m = ts[i].length ∧ w.cell? ⟨g, o + i, none⟩ = some (.slice B m cb) ∧ RowsIn w (.slice B m cb) ts[i] := by
  obtain ⟨⟨A', c', h1, h2, h4⟩, h5⟩ := h
  have hn : ts ≠ [] := fun e => by subst e; simp at hi
  obtain ⟨g, o, rfl, h6⟩ := h4 hn
  simp only [Value.slice.injEq] at h1
  obtain ⟨rfl, rfl, rfl⟩ := h1
  obtain ⟨s, h7, h8⟩ := h6 i hi
  obtain ⟨B, cb, rfl, _⟩ := h8.val
  exact ⟨g, o, B, _, cb, rfl, rfl, rfl, h7, h8⟩
theorem size_rows1 : (Try.prog.info? 50).map (·.size) = some 1 := by kernel_rfl
set_option maxRecDepth 100000 in
set_option maxHeartbeats 4000000 in
theorem rowx_of (a b : List Val) (x y : Value) (w : World) (ha : ValsIn w x a) (hb : ValsIn w y b) (hl : a.length ≤ 9223372036854775807) :
    Calls Try.prog 147 #[x, y] w fun ev w' => ev = .returned (.bool (alls (exactV) a b)) ∧ Ext w w' := by
  
  obtain ⟨A, ca, rfl, -⟩ := (show ∃ A c, x = Value.slice A a.length c ∧ True from by obtain ⟨A, c, h, _⟩ := ha.val; exact ⟨A, c, h, trivial⟩)
  obtain ⟨B, cb, rfl, -⟩ := (show ∃ A c, y = Value.slice A b.length c ∧ True from by obtain ⟨A, c, h, _⟩ := hb.val; exact ⟨A, c, h, trivial⟩)
  have HA := Lib.hid ha; have HB := Lib.hid hb
  clear ha hb
  by_cases hn : a.length = b.length
  · have n5 : ((a.length : Int) != (b.length : Int)) = false := by simp [hn]
    have HN := Lib.hid hn; clear hn
    go_enter Try.func147, Try.ntmps147
    go_wp2_with fail
    go_loopw [5] (fun y wr => ∃ i : Nat, y = .int .i64 (i : Int) ∧ i ≤ a.length ∧ alls (exactV) a b = alls (exactV) (a.drop i) (b.drop i) ∧ Ext w wr) (fun y _ => a.length - (intOf y).toNat)
    case atStart => exact ⟨0, rfl, by omega, rfl, Ext.refl _⟩
    case round =>
      rename_i hrel
      obtain ⟨i, rfl, hi, hk, hE⟩ := hrel
      have HK := Lib.hid hk; clear hk n5
      by_cases hlt : i < a.length
      · have hlm2 : i < b.length := by have := HN.out; omega
        have hlt' : (i : Int) < (a.length : Int) := by omega
        have hI : (i : Int) ≤ 9223372036854775806 := by omega
        have HD := Lib.hid (alls_drop (f := exactV) hlt hlm2)
        obtain ⟨g, o, rfl, -, hat, hok, hg⟩ := (HA.out.ext hE).at_ i hlt
        obtain ⟨g2, o2, rfl, -, hat2, hok2, hg2⟩ := (HB.out.ext hE).at_ i hlm2
        have hcall := Lib.hid (fun u => exactg_of a[i] b[i] u hok.flt hok2.flt)
        have HAT := Lib.hid (fun u (he : Ext wr u) => hat.ext he hg)
        have HAT2 := Lib.hid (fun u (he : Ext wr u) => hat2.ext he hg2)
        clear hat hat2 hok hok2 hg hg2
        unfold Val.cells at HAT HAT2
        have HE2 := Lib.hid hE
        clear hE
        generalize hv : (exactV) a[i] b[i] = v at *
        generalize a[i] = e at *
        generalize b[i] = f at *
        clear hv
        cases v
        · have HD2 : Hid (alls (exactV) a b = false) := Lib.hid (by rw [HK.out, HD.out]; rfl)
          go_wp2_with fail
          refine wp_region_ext (by kernel_rfl) (by kernel_rfl) ?_; (repeat (first | (refine quiet_idxS2 (i := i) (.tmp 17) (.tmp 18) rfl rfl Try.underlying59 sizeVal rfl rfl hlt ?_) | (refine quiet_loadA2 (vs := [.int .i64 e.kind, .int .i64 e.int, .float .f64 e.flt, .string e.text]) (.tmp 19) rfl rfl agg_val rfl (fun w' hw => HAT.out w' hw) ?_) | (refine quiet_idxS2 (i := i) (.tmp 21) (.tmp 22) rfl rfl Try.underlying59 sizeVal rfl rfl hlm2 ?_) | (refine quiet_loadA2 (vs := [.int .i64 f.kind, .int .i64 f.int, .float .f64 f.flt, .string f.text]) (.tmp 23) rfl rfl agg_val rfl (fun w' hw => HAT2.out w' hw) ?_) | (refine wpQuiet_step (fun K hK => ?_); go_simp; first | (refine hK _ ?_; clear hK K) | (refine ⟨_, fun w hw => rfl, hK _ ?_⟩; clear hK K) | (apply Exists.intro; refine ⟨fun w hw => ?_, hK _ ?_⟩; (focus first | (go_at_call 32; exact (hcall.out _).mono fun _ _ ⟨h1, h2⟩ => ⟨h1, hw.trans h2⟩)); clear hK K)))); refine wpQuiet_nil ?_
          intro w6 hw6
          go_wp2_with fail
          go_ret
          exact ⟨ret_bool HD2.out.symm, HE2.out.trans hw6⟩
        · have HD2 : Hid (alls (exactV) a b = alls (exactV) (a.drop (i + 1)) (b.drop (i + 1))) := Lib.hid (by rw [HK.out, HD.out]; rfl)
          go_wp2_with fail
          refine wp_region_ext (by kernel_rfl) (by kernel_rfl) ?_; (repeat (first | (refine quiet_idxS2 (i := i) (.tmp 17) (.tmp 18) rfl rfl Try.underlying59 sizeVal rfl rfl hlt ?_) | (refine quiet_loadA2 (vs := [.int .i64 e.kind, .int .i64 e.int, .float .f64 e.flt, .string e.text]) (.tmp 19) rfl rfl agg_val rfl (fun w' hw => HAT.out w' hw) ?_) | (refine quiet_idxS2 (i := i) (.tmp 21) (.tmp 22) rfl rfl Try.underlying59 sizeVal rfl rfl hlm2 ?_) | (refine quiet_loadA2 (vs := [.int .i64 f.kind, .int .i64 f.int, .float .f64 f.flt, .string f.text]) (.tmp 23) rfl rfl agg_val rfl (fun w' hw => HAT2.out w' hw) ?_) | (refine wpQuiet_step (fun K hK => ?_); go_simp; first | (refine hK _ ?_; clear hK K) | (refine ⟨_, fun w hw => rfl, hK _ ?_⟩; clear hK K) | (apply Exists.intro; refine ⟨fun w hw => ?_, hK _ ?_⟩; (focus first | (go_at_call 32; exact (hcall.out _).mono fun _ _ ⟨h1, h2⟩ => ⟨h1, hw.trans h2⟩)); clear hK K)))); refine wpQuiet_nil ?_
          intro w6 hw6
          go_wp2_with fail
          refine ⟨⟨i + 1, by simp, by omega, HD2.out, HE2.out.trans hw6⟩, by simp [intOf] <;> omega⟩
      · have hlt' : ¬ ((i : Int) < (a.length : Int)) := by omega
        obtain rfl : i = a.length := by omega
        have HD2 : Hid (alls (exactV) a b = true) := Lib.hid (by rw [HK.out]; exact alls_nil HN.out)
        go_wp2_with fail
        go_ret
        exact ⟨ret_bool HD2.out.symm, hE⟩
  · have n5 : ((a.length : Int) != (b.length : Int)) = true := by simp; omega
    rw [alls_len hn]; clear hn
    go_enter Try.func147, Try.ntmps147
    go_wp2_with fail
    go_ret
    exact ⟨rfl, Ext.refl _⟩
set_option maxRecDepth 100000 in
set_option maxHeartbeats 4000000 in
theorem lists_of (a b : List (List Val)) (x y : Value) (w : World) (ha : RowsIn w x a) (hb : RowsIn w y b) :
    Calls Try.prog 108 #[x, y] w fun ev w' => ev = .returned (.bool (alls (alls exactV) a b)) ∧ Ext w w' := by
  have hl : a.length ≤ 9223372036854775807 := ha.lens.1
  obtain ⟨A, ca, rfl, -⟩ := (show ∃ A c, x = Value.slice A a.length c ∧ True from by obtain ⟨A, c, h, _⟩ := ha.val; exact ⟨A, c, h, trivial⟩)
  obtain ⟨B, cb, rfl, -⟩ := (show ∃ A c, y = Value.slice A b.length c ∧ True from by obtain ⟨A, c, h, _⟩ := hb.val; exact ⟨A, c, h, trivial⟩)
  have HA := Lib.hid ha; have HB := Lib.hid hb
  clear ha hb
  by_cases hn : a.length = b.length
  · have n5 : ((a.length : Int) != (b.length : Int)) = false := by simp [hn]
    have HN := Lib.hid hn; clear hn
    go_enter Try.func108, Try.ntmps108
    go_wp2_with fail
    go_loopw [5] (fun y wr => ∃ i : Nat, y = .int .i64 (i : Int) ∧ i ≤ a.length ∧ alls (alls exactV) a b = alls (alls exactV) (a.drop i) (b.drop i) ∧ Ext w wr) (fun y _ => a.length - (intOf y).toNat)
    case atStart => exact ⟨0, rfl, by omega, rfl, Ext.refl _⟩
    case round =>
      rename_i hrel
      obtain ⟨i, rfl, hi, hk, hE⟩ := hrel
      have HK := Lib.hid hk; clear hk n5
      by_cases hlt : i < a.length
      · have hlm2 : i < b.length := by have := HN.out; omega
        have hlt' : (i : Int) < (a.length : Int) := by omega
        have hI : (i : Int) ≤ 9223372036854775806 := by omega
        have HD := Lib.hid (alls_drop (f := alls exactV) hlt hlm2)
        obtain ⟨g, o, B1, m1, cb1, rfl, -, rfl, hat, hin⟩ := (HA.out.ext hE).at_ i hlt
        obtain ⟨g2, o2, B2, m2, cb2, rfl, -, rfl, hat2, hin2⟩ := (HB.out.ext hE).at_ i hlm2
        have hcall := Lib.hid (fun u (he : Ext wr u) => rowx_of a[i] b[i] _ _ u (hin.ext he) (hin2.ext he) (HA.out.lens.2 _ (List.getElem_mem hlt)))
        have HAT : Hid (∀ u, Ext wr u → u.cell? ⟨g, o + i * 1, none⟩ = some (.slice B1 a[i].length cb1)) := Lib.hid (fun u he => by rw [Nat.mul_one]; exact (he.cell (cell_lt hat)).trans hat)
        have HAT2 : Hid (∀ u, Ext wr u → u.cell? ⟨g2, o2 + i * 1, none⟩ = some (.slice B2 b[i].length cb2)) := Lib.hid (fun u he => by rw [Nat.mul_one]; exact (he.cell (cell_lt hat2)).trans hat2)
        clear hat hat2 hin hin2
        have HE2 := Lib.hid hE
        clear hE
        generalize hv : (alls exactV) a[i] b[i] = v at *
        generalize a[i] = e at *
        generalize b[i] = f at *
        clear hv
        cases v
        · have HD2 : Hid (alls (alls exactV) a b = false) := Lib.hid (by rw [HK.out, HD.out]; rfl)
          go_wp2_with fail
          refine wp_region_ext (by kernel_rfl) (by kernel_rfl) ?_; (repeat (first | (refine quiet_idxS2 (i := i) (.tmp 17) (.tmp 18) rfl rfl Try.underlying50 size_slice59 rfl rfl hlt ?_) | (refine quiet_cell2 (.tmp 19) rfl rfl Try.underlying59 rfl rfl (fun w' hw => HAT.out w' hw) ?_) | (refine quiet_idxS2 (i := i) (.tmp 21) (.tmp 22) rfl rfl Try.underlying50 size_slice59 rfl rfl hlm2 ?_) | (refine quiet_cell2 (.tmp 23) rfl rfl Try.underlying59 rfl rfl (fun w' hw => HAT2.out w' hw) ?_) | (refine wpQuiet_step (fun K hK => ?_); go_simp; first | (refine hK _ ?_; clear hK K) | (refine ⟨_, fun w hw => rfl, hK _ ?_⟩; clear hK K) | (apply Exists.intro; refine ⟨fun w hw => ?_, hK _ ?_⟩; (focus first | (go_at_call 147; exact (hcall.out _ hw).mono fun _ _ ⟨h1, h2⟩ => ⟨h1, hw.trans h2⟩)); clear hK K)))); refine wpQuiet_nil ?_
          intro w6 hw6
          go_wp2_with fail
          go_ret
          exact ⟨ret_bool HD2.out.symm, HE2.out.trans hw6⟩
        · have HD2 : Hid (alls (alls exactV) a b = alls (alls exactV) (a.drop (i + 1)) (b.drop (i + 1))) := Lib.hid (by rw [HK.out, HD.out]; rfl)
          go_wp2_with fail
          refine wp_region_ext (by kernel_rfl) (by kernel_rfl) ?_; (repeat (first | (refine quiet_idxS2 (i := i) (.tmp 17) (.tmp 18) rfl rfl Try.underlying50 size_slice59 rfl rfl hlt ?_) | (refine quiet_cell2 (.tmp 19) rfl rfl Try.underlying59 rfl rfl (fun w' hw => HAT.out w' hw) ?_) | (refine quiet_idxS2 (i := i) (.tmp 21) (.tmp 22) rfl rfl Try.underlying50 size_slice59 rfl rfl hlm2 ?_) | (refine quiet_cell2 (.tmp 23) rfl rfl Try.underlying59 rfl rfl (fun w' hw => HAT2.out w' hw) ?_) | (refine wpQuiet_step (fun K hK => ?_); go_simp; first | (refine hK _ ?_; clear hK K) | (refine ⟨_, fun w hw => rfl, hK _ ?_⟩; clear hK K) | (apply Exists.intro; refine ⟨fun w hw => ?_, hK _ ?_⟩; (focus first | (go_at_call 147; exact (hcall.out _ hw).mono fun _ _ ⟨h1, h2⟩ => ⟨h1, hw.trans h2⟩)); clear hK K)))); refine wpQuiet_nil ?_
          intro w6 hw6
          go_wp2_with fail
          refine ⟨⟨i + 1, by simp, by omega, HD2.out, HE2.out.trans hw6⟩, by simp [intOf] <;> omega⟩
      · have hlt' : ¬ ((i : Int) < (a.length : Int)) := by omega
        obtain rfl : i = a.length := by omega
        have HD2 : Hid (alls (alls exactV) a b = true) := Lib.hid (by rw [HK.out]; exact alls_nil HN.out)
        go_wp2_with fail
        go_ret
        exact ⟨ret_bool HD2.out.symm, hE⟩
  · have n5 : ((a.length : Int) != (b.length : Int)) = true := by simp; omega
    rw [alls_len hn]; clear hn
    go_enter Try.func108, Try.ntmps108
    go_wp2_with fail
    go_ret
    exact ⟨rfl, Ext.refl _⟩
set_option maxRecDepth 100000 in
set_option maxHeartbeats 4000000 in
theorem same26_of (a b : List (List (List Val))) (x y : Value) (w : World) (ha : TupsIn w x a) (hb : TupsIn w y b) :
    Calls Try.prog 50 #[x, y] w fun ev w' => ev = .returned (.bool (alls (alls (alls exactV)) a b)) ∧ Ext w w' := by
  have hl : a.length ≤ 9223372036854775807 := ha.len
  obtain ⟨A, ca, rfl, -⟩ := (show ∃ A c, x = Value.slice A a.length c ∧ True from by obtain ⟨A, c, h, _⟩ := ha.val; exact ⟨A, c, h, trivial⟩)
  obtain ⟨B, cb, rfl, -⟩ := (show ∃ A c, y = Value.slice A b.length c ∧ True from by obtain ⟨A, c, h, _⟩ := hb.val; exact ⟨A, c, h, trivial⟩)
  have HA := Lib.hid ha; have HB := Lib.hid hb
  clear ha hb
  by_cases hn : a.length = b.length
  · have n5 : ((a.length : Int) != (b.length : Int)) = false := by simp [hn]
    have HN := Lib.hid hn; clear hn
    go_enter Try.func50, Try.ntmps50
    go_wp2_with fail
    go_loopw [5] (fun y wr => ∃ i : Nat, y = .int .i64 (i : Int) ∧ i ≤ a.length ∧ alls (alls (alls exactV)) a b = alls (alls (alls exactV)) (a.drop i) (b.drop i) ∧ Ext w wr) (fun y _ => a.length - (intOf y).toNat)
    case atStart => exact ⟨0, rfl, by omega, rfl, Ext.refl _⟩
    case round =>
      rename_i hrel
      obtain ⟨i, rfl, hi, hk, hE⟩ := hrel
      have HK := Lib.hid hk; clear hk n5
      by_cases hlt : i < a.length
      · have hlm2 : i < b.length := by have := HN.out; omega
        have hlt' : (i : Int) < (a.length : Int) := by omega
        have hI : (i : Int) ≤ 9223372036854775806 := by omega
        have HD := Lib.hid (alls_drop (f := alls (alls exactV)) hlt hlm2)
        obtain ⟨g, o, B1, m1, cb1, rfl, -, rfl, hat, hin⟩ := (HA.out.ext hE).at_ i hlt
        obtain ⟨g2, o2, B2, m2, cb2, rfl, -, rfl, hat2, hin2⟩ := (HB.out.ext hE).at_ i hlm2
        have hcall := Lib.hid (fun u (he : Ext wr u) => lists_of a[i] b[i] _ _ u (hin.ext he) (hin2.ext he))
        have HAT : Hid (∀ u, Ext wr u → u.cell? ⟨g, o + i * 1, none⟩ = some (.slice B1 a[i].length cb1)) := Lib.hid (fun u he => by rw [Nat.mul_one]; exact (he.cell (cell_lt hat)).trans hat)
        have HAT2 : Hid (∀ u, Ext wr u → u.cell? ⟨g2, o2 + i * 1, none⟩ = some (.slice B2 b[i].length cb2)) := Lib.hid (fun u he => by rw [Nat.mul_one]; exact (he.cell (cell_lt hat2)).trans hat2)
        clear hat hat2 hin hin2
        have HE2 := Lib.hid hE
        clear hE
        generalize hv : (alls (alls exactV)) a[i] b[i] = v at *
        generalize a[i] = e at *
        generalize b[i] = f at *
        clear hv
        cases v
        · have HD2 : Hid (alls (alls (alls exactV)) a b = false) := Lib.hid (by rw [HK.out, HD.out]; rfl)
          go_wp2_with fail
          refine wp_region_ext (by kernel_rfl) (by kernel_rfl) ?_; (repeat (first | (refine quiet_idxS2 (i := i) (.tmp 17) (.tmp 18) rfl rfl Try.underlying91 size_rows1 rfl rfl hlt ?_) | (refine quiet_cell2 (.tmp 19) rfl rfl Try.underlying50 rfl rfl (fun w' hw => HAT.out w' hw) ?_) | (refine quiet_idxS2 (i := i) (.tmp 21) (.tmp 22) rfl rfl Try.underlying91 size_rows1 rfl rfl hlm2 ?_) | (refine quiet_cell2 (.tmp 23) rfl rfl Try.underlying50 rfl rfl (fun w' hw => HAT2.out w' hw) ?_) | (refine wpQuiet_step (fun K hK => ?_); go_simp; first | (refine hK _ ?_; clear hK K) | (refine ⟨_, fun w hw => rfl, hK _ ?_⟩; clear hK K) | (apply Exists.intro; refine ⟨fun w hw => ?_, hK _ ?_⟩; (focus first | (go_at_call 108; exact (hcall.out _ hw).mono fun _ _ ⟨h1, h2⟩ => ⟨h1, hw.trans h2⟩)); clear hK K)))); refine wpQuiet_nil ?_
          intro w6 hw6
          go_wp2_with fail
          go_ret
          exact ⟨ret_bool HD2.out.symm, HE2.out.trans hw6⟩
        · have HD2 : Hid (alls (alls (alls exactV)) a b = alls (alls (alls exactV)) (a.drop (i + 1)) (b.drop (i + 1))) := Lib.hid (by rw [HK.out, HD.out]; rfl)
          go_wp2_with fail
          refine wp_region_ext (by kernel_rfl) (by kernel_rfl) ?_; (repeat (first | (refine quiet_idxS2 (i := i) (.tmp 17) (.tmp 18) rfl rfl Try.underlying91 size_rows1 rfl rfl hlt ?_) | (refine quiet_cell2 (.tmp 19) rfl rfl Try.underlying50 rfl rfl (fun w' hw => HAT.out w' hw) ?_) | (refine quiet_idxS2 (i := i) (.tmp 21) (.tmp 22) rfl rfl Try.underlying91 size_rows1 rfl rfl hlm2 ?_) | (refine quiet_cell2 (.tmp 23) rfl rfl Try.underlying50 rfl rfl (fun w' hw => HAT2.out w' hw) ?_) | (refine wpQuiet_step (fun K hK => ?_); go_simp; first | (refine hK _ ?_; clear hK K) | (refine ⟨_, fun w hw => rfl, hK _ ?_⟩; clear hK K) | (apply Exists.intro; refine ⟨fun w hw => ?_, hK _ ?_⟩; (focus first | (go_at_call 108; exact (hcall.out _ hw).mono fun _ _ ⟨h1, h2⟩ => ⟨h1, hw.trans h2⟩)); clear hK K)))); refine wpQuiet_nil ?_
          intro w6 hw6
          go_wp2_with fail
          refine ⟨⟨i + 1, by simp, by omega, HD2.out, HE2.out.trans hw6⟩, by simp [intOf] <;> omega⟩
      · have hlt' : ¬ ((i : Int) < (a.length : Int)) := by omega
        obtain rfl : i = a.length := by omega
        have HD2 : Hid (alls (alls (alls exactV)) a b = true) := Lib.hid (by rw [HK.out]; exact alls_nil HN.out)
        go_wp2_with fail
        go_ret
        exact ⟨ret_bool HD2.out.symm, hE⟩
  · have n5 : ((a.length : Int) != (b.length : Int)) = true := by simp; omega
    rw [alls_len hn]; clear hn
    go_enter Try.func50, Try.ntmps50
    go_wp2_with fail
    go_ret
    exact ⟨rfl, Ext.refl _⟩
end Go.Proofs.Ytlcdjaclahhdnaa
namespace Go.Proofs.Ytlcdjaclahhdnaa
open Go.RowKit
set_option linter.unusedSimpArgs false
set_option linter.unusedVariables false

theorem col_evalN {cr : List (List Val)} {r : List Val} {a : Ex} {g : Rng} {rel nn : Nat} (h : colE (colsR cr 40) (rel : Int) a = some g) (hw : a.wf = true) (hrel : rel < nn) : a.eval (tup nn rel r) = (luk r a.col.toNat, 0) ∧ g = rgAt cr a.col.toNat := by
  cases a with
  | mk k q c v l =>
    unfold colE at h
    split at h
    · rename_i hk
      split at h
      · rename_i hq
        obtain rfl : k = 1 := hk
        obtain rfl : q = (rel : Int) := hq
        obtain ⟨hkl, -⟩ := wf_kids hw
        have hl : l = [] := by
          have : kidsOf 1 = 0 := by decide
          exact List.eq_nil_of_length_eq_zero (by omega)
        subst hl
        refine ⟨?_, ?_⟩
        · simp only [Ex.eval, Exs.eval]
          have e1 : evalHead (tup nn rel r) 1 (rel : Int) c v [] = (lookup (tup nn rel r) (rel : Int) c, 0) := by simp [evalHead]
          rw [e1]
          have e2 : (tup nn rel r)[rel]? = some r := by
            unfold tup
            rw [List.getElem?_set_self (by simpa using hrel)]
          show (lookup (tup nn rel r) (rel : Int) c, (0 : Int)) = (luk r c.toNat, 0)
          unfold lookup luk
          rw [Int.toNat_natCast, e2]
          rfl
        · have h9 : (colsR cr 40)[c.toNat]? = some g := h
          unfold colsR at h9
          rw [List.getElem?_map] at h9
          obtain ⟨j, h10, h11⟩ := Option.map_eq_some_iff.1 h9
          obtain ⟨h12, h13⟩ := List.getElem?_eq_some_iff.1 h10
          rw [List.getElem_range] at h13
          subst h13
          exact h11.symm
      · cases h
    · cases h
theorem may_safeN (cr : List (List Val)) (hok : ∀ r ∈ cr, ∀ v ∈ r, v.Ok) (nn rel : Nat) (hrel : rel < nn) (e : Ex) (hm : e.may (cr.length : Int) (colsR cr 40) (rel : Int) = false) (r : List Val) (hr : r ∈ cr) (rest : List Ex) : holds (tup nn rel r) (e :: rest) = (false, 0) := by
  have hn : NotTrue (e.eval (tup nn rel r)) ∧ 0 ≤ e.count 1 400 := by
    cases e with
    | mk k q c v l =>
      unfold Ex.may at hm
      by_cases hf : 0 ≤ (Ex.mk k q c v l).count 1 400
      · refine ⟨?_, hf⟩
        rw [if_neg (by simpa using hf)] at hm
        obtain ⟨hk, hl⟩ := wf_kids (Ex.count_wf _ 1 400 hf)
        by_cases h7 : k = 7 ∨ k = 8 ∨ k = 9
        · have h2 : l.length = 2 := by
            have : kidsOf k = 2 := by rcases h7 with rfl | rfl | rfl <;> decide
            omega
          obtain ⟨a, b, rfl⟩ := list_two h2
          simp only [if_pos h7] at hm
          simp only [Ex.eval, Exs.eval]
          have ha := hl a (by simp); have hb := hl b (by simp)
          by_cases hbk : b.kind = 2
          · rw [if_pos hbk] at hm
            cases hca : colE (colsR cr 40) (rel : Int) a with
            | some g =>
              rw [hca] at hm
              obtain ⟨e1, rfl⟩ := col_evalN (r := r) hca ha hrel
              obtain ⟨e2, hbr⟩ := const_eval (T := tup nn rel r) hbk hb
              rw [e1, e2, evalHead_test h7]
              exact test_low h7 hr (hok r hr) hbr hm
            | none =>
              rw [hca] at hm
              by_cases hak : a.kind = 2
              · simp only [if_pos hak] at hm
                cases hcb : colE (colsR cr 40) (rel : Int) b with
                | some g =>
                  unfold colE at hcb
                  rw [if_neg (by omega)] at hcb
                  cases hcb
                | none => rw [hcb] at hm; cases hm
              · simp only [if_neg hak] at hm; cases hm
          · rw [if_neg hbk] at hm
            by_cases hak : a.kind = 2
            · simp only [if_pos hak] at hm
              cases hcb : colE (colsR cr 40) (rel : Int) b with
              | some g =>
                rw [hcb] at hm
                obtain ⟨e1, rfl⟩ := col_evalN (r := r) hcb hb hrel
                obtain ⟨e2, har⟩ := const_eval (T := tup nn rel r) hak ha
                rw [e1, e2, evalHead_test h7]
                exact test_high h7 hr (hok r hr) har hm
              | none => rw [hcb] at hm; cases hm
            · simp only [if_neg hak] at hm; cases hm
        · simp only [if_neg h7] at hm
          by_cases h13 : k = 13
          · subst h13
            have h1 : l.length = 1 := by
              have : kidsOf 13 = 1 := by decide
              omega
            obtain ⟨a, rfl⟩ := list_one h1
            simp only [if_true] at hm
            cases hca : colE (colsR cr 40) (rel : Int) a with
            | none => rw [hca] at hm; cases hm
            | some g =>
              rw [hca] at hm
              obtain ⟨e1, rfl⟩ := col_evalN (r := r) hca (hl a (by simp)) hrel
              have hI := rinv cr a.col.toNat
              have hk0 : ¬ (luk r a.col.toNat).kind = 0 := fun h0 => by
                have h5 := luk_kind r a.col.toNat
                have h6 : atV r a.col.toNat ∈ (cr.map fun r => atV r a.col.toNat).filter fun w => w.kind == 0 := List.mem_filter.2 ⟨List.mem_map.2 ⟨r, hr, rfl⟩, by simp; omega⟩
                have h7 := List.length_pos_of_mem h6
                have h8 := hI.nulls
                simp only [decide_eq_false_iff_not] at hm
                omega
              simp only [Ex.eval, Exs.eval, e1]
              have e2 : evalHead (tup nn rel r) 13 q c v [(luk r a.col.toNat, 0)] = (Val.truth ((luk r a.col.toNat).kind == 0), 0) := by simp [evalHead]
              rw [e2]
              exact truth_not (by simpa using hk0)
          · simp only [if_neg h13] at hm
            by_cases h12 : k = 12
            · subst h12
              have h1 : l.length = 1 := by
                have : kidsOf 12 = 1 := by decide
                omega
              obtain ⟨x, rfl⟩ := list_one h1
              simp only [if_true] at hm
              split at hm
              · rename_i rx cx vx a hx
                simp only [List.cons.injEq, and_true] at hx
                subst hx
                have hax : a.wf = true := (wf_kids (hl (Ex.mk 13 rx cx vx [a]) (by simp))).2 a (by simp)
                cases hca : colE (colsR cr 40) (rel : Int) a with
                | none => rw [hca] at hm; cases hm
                | some g =>
                  rw [hca] at hm
                  obtain ⟨e1, rfl⟩ := col_evalN (r := r) hca hax hrel
                  have hI := rinv cr a.col.toNat
                  have hk0 : (luk r a.col.toNat).kind = 0 := by
                    rw [← luk_kind]
                    have h8 := hI.nulls
                    simp only [decide_eq_false_iff_not] at hm
                    have h9 : ((cr.map fun r => atV r a.col.toNat).filter fun w => w.kind == 0).length = (cr.map fun r => atV r a.col.toNat).length := by
                      have := List.length_filter_le (fun w : Val => w.kind == 0) (cr.map fun r => atV r a.col.toNat)
                      rw [List.length_map] at this ⊢
                      omega
                    have h10 := List.length_filter_eq_length_iff.1 h9 (atV r a.col.toNat) (List.mem_map.2 ⟨r, hr, rfl⟩)
                    simpa using h10
                  simp only [Ex.eval, Exs.eval, e1]
                  have e2 : evalHead (tup nn rel r) 13 rx cx vx [(luk r a.col.toNat, 0)] = (Val.truth true, 0) := by simp [evalHead, hk0]
                  rw [e2]
                  have e3 : evalHead (tup nn rel r) 12 q c v [(Val.truth true, 0)] = (Val.truth false, 0) := by
                    have ht : (Val.truth true).truthy = true := by unfold Val.truthy; rw [fine_truth]; rfl
                    have hk1 : (Val.truth true).kind = 1 := rfl
                    have hi1 : (Val.truth true).int = 1 := rfl
                    simp [evalHead, Val.both, Val.both2, ht, hk1, hi1]
                  rw [e3]
                  exact truth_not rfl
              · cases hm
            · simp only [if_neg h12] at hm; cases hm
      · rw [if_pos (by simpa using hf)] at hm; cases hm
  obtain ⟨⟨h1, h2⟩, h3⟩ := hn
  unfold holds
  have hE : e.Eval (tup nn rel r) = ((e.eval (tup nn rel r)).1, 0) := by
    unfold Ex.Eval
    rw [if_pos h3, if_pos h1]
  rw [hE]
  simp only [ne_eq, not_true_eq_false, if_false]
  rw [if_pos (by omega)]

theorem pass_holds (cr : List (List Val)) (hok : ∀ r ∈ cr, ∀ v ∈ r, v.Ok) (nn rel : Nat) (hrel : rel < nn) (l : List Ex) (hp : passes cr (rel : Int) l = true) (r : List Val) (hr : r ∈ cr) : holds (tup nn rel r) l = (false, 0) := by
  cases l with
  | nil => simp [passes] at hp
  | cons e l =>
    simp only [passes, Bool.not_eq_true'] at hp
    exact may_safeN cr hok nn rel hrel e hp r hr l
theorem scanU_none (n rel : Nat) (l : List Ex) : ∀ p : List (List Val), (∀ r ∈ p, holds (tup n rel r) l = (false, 0)) → scanU n rel l p = ([], 0)
  | [], _ => rfl
  | r :: p, h => by
    simp only [scanU]
    rw [h r (by simp), scanU_none n rel l p fun q hq => h q (by simp [hq])]
    simp
theorem scanU_none_app (n rel : Nat) (l : List Ex) (p q : List (List Val)) (h : scanU n rel l p = ([], 0)) : scanU n rel l (p ++ q) = scanU n rel l q := by
  rw [scanU_app n rel l p q (by rw [h]), h]
  by_cases h2 : (scanU n rel l q).2 = 0
  · rw [if_pos h2]; exact Prod.ext rfl h2.symm
  · rw [if_neg h2]; exact Prod.ext (scanU_bad n rel l q h2).symm rfl
theorem scanU_congr (n rel : Nat) (l : List Ex) (p q q' : List (List Val)) (h : scanU n rel l q = scanU n rel l q') : scanU n rel l (p ++ q) = scanU n rel l (p ++ q') := by
  by_cases h2 : (scanU n rel l p).2 = 0
  · rw [scanU_app n rel l p q h2, scanU_app n rel l p q' h2, h]
  · rw [scanU_stop n rel l p q h2, scanU_stop n rel l p q' h2]
theorem unp_scan (rows : List (List Val)) (hok : ∀ r ∈ rows, ∀ v ∈ r, v.Ok) (n rel : Nat) (hrel : rel < n) (l : List Ex) : ∀ ks : List Nat, scanU n rel l (unp rows (rel : Int) l ks) = scanU n rel l (ks.flatMap fun k => chunkR rows k)
  | [] => rfl
  | k :: ks => by
    have ih := unp_scan rows hok n rel hrel l ks
    have e1 : unp rows (rel : Int) l (k :: ks) = (if passes (chunkR rows k) (rel : Int) l = true then [] else chunkR rows k) ++ unp rows (rel : Int) l ks := by simp only [unp, List.flatMap_cons]
    have hc : ∀ r ∈ chunkR rows k, ∀ v ∈ r, v.Ok := fun r hr => hok r (List.mem_of_mem_drop (List.mem_of_mem_take hr))
    rw [e1, List.flatMap_cons]
    by_cases hp : passes (chunkR rows k) (rel : Int) l = true
    · rw [if_pos hp, List.nil_append, ih]
      exact (scanU_none_app n rel l _ _ (scanU_none n rel l _ fun r hr => pass_holds _ hc n rel hrel l hp r hr)).symm
    · rw [if_neg hp]; exact scanU_congr n rel l _ _ _ ih
theorem chunks_take (rows : List (List Val)) : ∀ n : Nat, (List.range n).flatMap (fun k => chunkR rows k) = rows.take (n * 16)
  | 0 => by simp
  | n + 1 => by
    rw [List.range_succ, List.flatMap_append, chunks_take rows n, show (n + 1) * 16 = n * 16 + 16 by omega, List.take_add]
    simp [chunkR]
theorem scanAll_eq (rows : List (List Val)) (hok : ∀ r ∈ rows, ∀ v ∈ r, v.Ok) (n rel : Nat) (hrel : rel < n) (l : List Ex) : scanAll rows n rel l = scanU n rel l rows := by
  unfold scanAll
  rw [unp_scan rows hok n rel hrel l, chunks_take, List.take_of_length_le (by omega)]
theorem holds_snoc (T : List (List Val)) (m : Ex) : ∀ l : List Ex, (holds T l).1 = false → holds T (l ++ [m]) = holds T l
  | [], h => by simp [holds] at h
  | e :: l, h => by
    simp only [List.cons_append, holds] at h ⊢
    by_cases h1 : (e.Eval T).2 ≠ 0
    · rw [if_pos h1, if_pos h1]
    · rw [if_neg h1] at h ⊢
      rw [if_neg h1]
      by_cases h2 : (e.Eval T).1.kind ≠ 1 ∨ (e.Eval T).1.int ≠ 1
      · rw [if_pos h2, if_pos h2]
      · rw [if_neg h2] at h ⊢
        rw [if_neg h2]
        exact holds_snoc T m l h
theorem scan_sub (n rel : Nat) (l : List Ex) (m : Ex) : ∀ p : List (List Val), (scanU n rel l p).2 = 0 → (scanU n rel (l ++ [m]) p).2 = 0 → (scanU n rel (l ++ [m]) p).1.Sublist (scanU n rel l p).1
  | [], _, _ => by simp [scanU]
  | r :: p, h, h' => by
    have hs := holds_snoc (tup n rel r) m l
    simp only [scanU] at h h' ⊢
    generalize holds (tup n rel r) l = A at *
    generalize holds (tup n rel r) (l ++ [m]) = B at *
    by_cases hA : A.2 ≠ 0
    · rw [if_pos hA] at h; exact absurd h hA
    · by_cases hB : B.2 ≠ 0
      · rw [if_pos hB] at h'; exact absurd h' hB
      · rw [if_neg hA] at h ⊢
        rw [if_neg hB] at h' ⊢
        by_cases h1 : (scanU n rel l p).2 = 0
        · by_cases h2 : (scanU n rel (l ++ [m]) p).2 = 0
          · have ih := scan_sub n rel l m p h1 h2
            rw [if_pos h1, if_pos h2]
            dsimp only
            by_cases b1 : A.1 = true
            · rw [if_pos b1]
              by_cases b2 : B.1 = true
              · rw [if_pos b2]; exact List.Sublist.cons_cons _ ih
              · rw [if_neg b2]; exact List.Sublist.cons _ ih
            · rw [if_neg b1, hs (by simpa using b1), if_neg b1]; exact ih
          · rw [if_neg h2] at h'; exact absurd h' h2
        · rw [if_neg h1] at h; exact absurd h h1
theorem sub_cons {α : Type} {l r : List α} {t : α} (h : l.Sublist (t :: r)) : l.tail.Sublist r ∧ (l.head? ≠ some t → l.Sublist r) := by
  cases h with
  | cons _ h => exact ⟨(List.tail_sublist l).trans h, fun _ => h⟩
  | cons_cons _ h => exact ⟨h, fun hn => absurd rfl hn⟩
/-- One step of the search for a row of tuples in another. -/
theorem sub_hit {α : Type} {w z : List α} {k i : Nat} (h : (w.drop k).Sublist (z.drop i)) (hi : i < z.length) : (w.drop (k + 1)).Sublist (z.drop (i + 1)) := by
  rw [List.drop_eq_getElem_cons hi] at h
  rw [← List.tail_drop]
  exact (sub_cons h).1
theorem sub_miss {α : Type} {w z : List α} {k i : Nat} (h : (w.drop k).Sublist (z.drop i)) (hi : i < z.length) (hk : ∀ hk : k < w.length, w[k] ≠ z[i]) : (w.drop k).Sublist (z.drop (i + 1)) := by
  rw [List.drop_eq_getElem_cons hi] at h
  refine (sub_cons h).2 ?_
  rw [List.head?_drop]
  rcases Nat.lt_or_ge k w.length with h1 | h1
  · rw [List.getElem?_eq_getElem h1]; simpa using hk h1
  · rw [List.getElem?_eq_none h1]; simp
theorem sub_end {α : Type} {w z : List α} {k : Nat} (h : (w.drop k).Sublist (z.drop z.length)) (hk : k ≤ w.length) : k = w.length := by
  rw [List.drop_length] at h
  have h1 := List.eq_nil_of_sublist_nil h
  have h2 : (w.drop k).length = 0 := by rw [h1]; rfl
  rw [List.length_drop] at h2
  omega
/-- The law, plain. -/
theorem ands_concat (a b : List (List Val)) (ha : ∀ r ∈ a, ∀ v ∈ r, v.Ok) (hb : ∀ r ∈ b, ∀ v ∈ r, v.Ok) (l : List Ex) (h1 : (scanAll a 2 1 l).2 = 0) (h2 : (scanAll b 2 1 l).2 = 0) : scanAll (a ++ b) 2 1 l = ((scanAll a 2 1 l).1 ++ (scanAll b 2 1 l).1, 0) := by
  rw [scanAll_eq a ha 2 1 (by decide)] at h1 ⊢
  rw [scanAll_eq b hb 2 1 (by decide)] at h2 ⊢
  rw [scanAll_eq (a ++ b) (fun r hr => (List.mem_append.1 hr).elim (ha r) (hb r)) 2 1 (by decide), scanU_app 2 1 l a b h1, if_pos h2]
theorem ands_sub (rows : List (List Val)) (hok : ∀ r ∈ rows, ∀ v ∈ r, v.Ok) (l : List Ex) (m : Ex) (h1 : (scanAll rows 2 1 l).2 = 0) (h2 : (scanAll rows 2 1 (l ++ [m])).2 = 0) : (scanAll rows 2 1 (l ++ [m])).1.Sublist (scanAll rows 2 1 l).1 := by
  rw [scanAll_eq rows hok 2 1 (by decide)] at h1 h2 ⊢
  rw [scanAll_eq rows hok 2 1 (by decide)]
  exact scan_sub 2 1 l m rows h1 h2
end Go.Proofs.Ytlcdjaclahhdnaa
namespace Go.Proofs.Ytlcdjaclahhdnaa
open Go.RowKit
set_option linter.unusedSimpArgs false
set_option linter.unusedVariables false

section
variable {P : Program} {w : World} {o : Oper} {a : Act} {Q : Exit → Act → World → Prop} {K : Act → World → Prop}
/-- 'append(own, l...)'. -/
theorem wp_app (s x : Operand) {S T : TypeId} (ho : o.op = .call { callee := .builtin .append, args := #[s, x], argTypes := #[S, S] }) {size bytes : Nat} (hu : P.underlying S = some (.slice T))
    (hi : (P.info? T).map (fun i => (i.zero.map (·.cells.size), i.size, i.bytes)) = some (some size, size, bytes)) (h0 : 0 < size) (hby : bytes ≤ 1000)
    {base : Nat} {v : Value} {n : Nat} {xs : List Value} (hs : a.eval s = v) (hown : w.ownsRow base T size v n xs) {A : Option Addr} {m c : Nat} (hx : a.eval x = .slice A m c) (hA : A = none → m = 0 ∧ c = 0)
    (news : List Value) (hl : news.length = m * size) (hcell : ∀ ad, A = some ad → ∀ j u, news[j]? = some u → w.cell? (ad.add j) = some u) (h1 : ∀ u ∈ news, u.oneCell' = true) (hnm : n + m ≤ 100000000) (hbase : base ≤ w.heap.size)
    (h : ∀ A' c' w', w'.ownsRow base T size (.slice A' (n + m) c') (n + m) (xs ++ news) → ButS (fun k => v.ownBlock = some k) w w' → K (a.put o.dst (.slice A' (n + m) c')) w') : o.wp P a w K Q := by
  obtain ⟨i, hi1, hi2⟩ := Option.map_eq_some_iff.1 hi
  simp only [Prod.mk.injEq] at hi2
  obtain ⟨z, hz1, hz2⟩ := Option.map_eq_some_iff.1 hi2.1
  cases A with
  | none =>
    obtain ⟨rfl, rfl⟩ := hA rfl
    obtain rfl : news = [] := List.eq_nil_of_length_eq_zero (by omega)
    have hr := run_append_owned_none (P := P) w base S o.type T i size hu hi1 v n xs hown
    obtain ⟨A', c', rfl⟩ := owns_shape hown
    unfold Oper.wp execOp
    simp only [ho, resolve, invoke, builtin, Sem.run_bind, Sem.run_pure, Result.andThen_ok, List.map_toArray, List.map_cons, List.map_nil, hs, hx, hr]
    exact h A' c' w (by simpa using hown) (ButS.refl _ _)
  | some ad =>
    refine wp_append_own w s x S ho base T i z size bytes hu hi1 hz1 hi2.2.1 hi2.2.2 hz2 h0 v n xs hs hown ad m c news hx hl (hcell ad rfl) h1 (by unfold maxLen; omega) ?_ hbase fun v' w' ho' hg' _ => ?_
    · have : (n + m) * bytes ≤ 100000000 * 1000 := Nat.mul_le_mul hnm hby
      omega
    · obtain ⟨A', c', rfl⟩ := owns_shape ho'
      exact h A' c' w' ho' (ButS.of_grown hg' fun k hk => hk)
end
theorem exs_open9 {w : World} {g : Nat} : ∀ {l : List Ex} {o : Nat}, Exs.At w g o l → ∃ ss : List Value, ss.length = l.length ∧ (∀ i (hi : i < l.length) (hj : i < ss.length), Ex.In w l[i] ss[i]) ∧ Go.Proofs.Ytlcdjaclahhdnaa.At w g o (exsCells l ss)
  | [], o, _ => ⟨[], rfl, by simp, by simp [exsCells, Go.Proofs.Ytlcdjaclahhdnaa.At]⟩
  | e :: l, o, h => by
    simp only [Exs.At] at h
    obtain ⟨⟨s, h1, h2⟩, h3⟩ := h
    obtain ⟨ss, h4, h5, h6⟩ := exs_open9 h3
    refine ⟨s :: ss, by simp [h4], fun i hi hj => ?_, ?_⟩
    · match i with
      | 0 => exact h2
      | i + 1 => exact h5 i (by simpa using hi) (by simpa using hj)
    · show Go.Proofs.Ytlcdjaclahhdnaa.At w g o (e.cells s ++ exsCells l ss)
      have hl : (e.cells s).length = 8 := rfl
      refine At.of_get fun j v hv => ?_
      rcases Nat.lt_or_ge j 8 with hj | hj
      · rw [List.getElem?_append_left (by omega)] at hv
        exact h1.get j v hv
      · rw [List.getElem?_append_right (by omega)] at hv
        have := h6.get (j - 8) v (by rw [← hl]; exact hv)
        rwa [show o + 8 + (j - 8) = o + j by omega] at this
theorem exsCells_len : ∀ (l : List Ex) (ss : List Value), ss.length = l.length → (exsCells l ss).length = l.length * 8
  | [], [], _ => rfl
  | [], _ :: _, h => by simp at h
  | _ :: _, [], h => by simp at h
  | e :: l, s :: ss, h => by
    have := exsCells_len l ss (by simpa using h)
    show (e.cells s ++ exsCells l ss).length = _
    have h8 : (e.cells s).length = 8 := rfl
    rw [List.length_append, this, h8, List.length_cons]; omega
theorem exsCells_app : ∀ (l m : List Ex) (ss tt : List Value), ss.length = l.length → exsCells (l ++ m) (ss ++ tt) = exsCells l ss ++ exsCells m tt
  | [], m, [], tt, _ => rfl
  | [], _, _ :: _, _, h => by simp at h
  | _ :: _, _, [], _, h => by simp at h
  | e :: l, m, s :: ss, tt, h => by
    show e.cells s ++ exsCells (l ++ m) (ss ++ tt) = e.cells s ++ exsCells l ss ++ exsCells m tt
    rw [exsCells_app l m ss tt (by simpa using h), List.append_assoc]
theorem exsCells_one9 : ∀ (l : List Ex) (ss : List Value), (∀ s ∈ ss, s.oneCell' = true) → ∀ u ∈ exsCells l ss, u.oneCell' = true := by
  intro l
  induction l with
  | nil => intro ss _ u hu; cases ss <;> simp [exsCells] at hu
  | cons e l ih =>
    intro ss hss u hu
    cases ss with
    | nil => simp [exsCells] at hu
    | cons s ss =>
      have hu' : u ∈ e.cells s ++ exsCells l ss := hu
      rcases List.mem_append.1 hu' with h | h
      · simp only [Ex.cells, exCells, List.mem_cons, List.not_mem_nil, or_false] at h
        rcases h with rfl | rfl | rfl | rfl | rfl | rfl | rfl | rfl
        any_goals rfl
        exact hss _ (by simp)
      · exact ih ss (fun t ht => hss t (by simp [ht])) u h
/-- A slice of expressions, its cells. -/
theorem exsIn_cells {w : World} {A : Option Addr} {n c : Nat} {l : List Ex} (h : ExsIn w (.slice A n c) l) : n = l.length ∧ (A = none → n = 0 ∧ c = 0) ∧ ∃ ss : List Value, ss.length = l.length ∧ (∀ i (hi : i < l.length) (hj : i < ss.length), Ex.In w l[i] ss[i]) ∧ (∀ s ∈ ss, s.oneCell' = true) ∧
    ∀ ad, A = some ad → ∀ j u, (exsCells l ss)[j]? = some u → w.cell? (ad.add j) = some u := by
  obtain ⟨hl63, A', cap, h9, hcap, hnil, hat⟩ := h
  simp only [Value.slice.injEq] at h9
  obtain ⟨rfl, rfl, rfl⟩ := h9
  by_cases hne : l = []
  · subst hne
    exact ⟨rfl, fun h => ⟨rfl, hnil h⟩, [], rfl, by simp, by simp, by simp [exsCells]⟩
  · obtain ⟨g1, o1, rfl, h2⟩ := hat hne
    obtain ⟨ss, h3, h4, h5⟩ := exs_open9 h2
    refine ⟨rfl, (fun h => by cases h), ss, h3, h4, ?_, ?_⟩
    · intro s hs
      obtain ⟨i, hi, rfl⟩ := List.getElem_of_mem hs
      obtain ⟨-, A9, c9, h9, -⟩ := (h4 i (by omega) hi).mk_inv.2.2.2.2
      rw [h9]; rfl
    · intro ad had j u hu
      cases had
      rw [add_at]
      exact h5.get j u hu
/-- A row of the call's own of expressions' cells is a slice of expressions. -/
theorem own_exsIn {w : World} {base : Nat} {A : Option Addr} {c : Nat} {l : List Ex} {ss : List Value} (h : w.ownsRow base 27 8 (.slice A l.length c) l.length (exsCells l ss)) (hl : l.length ≤ 9223372036854775807) (h3 : ss.length = l.length)
    (h4 : ∀ i (hi : i < l.length) (hj : i < ss.length), Ex.In w l[i] ss[i]) : ExsIn w (.slice A l.length c) l := by
  rcases h.2 with ⟨h5, h6⟩ | ⟨g, cap, cur, h5, _, _, h7, _⟩
  · simp only [Value.slice.injEq] at h5
    obtain ⟨rfl, h8, rfl⟩ := h5
    exact ⟨hl, none, 0, rfl, by omega, fun _ => rfl, fun hn => absurd (List.eq_nil_of_length_eq_zero h6) hn⟩
  · simp only [Value.slice.injEq] at h5
    obtain ⟨rfl, _, rfl⟩ := h5
    refine ⟨hl, some ⟨g, 0, none⟩, c, rfl, h7, (fun h => by cases h), fun _ => ⟨g, 0, rfl, ?_⟩⟩
    exact exs_at h3 h4 (owns_cells h)
/-- A slice of rows, its cells. -/
theorem rowsIn_cells {w : World} {A : Option Addr} {n c : Nat} {rows : List (List Val)} (h : RowsIn w (.slice A n c) rows) : n = rows.length ∧ (A = none → n = 0 ∧ c = 0) ∧ ∃ ss : List Value, ss.length = rows.length ∧ (∀ i (hi : i < rows.length) (hj : i < ss.length), ValsIn w ss[i] rows[i]) ∧ (∀ s ∈ ss, s.oneCell' = true) ∧
    ∀ ad, A = some ad → ∀ j u, ss[j]? = some u → w.cell? (ad.add j) = some u := by
  obtain ⟨⟨A', c', h9, hc, hn, hat⟩, hlen⟩ := h
  simp only [Value.slice.injEq] at h9
  obtain ⟨rfl, rfl, rfl⟩ := h9
  by_cases hne : rows = []
  · subst hne
    exact ⟨rfl, fun h => ⟨rfl, hn h⟩, [], rfl, by simp, by simp, by simp⟩
  · obtain ⟨g, o, rfl, h2⟩ := hat hne
    have hex : ∀ i, i < rows.length → ∃ s, w.cell? ⟨g, o + i, none⟩ = some s ∧ ∀ hi : i < rows.length, ValsIn w s rows[i] := fun i hi => by
      obtain ⟨s, h3, h4⟩ := h2 i hi
      exact ⟨s, h3, fun _ => h4⟩
    have : Inhabited Value := ⟨undef⟩
    obtain ⟨f, hF⟩ := Go.Deep.choose_lt hex
    refine ⟨rfl, (fun h => by cases h), (List.range rows.length).map f, by simp, fun i hi hj => by simpa using (hF i hi).2 hi, ?_, ?_⟩
    · intro s hs
      obtain ⟨i, hi, rfl⟩ := List.mem_map.1 hs
      obtain ⟨B, cb, h9, -⟩ := ((hF i (List.mem_range.1 hi)).2 (List.mem_range.1 hi)).val
      rw [h9]; rfl
    · intro ad had j u hu
      cases had
      rw [add_at]
      rw [List.getElem?_map] at hu
      obtain ⟨k, h5, rfl⟩ := Option.map_eq_some_iff.1 hu
      obtain ⟨h6, h7⟩ := List.getElem?_eq_some_iff.1 h5
      rw [List.getElem_range] at h7
      subst h7
      exact (hF j (by simpa using h6)).1
theorem own_rowsIn {w : World} {base : Nat} {A : Option Addr} {c : Nat} {rows : List (List Val)} {ss : List Value} (h : w.ownsRow base 59 1 (.slice A rows.length c) rows.length ss) (hl : rows.length ≤ 9223372036854775807) (hr : ∀ r ∈ rows, r.length ≤ 9223372036854775807) (h3 : ss.length = rows.length)
    (h4 : ∀ i (hi : i < rows.length) (hj : i < ss.length), ValsIn w ss[i] rows[i]) : RowsIn w (.slice A rows.length c) rows := by
  rcases h.2 with ⟨h5, h6⟩ | ⟨g, cap, cur, h5, _, _, h7, _⟩
  · simp only [Value.slice.injEq] at h5
    obtain ⟨rfl, h8, rfl⟩ := h5
    exact ⟨⟨none, 0, rfl, by omega, fun _ => rfl, fun hn => absurd (List.eq_nil_of_length_eq_zero h6) hn⟩, hl, hr⟩
  · simp only [Value.slice.injEq] at h5
    obtain ⟨rfl, _, rfl⟩ := h5
    refine ⟨⟨some ⟨g, 0, none⟩, c, rfl, h7, (fun h => by cases h), fun _ => ⟨g, 0, rfl, fun i hi => ⟨ss[i], ?_, h4 i hi (by omega)⟩⟩⟩, hl, hr⟩
    exact (owns_cells h).get i _ (List.getElem?_eq_getElem (by omega))
/-- A slice of tuples, its cells. -/
theorem tupsIn_cells {w : World} {A : Option Addr} {n c : Nat} {ts : List (List (List Val))} (h : TupsIn w (.slice A n c) ts) : n = ts.length ∧ ∃ ss : List Value, ss.length = ts.length ∧ (∀ i (hi : i < ts.length) (hj : i < ss.length), RowsIn w ss[i] ts[i]) ∧ (∀ s ∈ ss, s.oneCell' = true) ∧
    ∀ ad, A = some ad → ∀ j u, ss[j]? = some u → w.cell? (ad.add j) = some u := by
  obtain ⟨⟨A', c', h9, hc, hat⟩, hlen⟩ := h
  simp only [Value.slice.injEq] at h9
  obtain ⟨rfl, rfl, rfl⟩ := h9
  by_cases hne : ts = []
  · subst hne
    exact ⟨rfl, [], rfl, by simp, by simp, by simp⟩
  · obtain ⟨g, o, rfl, h2⟩ := hat hne
    have hex : ∀ i, i < ts.length → ∃ s, w.cell? ⟨g, o + i, none⟩ = some s ∧ ∀ hi : i < ts.length, RowsIn w s ts[i] := fun i hi => by
      obtain ⟨s, h3, h4⟩ := h2 i hi
      exact ⟨s, h3, fun _ => h4⟩
    have : Inhabited Value := ⟨undef⟩
    obtain ⟨f, hF⟩ := Go.Deep.choose_lt hex
    refine ⟨rfl, (List.range ts.length).map f, by simp, fun i hi hj => by simpa using (hF i hi).2 hi, ?_, ?_⟩
    · intro s hs
      obtain ⟨i, hi, rfl⟩ := List.mem_map.1 hs
      obtain ⟨B, cb, h9, -⟩ := ((hF i (List.mem_range.1 hi)).2 (List.mem_range.1 hi)).val
      rw [h9]; rfl
    · intro ad had j u hu
      cases had
      rw [add_at]
      rw [List.getElem?_map] at hu
      obtain ⟨k, h5, rfl⟩ := Option.map_eq_some_iff.1 hu
      obtain ⟨h6, h7⟩ := List.getElem?_eq_some_iff.1 h5
      rw [List.getElem_range] at h7
      subst h7
      exact (hF j (by simpa using h6)).1
theorem own_tupsIn {w : World} {base : Nat} {A : Option Addr} {c : Nat} {ts : List (List (List Val))} {ss : List Value} (h : w.ownsRow base 50 1 (.slice A ts.length c) ts.length ss) (hl : ts.length ≤ 9223372036854775807) (h3 : ss.length = ts.length)
    (h4 : ∀ i (hi : i < ts.length) (hj : i < ss.length), RowsIn w ss[i] ts[i]) : TupsIn w (.slice A ts.length c) ts := by
  rcases h.2 with ⟨h5, h6⟩ | ⟨g, cap, cur, h5, _, _, h7, _⟩
  · simp only [Value.slice.injEq] at h5
    obtain ⟨rfl, h8, rfl⟩ := h5
    exact ⟨⟨none, 0, rfl, by omega, fun hn => absurd (List.eq_nil_of_length_eq_zero h6) hn⟩, hl⟩
  · simp only [Value.slice.injEq] at h5
    obtain ⟨rfl, _, rfl⟩ := h5
    refine ⟨⟨some ⟨g, 0, none⟩, c, rfl, h7, fun _ => ⟨g, 0, rfl, fun i hi => ⟨ss[i], ?_, h4 i hi (by omega)⟩⟩⟩, hl⟩
    exact (owns_cells h).get i _ (List.getElem?_eq_getElem (by omega))
/-- What Scan tells is a slice of tuples. -/
theorem OwnT.tups {W : World} {base n rel : Nat} {v : Value} {rs : List (List Val)} (h : OwnT W base v n rel rs) (hn : n ≤ 12) (hr : rel < n) (hl : rs.length ≤ 9223372036854775807) : ∃ A c, v = .slice A rs.length c ∧ TupsIn W v (rs.map (tup n rel)) ∧ (A = none → rs.length = 0 ∧ c = 0) := by
  obtain ⟨ss, h1, h2, h3⟩ := h
  obtain ⟨A, c, rfl⟩ := owns_shape h2
  refine ⟨A, c, rfl, ?_, ?_⟩
  · have e : (rs.map (tup n rel)).length = rs.length := by simp
    have h4 := own_tupsIn (A := A) (c := c) (ts := rs.map (tup n rel)) (ss := ss) (base := base) (w := W) (by rw [e]; exact h2) (by rw [e]; exact hl) (by rw [e]; exact h1) (fun i hi hj => by
      rw [List.getElem_map]
      have hi' : i < rs.length := by simpa using hi
      exact (h3 i _ _ (List.getElem?_eq_getElem hj) (List.getElem?_eq_getElem hi')).rows hn hr)
    rwa [e] at h4
  · rintro rfl
    rcases h2.2 with ⟨h5, h6⟩ | ⟨g, cap, cur, h5, _⟩
    · simp only [Value.slice.injEq] at h5
      exact ⟨h6, h5.2.2⟩
    · cases h5
/-- A part of a slice of tuples: one of it. -/
theorem TupsIn.one {w : World} {A : Option Addr} {n c : Nat} {ts : List (List (List Val))} (h : TupsIn w (.slice A n c) ts) (k : Nat) (hk : k < ts.length) : ∃ g o, A = some ⟨g, o, none⟩ ∧ ∀ c', 1 ≤ c' → TupsIn w (.slice (some ⟨g, o + k, none⟩) 1 c') [ts[k]] := by
  obtain ⟨g, o, B, m, cb, rfl, rfl, rfl, h1, h2⟩ := h.at_ k hk
  refine ⟨g, o, rfl, fun c' hc => ⟨⟨_, c', rfl, hc, fun _ => ⟨g, o + k, rfl, fun i hi => ?_⟩⟩, by simp⟩⟩
  obtain rfl : i = 0 := by simpa using hi
  exact ⟨_, h1, h2⟩
/-- A slice of one tuple, new. -/
theorem TupsIn.new {w : World} {s : Value} {t : List (List Val)} {T : TypeId} (h : RowsIn w s t) : TupsIn (w.alloc (.cells #[s] T)) (.slice (some ⟨w.heap.size, 0, none⟩) 1 1) [t] := by
  refine ⟨⟨_, 1, rfl, Nat.le_refl _, fun _ => ⟨w.heap.size, 0, rfl, fun i hi => ?_⟩⟩, by simp⟩
  obtain rfl : i = 0 := by simpa using hi
  refine ⟨s, ?_, h.ext ((Ext.refl _).alloc _)⟩
  have h9 : BoxAt (w.alloc (.cells #[s] T)) w.heap.size [s] := BoxAt.new rfl rfl
  exact h9.cells.1
section
variable {P : Program} {w : World} {ops : Array Oper} {rest : List Oper} {o : Oper} {a : Act} {Q : Exit → Act → World → Prop}
/-- 'append(own, l...)', own without elements. -/
theorem wp_app0 {K : Act → World → Prop} (s x : Operand) {S T : TypeId} (ho : o.op = .call { callee := .builtin .append, args := #[s, x], argTypes := #[S, S] }) {size bytes : Nat} (hu : P.underlying S = some (.slice T))
    (hi : (P.info? T).map (fun i => (i.zero.map (·.cells.size), i.size, i.bytes)) = some (some size, size, bytes)) (h0 : 0 < size) (hby : bytes ≤ 1000)
    {base : Nat} {v : Value} (hs : a.eval s = v) (hown : w.ownsRow base T size v 0 []) {A : Option Addr} {m c : Nat} (hx : a.eval x = .slice A m c) (hA : A = none → m = 0 ∧ c = 0)
    (news : List Value) (hl : news.length = m * size) (hcell : ∀ ad, A = some ad → ∀ j u, news[j]? = some u → w.cell? (ad.add j) = some u) (h1 : ∀ u ∈ news, u.oneCell' = true) (hnm : m ≤ 10000000) (hbase : base ≤ w.heap.size)
    (h : ∀ A' c' w', w'.ownsRow base T size (.slice A' m c') m news → ButS (fun k => v.ownBlock = some k) w w' → K (a.put o.dst (.slice A' m c')) w') : o.wp P a w K Q :=
  wp_app s x ho hu hi h0 hby hs hown hx hA news hl hcell h1 (by omega) hbase fun A' c' w' h2 h3 => by
    rw [Nat.zero_add, List.nil_append] at h2
    rw [Nat.zero_add]
    exact h A' c' w' h2 h3
theorem wpList_app0 (s x : Operand) {S T : TypeId} (ho : o.op = .call { callee := .builtin .append, args := #[s, x], argTypes := #[S, S] }) (hw : Region.wanted o (yielded ops a.tmps) = true) {size bytes : Nat} (hu : P.underlying S = some (.slice T))
    (hi : (P.info? T).map (fun i => (i.zero.map (·.cells.size), i.size, i.bytes)) = some (some size, size, bytes)) (h0 : 0 < size) (hby : bytes ≤ 1000)
    {base : Nat} {v : Value} (hs : a.eval s = v) (hown : w.ownsRow base T size v 0 []) {A : Option Addr} {m c : Nat} (hx : a.eval x = .slice A m c) (hA : A = none → m = 0 ∧ c = 0)
    (news : List Value) (hl : news.length = m * size) (hcell : ∀ ad, A = some ad → ∀ j u, news[j]? = some u → w.cell? (ad.add j) = some u) (h1 : ∀ u ∈ news, u.oneCell' = true) (hnm : m ≤ 10000000) (hbase : base ≤ w.heap.size)
    (h : ∀ A' c' w', w'.ownsRow base T size (.slice A' m c') m news → ButS (fun k => v.ownBlock = some k) w w' → wpList P ops Q rest (a.put o.dst (.slice A' m c')) w') : wpList P ops Q (o :: rest) a w :=
  wpList_wish hw fun K hK => wp_app0 s x ho hu hi h0 hby hs hown hx hA news hl hcell h1 hnm hbase fun A' c' w' h2 h3 => hK _ _ (h A' c' w' h2 h3)
theorem wpList_app (s x : Operand) {S T : TypeId} (ho : o.op = .call { callee := .builtin .append, args := #[s, x], argTypes := #[S, S] }) (hw : Region.wanted o (yielded ops a.tmps) = true) {size bytes : Nat} (hu : P.underlying S = some (.slice T))
    (hi : (P.info? T).map (fun i => (i.zero.map (·.cells.size), i.size, i.bytes)) = some (some size, size, bytes)) (h0 : 0 < size) (hby : bytes ≤ 1000)
    {base : Nat} {v : Value} {n : Nat} {xs : List Value} (hs : a.eval s = v) (hown : w.ownsRow base T size v n xs) {A : Option Addr} {m c : Nat} (hx : a.eval x = .slice A m c) (hA : A = none → m = 0 ∧ c = 0)
    (news : List Value) (hl : news.length = m * size) (hcell : ∀ ad, A = some ad → ∀ j u, news[j]? = some u → w.cell? (ad.add j) = some u) (h1 : ∀ u ∈ news, u.oneCell' = true) (hnm : n + m ≤ 100000000) (hbase : base ≤ w.heap.size)
    (h : ∀ A' c' w', w'.ownsRow base T size (.slice A' (n + m) c') (n + m) (xs ++ news) → ButS (fun k => v.ownBlock = some k) w w' → wpList P ops Q rest (a.put o.dst (.slice A' (n + m) c')) w') : wpList P ops Q (o :: rest) a w :=
  wpList_wish hw fun K hK => wp_app s x ho hu hi h0 hby hs hown hx hA news hl hcell h1 hnm hbase fun A' c' w' h2 h3 => hK _ _ (h A' c' w' h2 h3)
end
/-- A row of the call's own, new, without elements. -/
theorem owns_new0 {w : World} {base : Nat} {T : TypeId} {size : Nat} {g : Nat} (hg : g = w.heap.size) (hb : base ≤ w.heap.size) : (w.alloc (.cells #[] T)).ownsRow base T size (.slice (some ⟨g, 0, none⟩) 0 0) 0 [] := by
  subst hg
  exact ⟨by simp, .inr ⟨w.heap.size, 0, #[], rfl, hb, heap_alloc_new _ _, Nat.le_refl _, by decide, by simp, by simp⟩⟩
theorem exs_all {w w' : World} {base : Nat} {A : Option Addr} {c : Nat} {l : List Ex} {ss : List Value} {m : Ex} {sm : Value} (ho : w'.ownsRow base 27 8 (.slice A (l.length + 1) c) (l.length + 1) (exsCells l ss ++ m.cells sm)) (hE : Ext w w') (h3 : ss.length = l.length)
    (h4 : ∀ i (hi : i < l.length) (hj : i < ss.length), Ex.In w l[i] ss[i]) (hm : Ex.In w m sm) (hl : l.length ≤ 1048576) : ExsIn w' (.slice A (l.length + 1) c) (l ++ [m]) := by
  have e1 : (l ++ [m]).length = l.length + 1 := by simp
  have e2 : exsCells (l ++ [m]) (ss ++ [sm]) = exsCells l ss ++ m.cells sm := by
    rw [exsCells_app l [m] ss [sm] h3]
    show exsCells l ss ++ (m.cells sm ++ exsCells [] []) = _
    simp [exsCells]
  have h := own_exsIn (w := w') (base := base) (A := A) (c := c) (l := l ++ [m]) (ss := ss ++ [sm]) (by rw [e1, e2]; exact ho) (by rw [e1]; omega) (by simp [h3]) (fun i hi hj => by
    rcases Nat.lt_or_ge i l.length with h5 | h5
    · simp only [List.getElem_append_left h5, List.getElem_append_left (show i < ss.length by omega)]
      exact Ex.In.ext hE _ _ (h4 i h5 (by omega))
    · obtain rfl : i = l.length := by rw [e1] at hi; omega
      have e3 : (l ++ [m])[l.length]'hi = m := by simp
      have e4 : (ss ++ [sm])[l.length]'hj = sm := by simp [← h3]
      rw [e3, e4]
      exact Ex.In.ext hE _ _ hm)
  rwa [e1] at h
theorem rows_app {w w' : World} {base : Nat} {A : Option Addr} {c : Nat} {a b : List (List Val)} {sa sb : List Value} (ho : w'.ownsRow base 59 1 (.slice A (a.length + b.length) c) (a.length + b.length) (sa ++ sb)) (hE : Ext w w') (ha : sa.length = a.length) (hb : sb.length = b.length)
    (ha4 : ∀ i (hi : i < a.length) (hj : i < sa.length), ValsIn w sa[i] a[i]) (hb4 : ∀ i (hi : i < b.length) (hj : i < sb.length), ValsIn w sb[i] b[i]) (hla : a.length ≤ 1048576) (hlb : b.length ≤ 1048576) (hra : ∀ r ∈ a, r.length ≤ 9223372036854775807) (hrb : ∀ r ∈ b, r.length ≤ 9223372036854775807) : RowsIn w' (.slice A (a.length + b.length) c) (a ++ b) := by
  have e1 : (a ++ b).length = a.length + b.length := by simp
  have h := own_rowsIn (w := w') (base := base) (A := A) (c := c) (rows := a ++ b) (ss := sa ++ sb) (by rw [e1]; exact ho) (by rw [e1]; omega) (fun r hr => (List.mem_append.1 hr).elim (hra r) (hrb r)) (by simp [ha, hb]) (fun i hi hj => by
    rcases Nat.lt_or_ge i a.length with h5 | h5
    · simp only [List.getElem_append_left h5, List.getElem_append_left (show i < sa.length by omega)]
      exact (ha4 i h5 (by omega)).ext hE
    · simp only [List.getElem_append_right h5, List.getElem_append_right (show sa.length ≤ i by omega)]
      have e5 : i - sa.length = i - a.length := by rw [ha]
      simp only [e5]
      exact (hb4 (i - a.length) (by rw [e1] at hi; omega) (by rw [e1] at hi; omega)).ext hE)
  rwa [e1] at h
theorem tups_app {w w' : World} {base : Nat} {A : Option Addr} {c : Nat} {a b : List (List (List Val))} {sa sb : List Value} (ho : w'.ownsRow base 50 1 (.slice A (a.length + b.length) c) (a.length + b.length) (sa ++ sb)) (hE : Ext w w') (ha : sa.length = a.length) (hb : sb.length = b.length)
    (ha4 : ∀ i (hi : i < a.length) (hj : i < sa.length), RowsIn w sa[i] a[i]) (hb4 : ∀ i (hi : i < b.length) (hj : i < sb.length), RowsIn w sb[i] b[i]) (hla : a.length ≤ 1048576) (hlb : b.length ≤ 1048576) : TupsIn w' (.slice A (a.length + b.length) c) (a ++ b) := by
  have e1 : (a ++ b).length = a.length + b.length := by simp
  have h := own_tupsIn (w := w') (base := base) (A := A) (c := c) (ts := a ++ b) (ss := sa ++ sb) (by rw [e1]; exact ho) (by rw [e1]; omega) (by simp [ha, hb]) (fun i hi hj => by
    rcases Nat.lt_or_ge i a.length with h5 | h5
    · simp only [List.getElem_append_left h5, List.getElem_append_left (show i < sa.length by omega)]
      exact (ha4 i h5 (by omega)).ext hE
    · simp only [List.getElem_append_right h5, List.getElem_append_right (show sa.length ≤ i by omega)]
      have e5 : i - sa.length = i - a.length := by rw [ha]
      simp only [e5]
      exact (hb4 (i - a.length) (by rw [e1] at hi; omega) (by rw [e1] at hi; omega)).ext hE)
  rwa [e1] at h
/-- What Scan tells of rows, tuples whole. -/
def tupAll (rows : List (List Val)) (l : List Ex) : List (List (List Val)) × Int := ((scanAll rows 2 1 l).1.map (tup 2 1), (scanAll rows 2 1 l).2)
theorem info_ex9 : (Try.prog.info? 27).map (fun i => (i.zero.map (·.cells.size), i.size, i.bytes)) = some (some 8, 8, 88) := by kernel_rfl
theorem info_row9a : (Try.prog.info? 59).map (fun i => (i.zero.map (·.cells.size), i.size, i.bytes)) = some (some 1, 1, 24) := by kernel_rfl
end Go.Proofs.Ytlcdjaclahhdnaa
