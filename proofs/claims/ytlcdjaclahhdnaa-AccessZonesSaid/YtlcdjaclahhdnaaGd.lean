/- The call of expr.guarded. -/
import Derived.Test.YtlcdjaclahhdnaaEv
import Derived.Defers
import Derived.Recover
namespace Go.Proofs.Ytlcdjaclahhdnaa
open Go.RowKit
set_option linter.unusedSimpArgs false
set_option linter.unusedVariables false

theorem assert_errno (n : Int) (w : World) : (Instr.typeAssert (.iface 35 (.int .i64 n)) 20 35 true).run Try.prog w = .ok (.tuple #[.int .i64 n, .bool true]) w := by
  simp [Instr.typeAssert, run_underlying Try.underlying35]
theorem But.over {r g : Nat} {w w' w'' : World} (h : But r w w') (k : But g w' w'') (hg : w.heap.size ≤ g) : But r w w'' :=
  ⟨k.os.trans h.os, k.tape.trans h.tape, k.output.trans h.output, Nat.le_trans h.size k.size, fun i hi hn => (k.block i (Nat.lt_of_lt_of_le hi h.size) (by omega)).trans (h.block i hi hn)⟩
theorem BoxAt.set1 {w : World} {g : Nat} {x v : Value} (h : BoxAt w g [x]) : BoxAt (w.setCell ⟨g, 0, none⟩ v) g [v] := by
  have hc := h.cells.1
  refine ⟨⟨by go_simp, trivial⟩, fun j => ?_, by simpa [World.setCell] using h.lt⟩
  have := h.free j
  simp [this]
set_option maxRecDepth 100000 in
set_option maxHeartbeats 400000 in
theorem catch_panicking (g : Nat) (x n : Int) (older : List PanicEntry) (w : World) (hb : BoxAt w g [.int .i64 x]) :
    CallsD Try.prog 111 #[.pointer (some ⟨g, 0, none⟩)] (.panicking ({ v := .iface 35 (.int .i64 n), recovered := false } :: older)) w fun e u' w' =>
      e = .returned (.tuple #[]) ∧ u' = .panicking ({ v := .iface 35 (.int .i64 n), recovered := true } :: older) ∧ BoxAt w' g [.int .i64 n] ∧ But g w w' := by
  have hta := assert_errno
  have hc := hb.cells.1
  have hz := hb.free 0
  have HB := Lib.hid hb; clear hb
  refine callsD_of_wpS Try.func111 rfl fun c₀ cs hu => ?_
  apply wpS_seq
  apply wpS_region
  simp [wpOpsS, go_sem, recoverD, hu, Try.ntmps111, Exit.thenS]
  refine wpS_of_wp ?_
  have HU := Lib.hid hu; clear hu
  change Code.wp _ _ _ { tmps := #[.pointer (some ⟨g, 0, none⟩), .iface 35 (.int .i64 n), undef, undef, .iface 35 (.int .i64 n), undef, undef, undef, undef, undef, undef, undef, undef, undef], defers := [] } _
  go_wp2
  have h1 : BoxAt ((w.setCell ⟨g, 0, none⟩ (.int .i64 2)).setCell ⟨g, 0, none⟩ (.int .i64 n)) g [.int .i64 n] := HB.out.set1.set1
  have h2 : But g w ((w.setCell ⟨g, 0, none⟩ (.int .i64 2)).setCell ⟨g, 0, none⟩ (.int .i64 n)) := But.set_ (p := ⟨g, 0, none⟩) (.inr rfl) _ (But.set_ (p := ⟨g, 0, none⟩) (.inr rfl) _ (But.refl g w))
  simp [bodyPostS, results, Try.results111, h1, h2]
set_option maxRecDepth 100000 in
set_option maxHeartbeats 400000 in
theorem catch_idle (g : Nat) (w : World) :
    CallsD Try.prog 111 #[.pointer (some ⟨g, 0, none⟩)] .returning w fun e u' w' => e = .returned (.tuple #[]) ∧ u' = .returning ∧ w' = w := by
  refine callsD_of_wpS Try.func111 rfl fun c₀ cs hu => ?_
  apply wpS_seq
  apply wpS_region
  simp [wpOpsS, go_sem, recoverD, hu, Try.ntmps111, Exit.thenS]
  refine wpS_of_wp ?_
  have HU := Lib.hid hu; clear hu
  change Code.wp _ _ _ { tmps := #[.pointer (some ⟨g, 0, none⟩), .nilIface, undef, undef, .nilIface, undef, undef, undef, undef, undef, undef, undef, undef, undef], defers := [] } _
  go_wp2
  cases c₀
  have hm := HU.out
  simp_all [bodyPostS, results, Try.results111]
set_option maxRecDepth 100000 in
set_option maxHeartbeats 1000000 in
theorem guarded_ok_eval (cap : Array Value) (w : World) (S : World → Prop) (p : Nat) (hp : p < w.heap.size)
    (hcall : Hid (∀ w', Ext w w' → Calls Try.prog 85 cap w' fun e u => e = .returned (.tuple #[]) ∧ But p w' u ∧ S u)) :
    Calls Try.prog 58 #[.func (.func 85) #[] cap] w fun e w' => e = .returned (.int .i64 0) ∧ (∃ u, S u ∧ But w.heap.size u w') ∧ But p w w' := by
  have hmf : ∀ (fn : Fn) (first cap : Array Value) (w : World), (Instr.makeFunc fn first cap).run Try.prog w = .ok (.func fn first cap) w := fun _ _ _ _ => rfl
  have h0 : BoxAt (w.alloc (.cells #[.int .i64 0] 35)) w.heap.size [.int .i64 0] := BoxAt.new rfl rfl
  have H0 := Lib.hid h0; clear h0
  go_enter_defers Try.func58, Try.ntmps58
  go_wp2_with (go_at_call 85; refine (hcall.out _ (by repeat (first | (with_reducible exact Ext.refl _) | (with_reducible refine Ext.set_ ?_ _ ?_; focus (first | (simp; done) | (simp; omega) | (simp at *; omega))) | (with_reducible refine Ext.alloc ?_ _) | (with_reducible refine Ext.drew ?_) | (with_reducible refine Ext.drewN ?_ _) | (with_reducible refine Ext.trans ?_ (by assumption))))).mono ?_; rintro e u ⟨rfl, hb, hs⟩; have HB := Lib.hid (But.box hb (by omega) H0.out); have HBU := Lib.hid hb; have HS := Lib.hid hs; obtain ⟨c0, f0, l0⟩ := hb.at_ w.heap.size ⟨by simp, by omega⟩; clear hb hs)
  have HB1 := Lib.hid (HB.out.set1 (v := .int .i64 0))
  have hc := HB1.out.cells.1
  refine leaves_cons (f := 111) (args := #[.pointer (some ⟨w.heap.size, 0, none⟩)]) (by simp) (by simp [go_sem]) ?_
  refine (catch_idle w.heap.size _).mono ?_
  rintro e u' w'' ⟨rfl, rfl, rfl⟩
  have h1 : But w.heap.size u (u.setCell ⟨w.heap.size, 0, none⟩ (.int .i64 0)) := But.set_ (p := ⟨w.heap.size, 0, none⟩) (.inr rfl) _ (But.refl _ u)
  have h2 : But p w (u.setCell ⟨w.heap.size, 0, none⟩ (.int .i64 0)) := But.set_ (p := ⟨w.heap.size, 0, none⟩) (.inl (Nat.le_refl _)) _ ((But.of_ext ((Ext.refl w).alloc _)).trans HBU.out)
  have h3 : ∃ x, S x ∧ But w.heap.size x (u.setCell ⟨w.heap.size, 0, none⟩ (.int .i64 0)) := ⟨u, HS.out, h1⟩
  simp [Leaves, settle, results, Try.results58, go_sem, hc, h2, h3]
set_option maxRecDepth 100000 in
set_option maxHeartbeats 1000000 in
theorem guarded_bad_eval (cap : Array Value) (w : World) (n : Int) (p : Nat) (hp : p < w.heap.size)
    (hcall : Hid (∀ w', Ext w w' → Calls Try.prog 85 cap w' fun e u => e = .panicked (chainE n) ∧ But p w' u)) :
    Calls Try.prog 58 #[.func (.func 85) #[] cap] w fun e w' => e = .returned (.int .i64 n) ∧ But p w w' := by
  have hmf : ∀ (fn : Fn) (first cap : Array Value) (w : World), (Instr.makeFunc fn first cap).run Try.prog w = .ok (.func fn first cap) w := fun _ _ _ _ => rfl
  have h0 : BoxAt (w.alloc (.cells #[.int .i64 0] 35)) w.heap.size [.int .i64 0] := BoxAt.new rfl rfl
  have H0 := Lib.hid h0; clear h0
  unfold chainE at hcall
  go_enter_defers Try.func58, Try.ntmps58
  go_wp2_with (go_at_call 85; refine (hcall.out _ (by repeat (first | (with_reducible exact Ext.refl _) | (with_reducible refine Ext.set_ ?_ _ ?_; focus (first | (simp; done) | (simp; omega) | (simp at *; omega))) | (with_reducible refine Ext.alloc ?_ _) | (with_reducible refine Ext.drew ?_) | (with_reducible refine Ext.drewN ?_ _) | (with_reducible refine Ext.trans ?_ (by assumption))))).mono ?_; rintro e u ⟨rfl, hb⟩; have HB := Lib.hid (But.box hb (by omega) H0.out); have HBU := Lib.hid hb; clear hb)
  refine leaves_cons (f := 111) (args := #[.pointer (some ⟨w.heap.size, 0, none⟩)]) (by simp) (by simp [go_sem]) ?_
  refine (catch_panicking w.heap.size 0 n [] u HB.out).mono ?_
  rintro e u' w'' ⟨rfl, rfl, hb2, hb3⟩
  have hc := hb2.cells.1
  have h2 : But p w w'' := ((But.of_ext ((Ext.refl w).alloc _)).trans HBU.out).over hb3 (Nat.le_refl _)
  simp [Leaves, settle, results, Try.results58, go_sem, hc, h2]
set_option maxRecDepth 100000 in
set_option maxHeartbeats 1000000 in
theorem guarded_ok_type (cap : Array Value) (w : World) (S : World → Prop) (p : Nat) (hp : p < w.heap.size)
    (hcall : Hid (∀ w', Ext w w' → Calls Try.prog 93 cap w' fun e u => e = .returned (.tuple #[]) ∧ But p w' u ∧ S u)) :
    Calls Try.prog 58 #[.func (.func 93) #[] cap] w fun e w' => e = .returned (.int .i64 0) ∧ (∃ u, S u ∧ But w.heap.size u w') ∧ But p w w' := by
  have hmf : ∀ (fn : Fn) (first cap : Array Value) (w : World), (Instr.makeFunc fn first cap).run Try.prog w = .ok (.func fn first cap) w := fun _ _ _ _ => rfl
  have h0 : BoxAt (w.alloc (.cells #[.int .i64 0] 35)) w.heap.size [.int .i64 0] := BoxAt.new rfl rfl
  have H0 := Lib.hid h0; clear h0
  go_enter_defers Try.func58, Try.ntmps58
  go_wp2_with (go_at_call 93; refine (hcall.out _ (by repeat (first | (with_reducible exact Ext.refl _) | (with_reducible refine Ext.set_ ?_ _ ?_; focus (first | (simp; done) | (simp; omega) | (simp at *; omega))) | (with_reducible refine Ext.alloc ?_ _) | (with_reducible refine Ext.drew ?_) | (with_reducible refine Ext.drewN ?_ _) | (with_reducible refine Ext.trans ?_ (by assumption))))).mono ?_; rintro e u ⟨rfl, hb, hs⟩; have HB := Lib.hid (But.box hb (by omega) H0.out); have HBU := Lib.hid hb; have HS := Lib.hid hs; obtain ⟨c0, f0, l0⟩ := hb.at_ w.heap.size ⟨by simp, by omega⟩; clear hb hs)
  have HB1 := Lib.hid (HB.out.set1 (v := .int .i64 0))
  have hc := HB1.out.cells.1
  refine leaves_cons (f := 111) (args := #[.pointer (some ⟨w.heap.size, 0, none⟩)]) (by simp) (by simp [go_sem]) ?_
  refine (catch_idle w.heap.size _).mono ?_
  rintro e u' w'' ⟨rfl, rfl, rfl⟩
  have h1 : But w.heap.size u (u.setCell ⟨w.heap.size, 0, none⟩ (.int .i64 0)) := But.set_ (p := ⟨w.heap.size, 0, none⟩) (.inr rfl) _ (But.refl _ u)
  have h2 : But p w (u.setCell ⟨w.heap.size, 0, none⟩ (.int .i64 0)) := But.set_ (p := ⟨w.heap.size, 0, none⟩) (.inl (Nat.le_refl _)) _ ((But.of_ext ((Ext.refl w).alloc _)).trans HBU.out)
  have h3 : ∃ x, S x ∧ But w.heap.size x (u.setCell ⟨w.heap.size, 0, none⟩ (.int .i64 0)) := ⟨u, HS.out, h1⟩
  simp [Leaves, settle, results, Try.results58, go_sem, hc, h2, h3]
set_option maxRecDepth 100000 in
set_option maxHeartbeats 1000000 in
theorem guarded_bad_type (cap : Array Value) (w : World) (n : Int) (p : Nat) (hp : p < w.heap.size)
    (hcall : Hid (∀ w', Ext w w' → Calls Try.prog 93 cap w' fun e u => e = .panicked (chainE n) ∧ But p w' u)) :
    Calls Try.prog 58 #[.func (.func 93) #[] cap] w fun e w' => e = .returned (.int .i64 n) ∧ But p w w' := by
  have hmf : ∀ (fn : Fn) (first cap : Array Value) (w : World), (Instr.makeFunc fn first cap).run Try.prog w = .ok (.func fn first cap) w := fun _ _ _ _ => rfl
  have h0 : BoxAt (w.alloc (.cells #[.int .i64 0] 35)) w.heap.size [.int .i64 0] := BoxAt.new rfl rfl
  have H0 := Lib.hid h0; clear h0
  unfold chainE at hcall
  go_enter_defers Try.func58, Try.ntmps58
  go_wp2_with (go_at_call 93; refine (hcall.out _ (by repeat (first | (with_reducible exact Ext.refl _) | (with_reducible refine Ext.set_ ?_ _ ?_; focus (first | (simp; done) | (simp; omega) | (simp at *; omega))) | (with_reducible refine Ext.alloc ?_ _) | (with_reducible refine Ext.drew ?_) | (with_reducible refine Ext.drewN ?_ _) | (with_reducible refine Ext.trans ?_ (by assumption))))).mono ?_; rintro e u ⟨rfl, hb⟩; have HB := Lib.hid (But.box hb (by omega) H0.out); have HBU := Lib.hid hb; clear hb)
  refine leaves_cons (f := 111) (args := #[.pointer (some ⟨w.heap.size, 0, none⟩)]) (by simp) (by simp [go_sem]) ?_
  refine (catch_panicking w.heap.size 0 n [] u HB.out).mono ?_
  rintro e u' w'' ⟨rfl, rfl, hb2, hb3⟩
  have hc := hb2.cells.1
  have h2 : But p w w'' := ((But.of_ext ((Ext.refl w).alloc _)).trans HBU.out).over hb3 (Nat.le_refl _)
  simp [Leaves, settle, results, Try.results58, go_sem, hc, h2]
set_option maxRecDepth 100000 in
set_option maxHeartbeats 1000000 in
theorem guarded_ok_take (cap : Array Value) (w : World) (S : World → Prop) (p : Nat) (hp : p < w.heap.size)
    (hcall : Hid (∀ w', Ext w w' → Calls Try.prog 59 cap w' fun e u => e = .returned (.tuple #[]) ∧ But p w' u ∧ S u)) :
    Calls Try.prog 58 #[.func (.func 59) #[] cap] w fun e w' => e = .returned (.int .i64 0) ∧ (∃ u, S u ∧ But w.heap.size u w') ∧ But p w w' := by
  have hmf : ∀ (fn : Fn) (first cap : Array Value) (w : World), (Instr.makeFunc fn first cap).run Try.prog w = .ok (.func fn first cap) w := fun _ _ _ _ => rfl
  have h0 : BoxAt (w.alloc (.cells #[.int .i64 0] 35)) w.heap.size [.int .i64 0] := BoxAt.new rfl rfl
  have H0 := Lib.hid h0; clear h0
  go_enter_defers Try.func58, Try.ntmps58
  go_wp2_with (go_at_call 59; refine (hcall.out _ (by repeat (first | (with_reducible exact Ext.refl _) | (with_reducible refine Ext.set_ ?_ _ ?_; focus (first | (simp; done) | (simp; omega) | (simp at *; omega))) | (with_reducible refine Ext.alloc ?_ _) | (with_reducible refine Ext.drew ?_) | (with_reducible refine Ext.drewN ?_ _) | (with_reducible refine Ext.trans ?_ (by assumption))))).mono ?_; rintro e u ⟨rfl, hb, hs⟩; have HB := Lib.hid (But.box hb (by omega) H0.out); have HBU := Lib.hid hb; have HS := Lib.hid hs; obtain ⟨c0, f0, l0⟩ := hb.at_ w.heap.size ⟨by simp, by omega⟩; clear hb hs)
  have HB1 := Lib.hid (HB.out.set1 (v := .int .i64 0))
  have hc := HB1.out.cells.1
  refine leaves_cons (f := 111) (args := #[.pointer (some ⟨w.heap.size, 0, none⟩)]) (by simp) (by simp [go_sem]) ?_
  refine (catch_idle w.heap.size _).mono ?_
  rintro e u' w'' ⟨rfl, rfl, rfl⟩
  have h1 : But w.heap.size u (u.setCell ⟨w.heap.size, 0, none⟩ (.int .i64 0)) := But.set_ (p := ⟨w.heap.size, 0, none⟩) (.inr rfl) _ (But.refl _ u)
  have h2 : But p w (u.setCell ⟨w.heap.size, 0, none⟩ (.int .i64 0)) := But.set_ (p := ⟨w.heap.size, 0, none⟩) (.inl (Nat.le_refl _)) _ ((But.of_ext ((Ext.refl w).alloc _)).trans HBU.out)
  have h3 : ∃ x, S x ∧ But w.heap.size x (u.setCell ⟨w.heap.size, 0, none⟩ (.int .i64 0)) := ⟨u, HS.out, h1⟩
  simp [Leaves, settle, results, Try.results58, go_sem, hc, h2, h3]
set_option maxRecDepth 100000 in
set_option maxHeartbeats 1000000 in
theorem guarded_bad_take (cap : Array Value) (w : World) (n : Int) (p : Nat) (hp : p < w.heap.size)
    (hcall : Hid (∀ w', Ext w w' → Calls Try.prog 59 cap w' fun e u => e = .panicked (chainE n) ∧ But p w' u)) :
    Calls Try.prog 58 #[.func (.func 59) #[] cap] w fun e w' => e = .returned (.int .i64 n) ∧ But p w w' := by
  have hmf : ∀ (fn : Fn) (first cap : Array Value) (w : World), (Instr.makeFunc fn first cap).run Try.prog w = .ok (.func fn first cap) w := fun _ _ _ _ => rfl
  have h0 : BoxAt (w.alloc (.cells #[.int .i64 0] 35)) w.heap.size [.int .i64 0] := BoxAt.new rfl rfl
  have H0 := Lib.hid h0; clear h0
  unfold chainE at hcall
  go_enter_defers Try.func58, Try.ntmps58
  go_wp2_with (go_at_call 59; refine (hcall.out _ (by repeat (first | (with_reducible exact Ext.refl _) | (with_reducible refine Ext.set_ ?_ _ ?_; focus (first | (simp; done) | (simp; omega) | (simp at *; omega))) | (with_reducible refine Ext.alloc ?_ _) | (with_reducible refine Ext.drew ?_) | (with_reducible refine Ext.drewN ?_ _) | (with_reducible refine Ext.trans ?_ (by assumption))))).mono ?_; rintro e u ⟨rfl, hb⟩; have HB := Lib.hid (But.box hb (by omega) H0.out); have HBU := Lib.hid hb; clear hb)
  refine leaves_cons (f := 111) (args := #[.pointer (some ⟨w.heap.size, 0, none⟩)]) (by simp) (by simp [go_sem]) ?_
  refine (catch_panicking w.heap.size 0 n [] u HB.out).mono ?_
  rintro e u' w'' ⟨rfl, rfl, hb2, hb3⟩
  have hc := hb2.cells.1
  have h2 : But p w w'' := ((But.of_ext ((Ext.refl w).alloc _)).trans HBU.out).over hb3 (Nat.le_refl _)
  simp [Leaves, settle, results, Try.results58, go_sem, hc, h2]
end Go.Proofs.Ytlcdjaclahhdnaa
