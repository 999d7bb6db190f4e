/- The call of value.Take. -/
import Derived.Test.YtlcdjaclahhdnaaReadB
import Derived.Test.YtlcdjaclahhdnaaPutV
namespace Go.Proofs.Ytlcdjaclahhdnaa
open Go.RowKit
set_option linter.unusedSimpArgs false
set_option linter.unusedVariables false

set_option maxHeartbeats 1000000 in
theorem take0_rd (r B : Nat) (rest : List Nat) (w : World) (h : Rd w r B (0 :: rest)) :
    Calls Try.prog 26 #[.pointer (some ⟨r, 0, none⟩)] w fun e w' => e = .returned (.tuple #[Val.enc ⟨0, 0, 0, ⟨#[]⟩⟩, .int .i64 0]) ∧ Rd w' r B rest ∧ But r w w' := by
  obtain ⟨lr, lB, ne⟩ := h.lt
  have hR : ∀ w, Calls Try.prog 27 #[Val.enc ⟨0, 0, 0, ⟨#[]⟩⟩] w fun e w' => e = .returned (.bool true) ∧ Ext w w' := fun w => by
    have := right_of ⟨0, 0, 0, ⟨#[]⟩⟩ w (by show (0 : Nat) < _; decide)
    rw [Val.Flat.right (.null)] at this; exact this
  unfold Val.enc at hR; simp only at hR
  have HR := Lib.hid hR; clear hR
  go_enter Try.func26, Try.ntmps26
  go_wp2_with (first
    | (go_at_call 79; refine (byte_rd r B 0 rest _ ?_ (by omega)).mono ?_; (focus ((repeat (first | assumption | (with_reducible refine Rd.set ?_ ?_ ?_; (focus (first | omega | (simp; omega) | (simp at *; omega))); (focus (first | omega | (simp; omega) | (simp at *; omega)))) | (with_reducible refine Rd.alloc _ ?_) | (with_reducible refine Rd.drew ?_) | (with_reducible refine Rd.ext (by assumption) ?_))); done)); rintro e w1 ⟨rfl, hr1, hb1⟩; have hs1 := hb1.size; simp at hs1; obtain ⟨c0, f0, l0⟩ := hb1.at_ w.heap.size ⟨(by first | omega | (simp; done) | (simp; omega) | (simp at *; omega)), by omega⟩)
    | (go_at_call 83; refine (err_of r B rest _ ?_).mono ?_; (focus ((repeat (first | assumption | (with_reducible refine Rd.set ?_ ?_ ?_; (focus (first | omega | (simp; omega) | (simp at *; omega))); (focus (first | omega | (simp; omega) | (simp at *; omega)))) | (with_reducible refine Rd.alloc _ ?_) | (with_reducible refine Rd.drew ?_) | (with_reducible refine Rd.ext (by assumption) ?_))); done)); rintro e wx ⟨rfl, rfl⟩)
    | (go_at_call 27; refine (HR.out _).mono ?_; rintro e w3 ⟨rfl, hb3⟩; obtain ⟨c3, f3, l3⟩ := hb3.at_ w.heap.size (by first | omega | (simp; done) | (simp; omega) | (simp at *; omega)); obtain ⟨c4, f4, l4⟩ := hb3.at_ w1.heap.size (by first | omega | (simp; done) | (simp; omega) | (simp at *; omega))))
  refine back_ct rfl (Val.cells ⟨0, 0, 0, ⟨#[]⟩⟩) (.int .i64 0) rfl rfl agg_val rfl ?_ ⟨rfl, ?_, ?_⟩
  · (simp only [At, Val.cells]; repeat (first | exact trivial | (refine ⟨?_, ?_⟩; focus go_simp)))
  · (repeat (first | assumption | (with_reducible refine Rd.set ?_ ?_ ?_; (focus (first | omega | (simp; omega) | (simp at *; omega))); (focus (first | omega | (simp; omega) | (simp at *; omega)))) | (with_reducible refine Rd.alloc _ ?_) | (with_reducible refine Rd.drew ?_) | (with_reducible refine Rd.ext (by assumption) ?_)))
  · repeat (first | (with_reducible exact But.refl _ _) | (with_reducible refine But.set_ ?_ _ ?_; focus (first | (left; simp; done) | (left; simp; omega) | (left; simp at *; omega) | (right; rfl))) | (with_reducible refine But.alloc ?_ _) | (with_reducible refine But.drew ?_) | (with_reducible refine But.trans ?_ (by assumption)) | (with_reducible refine But.trans ?_ (But.of_ext (by assumption))))

set_option maxHeartbeats 1000000 in
theorem take1f_rd (r B : Nat) (rest : List Nat) (w : World) (h : Rd w r B (1 :: (0 :: rest))) :
    Calls Try.prog 26 #[.pointer (some ⟨r, 0, none⟩)] w fun e w' => e = .returned (.tuple #[Val.enc ⟨1, 0, 0, ⟨#[]⟩⟩, .int .i64 0]) ∧ Rd w' r B rest ∧ But r w w' := by
  obtain ⟨lr, lB, ne⟩ := h.lt
  have hR : ∀ w, Calls Try.prog 27 #[Val.enc ⟨1, 0, 0, ⟨#[]⟩⟩] w fun e w' => e = .returned (.bool true) ∧ Ext w w' := fun w => by
    have := right_of ⟨1, 0, 0, ⟨#[]⟩⟩ w (by show (0 : Nat) < _; decide)
    rw [Val.Flat.right (.bool 0 (.inl rfl))] at this; exact this
  unfold Val.enc at hR; simp only at hR
  have HR := Lib.hid hR; clear hR
  go_enter Try.func26, Try.ntmps26
  go_wp2_with (first
    | (go_at_call 79; refine (byte_rd r B 1 (0 :: rest) _ ?_ (by omega)).mono ?_; (focus ((repeat (first | assumption | (with_reducible refine Rd.set ?_ ?_ ?_; (focus (first | omega | (simp; omega) | (simp at *; omega))); (focus (first | omega | (simp; omega) | (simp at *; omega)))) | (with_reducible refine Rd.alloc _ ?_) | (with_reducible refine Rd.drew ?_) | (with_reducible refine Rd.ext (by assumption) ?_))); done)); rintro e w1 ⟨rfl, hr1, hb1⟩; have hs1 := hb1.size; simp at hs1; obtain ⟨c0, f0, l0⟩ := hb1.at_ w.heap.size ⟨(by first | omega | (simp; done) | (simp; omega) | (simp at *; omega)), by omega⟩)
    | (go_at_call 79; refine (byte_rd r B 0 rest _ ?_ (by omega)).mono ?_; (focus ((repeat (first | assumption | (with_reducible refine Rd.set ?_ ?_ ?_; (focus (first | omega | (simp; omega) | (simp at *; omega))); (focus (first | omega | (simp; omega) | (simp at *; omega)))) | (with_reducible refine Rd.alloc _ ?_) | (with_reducible refine Rd.drew ?_) | (with_reducible refine Rd.ext (by assumption) ?_))); done)); rintro e w2 ⟨rfl, hr2, hb2⟩; have hs2 := hb2.size; simp at hs2; obtain ⟨c1, f1, l1⟩ := hb2.at_ w.heap.size ⟨(by first | omega | (simp; done) | (simp; omega) | (simp at *; omega)), by omega⟩; obtain ⟨c2, f2, l2⟩ := hb2.at_ w1.heap.size ⟨(by first | omega | (simp; done) | (simp; omega) | (simp at *; omega)), by omega⟩)
    | (go_at_call 83; refine (err_of r B rest _ ?_).mono ?_; (focus ((repeat (first | assumption | (with_reducible refine Rd.set ?_ ?_ ?_; (focus (first | omega | (simp; omega) | (simp at *; omega))); (focus (first | omega | (simp; omega) | (simp at *; omega)))) | (with_reducible refine Rd.alloc _ ?_) | (with_reducible refine Rd.drew ?_) | (with_reducible refine Rd.ext (by assumption) ?_))); done)); rintro e wx ⟨rfl, rfl⟩)
    | (go_at_call 27; refine (HR.out _).mono ?_; rintro e w3 ⟨rfl, hb3⟩; obtain ⟨c3, f3, l3⟩ := hb3.at_ w.heap.size (by first | omega | (simp; done) | (simp; omega) | (simp at *; omega)); obtain ⟨c4, f4, l4⟩ := hb3.at_ w1.heap.size (by first | omega | (simp; done) | (simp; omega) | (simp at *; omega))))
  refine back_ct rfl (Val.cells ⟨1, 0, 0, ⟨#[]⟩⟩) (.int .i64 0) rfl rfl agg_val rfl ?_ ⟨rfl, ?_, ?_⟩
  · (simp only [At, Val.cells]; repeat (first | exact trivial | (refine ⟨?_, ?_⟩; focus go_simp)))
  · (repeat (first | assumption | (with_reducible refine Rd.set ?_ ?_ ?_; (focus (first | omega | (simp; omega) | (simp at *; omega))); (focus (first | omega | (simp; omega) | (simp at *; omega)))) | (with_reducible refine Rd.alloc _ ?_) | (with_reducible refine Rd.drew ?_) | (with_reducible refine Rd.ext (by assumption) ?_)))
  · repeat (first | (with_reducible exact But.refl _ _) | (with_reducible refine But.set_ ?_ _ ?_; focus (first | (left; simp; done) | (left; simp; omega) | (left; simp at *; omega) | (right; rfl))) | (with_reducible refine But.alloc ?_ _) | (with_reducible refine But.drew ?_) | (with_reducible refine But.trans ?_ (by assumption)) | (with_reducible refine But.trans ?_ (But.of_ext (by assumption))))

set_option maxHeartbeats 1000000 in
theorem take1t_rd (r B : Nat) (rest : List Nat) (w : World) (h : Rd w r B (1 :: (1 :: rest))) :
    Calls Try.prog 26 #[.pointer (some ⟨r, 0, none⟩)] w fun e w' => e = .returned (.tuple #[Val.enc ⟨1, 1, 0, ⟨#[]⟩⟩, .int .i64 0]) ∧ Rd w' r B rest ∧ But r w w' := by
  obtain ⟨lr, lB, ne⟩ := h.lt
  have hR : ∀ w, Calls Try.prog 27 #[Val.enc ⟨1, 1, 0, ⟨#[]⟩⟩] w fun e w' => e = .returned (.bool true) ∧ Ext w w' := fun w => by
    have := right_of ⟨1, 1, 0, ⟨#[]⟩⟩ w (by show (0 : Nat) < _; decide)
    rw [Val.Flat.right (.bool 1 (.inr rfl))] at this; exact this
  unfold Val.enc at hR; simp only at hR
  have HR := Lib.hid hR; clear hR
  go_enter Try.func26, Try.ntmps26
  go_wp2_with (first
    | (go_at_call 79; refine (byte_rd r B 1 (1 :: rest) _ ?_ (by omega)).mono ?_; (focus ((repeat (first | assumption | (with_reducible refine Rd.set ?_ ?_ ?_; (focus (first | omega | (simp; omega) | (simp at *; omega))); (focus (first | omega | (simp; omega) | (simp at *; omega)))) | (with_reducible refine Rd.alloc _ ?_) | (with_reducible refine Rd.drew ?_) | (with_reducible refine Rd.ext (by assumption) ?_))); done)); rintro e w1 ⟨rfl, hr1, hb1⟩; have hs1 := hb1.size; simp at hs1; obtain ⟨c0, f0, l0⟩ := hb1.at_ w.heap.size ⟨(by first | omega | (simp; done) | (simp; omega) | (simp at *; omega)), by omega⟩)
    | (go_at_call 79; refine (byte_rd r B 1 rest _ ?_ (by omega)).mono ?_; (focus ((repeat (first | assumption | (with_reducible refine Rd.set ?_ ?_ ?_; (focus (first | omega | (simp; omega) | (simp at *; omega))); (focus (first | omega | (simp; omega) | (simp at *; omega)))) | (with_reducible refine Rd.alloc _ ?_) | (with_reducible refine Rd.drew ?_) | (with_reducible refine Rd.ext (by assumption) ?_))); done)); rintro e w2 ⟨rfl, hr2, hb2⟩; have hs2 := hb2.size; simp at hs2; obtain ⟨c1, f1, l1⟩ := hb2.at_ w.heap.size ⟨(by first | omega | (simp; done) | (simp; omega) | (simp at *; omega)), by omega⟩; obtain ⟨c2, f2, l2⟩ := hb2.at_ w1.heap.size ⟨(by first | omega | (simp; done) | (simp; omega) | (simp at *; omega)), by omega⟩)
    | (go_at_call 83; refine (err_of r B rest _ ?_).mono ?_; (focus ((repeat (first | assumption | (with_reducible refine Rd.set ?_ ?_ ?_; (focus (first | omega | (simp; omega) | (simp at *; omega))); (focus (first | omega | (simp; omega) | (simp at *; omega)))) | (with_reducible refine Rd.alloc _ ?_) | (with_reducible refine Rd.drew ?_) | (with_reducible refine Rd.ext (by assumption) ?_))); done)); rintro e wx ⟨rfl, rfl⟩)
    | (go_at_call 27; refine (HR.out _).mono ?_; rintro e w3 ⟨rfl, hb3⟩; obtain ⟨c3, f3, l3⟩ := hb3.at_ w.heap.size (by first | omega | (simp; done) | (simp; omega) | (simp at *; omega)); obtain ⟨c4, f4, l4⟩ := hb3.at_ w1.heap.size (by first | omega | (simp; done) | (simp; omega) | (simp at *; omega))))
  refine back_ct rfl (Val.cells ⟨1, 1, 0, ⟨#[]⟩⟩) (.int .i64 0) rfl rfl agg_val rfl ?_ ⟨rfl, ?_, ?_⟩
  · (simp only [At, Val.cells]; repeat (first | exact trivial | (refine ⟨?_, ?_⟩; focus go_simp)))
  · (repeat (first | assumption | (with_reducible refine Rd.set ?_ ?_ ?_; (focus (first | omega | (simp; omega) | (simp at *; omega))); (focus (first | omega | (simp; omega) | (simp at *; omega)))) | (with_reducible refine Rd.alloc _ ?_) | (with_reducible refine Rd.drew ?_) | (with_reducible refine Rd.ext (by assumption) ?_)))
  · repeat (first | (with_reducible exact But.refl _ _) | (with_reducible refine But.set_ ?_ _ ?_; focus (first | (left; simp; done) | (left; simp; omega) | (left; simp at *; omega) | (right; rfl))) | (with_reducible refine But.alloc ?_ _) | (with_reducible refine But.drew ?_) | (with_reducible refine But.trans ?_ (by assumption)) | (with_reducible refine But.trans ?_ (But.of_ext (by assumption))))

set_option maxHeartbeats 1000000 in
theorem take2_rd (r B : Nat) (n : Int) (hn : -9223372036854775808 ≤ n ∧ n ≤ 9223372036854775807) (rest : List Nat) (w : World) (h : Rd w r B (2 :: (putUint (zig n) ++ rest))) :
    Calls Try.prog 26 #[.pointer (some ⟨r, 0, none⟩)] w fun e w' => e = .returned (.tuple #[Val.enc ⟨2, n, 0, ⟨#[]⟩⟩, .int .i64 0]) ∧ Rd w' r B rest ∧ But r w w' := by
  obtain ⟨lr, lB, ne⟩ := h.lt
  have hR : ∀ w, Calls Try.prog 27 #[Val.enc ⟨2, n, 0, ⟨#[]⟩⟩] w fun e w' => e = .returned (.bool true) ∧ Ext w w' := fun w => by
    have := right_of ⟨2, n, 0, ⟨#[]⟩⟩ w (by show (0 : Nat) < _; decide)
    rw [Val.Flat.right (.int n hn)] at this; exact this
  unfold Val.enc at hR; simp only at hR
  have HR := Lib.hid hR; clear hR
  go_enter Try.func26, Try.ntmps26
  go_wp2_with (first
    | (go_at_call 79; refine (byte_rd r B 2 (putUint (zig n) ++ rest) _ ?_ (by omega)).mono ?_; (focus ((repeat (first | assumption | (with_reducible refine Rd.set ?_ ?_ ?_; (focus (first | omega | (simp; omega) | (simp at *; omega))); (focus (first | omega | (simp; omega) | (simp at *; omega)))) | (with_reducible refine Rd.alloc _ ?_) | (with_reducible refine Rd.drew ?_) | (with_reducible refine Rd.ext (by assumption) ?_))); done)); rintro e w1 ⟨rfl, hr1, hb1⟩; have hs1 := hb1.size; simp at hs1; obtain ⟨c0, f0, l0⟩ := hb1.at_ w.heap.size ⟨(by first | omega | (simp; done) | (simp; omega) | (simp at *; omega)), by omega⟩)
    | (go_at_call 80; refine (int_rd r B n rest _ ?_ hn.1 hn.2).mono ?_; (focus ((repeat (first | assumption | (with_reducible refine Rd.set ?_ ?_ ?_; (focus (first | omega | (simp; omega) | (simp at *; omega))); (focus (first | omega | (simp; omega) | (simp at *; omega)))) | (with_reducible refine Rd.alloc _ ?_) | (with_reducible refine Rd.drew ?_) | (with_reducible refine Rd.ext (by assumption) ?_))); done)); rintro e w2 ⟨rfl, hr2, hb2⟩; have hs2 := hb2.size; simp at hs2; obtain ⟨c1, f1, l1⟩ := hb2.at_ w.heap.size ⟨(by first | omega | (simp; done) | (simp; omega) | (simp at *; omega)), by omega⟩; obtain ⟨c2, f2, l2⟩ := hb2.at_ w1.heap.size ⟨(by first | omega | (simp; done) | (simp; omega) | (simp at *; omega)), by omega⟩)
    | (go_at_call 83; refine (err_of r B rest _ ?_).mono ?_; (focus ((repeat (first | assumption | (with_reducible refine Rd.set ?_ ?_ ?_; (focus (first | omega | (simp; omega) | (simp at *; omega))); (focus (first | omega | (simp; omega) | (simp at *; omega)))) | (with_reducible refine Rd.alloc _ ?_) | (with_reducible refine Rd.drew ?_) | (with_reducible refine Rd.ext (by assumption) ?_))); done)); rintro e wx ⟨rfl, rfl⟩)
    | (go_at_call 27; refine (HR.out _).mono ?_; rintro e w3 ⟨rfl, hb3⟩; obtain ⟨c3, f3, l3⟩ := hb3.at_ w.heap.size (by first | omega | (simp; done) | (simp; omega) | (simp at *; omega)); obtain ⟨c4, f4, l4⟩ := hb3.at_ w1.heap.size (by first | omega | (simp; done) | (simp; omega) | (simp at *; omega))))
  refine back_ct rfl (Val.cells ⟨2, n, 0, ⟨#[]⟩⟩) (.int .i64 0) rfl rfl agg_val rfl ?_ ⟨rfl, ?_, ?_⟩
  · (simp only [At, Val.cells]; repeat (first | exact trivial | (refine ⟨?_, ?_⟩; focus go_simp)))
  · (repeat (first | assumption | (with_reducible refine Rd.set ?_ ?_ ?_; (focus (first | omega | (simp; omega) | (simp at *; omega))); (focus (first | omega | (simp; omega) | (simp at *; omega)))) | (with_reducible refine Rd.alloc _ ?_) | (with_reducible refine Rd.drew ?_) | (with_reducible refine Rd.ext (by assumption) ?_)))
  · repeat (first | (with_reducible exact But.refl _ _) | (with_reducible refine But.set_ ?_ _ ?_; focus (first | (left; simp; done) | (left; simp; omega) | (left; simp at *; omega) | (right; rfl))) | (with_reducible refine But.alloc ?_ _) | (with_reducible refine But.drew ?_) | (with_reducible refine But.trans ?_ (by assumption)) | (with_reducible refine But.trans ?_ (But.of_ext (by assumption))))

set_option maxHeartbeats 1000000 in
theorem take3_rd (r B : Nat) (x : Nat) (hx : x < 18446744073709551616) (hp : plainF x = x) (rest : List Nat) (w : World) (h : Rd w r B (3 :: (fixed 8 x ++ rest))) :
    Calls Try.prog 26 #[.pointer (some ⟨r, 0, none⟩)] w fun e w' => e = .returned (.tuple #[Val.enc ⟨3, 0, x, ⟨#[]⟩⟩, .int .i64 0]) ∧ Rd w' r B rest ∧ But r w w' := by
  obtain ⟨lr, lB, ne⟩ := h.lt
  have hR : ∀ w, Calls Try.prog 27 #[Val.enc ⟨3, 0, x, ⟨#[]⟩⟩] w fun e w' => e = .returned (.bool true) ∧ Ext w w' := fun w => by
    have := right_of ⟨3, 0, x, ⟨#[]⟩⟩ w (hx)
    rw [Val.Flat.right (.float x hx hp)] at this; exact this
  unfold Val.enc at hR; simp only at hR
  have HR := Lib.hid hR; clear hR
  have HX := Lib.hid hx; have HP := Lib.hid hp; clear hx hp
  go_enter Try.func26, Try.ntmps26
  go_wp2_with (first
    | (go_at_call 79; refine (byte_rd r B 3 (fixed 8 x ++ rest) _ ?_ (by omega)).mono ?_; (focus ((repeat (first | assumption | (with_reducible refine Rd.set ?_ ?_ ?_; (focus (first | omega | (simp; omega) | (simp at *; omega))); (focus (first | omega | (simp; omega) | (simp at *; omega)))) | (with_reducible refine Rd.alloc _ ?_) | (with_reducible refine Rd.drew ?_) | (with_reducible refine Rd.ext (by assumption) ?_))); done)); rintro e w1 ⟨rfl, hr1, hb1⟩; have hs1 := hb1.size; simp at hs1; obtain ⟨c0, f0, l0⟩ := hb1.at_ w.heap.size ⟨(by first | omega | (simp; done) | (simp; omega) | (simp at *; omega)), by omega⟩)
    | (go_at_call 81; refine (float_rd r B x rest _ ?_ HX.out HP.out).mono ?_; (focus ((repeat (first | assumption | (with_reducible refine Rd.set ?_ ?_ ?_; (focus (first | omega | (simp; omega) | (simp at *; omega))); (focus (first | omega | (simp; omega) | (simp at *; omega)))) | (with_reducible refine Rd.alloc _ ?_) | (with_reducible refine Rd.drew ?_) | (with_reducible refine Rd.ext (by assumption) ?_))); done)); rintro e w2 ⟨rfl, hr2, hb2⟩; have hs2 := hb2.size; simp at hs2; obtain ⟨c1, f1, l1⟩ := hb2.at_ w.heap.size ⟨(by first | omega | (simp; done) | (simp; omega) | (simp at *; omega)), by omega⟩; obtain ⟨c2, f2, l2⟩ := hb2.at_ w1.heap.size ⟨(by first | omega | (simp; done) | (simp; omega) | (simp at *; omega)), by omega⟩)
    | (go_at_call 83; refine (err_of r B rest _ ?_).mono ?_; (focus ((repeat (first | assumption | (with_reducible refine Rd.set ?_ ?_ ?_; (focus (first | omega | (simp; omega) | (simp at *; omega))); (focus (first | omega | (simp; omega) | (simp at *; omega)))) | (with_reducible refine Rd.alloc _ ?_) | (with_reducible refine Rd.drew ?_) | (with_reducible refine Rd.ext (by assumption) ?_))); done)); rintro e wx ⟨rfl, rfl⟩)
    | (go_at_call 27; refine (HR.out _).mono ?_; rintro e w3 ⟨rfl, hb3⟩; obtain ⟨c3, f3, l3⟩ := hb3.at_ w.heap.size (by first | omega | (simp; done) | (simp; omega) | (simp at *; omega)); obtain ⟨c4, f4, l4⟩ := hb3.at_ w1.heap.size (by first | omega | (simp; done) | (simp; omega) | (simp at *; omega))))
  refine back_ct rfl (Val.cells ⟨3, 0, x, ⟨#[]⟩⟩) (.int .i64 0) rfl rfl agg_val rfl ?_ ⟨rfl, ?_, ?_⟩
  · (simp only [At, Val.cells]; repeat (first | exact trivial | (refine ⟨?_, ?_⟩; focus go_simp)))
  · (repeat (first | assumption | (with_reducible refine Rd.set ?_ ?_ ?_; (focus (first | omega | (simp; omega) | (simp at *; omega))); (focus (first | omega | (simp; omega) | (simp at *; omega)))) | (with_reducible refine Rd.alloc _ ?_) | (with_reducible refine Rd.drew ?_) | (with_reducible refine Rd.ext (by assumption) ?_)))
  · repeat (first | (with_reducible exact But.refl _ _) | (with_reducible refine But.set_ ?_ _ ?_; focus (first | (left; simp; done) | (left; simp; omega) | (left; simp at *; omega) | (right; rfl))) | (with_reducible refine But.alloc ?_ _) | (with_reducible refine But.drew ?_) | (with_reducible refine But.trans ?_ (by assumption)) | (with_reducible refine But.trans ?_ (But.of_ext (by assumption))))

set_option maxHeartbeats 1000000 in
theorem take4_rd (r B : Nat) (s : ByteArray) (hs : s.size ≤ 64) (rest : List Nat) (w : World) (h : Rd w r B (4 :: (putText s ++ rest))) :
    Calls Try.prog 26 #[.pointer (some ⟨r, 0, none⟩)] w fun e w' => e = .returned (.tuple #[Val.enc ⟨4, 0, 0, s⟩, .int .i64 0]) ∧ Rd w' r B rest ∧ But r w w' := by
  obtain ⟨lr, lB, ne⟩ := h.lt
  have hR : ∀ w, Calls Try.prog 27 #[Val.enc ⟨4, 0, 0, s⟩] w fun e w' => e = .returned (.bool true) ∧ Ext w w' := fun w => by
    have := right_of ⟨4, 0, 0, s⟩ w (by show (0 : Nat) < _; decide)
    rw [Val.Flat.right (.text s hs)] at this; exact this
  unfold Val.enc at hR; simp only at hR
  have HR := Lib.hid hR; clear hR
  go_enter Try.func26, Try.ntmps26
  go_wp2_with (first
    | (go_at_call 79; refine (byte_rd r B 4 (putText s ++ rest) _ ?_ (by omega)).mono ?_; (focus ((repeat (first | assumption | (with_reducible refine Rd.set ?_ ?_ ?_; (focus (first | omega | (simp; omega) | (simp at *; omega))); (focus (first | omega | (simp; omega) | (simp at *; omega)))) | (with_reducible refine Rd.alloc _ ?_) | (with_reducible refine Rd.drew ?_) | (with_reducible refine Rd.ext (by assumption) ?_))); done)); rintro e w1 ⟨rfl, hr1, hb1⟩; have hs1 := hb1.size; simp at hs1; obtain ⟨c0, f0, l0⟩ := hb1.at_ w.heap.size ⟨(by first | omega | (simp; done) | (simp; omega) | (simp at *; omega)), by omega⟩)
    | (go_at_call 82; refine (text_rd r B s rest _ ?_ hs).mono ?_; (focus ((repeat (first | assumption | (with_reducible refine Rd.set ?_ ?_ ?_; (focus (first | omega | (simp; omega) | (simp at *; omega))); (focus (first | omega | (simp; omega) | (simp at *; omega)))) | (with_reducible refine Rd.alloc _ ?_) | (with_reducible refine Rd.drew ?_) | (with_reducible refine Rd.ext (by assumption) ?_))); done)); rintro e w2 ⟨rfl, hr2, hb2⟩; have hs2 := hb2.size; simp at hs2; obtain ⟨c1, f1, l1⟩ := hb2.at_ w.heap.size ⟨(by first | omega | (simp; done) | (simp; omega) | (simp at *; omega)), by omega⟩; obtain ⟨c2, f2, l2⟩ := hb2.at_ w1.heap.size ⟨(by first | omega | (simp; done) | (simp; omega) | (simp at *; omega)), by omega⟩)
    | (go_at_call 83; refine (err_of r B rest _ ?_).mono ?_; (focus ((repeat (first | assumption | (with_reducible refine Rd.set ?_ ?_ ?_; (focus (first | omega | (simp; omega) | (simp at *; omega))); (focus (first | omega | (simp; omega) | (simp at *; omega)))) | (with_reducible refine Rd.alloc _ ?_) | (with_reducible refine Rd.drew ?_) | (with_reducible refine Rd.ext (by assumption) ?_))); done)); rintro e wx ⟨rfl, rfl⟩)
    | (go_at_call 27; refine (HR.out _).mono ?_; rintro e w3 ⟨rfl, hb3⟩; obtain ⟨c3, f3, l3⟩ := hb3.at_ w.heap.size (by first | omega | (simp; done) | (simp; omega) | (simp at *; omega)); obtain ⟨c4, f4, l4⟩ := hb3.at_ w1.heap.size (by first | omega | (simp; done) | (simp; omega) | (simp at *; omega))))
  refine back_ct rfl (Val.cells ⟨4, 0, 0, s⟩) (.int .i64 0) rfl rfl agg_val rfl ?_ ⟨rfl, ?_, ?_⟩
  · (simp only [At, Val.cells]; repeat (first | exact trivial | (refine ⟨?_, ?_⟩; focus go_simp)))
  · (repeat (first | assumption | (with_reducible refine Rd.set ?_ ?_ ?_; (focus (first | omega | (simp; omega) | (simp at *; omega))); (focus (first | omega | (simp; omega) | (simp at *; omega)))) | (with_reducible refine Rd.alloc _ ?_) | (with_reducible refine Rd.drew ?_) | (with_reducible refine Rd.ext (by assumption) ?_)))
  · repeat (first | (with_reducible exact But.refl _ _) | (with_reducible refine But.set_ ?_ _ ?_; focus (first | (left; simp; done) | (left; simp; omega) | (left; simp at *; omega) | (right; rfl))) | (with_reducible refine But.alloc ?_ _) | (with_reducible refine But.drew ?_) | (with_reducible refine But.trans ?_ (by assumption)) | (with_reducible refine But.trans ?_ (But.of_ext (by assumption))))

theorem takeV_rd (r B : Nat) (v : Val) (rest : List Nat) (w : World) (hv : v.Ok) (h : Rd w r B (putV v ++ rest)) :
    Calls Try.prog 26 #[.pointer (some ⟨r, 0, none⟩)] w fun e w' => e = .returned (.tuple #[v.plain.enc, .int .i64 0]) ∧ Rd w' r B rest ∧ But r w w' := by
  have hf := Val.plain_flat hv
  unfold putV at h
  generalize v.plain = p at *
  cases hf with
  | null => exact take0_rd r B rest w (by simpa [putFlat] using h)
  | bool n h1 =>
    rcases h1 with rfl | rfl
    · exact take1f_rd r B rest w (by simpa [putFlat] using h)
    · exact take1t_rd r B rest w (by simpa [putFlat] using h)
  | int n h1 => exact take2_rd r B n h1 rest w (by simpa [putFlat] using h)
  | float x hx h1 => exact take3_rd r B x hx h1 rest w (by simpa [putFlat] using h)
  | text s h1 => exact take4_rd r B s h1 rest w (by simpa [putFlat] using h)
end Go.Proofs.Ytlcdjaclahhdnaa
