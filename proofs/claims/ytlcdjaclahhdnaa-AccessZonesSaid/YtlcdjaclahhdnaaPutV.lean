/- The call of value.Put, and the bytes that it puts. -/
import Derived.Test.YtlcdjaclahhdnaaPut
namespace Go.Proofs.Ytlcdjaclahhdnaa
open Go.RowKit
set_option linter.unusedSimpArgs false
set_option linter.unusedVariables false

/-- A value whose fields lie in their kinds' bounds. -/
structure Val.Ok (v : Val) : Prop where
  kind : -9223372036854775808 ≤ v.kind ∧ v.kind ≤ 9223372036854775807
  int : -9223372036854775808 ≤ v.int ∧ v.int ≤ 9223372036854775807
  flt : v.flt < 18446744073709551616
  text : v.text.size ≤ 9223372036854775807

theorem text_empty {s : ByteArray} : s.toList.isEmpty = true ↔ s = ⟨#[]⟩ := by
  rw [ByteArray.toList_eq]
  constructor
  · intro h
    cases s with
    | mk a => cases a with | mk l => cases l with
      | nil => rfl
      | cons x l => simp at h
  · rintro rfl; rfl

/-- The values that may be, one kind after the other. -/
inductive Val.Fine : Val → Prop
  | null : Val.Fine ⟨0, 0, 0, ⟨#[]⟩⟩
  | bool (n : Int) (h : n = 0 ∨ n = 1) : Val.Fine ⟨1, n, 0, ⟨#[]⟩⟩
  | int (n : Int) : Val.Fine ⟨2, n, 0, ⟨#[]⟩⟩
  | float (x : Nat) : Val.Fine ⟨3, 0, x, ⟨#[]⟩⟩
  | text (s : ByteArray) (h : s.size ≤ 64) : Val.Fine ⟨4, 0, 0, s⟩
theorem Val.right_iff (v : Val) : v.right = true ↔ v.Fine := by
  obtain ⟨k, n, x, s⟩ := v
  constructor
  · intro h
    unfold Val.right at h
    simp only at h
    split at h
    · simp only [Bool.and_eq_true, decide_eq_true_eq, text_empty] at h
      obtain ⟨⟨rfl, rfl⟩, rfl⟩ := h; subst_vars; exact .null
    · split at h
      · simp only [Bool.and_eq_true, Bool.or_eq_true, decide_eq_true_eq, text_empty] at h
        obtain ⟨⟨h, rfl⟩, rfl⟩ := h; subst_vars; exact .bool n h
      · split at h
        · simp only [Bool.and_eq_true, decide_eq_true_eq, text_empty] at h
          obtain ⟨rfl, rfl⟩ := h; subst_vars; exact .int n
        · split at h
          · simp only [Bool.and_eq_true, decide_eq_true_eq, text_empty] at h
            obtain ⟨rfl, rfl⟩ := h; subst_vars; exact .float x
          · split at h
            · simp only [Bool.and_eq_true, decide_eq_true_eq] at h
              obtain ⟨⟨rfl, rfl⟩, h⟩ := h; subst_vars; exact .text s h
            · cases h
  · intro h
    have he : (⟨#[]⟩ : ByteArray).toList.isEmpty = true := text_empty.2 rfl
    cases h with
    | null => simp [Val.right, he]
    | bool n h => rcases h with rfl | rfl <;> simp [Val.right, he]
    | int n => simp [Val.right, he]
    | float x => simp [Val.right, he]
    | text s h => simp [Val.right, h]

/-- The plain values. -/
inductive Val.Flat : Val → Prop
  | null : Val.Flat ⟨0, 0, 0, ⟨#[]⟩⟩
  | bool (n : Int) (h : n = 0 ∨ n = 1) : Val.Flat ⟨1, n, 0, ⟨#[]⟩⟩
  | int (n : Int) (h : -9223372036854775808 ≤ n ∧ n ≤ 9223372036854775807) : Val.Flat ⟨2, n, 0, ⟨#[]⟩⟩
  | float (x : Nat) (hx : x < 18446744073709551616) (h : plainF x = x) : Val.Flat ⟨3, 0, x, ⟨#[]⟩⟩
  | text (s : ByteArray) (h : s.size ≤ 64) : Val.Flat ⟨4, 0, 0, s⟩
theorem plainF_idem (x : Nat) : plainF (plainF x) = plainF x := by
  unfold plainF
  split
  · rw [if_pos (by decide)]
  · split
    · decide
    · simp [*]
theorem Val.plain_flat {v : Val} (hv : v.Ok) : v.plain.Flat := by
  unfold Val.plain
  split
  · rename_i h
    have h' := (Val.right_iff v).1 h
    have hi := hv.int
    have hf := hv.flt
    cases h' with
    | null => exact .null
    | bool n hn => exact .bool n hn
    | int n => exact .int n hi
    | float x => exact .float _ (plainF_lt hf) (plainF_idem x)
    | text s hs => exact .text s hs
  · exact .null
theorem Val.Flat.fine {v : Val} (h : v.Flat) : v.Fine := by
  cases h with
  | null => exact .null
  | bool n h => exact .bool n h
  | int n => exact .int n
  | float x => exact .float x
  | text s h => exact .text s h
theorem Val.Flat.right {v : Val} (h : v.Flat) : v.right = true := (Val.right_iff v).2 h.fine
theorem Val.Flat.plain {v : Val} (h : v.Flat) : v.plain = v := by
  unfold Val.plain
  rw [if_pos h.right]
  cases h with
  | float x hx h => simp [h]
  | _ => rfl
theorem Val.Flat.ok {v : Val} (h : v.Flat) : v.Ok := by
  have h0 : (⟨#[]⟩ : ByteArray).size = 0 := rfl
  cases h with
  | null => exact ⟨by simp, by simp, by simp, by rw [h0]; omega⟩
  | bool n h => exact ⟨by simp, by simp only; omega, by simp, by rw [h0]; omega⟩
  | int n h => exact ⟨by simp, h, by simp, by rw [h0]; omega⟩
  | float x hx h => exact ⟨by simp, by simp, hx, by rw [h0]; omega⟩
  | text s h => exact ⟨by simp, by simp, by simp, by simp only; omega⟩

/-- What is put of a plain value. -/
def putFlat (v : Val) : List Nat :=
  v.kind.toNat :: (if v.kind = 1 then [v.int.toNat] else if v.kind = 2 then putUint (zig v.int) else if v.kind = 3 then fixed 8 v.flt else if v.kind = 4 then putText v.text else [])
def putV (v : Val) : List Nat := putFlat v.plain
theorem putV_cons (v : Val) : putV v = v.plain.kind.toNat :: (putV v).tail := rfl

set_option maxHeartbeats 1000000 in
theorem putNull_of (sv : Value) (l : List Nat) (v : Val) (base : Nat) (w : World) (hown : OwnB w base sv l) (hbase : base ≤ w.heap.size) (hl : l.length ≤ 100000000) 
    (hplain : Hid (∀ w, Calls Try.prog 25 #[.agg #[.int .i64 v.kind, .int .i64 v.int, .float .f64 v.flt, .string v.text]] w fun e w' => e = .returned (Val.enc ⟨0, 0, 0, ⟨#[]⟩⟩) ∧ Ext w w')) :
    Calls Try.prog 23 #[sv, .agg #[.int .i64 v.kind, .int .i64 v.int, .float .f64 v.flt, .string v.text]] w fun e w' => ∃ v', e = .returned v' ∧ OwnB w' base v' (l ++ putFlat ⟨0, 0, 0, ⟨#[]⟩⟩) ∧ Wr 5 base w w' := by
  go_enter Try.func23, Try.ntmps23
  go_wp2_with (first
    | (go_at_call 25; refine (hplain.out _).mono ?_; rintro e w' ⟨rfl, hb⟩; obtain ⟨c0, f0, l0⟩ := hb.at_ w.heap.size (by first | omega | (simp; done) | (simp; omega) | (simp at *; omega)))
    | (at_builtin; refine wpList_byte (l := l) (base := base) rfl (.tmp 7) (.tmp 11) rfl rfl ?_ _ 0 rfl ?_ ?_ ?_ ?_ ?_; (focus (repeat (first | assumption | (with_reducible refine OwnB.set ?_ ?_; focus (repeat (first | assumption | (with_reducible refine NotT.set ?_) | (with_reducible refine NotT.new ?_ ?_; (focus first | rfl | (simp; done)); (focus decide)) | (with_reducible refine NotT.alloc ?_) | (with_reducible refine NotT.drew ?_) | (with_reducible refine NotT.ext (by assumption) ?_) | (with_reducible refine NotT.wr (by assumption) ?_)))) | (with_reducible refine OwnB.alloc ?_ _) | (with_reducible refine OwnB.ext_ (by assumption) ?_)))); (focus first | rfl | (simp; done)); (focus rfl); (focus omega); (focus (simp; omega)); intro v1 w1 ho hw; have hsz := hw.size; simp at hsz; obtain ⟨c0, f0, l0⟩ := hw.at2 w.heap.size (by (repeat (first | assumption | (with_reducible refine NotT.set ?_) | (with_reducible refine NotT.new ?_ ?_; (focus first | rfl | (simp; done)); (focus decide)) | (with_reducible refine NotT.alloc ?_) | (with_reducible refine NotT.drew ?_) | (with_reducible refine NotT.ext (by assumption) ?_) | (with_reducible refine NotT.wr (by assumption) ?_))))))
  go_ret
  refine ⟨_, rfl, ?_, ?_⟩
  · unfold putFlat; simpa using ho
  · repeat (first | (with_reducible exact Wr.refl _ _ _) | (with_reducible refine Wr.set_ ?_ _ ?_; focus (first | omega | (simp; done) | (simp; omega) | (simp at *; omega))) | (with_reducible refine Wr.alloc ?_ _) | (with_reducible refine Wr.drew ?_) | (with_reducible refine Wr.trans ?_ (by assumption)) | (with_reducible refine Wr.ext_ ?_ (by assumption)))
set_option maxHeartbeats 1000000 in
theorem putBool0_of (sv : Value) (l : List Nat) (v : Val) (base : Nat) (w : World) (hown : OwnB w base sv l) (hbase : base ≤ w.heap.size) (hl : l.length ≤ 100000000) 
    (hplain : Hid (∀ w, Calls Try.prog 25 #[.agg #[.int .i64 v.kind, .int .i64 v.int, .float .f64 v.flt, .string v.text]] w fun e w' => e = .returned (Val.enc ⟨1, 0, 0, ⟨#[]⟩⟩) ∧ Ext w w')) :
    Calls Try.prog 23 #[sv, .agg #[.int .i64 v.kind, .int .i64 v.int, .float .f64 v.flt, .string v.text]] w fun e w' => ∃ v', e = .returned v' ∧ OwnB w' base v' (l ++ putFlat ⟨1, 0, 0, ⟨#[]⟩⟩) ∧ Wr 5 base w w' := by
  go_enter Try.func23, Try.ntmps23
  go_wp2_with (first
    | (go_at_call 25; refine (hplain.out _).mono ?_; rintro e w' ⟨rfl, hb⟩; obtain ⟨c0, f0, l0⟩ := hb.at_ w.heap.size (by first | omega | (simp; done) | (simp; omega) | (simp at *; omega)))
    | (at_builtin; refine wpList_byte (l := l) (base := base) rfl (.tmp 7) (.tmp 11) rfl rfl ?_ _ 1 rfl ?_ ?_ ?_ ?_ ?_; (focus (repeat (first | assumption | (with_reducible refine OwnB.set ?_ ?_; focus (repeat (first | assumption | (with_reducible refine NotT.set ?_) | (with_reducible refine NotT.new ?_ ?_; (focus first | rfl | (simp; done)); (focus decide)) | (with_reducible refine NotT.alloc ?_) | (with_reducible refine NotT.drew ?_) | (with_reducible refine NotT.ext (by assumption) ?_) | (with_reducible refine NotT.wr (by assumption) ?_)))) | (with_reducible refine OwnB.alloc ?_ _) | (with_reducible refine OwnB.ext_ (by assumption) ?_)))); (focus first | rfl | (simp; done)); (focus rfl); (focus omega); (focus (simp; omega)); intro v1 w1 ho hw; have hsz := hw.size; simp at hsz; obtain ⟨c0, f0, l0⟩ := hw.at2 w.heap.size (by (repeat (first | assumption | (with_reducible refine NotT.set ?_) | (with_reducible refine NotT.new ?_ ?_; (focus first | rfl | (simp; done)); (focus decide)) | (with_reducible refine NotT.alloc ?_) | (with_reducible refine NotT.drew ?_) | (with_reducible refine NotT.ext (by assumption) ?_) | (with_reducible refine NotT.wr (by assumption) ?_)))))
    | (at_builtin; refine wpList_byte (l := l ++ [1]) (base := base) rfl (.tmp 17) (.tmp 21) rfl rfl ?_ _ 0 rfl ?_ ?_ ?_ ?_ ?_; (focus assumption); (focus first | rfl | (simp; done)); (focus rfl); (focus (simp; omega)); (focus omega); intro v2 w2 ho2 hw2))
  go_ret
  refine ⟨_, rfl, ?_, ?_⟩
  · unfold putFlat; simpa using ho2
  · repeat (first | (with_reducible exact Wr.refl _ _ _) | (with_reducible refine Wr.set_ ?_ _ ?_; focus (first | omega | (simp; done) | (simp; omega) | (simp at *; omega))) | (with_reducible refine Wr.alloc ?_ _) | (with_reducible refine Wr.drew ?_) | (with_reducible refine Wr.trans ?_ (by assumption)) | (with_reducible refine Wr.ext_ ?_ (by assumption)))
set_option maxHeartbeats 1000000 in
theorem putBool1_of (sv : Value) (l : List Nat) (v : Val) (base : Nat) (w : World) (hown : OwnB w base sv l) (hbase : base ≤ w.heap.size) (hl : l.length ≤ 100000000) 
    (hplain : Hid (∀ w, Calls Try.prog 25 #[.agg #[.int .i64 v.kind, .int .i64 v.int, .float .f64 v.flt, .string v.text]] w fun e w' => e = .returned (Val.enc ⟨1, 1, 0, ⟨#[]⟩⟩) ∧ Ext w w')) :
    Calls Try.prog 23 #[sv, .agg #[.int .i64 v.kind, .int .i64 v.int, .float .f64 v.flt, .string v.text]] w fun e w' => ∃ v', e = .returned v' ∧ OwnB w' base v' (l ++ putFlat ⟨1, 1, 0, ⟨#[]⟩⟩) ∧ Wr 5 base w w' := by
  go_enter Try.func23, Try.ntmps23
  go_wp2_with (first
    | (go_at_call 25; refine (hplain.out _).mono ?_; rintro e w' ⟨rfl, hb⟩; obtain ⟨c0, f0, l0⟩ := hb.at_ w.heap.size (by first | omega | (simp; done) | (simp; omega) | (simp at *; omega)))
    | (at_builtin; refine wpList_byte (l := l) (base := base) rfl (.tmp 7) (.tmp 11) rfl rfl ?_ _ 1 rfl ?_ ?_ ?_ ?_ ?_; (focus (repeat (first | assumption | (with_reducible refine OwnB.set ?_ ?_; focus (repeat (first | assumption | (with_reducible refine NotT.set ?_) | (with_reducible refine NotT.new ?_ ?_; (focus first | rfl | (simp; done)); (focus decide)) | (with_reducible refine NotT.alloc ?_) | (with_reducible refine NotT.drew ?_) | (with_reducible refine NotT.ext (by assumption) ?_) | (with_reducible refine NotT.wr (by assumption) ?_)))) | (with_reducible refine OwnB.alloc ?_ _) | (with_reducible refine OwnB.ext_ (by assumption) ?_)))); (focus first | rfl | (simp; done)); (focus rfl); (focus omega); (focus (simp; omega)); intro v1 w1 ho hw; have hsz := hw.size; simp at hsz; obtain ⟨c0, f0, l0⟩ := hw.at2 w.heap.size (by (repeat (first | assumption | (with_reducible refine NotT.set ?_) | (with_reducible refine NotT.new ?_ ?_; (focus first | rfl | (simp; done)); (focus decide)) | (with_reducible refine NotT.alloc ?_) | (with_reducible refine NotT.drew ?_) | (with_reducible refine NotT.ext (by assumption) ?_) | (with_reducible refine NotT.wr (by assumption) ?_)))))
    | (at_builtin; refine wpList_byte (l := l ++ [1]) (base := base) rfl (.tmp 17) (.tmp 21) rfl rfl ?_ _ 1 rfl ?_ ?_ ?_ ?_ ?_; (focus assumption); (focus first | rfl | (simp; done)); (focus rfl); (focus (simp; omega)); (focus omega); intro v2 w2 ho2 hw2))
  go_ret
  refine ⟨_, rfl, ?_, ?_⟩
  · unfold putFlat; simpa using ho2
  · repeat (first | (with_reducible exact Wr.refl _ _ _) | (with_reducible refine Wr.set_ ?_ _ ?_; focus (first | omega | (simp; done) | (simp; omega) | (simp at *; omega))) | (with_reducible refine Wr.alloc ?_ _) | (with_reducible refine Wr.drew ?_) | (with_reducible refine Wr.trans ?_ (by assumption)) | (with_reducible refine Wr.ext_ ?_ (by assumption)))
set_option maxHeartbeats 1000000 in
theorem putInt_of' (sv : Value) (l : List Nat) (v : Val) (base : Nat) (w : World) (hown : OwnB w base sv l) (hbase : base ≤ w.heap.size) (hl : l.length ≤ 100000000) (n : Int) (hn : -9223372036854775808 ≤ n ∧ n ≤ 9223372036854775807)
    (hplain : Hid (∀ w, Calls Try.prog 25 #[.agg #[.int .i64 v.kind, .int .i64 v.int, .float .f64 v.flt, .string v.text]] w fun e w' => e = .returned (Val.enc ⟨2, n, 0, ⟨#[]⟩⟩) ∧ Ext w w')) :
    Calls Try.prog 23 #[sv, .agg #[.int .i64 v.kind, .int .i64 v.int, .float .f64 v.flt, .string v.text]] w fun e w' => ∃ v', e = .returned v' ∧ OwnB w' base v' (l ++ putFlat ⟨2, n, 0, ⟨#[]⟩⟩) ∧ Wr 5 base w w' := by
  go_enter Try.func23, Try.ntmps23
  go_wp2_with (first
    | (go_at_call 25; refine (hplain.out _).mono ?_; rintro e w' ⟨rfl, hb⟩; obtain ⟨c0, f0, l0⟩ := hb.at_ w.heap.size (by first | omega | (simp; done) | (simp; omega) | (simp at *; omega)))
    | (at_builtin; refine wpList_byte (l := l) (base := base) rfl (.tmp 7) (.tmp 11) rfl rfl ?_ _ 2 rfl ?_ ?_ ?_ ?_ ?_; (focus (repeat (first | assumption | (with_reducible refine OwnB.set ?_ ?_; focus (repeat (first | assumption | (with_reducible refine NotT.set ?_) | (with_reducible refine NotT.new ?_ ?_; (focus first | rfl | (simp; done)); (focus decide)) | (with_reducible refine NotT.alloc ?_) | (with_reducible refine NotT.drew ?_) | (with_reducible refine NotT.ext (by assumption) ?_) | (with_reducible refine NotT.wr (by assumption) ?_)))) | (with_reducible refine OwnB.alloc ?_ _) | (with_reducible refine OwnB.ext_ (by assumption) ?_)))); (focus first | rfl | (simp; done)); (focus rfl); (focus omega); (focus (simp; omega)); intro v1 w1 ho hw; have hsz := hw.size; simp at hsz; obtain ⟨c0, f0, l0⟩ := hw.at2 w.heap.size (by (repeat (first | assumption | (with_reducible refine NotT.set ?_) | (with_reducible refine NotT.new ?_ ?_; (focus first | rfl | (simp; done)); (focus decide)) | (with_reducible refine NotT.alloc ?_) | (with_reducible refine NotT.drew ?_) | (with_reducible refine NotT.ext (by assumption) ?_) | (with_reducible refine NotT.wr (by assumption) ?_)))))
    | (go_at_call 74; refine (putInt_of v1 _ n base _ ho (by omega) (by simp; omega) hn.1 hn.2).mono ?_; rintro e w2 ⟨v2, rfl, ho2, hw2⟩))
  go_ret
  refine ⟨_, rfl, ?_, ?_⟩
  · unfold putFlat; simpa using ho2
  · repeat (first | (with_reducible exact Wr.refl _ _ _) | (with_reducible refine Wr.set_ ?_ _ ?_; focus (first | omega | (simp; done) | (simp; omega) | (simp at *; omega))) | (with_reducible refine Wr.alloc ?_ _) | (with_reducible refine Wr.drew ?_) | (with_reducible refine Wr.trans ?_ (by assumption)) | (with_reducible refine Wr.ext_ ?_ (by assumption)))
set_option maxHeartbeats 1000000 in
theorem putFloat_of' (sv : Value) (l : List Nat) (v : Val) (base : Nat) (w : World) (hown : OwnB w base sv l) (hbase : base ≤ w.heap.size) (hl : l.length ≤ 100000000) (x : Nat) (hx : x < 18446744073709551616) (hpx : Hid (plainF x = x))
    (hplain : Hid (∀ w, Calls Try.prog 25 #[.agg #[.int .i64 v.kind, .int .i64 v.int, .float .f64 v.flt, .string v.text]] w fun e w' => e = .returned (Val.enc ⟨3, 0, x, ⟨#[]⟩⟩) ∧ Ext w w')) :
    Calls Try.prog 23 #[sv, .agg #[.int .i64 v.kind, .int .i64 v.int, .float .f64 v.flt, .string v.text]] w fun e w' => ∃ v', e = .returned v' ∧ OwnB w' base v' (l ++ putFlat ⟨3, 0, x, ⟨#[]⟩⟩) ∧ Wr 5 base w w' := by
  go_enter Try.func23, Try.ntmps23
  go_wp2_with (first
    | (go_at_call 25; refine (hplain.out _).mono ?_; rintro e w' ⟨rfl, hb⟩; obtain ⟨c0, f0, l0⟩ := hb.at_ w.heap.size (by first | omega | (simp; done) | (simp; omega) | (simp at *; omega)))
    | (at_builtin; refine wpList_byte (l := l) (base := base) rfl (.tmp 7) (.tmp 11) rfl rfl ?_ _ 3 rfl ?_ ?_ ?_ ?_ ?_; (focus (repeat (first | assumption | (with_reducible refine OwnB.set ?_ ?_; focus (repeat (first | assumption | (with_reducible refine NotT.set ?_) | (with_reducible refine NotT.new ?_ ?_; (focus first | rfl | (simp; done)); (focus decide)) | (with_reducible refine NotT.alloc ?_) | (with_reducible refine NotT.drew ?_) | (with_reducible refine NotT.ext (by assumption) ?_) | (with_reducible refine NotT.wr (by assumption) ?_)))) | (with_reducible refine OwnB.alloc ?_ _) | (with_reducible refine OwnB.ext_ (by assumption) ?_)))); (focus first | rfl | (simp; done)); (focus rfl); (focus omega); (focus (simp; omega)); intro v1 w1 ho hw; have hsz := hw.size; simp at hsz; obtain ⟨c0, f0, l0⟩ := hw.at2 w.heap.size (by (repeat (first | assumption | (with_reducible refine NotT.set ?_) | (with_reducible refine NotT.new ?_ ?_; (focus first | rfl | (simp; done)); (focus decide)) | (with_reducible refine NotT.alloc ?_) | (with_reducible refine NotT.drew ?_) | (with_reducible refine NotT.ext (by assumption) ?_) | (with_reducible refine NotT.wr (by assumption) ?_)))))
    | (go_at_call 75; refine (putFloat_of v1 _ x base _ ho (by omega) (by simp; omega) hx).mono ?_; rintro e w2 ⟨v2, rfl, ho2, hw2⟩))
  go_ret
  refine ⟨_, rfl, ?_, ?_⟩
  · rw [hpx.out] at ho2; unfold putFlat; simpa using ho2
  · repeat (first | (with_reducible exact Wr.refl _ _ _) | (with_reducible refine Wr.set_ ?_ _ ?_; focus (first | omega | (simp; done) | (simp; omega) | (simp at *; omega))) | (with_reducible refine Wr.alloc ?_ _) | (with_reducible refine Wr.drew ?_) | (with_reducible refine Wr.trans ?_ (by assumption)) | (with_reducible refine Wr.ext_ ?_ (by assumption)))
set_option maxHeartbeats 1000000 in
theorem putText_of' (sv : Value) (l : List Nat) (v : Val) (base : Nat) (w : World) (hown : OwnB w base sv l) (hbase : base ≤ w.heap.size) (hl : l.length ≤ 100000000) (s : ByteArray) (hs : s.size ≤ 64)
    (hplain : Hid (∀ w, Calls Try.prog 25 #[.agg #[.int .i64 v.kind, .int .i64 v.int, .float .f64 v.flt, .string v.text]] w fun e w' => e = .returned (Val.enc ⟨4, 0, 0, s⟩) ∧ Ext w w')) :
    Calls Try.prog 23 #[sv, .agg #[.int .i64 v.kind, .int .i64 v.int, .float .f64 v.flt, .string v.text]] w fun e w' => ∃ v', e = .returned v' ∧ OwnB w' base v' (l ++ putFlat ⟨4, 0, 0, s⟩) ∧ Wr 5 base w w' := by
  go_enter Try.func23, Try.ntmps23
  go_wp2_with (first
    | (go_at_call 25; refine (hplain.out _).mono ?_; rintro e w' ⟨rfl, hb⟩; obtain ⟨c0, f0, l0⟩ := hb.at_ w.heap.size (by first | omega | (simp; done) | (simp; omega) | (simp at *; omega)))
    | (at_builtin; refine wpList_byte (l := l) (base := base) rfl (.tmp 7) (.tmp 11) rfl rfl ?_ _ 4 rfl ?_ ?_ ?_ ?_ ?_; (focus (repeat (first | assumption | (with_reducible refine OwnB.set ?_ ?_; focus (repeat (first | assumption | (with_reducible refine NotT.set ?_) | (with_reducible refine NotT.new ?_ ?_; (focus first | rfl | (simp; done)); (focus decide)) | (with_reducible refine NotT.alloc ?_) | (with_reducible refine NotT.drew ?_) | (with_reducible refine NotT.ext (by assumption) ?_) | (with_reducible refine NotT.wr (by assumption) ?_)))) | (with_reducible refine OwnB.alloc ?_ _) | (with_reducible refine OwnB.ext_ (by assumption) ?_)))); (focus first | rfl | (simp; done)); (focus rfl); (focus omega); (focus (simp; omega)); intro v1 w1 ho hw; have hsz := hw.size; simp at hsz; obtain ⟨c0, f0, l0⟩ := hw.at2 w.heap.size (by (repeat (first | assumption | (with_reducible refine NotT.set ?_) | (with_reducible refine NotT.new ?_ ?_; (focus first | rfl | (simp; done)); (focus decide)) | (with_reducible refine NotT.alloc ?_) | (with_reducible refine NotT.drew ?_) | (with_reducible refine NotT.ext (by assumption) ?_) | (with_reducible refine NotT.wr (by assumption) ?_)))))
    | (go_at_call 76; refine (putText_of v1 _ s base _ ho (by omega) (by simp; omega) hs).mono ?_; rintro e w2 ⟨v2, rfl, ho2, hw2⟩))
  go_ret
  refine ⟨_, rfl, ?_, ?_⟩
  · unfold putFlat; simpa using ho2
  · repeat (first | (with_reducible exact Wr.refl _ _ _) | (with_reducible refine Wr.set_ ?_ _ ?_; focus (first | omega | (simp; done) | (simp; omega) | (simp at *; omega))) | (with_reducible refine Wr.alloc ?_ _) | (with_reducible refine Wr.drew ?_) | (with_reducible refine Wr.trans ?_ (by assumption)) | (with_reducible refine Wr.ext_ ?_ (by assumption)))

theorem putV_of (sv : Value) (l : List Nat) (v : Val) (base : Nat) (w : World) (hown : OwnB w base sv l) (hbase : base ≤ w.heap.size) (hl : l.length ≤ 100000000) (hv : v.Ok) :
    Calls Try.prog 23 #[sv, .agg #[.int .i64 v.kind, .int .i64 v.int, .float .f64 v.flt, .string v.text]] w fun e w' => ∃ v', e = .returned v' ∧ OwnB w' base v' (l ++ putV v) ∧ Wr 5 base w w' := by
  have hplain := Lib.hid (fun w => plain_of v w hv.flt)
  have hpf := Val.plain_flat hv
  unfold putV
  generalize v.plain = p at *
  cases hpf with
  | null => exact putNull_of sv l v base w hown hbase hl hplain
  | bool n h =>
    rcases h with rfl | rfl
    · exact putBool0_of sv l v base w hown hbase hl hplain
    · exact putBool1_of sv l v base w hown hbase hl hplain
  | int n h => exact putInt_of' sv l v base w hown hbase hl n h hplain
  | float x hx h => exact putFloat_of' sv l v base w hown hbase hl x hx (Lib.hid h) hplain
  | text s h => exact putText_of' sv l v base w hown hbase hl s h hplain
end Go.Proofs.Ytlcdjaclahhdnaa
