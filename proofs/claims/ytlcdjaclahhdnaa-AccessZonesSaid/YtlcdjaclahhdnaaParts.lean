/- The calls of tabularyref22.Kids, parts, Formed. Printed by wip/tools/gen_parts.py. -/
import Derived.Test.YtlcdjaclahhdnaaR4
import Derived.Test.YtlcdjaclahhdnaaQ
import Derived.Test.YtlcdjaclahhdnaaEx3
namespace Go.Proofs.Ytlcdjaclahhdnaa
open Go.RowKit
set_option linter.unusedSimpArgs false
set_option linter.unusedVariables false
attribute [local irreducible] wpQuiet

set_option maxRecDepth 100000 in
set_option maxHeartbeats 4000000 in
theorem rkids_of (k : Int) (w : World) : Calls Try.prog 150 #[.int .i64 k] w fun e w' => e = .returned (.int .i64 (kidsOf k)) ∧ Ext w w' := by
  by_cases hk : k < 1 ∨ 13 < k
  · have e1 : kidsOf k = -1 := by
      unfold kidsOf
      rw [if_neg (by omega), if_neg (by omega), if_neg (by omega)]
    rw [e1]
    rcases hk with hk | hk
    · have h2 : ¬ 1 ≤ k := by omega
      go_enter Try.func150, Try.ntmps150
      go_wp2_with fail
      go_ret
      exact ⟨rfl, Ext.refl _⟩
    · have h2 : 1 ≤ k := by omega
      go_enter Try.func150, Try.ntmps150
      go_wp2_with fail
      go_ret
      exact ⟨rfl, Ext.refl _⟩
  · obtain rfl | rfl | rfl | rfl | rfl | rfl | rfl | rfl | rfl | rfl | rfl | rfl | rfl : k = 1 ∨ k = 2 ∨ k = 3 ∨ k = 4 ∨ k = 5 ∨ k = 6 ∨ k = 7 ∨ k = 8 ∨ k = 9 ∨ k = 10 ∨ k = 11 ∨ k = 12 ∨ k = 13 := by omega
    all_goals
      go_enter Try.func150, Try.ntmps150
      go_wp2_with fail
      go_ret
      exact ⟨rfl, by repeat (first | (with_reducible exact Ext.refl _) | (with_reducible refine Ext.set_ ?_ _ ?_; focus (first | (simp; done) | (simp; omega) | (simp at *; omega))) | (with_reducible refine Ext.alloc ?_ _) | (with_reducible refine Ext.drew ?_) | (with_reducible refine Ext.drewN ?_ _) | (with_reducible refine Ext.trans ?_ (by assumption)))⟩
mutual
/-- How many parts an expression has; 401: it is not formed. -/
def Ex.parts : Ex → Int → Int
  | .mk k r c v l, d => if d > 24 ∨ kidsOf k ≠ (l.length : Int) ∨ fieldsOk k r c v = false then 401 else Exs.parts l (d + 1) 1
termination_by structural e => e
def Exs.parts : List Ex → Int → Int → Int
  | [], _, n => n
  | e :: l, d, n => if 400 < n + e.parts d then 401 else Exs.parts l d (n + e.parts d)
termination_by structural l => l
end
theorem Exs.parts_drop {l : List Ex} {i : Nat} (hi : i < l.length) (d n : Int) :
    Exs.parts (l.drop i) d n = if 400 < n + l[i].parts d then 401 else Exs.parts (l.drop (i + 1)) d (n + l[i].parts d) := by
  rw [List.drop_eq_getElem_cons hi]; simp only [Exs.parts]
theorem Exs.parts_range (l : List Ex) (ih : ∀ e ∈ l, ∀ d, 1 ≤ e.parts d ∧ e.parts d ≤ 401) : ∀ d n, 1 ≤ n → n ≤ 400 → n ≤ Exs.parts l d n ∧ Exs.parts l d n ≤ 401 := by
  induction l with
  | nil => intro d n h1 h2; simp only [Exs.parts]; omega
  | cons e l ih2 =>
    intro d n h1 h2
    have h3 := ih e (by simp) d
    simp only [Exs.parts]
    split
    · omega
    · have := ih2 (fun e he => ih e (by simp [he])) d (n + e.parts d) (by omega) (by omega)
      omega
theorem Ex.parts_range : ∀ (e : Ex) (d : Int), 1 ≤ e.parts d ∧ e.parts d ≤ 401 := by
  intro e
  induction e using Ex.ind with
  | h k r c v l ih =>
    intro d
    simp only [Ex.parts]
    split
    · omega
    · exact Exs.parts_range l ih (d + 1) 1 (by omega) (by omega)
/-- Parts and count say the same. -/
theorem Exs.parts_count (l : List Ex) (ih : ∀ e ∈ l, ∀ d left, left ≤ 400 → (e.parts d ≤ left → e.count d left = left - e.parts d) ∧ (left < e.parts d → e.count d left = -1)) :
    ∀ d n left, 1 ≤ n → n ≤ 400 → 0 ≤ left → left + n ≤ 400 → (Exs.parts l d n - n ≤ left → Exs.count l d left = left - (Exs.parts l d n - n)) ∧ (left < Exs.parts l d n - n → Exs.count l d left = -1) := by
  induction l with
  | nil => intro d n left h1 h2 h3 h4; simp only [Exs.count, Exs.parts]; omega
  | cons e l ih2 =>
    intro d n left h1 h2 h3 h4
    have h5 := ih e (by simp) d left (by omega)
    have h6 := Ex.parts_range e d
    simp only [Exs.count, Exs.parts]
    by_cases hp : e.parts d ≤ left
    · rw [h5.1 hp, if_neg (by omega), if_neg (by omega)]
      have h7 := ih2 (fun e he => ih e (by simp [he])) d (n + e.parts d) (left - e.parts d) (by omega) (by omega) (by omega) (by omega)
      constructor
      · intro hq; rw [h7.1 (by omega)]; omega
      · intro hq; exact h7.2 (by omega)
    · rw [h5.2 (by omega), if_pos (show (-1 : Int) < 0 by omega)]
      by_cases hb : 400 < n + e.parts d
      · rw [if_pos hb]; exact ⟨fun h => by omega, fun _ => rfl⟩
      · rw [if_neg hb]
        have := (Exs.parts_range l (fun e _ => Ex.parts_range e) d (n + e.parts d) (by omega) (by omega)).1
        exact ⟨fun h => by omega, fun _ => rfl⟩
theorem Ex.parts_count : ∀ (e : Ex) (d left : Int), left ≤ 400 → (e.parts d ≤ left → e.count d left = left - e.parts d) ∧ (left < e.parts d → e.count d left = -1) := by
  intro e
  induction e using Ex.ind with
  | h k r c v l ih =>
    intro d left hl
    simp only [Ex.count, Ex.parts]
    by_cases hb : d > 24 ∨ kidsOf k ≠ (l.length : Int) ∨ fieldsOk k r c v = false
    · rw [if_pos hb, if_pos (by rcases hb with h | h | h; exact .inl h; exact .inr (.inr (.inl h)); exact .inr (.inr (.inr h)))]
      exact ⟨fun h => by omega, fun _ => rfl⟩
    · rw [if_neg hb]
      by_cases h1 : left < 1
      · rw [if_pos (.inr (.inl h1))]
        have := (Exs.parts_range l (fun e _ => Ex.parts_range e) (d + 1) 1 (by omega) (by omega)).1
        exact ⟨fun h => by omega, fun _ => rfl⟩
      · rw [if_neg (by rintro (h | h | h | h); exact hb (.inl h); exact h1 h; exact hb (.inr (.inl h)); exact hb (.inr (.inr h)))]
        have h7 := Exs.parts_count l ih (d + 1) 1 (left - 1) (by omega) (by omega) (by omega) (by omega)
        constructor
        · intro hq; rw [h7.1 (by omega)]; omega
        · intro hq; exact h7.2 (by omega)
theorem Ex.formed_parts (e : Ex) : decide (e.parts 1 ≤ 400) = decide (0 ≤ e.count 1 400) := by
  have h7 := Ex.parts_count e 1 400 (by omega)
  by_cases h : e.parts 1 ≤ 400
  · rw [decide_eq_true h, h7.1 h, decide_eq_true (by omega)]
  · rw [decide_eq_false h, h7.2 (by omega)]; rfl

def PartsCall (k r c : Int) (v : Val) (l : List Ex) (A : Option Addr) (cap : Nat) (d : Int) (w : World) (n : Int) : Prop :=
  Calls Try.prog 129 #[.agg #[.int .i64 k, .int .i64 r, .int .i64 c, .int .i64 v.kind, .int .i64 v.int, .float .f64 v.flt, .string v.text, .slice A l.length cap], .int .i64 d] w fun ev w' => ev = .returned (.int .i64 n) ∧ Ext w w'
set_option maxRecDepth 100000 in
set_option maxHeartbeats 20000000 in
theorem parts_bad1 (k r c d : Int) (v : Val) (l : List Ex) (A : Option Addr) (cap : Nat) (w : World) (hno : d > 24 ∨ kidsOf k ≠ (l.length : Int) ∨ (k ≠ 1 ∧ (r ≠ 0 ∨ c ≠ 0)) ∨ inRel r = false ∨ inRel c = false) : PartsCall k r c v l A cap d w 401 := by
  unfold PartsCall
  have hb0 : BoxAt (w.alloc (.cells #[.int .i64 k, .int .i64 r, .int .i64 c, .int .i64 v.kind, .int .i64 v.int, .float .f64 v.flt, .string v.text, .slice A l.length cap] 27)) w.heap.size [.int .i64 k, .int .i64 r, .int .i64 c, .int .i64 v.kind, .int .i64 v.int, .float .f64 v.flt, .string v.text, .slice A l.length cap] := BoxAt.new rfl rfl
  have H0 := Lib.hid hb0
  have HE0 := Lib.hid ((Ext.refl w).alloc (.cells #[.int .i64 k, .int .i64 r, .int .i64 c, .int .i64 v.kind, .int .i64 v.int, .float .f64 v.flt, .string v.text, .slice A l.length cap] 27))
  clear hb0
  by_cases p0 : 24 < d
  · have q0 : decide (24 < d) = true := decide_eq_true p0
    clear p0 hno
    go_enter Try.func129, Try.ntmps129
    go_wp2_with fail
    refine wp_region_ext (by kernel_rfl) (by kernel_rfl) ?_; (repeat (first | (refine wpQuiet_step (fun K hK => ?_); go_simp; refine hK _ ?_; clear hK K) | (simp only [q0]) | (refine quiet_cell2 (.tmp 11) rfl rfl Try.underlying3 rfl rfl (fun w' hw => (H0.out.ext hw).cells.get 0 _ rfl) ?_) | (refine quiet_cell2 (.tmp 14) rfl rfl Try.underlying25 rfl rfl (fun w' hw => (H0.out.ext hw).cells.get 7 _ rfl) ?_) | (refine quiet_cell2 (.tmp 20) rfl rfl Try.underlying3 rfl rfl (fun w' hw => (H0.out.ext hw).cells.get 1 _ rfl) ?_) | (refine quiet_cell2 (.tmp 25) rfl rfl Try.underlying3 rfl rfl (fun w' hw => (H0.out.ext hw).cells.get 1 _ rfl) ?_) | (refine quiet_cell2 (.tmp 30) rfl rfl Try.underlying3 rfl rfl (fun w' hw => (H0.out.ext hw).cells.get 2 _ rfl) ?_) | (refine quiet_cell2 (.tmp 35) rfl rfl Try.underlying3 rfl rfl (fun w' hw => (H0.out.ext hw).cells.get 2 _ rfl) ?_) | (refine quiet_cell2 (.tmp 40) rfl rfl Try.underlying3 rfl rfl (fun w' hw => (H0.out.ext hw).cells.get 0 _ rfl) ?_) | (refine quiet_cell2 (.tmp 44) rfl rfl Try.underlying3 rfl rfl (fun w' hw => (H0.out.ext hw).cells.get 1 _ rfl) ?_) | (refine quiet_cell2 (.tmp 48) rfl rfl Try.underlying3 rfl rfl (fun w' hw => (H0.out.ext hw).cells.get 2 _ rfl) ?_) | (refine wpQuiet_step (fun K hK => ?_); go_simp; first | (refine ⟨_, fun w hw => rfl, hK _ ?_⟩; clear hK K) | (apply Exists.intro; refine ⟨fun w hw => ?_, hK _ ?_⟩; (focus first | (go_at_call 150; exact (rkids_of _ _).mono fun _ _ ⟨h1, h2⟩ => ⟨h1, hw.trans h2⟩)); clear hK K)))); refine wpQuiet_nil ?_
    intro w1 hE1
    go_wp2_with fail
    go_ret
    exact ⟨rfl, HE0.out.trans hE1⟩
  have q0 : decide (24 < d) = false := decide_eq_false p0
  by_cases p1 : kidsOf k = (l.length : Int)
  case neg =>
    have q1 : (kidsOf k != (l.length : Int)) = true := by simpa using p1
    clear p0 p1 hno
    go_enter Try.func129, Try.ntmps129
    go_wp2_with fail
    refine wp_region_ext (by kernel_rfl) (by kernel_rfl) ?_; (repeat (first | (refine wpQuiet_step (fun K hK => ?_); go_simp; refine hK _ ?_; clear hK K) | (simp only [q0]) | (simp only [q1]) | (refine quiet_cell2 (.tmp 11) rfl rfl Try.underlying3 rfl rfl (fun w' hw => (H0.out.ext hw).cells.get 0 _ rfl) ?_) | (refine quiet_cell2 (.tmp 14) rfl rfl Try.underlying25 rfl rfl (fun w' hw => (H0.out.ext hw).cells.get 7 _ rfl) ?_) | (refine quiet_cell2 (.tmp 20) rfl rfl Try.underlying3 rfl rfl (fun w' hw => (H0.out.ext hw).cells.get 1 _ rfl) ?_) | (refine quiet_cell2 (.tmp 25) rfl rfl Try.underlying3 rfl rfl (fun w' hw => (H0.out.ext hw).cells.get 1 _ rfl) ?_) | (refine quiet_cell2 (.tmp 30) rfl rfl Try.underlying3 rfl rfl (fun w' hw => (H0.out.ext hw).cells.get 2 _ rfl) ?_) | (refine quiet_cell2 (.tmp 35) rfl rfl Try.underlying3 rfl rfl (fun w' hw => (H0.out.ext hw).cells.get 2 _ rfl) ?_) | (refine quiet_cell2 (.tmp 40) rfl rfl Try.underlying3 rfl rfl (fun w' hw => (H0.out.ext hw).cells.get 0 _ rfl) ?_) | (refine quiet_cell2 (.tmp 44) rfl rfl Try.underlying3 rfl rfl (fun w' hw => (H0.out.ext hw).cells.get 1 _ rfl) ?_) | (refine quiet_cell2 (.tmp 48) rfl rfl Try.underlying3 rfl rfl (fun w' hw => (H0.out.ext hw).cells.get 2 _ rfl) ?_) | (refine wpQuiet_step (fun K hK => ?_); go_simp; first | (refine ⟨_, fun w hw => rfl, hK _ ?_⟩; clear hK K) | (apply Exists.intro; refine ⟨fun w hw => ?_, hK _ ?_⟩; (focus first | (go_at_call 150; exact (rkids_of _ _).mono fun _ _ ⟨h1, h2⟩ => ⟨h1, hw.trans h2⟩)); clear hK K)))); refine wpQuiet_nil ?_
    intro w1 hE1
    go_wp2_with fail
    go_ret
    exact ⟨rfl, HE0.out.trans hE1⟩
  have q1 : (kidsOf k != (l.length : Int)) = false := by simp [p1]
  by_cases p2 : r < 0
  · have q2 : decide (r < 0) = true := decide_eq_true p2
    clear p0 p1 p2 hno
    go_enter Try.func129, Try.ntmps129
    go_wp2_with fail
    refine wp_region_ext (by kernel_rfl) (by kernel_rfl) ?_; (repeat (first | (refine wpQuiet_step (fun K hK => ?_); go_simp; refine hK _ ?_; clear hK K) | (simp only [q0]) | (simp only [q1]) | (simp only [q2]) | (refine quiet_cell2 (.tmp 11) rfl rfl Try.underlying3 rfl rfl (fun w' hw => (H0.out.ext hw).cells.get 0 _ rfl) ?_) | (refine quiet_cell2 (.tmp 14) rfl rfl Try.underlying25 rfl rfl (fun w' hw => (H0.out.ext hw).cells.get 7 _ rfl) ?_) | (refine quiet_cell2 (.tmp 20) rfl rfl Try.underlying3 rfl rfl (fun w' hw => (H0.out.ext hw).cells.get 1 _ rfl) ?_) | (refine quiet_cell2 (.tmp 25) rfl rfl Try.underlying3 rfl rfl (fun w' hw => (H0.out.ext hw).cells.get 1 _ rfl) ?_) | (refine quiet_cell2 (.tmp 30) rfl rfl Try.underlying3 rfl rfl (fun w' hw => (H0.out.ext hw).cells.get 2 _ rfl) ?_) | (refine quiet_cell2 (.tmp 35) rfl rfl Try.underlying3 rfl rfl (fun w' hw => (H0.out.ext hw).cells.get 2 _ rfl) ?_) | (refine quiet_cell2 (.tmp 40) rfl rfl Try.underlying3 rfl rfl (fun w' hw => (H0.out.ext hw).cells.get 0 _ rfl) ?_) | (refine quiet_cell2 (.tmp 44) rfl rfl Try.underlying3 rfl rfl (fun w' hw => (H0.out.ext hw).cells.get 1 _ rfl) ?_) | (refine quiet_cell2 (.tmp 48) rfl rfl Try.underlying3 rfl rfl (fun w' hw => (H0.out.ext hw).cells.get 2 _ rfl) ?_) | (refine wpQuiet_step (fun K hK => ?_); go_simp; first | (refine ⟨_, fun w hw => rfl, hK _ ?_⟩; clear hK K) | (apply Exists.intro; refine ⟨fun w hw => ?_, hK _ ?_⟩; (focus first | (go_at_call 150; exact (rkids_of _ _).mono fun _ _ ⟨h1, h2⟩ => ⟨h1, hw.trans h2⟩)); clear hK K)))); refine wpQuiet_nil ?_
    intro w1 hE1
    go_wp2_with fail
    go_ret
    exact ⟨rfl, HE0.out.trans hE1⟩
  have q2 : decide (r < 0) = false := decide_eq_false p2
  by_cases p3 : 31 < r
  · have q3 : decide (31 < r) = true := decide_eq_true p3
    clear p0 p1 p2 p3 hno
    go_enter Try.func129, Try.ntmps129
    go_wp2_with fail
    refine wp_region_ext (by kernel_rfl) (by kernel_rfl) ?_; (repeat (first | (refine wpQuiet_step (fun K hK => ?_); go_simp; refine hK _ ?_; clear hK K) | (simp only [q0]) | (simp only [q1]) | (simp only [q2]) | (simp only [q3]) | (refine quiet_cell2 (.tmp 11) rfl rfl Try.underlying3 rfl rfl (fun w' hw => (H0.out.ext hw).cells.get 0 _ rfl) ?_) | (refine quiet_cell2 (.tmp 14) rfl rfl Try.underlying25 rfl rfl (fun w' hw => (H0.out.ext hw).cells.get 7 _ rfl) ?_) | (refine quiet_cell2 (.tmp 20) rfl rfl Try.underlying3 rfl rfl (fun w' hw => (H0.out.ext hw).cells.get 1 _ rfl) ?_) | (refine quiet_cell2 (.tmp 25) rfl rfl Try.underlying3 rfl rfl (fun w' hw => (H0.out.ext hw).cells.get 1 _ rfl) ?_) | (refine quiet_cell2 (.tmp 30) rfl rfl Try.underlying3 rfl rfl (fun w' hw => (H0.out.ext hw).cells.get 2 _ rfl) ?_) | (refine quiet_cell2 (.tmp 35) rfl rfl Try.underlying3 rfl rfl (fun w' hw => (H0.out.ext hw).cells.get 2 _ rfl) ?_) | (refine quiet_cell2 (.tmp 40) rfl rfl Try.underlying3 rfl rfl (fun w' hw => (H0.out.ext hw).cells.get 0 _ rfl) ?_) | (refine quiet_cell2 (.tmp 44) rfl rfl Try.underlying3 rfl rfl (fun w' hw => (H0.out.ext hw).cells.get 1 _ rfl) ?_) | (refine quiet_cell2 (.tmp 48) rfl rfl Try.underlying3 rfl rfl (fun w' hw => (H0.out.ext hw).cells.get 2 _ rfl) ?_) | (refine wpQuiet_step (fun K hK => ?_); go_simp; first | (refine ⟨_, fun w hw => rfl, hK _ ?_⟩; clear hK K) | (apply Exists.intro; refine ⟨fun w hw => ?_, hK _ ?_⟩; (focus first | (go_at_call 150; exact (rkids_of _ _).mono fun _ _ ⟨h1, h2⟩ => ⟨h1, hw.trans h2⟩)); clear hK K)))); refine wpQuiet_nil ?_
    intro w1 hE1
    go_wp2_with fail
    go_ret
    exact ⟨rfl, HE0.out.trans hE1⟩
  have q3 : decide (31 < r) = false := decide_eq_false p3
  by_cases p4 : c < 0
  · have q4 : decide (c < 0) = true := decide_eq_true p4
    clear p0 p1 p2 p3 p4 hno
    go_enter Try.func129, Try.ntmps129
    go_wp2_with fail
    refine wp_region_ext (by kernel_rfl) (by kernel_rfl) ?_; (repeat (first | (refine wpQuiet_step (fun K hK => ?_); go_simp; refine hK _ ?_; clear hK K) | (simp only [q0]) | (simp only [q1]) | (simp only [q2]) | (simp only [q3]) | (simp only [q4]) | (refine quiet_cell2 (.tmp 11) rfl rfl Try.underlying3 rfl rfl (fun w' hw => (H0.out.ext hw).cells.get 0 _ rfl) ?_) | (refine quiet_cell2 (.tmp 14) rfl rfl Try.underlying25 rfl rfl (fun w' hw => (H0.out.ext hw).cells.get 7 _ rfl) ?_) | (refine quiet_cell2 (.tmp 20) rfl rfl Try.underlying3 rfl rfl (fun w' hw => (H0.out.ext hw).cells.get 1 _ rfl) ?_) | (refine quiet_cell2 (.tmp 25) rfl rfl Try.underlying3 rfl rfl (fun w' hw => (H0.out.ext hw).cells.get 1 _ rfl) ?_) | (refine quiet_cell2 (.tmp 30) rfl rfl Try.underlying3 rfl rfl (fun w' hw => (H0.out.ext hw).cells.get 2 _ rfl) ?_) | (refine quiet_cell2 (.tmp 35) rfl rfl Try.underlying3 rfl rfl (fun w' hw => (H0.out.ext hw).cells.get 2 _ rfl) ?_) | (refine quiet_cell2 (.tmp 40) rfl rfl Try.underlying3 rfl rfl (fun w' hw => (H0.out.ext hw).cells.get 0 _ rfl) ?_) | (refine quiet_cell2 (.tmp 44) rfl rfl Try.underlying3 rfl rfl (fun w' hw => (H0.out.ext hw).cells.get 1 _ rfl) ?_) | (refine quiet_cell2 (.tmp 48) rfl rfl Try.underlying3 rfl rfl (fun w' hw => (H0.out.ext hw).cells.get 2 _ rfl) ?_) | (refine wpQuiet_step (fun K hK => ?_); go_simp; first | (refine ⟨_, fun w hw => rfl, hK _ ?_⟩; clear hK K) | (apply Exists.intro; refine ⟨fun w hw => ?_, hK _ ?_⟩; (focus first | (go_at_call 150; exact (rkids_of _ _).mono fun _ _ ⟨h1, h2⟩ => ⟨h1, hw.trans h2⟩)); clear hK K)))); refine wpQuiet_nil ?_
    intro w1 hE1
    go_wp2_with fail
    go_ret
    exact ⟨rfl, HE0.out.trans hE1⟩
  have q4 : decide (c < 0) = false := decide_eq_false p4
  by_cases p5 : 31 < c
  · have q5 : decide (31 < c) = true := decide_eq_true p5
    clear p0 p1 p2 p3 p4 p5 hno
    go_enter Try.func129, Try.ntmps129
    go_wp2_with fail
    refine wp_region_ext (by kernel_rfl) (by kernel_rfl) ?_; (repeat (first | (refine wpQuiet_step (fun K hK => ?_); go_simp; refine hK _ ?_; clear hK K) | (simp only [q0]) | (simp only [q1]) | (simp only [q2]) | (simp only [q3]) | (simp only [q4]) | (simp only [q5]) | (refine quiet_cell2 (.tmp 11) rfl rfl Try.underlying3 rfl rfl (fun w' hw => (H0.out.ext hw).cells.get 0 _ rfl) ?_) | (refine quiet_cell2 (.tmp 14) rfl rfl Try.underlying25 rfl rfl (fun w' hw => (H0.out.ext hw).cells.get 7 _ rfl) ?_) | (refine quiet_cell2 (.tmp 20) rfl rfl Try.underlying3 rfl rfl (fun w' hw => (H0.out.ext hw).cells.get 1 _ rfl) ?_) | (refine quiet_cell2 (.tmp 25) rfl rfl Try.underlying3 rfl rfl (fun w' hw => (H0.out.ext hw).cells.get 1 _ rfl) ?_) | (refine quiet_cell2 (.tmp 30) rfl rfl Try.underlying3 rfl rfl (fun w' hw => (H0.out.ext hw).cells.get 2 _ rfl) ?_) | (refine quiet_cell2 (.tmp 35) rfl rfl Try.underlying3 rfl rfl (fun w' hw => (H0.out.ext hw).cells.get 2 _ rfl) ?_) | (refine quiet_cell2 (.tmp 40) rfl rfl Try.underlying3 rfl rfl (fun w' hw => (H0.out.ext hw).cells.get 0 _ rfl) ?_) | (refine quiet_cell2 (.tmp 44) rfl rfl Try.underlying3 rfl rfl (fun w' hw => (H0.out.ext hw).cells.get 1 _ rfl) ?_) | (refine quiet_cell2 (.tmp 48) rfl rfl Try.underlying3 rfl rfl (fun w' hw => (H0.out.ext hw).cells.get 2 _ rfl) ?_) | (refine wpQuiet_step (fun K hK => ?_); go_simp; first | (refine ⟨_, fun w hw => rfl, hK _ ?_⟩; clear hK K) | (apply Exists.intro; refine ⟨fun w hw => ?_, hK _ ?_⟩; (focus first | (go_at_call 150; exact (rkids_of _ _).mono fun _ _ ⟨h1, h2⟩ => ⟨h1, hw.trans h2⟩)); clear hK K)))); refine wpQuiet_nil ?_
    intro w1 hE1
    go_wp2_with fail
    go_ret
    exact ⟨rfl, HE0.out.trans hE1⟩
  have q5 : decide (31 < c) = false := decide_eq_false p5
  have p6 : k ≠ 1 ∧ (r ≠ 0 ∨ c ≠ 0) := by
    unfold inRel at hno
    simp only [Bool.and_eq_false_iff, decide_eq_false_iff_not] at hno
    omega
  have q6 : (k != 1) = true := by simpa using p6.1
  by_cases p7 : r = 0
  · have q7 : (r != 0) = false := by simp [p7]
    have q8 : (c != 0) = true := by simp; omega
    clear p0 p1 p2 p3 p4 p5 p6 p7 hno
    go_enter Try.func129, Try.ntmps129
    go_wp2_with fail
    refine wp_region_ext (by kernel_rfl) (by kernel_rfl) ?_; (repeat (first | (refine wpQuiet_step (fun K hK => ?_); go_simp; refine hK _ ?_; clear hK K) | (simp only [q0]) | (simp only [q1]) | (simp only [q2]) | (simp only [q3]) | (simp only [q4]) | (simp only [q5]) | (simp only [q6]) | (simp only [q7]) | (simp only [q8]) | (refine quiet_cell2 (.tmp 11) rfl rfl Try.underlying3 rfl rfl (fun w' hw => (H0.out.ext hw).cells.get 0 _ rfl) ?_) | (refine quiet_cell2 (.tmp 14) rfl rfl Try.underlying25 rfl rfl (fun w' hw => (H0.out.ext hw).cells.get 7 _ rfl) ?_) | (refine quiet_cell2 (.tmp 20) rfl rfl Try.underlying3 rfl rfl (fun w' hw => (H0.out.ext hw).cells.get 1 _ rfl) ?_) | (refine quiet_cell2 (.tmp 25) rfl rfl Try.underlying3 rfl rfl (fun w' hw => (H0.out.ext hw).cells.get 1 _ rfl) ?_) | (refine quiet_cell2 (.tmp 30) rfl rfl Try.underlying3 rfl rfl (fun w' hw => (H0.out.ext hw).cells.get 2 _ rfl) ?_) | (refine quiet_cell2 (.tmp 35) rfl rfl Try.underlying3 rfl rfl (fun w' hw => (H0.out.ext hw).cells.get 2 _ rfl) ?_) | (refine quiet_cell2 (.tmp 40) rfl rfl Try.underlying3 rfl rfl (fun w' hw => (H0.out.ext hw).cells.get 0 _ rfl) ?_) | (refine quiet_cell2 (.tmp 44) rfl rfl Try.underlying3 rfl rfl (fun w' hw => (H0.out.ext hw).cells.get 1 _ rfl) ?_) | (refine quiet_cell2 (.tmp 48) rfl rfl Try.underlying3 rfl rfl (fun w' hw => (H0.out.ext hw).cells.get 2 _ rfl) ?_) | (refine wpQuiet_step (fun K hK => ?_); go_simp; first | (refine ⟨_, fun w hw => rfl, hK _ ?_⟩; clear hK K) | (apply Exists.intro; refine ⟨fun w hw => ?_, hK _ ?_⟩; (focus first | (go_at_call 150; exact (rkids_of _ _).mono fun _ _ ⟨h1, h2⟩ => ⟨h1, hw.trans h2⟩)); clear hK K)))); refine wpQuiet_nil ?_
    intro w1 hE1
    go_wp2_with fail
    go_ret
    exact ⟨rfl, HE0.out.trans hE1⟩
  · have q7 : (r != 0) = true := by simpa using p7
    clear p0 p1 p2 p3 p4 p5 p6 p7 hno
    go_enter Try.func129, Try.ntmps129
    go_wp2_with fail
    refine wp_region_ext (by kernel_rfl) (by kernel_rfl) ?_; (repeat (first | (refine wpQuiet_step (fun K hK => ?_); go_simp; refine hK _ ?_; clear hK K) | (simp only [q0]) | (simp only [q1]) | (simp only [q2]) | (simp only [q3]) | (simp only [q4]) | (simp only [q5]) | (simp only [q6]) | (simp only [q7]) | (refine quiet_cell2 (.tmp 11) rfl rfl Try.underlying3 rfl rfl (fun w' hw => (H0.out.ext hw).cells.get 0 _ rfl) ?_) | (refine quiet_cell2 (.tmp 14) rfl rfl Try.underlying25 rfl rfl (fun w' hw => (H0.out.ext hw).cells.get 7 _ rfl) ?_) | (refine quiet_cell2 (.tmp 20) rfl rfl Try.underlying3 rfl rfl (fun w' hw => (H0.out.ext hw).cells.get 1 _ rfl) ?_) | (refine quiet_cell2 (.tmp 25) rfl rfl Try.underlying3 rfl rfl (fun w' hw => (H0.out.ext hw).cells.get 1 _ rfl) ?_) | (refine quiet_cell2 (.tmp 30) rfl rfl Try.underlying3 rfl rfl (fun w' hw => (H0.out.ext hw).cells.get 2 _ rfl) ?_) | (refine quiet_cell2 (.tmp 35) rfl rfl Try.underlying3 rfl rfl (fun w' hw => (H0.out.ext hw).cells.get 2 _ rfl) ?_) | (refine quiet_cell2 (.tmp 40) rfl rfl Try.underlying3 rfl rfl (fun w' hw => (H0.out.ext hw).cells.get 0 _ rfl) ?_) | (refine quiet_cell2 (.tmp 44) rfl rfl Try.underlying3 rfl rfl (fun w' hw => (H0.out.ext hw).cells.get 1 _ rfl) ?_) | (refine quiet_cell2 (.tmp 48) rfl rfl Try.underlying3 rfl rfl (fun w' hw => (H0.out.ext hw).cells.get 2 _ rfl) ?_) | (refine wpQuiet_step (fun K hK => ?_); go_simp; first | (refine ⟨_, fun w hw => rfl, hK _ ?_⟩; clear hK K) | (apply Exists.intro; refine ⟨fun w hw => ?_, hK _ ?_⟩; (focus first | (go_at_call 150; exact (rkids_of _ _).mono fun _ _ ⟨h1, h2⟩ => ⟨h1, hw.trans h2⟩)); clear hK K)))); refine wpQuiet_nil ?_
    intro w1 hE1
    go_wp2_with fail
    go_ret
    exact ⟨rfl, HE0.out.trans hE1⟩
end Go.Proofs.Ytlcdjaclahhdnaa
