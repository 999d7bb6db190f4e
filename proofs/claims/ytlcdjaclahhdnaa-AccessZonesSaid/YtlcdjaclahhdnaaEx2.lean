/- The calls of expr.kids, expr.fields, expr.count, expr.Formed. -/
import Derived.Test.YtlcdjaclahhdnaaEx
namespace Go.Proofs.Ytlcdjaclahhdnaa
open Go.RowKit
set_option linter.unusedSimpArgs false
set_option linter.unusedVariables false

def kidsOf (k : Int) : Int :=
  if k = 1 ∨ k = 2 then 0 else if k = 6 ∨ k = 12 ∨ k = 13 then 1
  else if k = 3 ∨ k = 4 ∨ k = 5 ∨ k = 7 ∨ k = 8 ∨ k = 9 ∨ k = 10 ∨ k = 11 then 2 else -1
set_option maxHeartbeats 1000000 in
theorem kids_of (k : Int) (w : World) : Calls Try.prog 109 #[.int .i64 k] w fun e w' => e = .returned (.int .i64 (kidsOf k)) ∧ w = w' := by
  go_enter Try.func109, Try.ntmps109
  go_wp2
  all_goals (go_ret; refine ⟨ret_int ?_, rfl⟩; go_tidy; simp_all [kidsOf])

def inRel (n : Int) : Bool := decide (0 ≤ n) && decide (n ≤ 31)
set_option maxHeartbeats 400000 in
theorem in_of (n : Int) (w : World) : Calls Try.prog 148 #[.int .i64 n] w fun e w' => e = .returned (.bool (inRel n)) ∧ w = w' := by
  go_enter Try.func148, Try.ntmps148
  go_wp2
  all_goals (go_ret; refine ⟨ret_bool ?_, rfl⟩; go_tidy; simp_all [inRel])
  all_goals (try omega)

/-- Whether just the fields of a kind are not zero. -/
def fieldsOk (k r c : Int) (v : Val) : Bool :=
  if (k ≠ 1 ∧ (r ≠ 0 ∨ c ≠ 0)) ∨ inRel r = false ∨ inRel c = false then false else v.right && (k == 2 || v.kind == 0)
set_option maxHeartbeats 2000000 in
theorem fields_of (k r c : Int) (v : Val) (s : Value) (w : World) (hv : v.Ok) :
    Calls Try.prog 110 #[.agg (exCells k r c v s).toArray] w fun e w' => e = .returned (.bool (fieldsOk k r c v)) ∧ Ext w w' := by
  have hr := Lib.hid (fun w => right_of v w hv.flt)
  unfold Val.enc at hr
  unfold exCells
  go_enter Try.func110, Try.ntmps110
  go_wp2_with (first
    | (go_at_call 148; refine (in_of _ _).mono ?_; rintro e w' ⟨rfl, rfl⟩)
    | (go_at_call 27; refine (hr.out _).mono ?_; rintro e w1 ⟨rfl, hb⟩; obtain ⟨c0, f0, l0⟩ := hb.at_ w.heap.size (by first | omega | (simp; done) | (simp; omega) | (simp at *; omega))))
  all_goals
    go_ret
    refine ⟨ret_bool ?_, ?_⟩
    · clear hr hv
      go_tidy
      simp_all [fieldsOk]
      try omega
    · repeat (first | (with_reducible exact Ext.refl _) | (with_reducible refine Ext.set_ ?_ _ ?_; focus (first | (simp; done) | (simp; omega) | (simp at *; omega))) | (with_reducible refine Ext.alloc ?_ _) | (with_reducible refine Ext.drew ?_) | (with_reducible refine Ext.drewN ?_ _) | (with_reducible refine Ext.trans ?_ (by assumption)))

mutual
/-- How many parts are left of so many; below 0: not formed, or too many. -/
def Ex.count : Ex → Int → Int → Int
  | .mk k r c v l, d, left => if d > 24 ∨ left < 1 ∨ kidsOf k ≠ (l.length : Int) ∨ fieldsOk k r c v = false then -1 else Exs.count l (d + 1) (left - 1)
termination_by structural e => e
def Exs.count : List Ex → Int → Int → Int
  | [], _, left => left
  | e :: l, d, left => if e.count d left < 0 then -1 else Exs.count l d (e.count d left)
termination_by structural l => l
end
theorem Exs.count_neg (l : List Ex) : ∀ d left, left < 0 → l ≠ [] → (∀ e ∈ l, ∀ d left, left < 1 → e.count d left = -1) → Exs.count l d left = -1 := by
  cases l with
  | nil => intro d left _ h; exact absurd rfl h
  | cons e l =>
    intro d left h _ ih
    simp only [Exs.count]
    rw [ih e (by simp) d left (by omega)]; simp
/-- What is left is at least -1, and at most what there was. -/
theorem Ex.count_range : ∀ (e : Ex) (d left : Int), -1 ≤ e.count d left ∧ (0 ≤ e.count d left → e.count d left < left) := by
  intro e
  induction e using Ex.ind with
  | h k r c v l ih =>
    intro d left
    simp only [Ex.count]
    split
    · exact ⟨by omega, fun h => by omega⟩
    · rename_i hc
      have h1 : 1 ≤ left := by omega
      have hl : ∀ (l : List Ex), (∀ e ∈ l, ∀ d left, -1 ≤ e.count d left ∧ (0 ≤ e.count d left → e.count d left < left)) → ∀ d left, -1 ≤ left → -1 ≤ Exs.count l d left ∧ (0 ≤ Exs.count l d left → Exs.count l d left ≤ left) := by
        intro l
        induction l with
        | nil => intro _ d left h; simp only [Exs.count]; omega
        | cons e l ih2 =>
          intro ih d left h
          simp only [Exs.count]
          split
          · omega
          · rename_i hc
            have h3 := ih e (by simp) d left
            have h4 := ih2 (fun e he => ih e (by simp [he])) d (e.count d left) (by omega)
            omega
      have := hl l ih (d + 1) (left - 1) (by omega)
      omega
theorem Ex.In.mk_inv {w : World} {e : Ex} {s : Value} (h : Ex.In w e s) : I64 e.kind ∧ I64 e.rel ∧ I64 e.col ∧ e.const.Ok ∧ ExsIn w s e.kids := by
  cases e with
  | mk k r c v l => exact ⟨h.fields.1, h.fields.2.1, h.fields.2.2.1, h.fields.2.2.2, h.kids⟩
theorem At.new {w : World} {g : Nat} (hg : g = w.heap.size) (vs : List Value) (t : TypeId) (A : Array Value) (hA : A = vs.toArray) : At (w.alloc (.cells A t)) g 0 vs := by
  subst hg; subst hA
  have hb := heap_alloc_new w (.cells vs.toArray t)
  refine At.of_get fun j v hv => ?_
  rw [cell_of_row _ _ _ _ t (0, 0) hb, Nat.zero_add]
  simpa using hv

set_option maxRecDepth 100000 in
set_option maxHeartbeats 4000000 in
/-- An expression whose head is not formed. -/
theorem count_no (k r c d left : Int) (v : Val) (l : List Ex) (A : Option Addr) (cap : Nat) (w : World) (hv : v.Ok) (hlm : l.length ≤ 9223372036854775807)
    (hno : d > 24 ∨ left < 1 ∨ kidsOf k ≠ (l.length : Int) ∨ fieldsOk k r c v = false) :
    Calls Try.prog 56 #[.agg (exCells k r c v (.slice A l.length cap)).toArray, .int .i64 d, .int .i64 left] w fun ev w' => ev = .returned (.int .i64 (-1)) ∧ Ext w w' := by
  have h0 := Lib.hid (At.new (w := w) rfl (exCells k r c v (.slice A l.length cap)) 27 _ rfl)
  have hfo := Lib.hid (fun w => fields_of k r c v (.slice A l.length cap) w hv)
  have hc : (24 < d) ∨ (¬ 24 < d ∧ left < 1) ∨ (¬ 24 < d ∧ ¬ left < 1 ∧ kidsOf k ≠ (l.length : Int)) ∨ (¬ 24 < d ∧ ¬ left < 1 ∧ kidsOf k = (l.length : Int) ∧ fieldsOk k r c v = false) := by
    by_cases h1 : 24 < d
    · exact .inl h1
    by_cases h2 : left < 1
    · exact .inr (.inl ⟨h1, h2⟩)
    by_cases h3 : kidsOf k = (l.length : Int)
    · refine .inr (.inr (.inr ⟨h1, h2, h3, ?_⟩))
      rcases hno with h | h | h | h
      · omega
      · omega
      · exact absurd h3 h
      · exact h
    · exact .inr (.inr (.inl ⟨h1, h2, h3⟩))
  clear hno
  rcases hc with h1 | ⟨h1, h2⟩ | ⟨h1, h2, h3⟩ | ⟨h1, h2, h3, h4⟩
  · have hq1 : decide (24 < d) = true := decide_eq_true h1
    go_enter Try.func56, Try.ntmps56
    go_wp2_with fail
    refine wp_region_ext (by kernel_rfl) (by kernel_rfl) ?_; (repeat (first | (simp only [hq1]) | (refine wpQuiet_step (fun K hK => ?_); go_simp; first | (refine hK _ ?_; clear hK K) | (refine ⟨_, fun w hw => rfl, hK _ ?_⟩; clear hK K)))); refine wpQuiet_nil ?_
    intro w1 hE
    go_wp2_with fail
    go_ret
    exact ⟨rfl, ((Ext.refl w).alloc _).trans hE⟩
  · have hq1 : decide (24 < d) = false := decide_eq_false h1
    have hq2 : decide (left < 1) = true := decide_eq_true h2
    go_enter Try.func56, Try.ntmps56
    go_wp2_with fail
    refine wp_region_ext (by kernel_rfl) (by kernel_rfl) ?_; (repeat (first | (simp only [hq1]) | (simp only [hq2]) | (refine wpQuiet_step (fun K hK => ?_); go_simp; first | (refine hK _ ?_; clear hK K) | (refine ⟨_, fun w hw => rfl, hK _ ?_⟩; clear hK K)))); refine wpQuiet_nil ?_
    intro w1 hE
    go_wp2_with fail
    go_ret
    exact ⟨rfl, ((Ext.refl w).alloc _).trans hE⟩
  · have hq1 : decide (24 < d) = false := decide_eq_false h1
    have hq2 : decide (left < 1) = false := decide_eq_false h2
    have hq3 : (kidsOf k != (l.length : Int)) = true := by simpa using h3
    go_enter Try.func56, Try.ntmps56
    go_wp2_with fail
    refine wp_region_ext (by kernel_rfl) (by kernel_rfl) ?_; (repeat (first | (simp only [hq1]) | (simp only [hq2]) | (simp only [hq3]) | (refine quiet_cell rfl (.tmp 16) Try.underlying3 rfl rfl rfl (fun w' hw => (h0.out.ext hw (by simp)).get 0 _ rfl) ?_) | (refine quiet_cell rfl (.tmp 19) Try.underlying25 rfl rfl rfl (fun w' hw => (h0.out.ext hw (by simp)).get 7 _ rfl) ?_) | (refine wpQuiet_step (fun K hK => ?_); go_simp; first | (refine hK _ ?_; clear hK K) | (refine ⟨_, fun w hw => rfl, hK _ ?_⟩; clear hK K) | (apply Exists.intro; refine ⟨fun w hw => ?_, hK _ ?_⟩; (focus first | (go_at_call 109; exact (kids_of _ _).mono fun _ _ ⟨h1, h2⟩ => ⟨h1, h2 ▸ hw⟩)); clear hK K)))); refine wpQuiet_nil ?_
    intro w1 hE
    go_wp2_with fail
    go_ret
    exact ⟨rfl, ((Ext.refl w).alloc _).trans hE⟩
  · have hq1 : decide (24 < d) = false := decide_eq_false h1
    have hq2 : decide (left < 1) = false := decide_eq_false h2
    have hq3 : (kidsOf k != (l.length : Int)) = false := by simpa using h3
    rw [h4] at hfo
    go_enter Try.func56, Try.ntmps56
    go_wp2_with fail
    refine wp_region_ext (by kernel_rfl) (by kernel_rfl) ?_; (repeat (first | (simp only [hq1]) | (simp only [hq2]) | (simp only [hq3]) | (refine quiet_cell rfl (.tmp 16) Try.underlying3 rfl rfl rfl (fun w' hw => (h0.out.ext hw (by simp)).get 0 _ rfl) ?_) | (refine quiet_cell rfl (.tmp 19) Try.underlying25 rfl rfl rfl (fun w' hw => (h0.out.ext hw (by simp)).get 7 _ rfl) ?_) | (refine quiet_loadA (vs := exCells k r c v (.slice A l.length cap)) rfl (.tmp 3) agg_ex rfl rfl (fun w' hw => h0.out.ext hw (by simp)) ?_) | (refine wpQuiet_step (fun K hK => ?_); go_simp; first | (refine hK _ ?_; clear hK K) | (refine ⟨_, fun w hw => rfl, hK _ ?_⟩; clear hK K) | (apply Exists.intro; refine ⟨fun w hw => ?_, hK _ ?_⟩; (focus first | (go_at_call 109; exact (kids_of _ _).mono fun _ _ ⟨h1, h2⟩ => ⟨h1, h2 ▸ hw⟩) | (go_at_call 110; exact (hfo.out _).mono fun _ _ ⟨h1, h2⟩ => ⟨h1, hw.trans h2⟩)); clear hK K)))); refine wpQuiet_nil ?_
    intro w1 hE
    go_wp2_with fail
    go_ret
    exact ⟨rfl, ((Ext.refl w).alloc _).trans hE⟩
end Go.Proofs.Ytlcdjaclahhdnaa
