/- The calls of row.Right, schema.Fits, tabularylaw22.fit. -/
import Derived.Test.YtlcdjaclahhdnaaTy2
import Derived.Test.YtlcdjaclahhdnaaVal3
namespace Go.Proofs.Ytlcdjaclahhdnaa
open Go.RowKit
set_option linter.unusedSimpArgs false
set_option linter.unusedVariables false
attribute [local irreducible] wpQuiet

def allRight (r : List Val) : Bool := r.all Val.right
set_option maxHeartbeats 400000 in
theorem wrong_of (v : Val) (w : World) (hv : v.flt < 18446744073709551616) :
    Calls Try.prog 153 #[.agg #[.int .i64 v.kind, .int .i64 v.int, .float .f64 v.flt, .string v.text]] w fun e w' => e = .returned (.bool (!v.right)) ∧ Ext w w' := by
  have hr := Lib.hid (fun w => right_of v w hv)
  unfold Val.enc at hr
  generalize v.right = b at *
  go_enter Try.func153, Try.ntmps153
  go_wp2_with (go_at_call 27; refine (hr.out _).mono ?_; rintro e w1 ⟨rfl, hb⟩)
  go_ret
  refine ⟨rfl, ?_⟩
  repeat (first | (with_reducible exact Ext.refl _) | (with_reducible refine Ext.set_ ?_ _ ?_; focus (first | (simp; done) | (simp; omega) | (simp at *; omega))) | (with_reducible refine Ext.alloc ?_ _) | (with_reducible refine Ext.drew ?_) | (with_reducible refine Ext.drewN ?_ _) | (with_reducible refine Ext.trans ?_ (by assumption)))

section
variable (r : List Val) (A : Option Addr) (n c : Nat) (w : World)
set_option maxRecDepth 100000 in
set_option maxHeartbeats 1000000 in
theorem index_ok (hl : r.length ≤ 9223372036854775807) (h : ValsIn w (.slice A r.length c) r) (hall : ∀ v ∈ r, v.right = true) :
    Calls Try.prog 154 #[.slice A r.length c, .func (.func 153) #[] #[]] w fun e w' => e = .returned (.int .i64 (-1)) ∧ Ext w w' := by
  have H := Lib.hid h; have HA := Lib.hid hall; clear h hall
  go_enter Try.func154, Try.ntmps154
  go_wp2_with fail
  go_loopw [8] (fun y wr => ∃ i : Nat, y = .int .i64 (i : Int) ∧ i ≤ r.length ∧ Ext w wr) (fun y _ => r.length - (intOf y).toNat)
  case atStart => exact ⟨0, rfl, by omega, Ext.refl _⟩
  case round =>
    rename_i hrel
    obtain ⟨i, rfl, hi, hE⟩ := hrel
    by_cases hlt : i < r.length
    · have hlt' : (i : Int) < (r.length : Int) := by omega
      have hI : (i : Int) ≤ 9223372036854775806 := by omega
      obtain ⟨g, o, rfl, _, hat, hok, hg⟩ := (H.out.ext hE).at_ i hlt
      have HAT := Lib.hid hat
      have HW : Hid (∀ u, Calls Try.prog 153 #[.agg #[.int .i64 r[i].kind, .int .i64 r[i].int, .float .f64 r[i].flt, .string r[i].text]] u fun e w' => e = .returned (.bool false) ∧ Ext u w') := Lib.hid fun u => by
        have := wrong_of r[i] u hok.flt
        rwa [HA.out _ (List.getElem_mem hlt)] at this
      clear hat hok
      unfold Val.cells at HAT
      generalize r[i] = v at *
      go_wp2_with (first
        | (refine wpList_wish rfl fun K hK => wp_idxS (i := i) Try.underlying59 sizeVal (.tmp 12) _ rfl rfl rfl hlt (hK _ _ ?_))
        | (refine wpList_wish rfl fun K hK => wp_loadA (vs := [.int .i64 v.kind, .int .i64 v.int, .float .f64 v.flt, .string v.text]) agg_val (.tmp 14) rfl rfl HAT.out (hK _ _ ?_))
        | (go_at_call 153; refine (HW.out _).mono ?_; rintro e w2 ⟨rfl, hb⟩))
      exact ⟨⟨i + 1, by simp, by omega, hE.trans hb⟩, by simp [intOf] <;> omega⟩
    · have hlt' : ¬ ((i : Int) < (r.length : Int)) := by omega
      go_wp2_with fail
      go_ret
      exact ⟨rfl, hE⟩
set_option maxRecDepth 100000 in
set_option maxHeartbeats 1000000 in
theorem index_bad (j : Nat) (hl : r.length ≤ 9223372036854775807) (h : ValsIn w (.slice A r.length c) r) (hj : j < r.length) (hbad : r[j].right = false) (hpre : ∀ i (hi : i < j), (r[i]'(by omega)).right = true) :
    Calls Try.prog 154 #[.slice A r.length c, .func (.func 153) #[] #[]] w fun e w' => e = .returned (.int .i64 (j : Int)) ∧ Ext w w' := by
  have H := Lib.hid h; have HB := Lib.hid hbad; have HP := Lib.hid hpre; clear h hbad hpre
  go_enter Try.func154, Try.ntmps154
  go_wp2_with fail
  go_loopw [8] (fun y wr => ∃ i : Nat, y = .int .i64 (i : Int) ∧ i ≤ j ∧ Ext w wr) (fun y _ => r.length - (intOf y).toNat)
  case atStart => exact ⟨0, rfl, by omega, Ext.refl _⟩
  case round =>
    rename_i hrel
    obtain ⟨i, rfl, hi, hE⟩ := hrel
    have hlt : i < r.length := by omega
    have hlt' : (i : Int) < (r.length : Int) := by omega
    have hI : (i : Int) ≤ 9223372036854775806 := by omega
    obtain ⟨g, o, rfl, _, hat, hok, hg⟩ := (H.out.ext hE).at_ i hlt
    have HAT := Lib.hid hat
    have HW0 := Lib.hid (fun u => wrong_of r[i] u hok.flt)
    clear hat hok
    unfold Val.cells at HAT
    by_cases hij : i < j
    · rw [HP.out i hij] at HW0
      generalize r[i] = v at *
      go_wp2_with (first
        | (refine wpList_wish rfl fun K hK => wp_idxS (i := i) Try.underlying59 sizeVal (.tmp 12) _ rfl rfl rfl hlt (hK _ _ ?_))
        | (refine wpList_wish rfl fun K hK => wp_loadA (vs := [.int .i64 v.kind, .int .i64 v.int, .float .f64 v.flt, .string v.text]) agg_val (.tmp 14) rfl rfl HAT.out (hK _ _ ?_))
        | (go_at_call 153; refine (HW0.out _).mono ?_; rintro e w2 ⟨rfl, hb⟩))
      exact ⟨⟨i + 1, by simp, by omega, hE.trans hb⟩, by simp [intOf] <;> omega⟩
    · obtain rfl : i = j := by omega
      rw [HB.out] at HW0
      clear HP HB
      generalize r[i] = v at *
      go_wp2_with (first
        | (refine wpList_wish rfl fun K hK => wp_idxS (i := i) Try.underlying59 sizeVal (.tmp 12) _ rfl rfl rfl hlt (hK _ _ ?_))
        | (refine wpList_wish rfl fun K hK => wp_loadA (vs := [.int .i64 v.kind, .int .i64 v.int, .float .f64 v.flt, .string v.text]) agg_val (.tmp 14) rfl rfl HAT.out (hK _ _ ?_))
        | (go_at_call 153; refine (HW0.out _).mono ?_; rintro e w2 ⟨rfl, hb⟩))
      go_ret
      exact ⟨rfl, hE.trans hb⟩
theorem first_wrong : ∀ (r : List Val), allRight r = false → ∃ j, ∃ hj : j < r.length, r[j].right = false ∧ ∀ i (hi : i < j), (r[i]'(by omega)).right = true
  | [], h => by simp [allRight] at h
  | v :: r, h => by
    cases hv : v.right with
    | false => exact ⟨0, by simp, by simpa using hv, fun i hi => absurd hi (by omega)⟩
    | true =>
      have h' : allRight r = false := by simpa [allRight, hv] using h
      obtain ⟨j, hj, h1, h2⟩ := first_wrong r h'
      refine ⟨j + 1, by simpa using hj, by simpa using h1, fun i hi => ?_⟩
      cases i with
      | zero => simpa using hv
      | succ i => simpa using h2 i (by omega)
set_option maxHeartbeats 400000 in
theorem contains_of (hl : r.length ≤ 9223372036854775807) (h : ValsIn w (.slice A r.length c) r) :
    Calls Try.prog 152 #[.slice A r.length c, .func (.func 153) #[] #[]] w fun e w' => e = .returned (.bool (!allRight r)) ∧ Ext w w' := by
  cases ha : allRight r
  · obtain ⟨j, hj, h1, h2⟩ := first_wrong r ha
    have HX := Lib.hid (index_bad r A c w j hl h hj h1 h2)
    clear h h1 h2 ha
    go_enter Try.func152, Try.ntmps152
    go_wp2_with (go_at_call 154; refine HX.out.mono ?_; rintro e w1 ⟨rfl, hb⟩)
    go_ret
    exact ⟨ret_bool (by simp), hb⟩
  · have HX := Lib.hid (index_ok r A c w hl h (by simpa [allRight] using ha))
    clear h ha
    go_enter Try.func152, Try.ntmps152
    go_wp2_with (go_at_call 154; refine HX.out.mono ?_; rintro e w1 ⟨rfl, hb⟩)
    go_ret
    exact ⟨ret_bool (by simp), hb⟩
/-- row.Right. -/
def rowRight (r : List Val) : Bool := decide (r.length ≤ 200) && allRight r
set_option maxHeartbeats 400000 in
theorem rowRight_of (hl : r.length ≤ 9223372036854775807) (h : ValsIn w (.slice A r.length c) r) :
    Calls Try.prog 135 #[.slice A r.length c] w fun e w' => e = .returned (.bool (rowRight r)) ∧ Ext w w' := by
  have HX := Lib.hid (contains_of r A c w hl h)
  unfold rowRight
  generalize allRight r = b at *
  clear h
  by_cases h2 : r.length ≤ 200
  · have h2' : (r.length : Int) ≤ 200 := by omega
    go_enter Try.func135, Try.ntmps135
    go_wp2_with (go_at_call 152; refine HX.out.mono ?_; rintro e w1 ⟨rfl, hb⟩)
    go_ret
    exact ⟨ret_bool (by simp [h2]), hb⟩
  · have h2' : ¬ (r.length : Int) ≤ 200 := by omega
    go_enter Try.func135, Try.ntmps135
    go_wp2_with fail
    go_ret
    exact ⟨ret_bool (by simp [h2]), Ext.refl _⟩
end
end Go.Proofs.Ytlcdjaclahhdnaa
